/-
  Walks over the reference's document: DocOf.
-/
import Derived.Test.YtndlmmpheecleaaGreatDoorRe
import Derived.Test.YtndlmmpheecleaaGreatDoorFz
namespace Lead.Rc
open Go Go.RowKit Lead Lead.Dc
/-- One flat more. -/
def addR (L : List RE) (f : FlatV) : List RE :=
  if 0 ≤ f.parent then (L ++ [(⟨f.name, f.attrs, f.parent, [], true⟩ : RE)]).modify f.parent.toNat (fun e => { e with kids := e.kids ++ [L.length] }) else L ++ [⟨f.name, f.attrs, f.parent, [], true⟩]
def docR (fs : List FlatV) : List RE := fs.foldl addR []
theorem addR_len (L : List RE) (f : FlatV) : (addR L f).length = L.length + 1 := by unfold addR; split <;> simp
theorem docR_len (fs : List FlatV) : (docR fs).length = fs.length := by
  unfold docR
  have : ∀ (fs : List FlatV) (L : List RE), (fs.foldl addR L).length = L.length + fs.length := by
    intro fs
    induction fs with
    | nil => intro L; rfl
    | cons f r ih => intro L; rw [List.foldl_cons, ih, addR_len, List.length_cons]; omega
  rw [this]; simp
theorem docR_take {fs : List FlatV} {k : Nat} (h : k < fs.length) : docR (fs.take (k + 1)) = addR (docR (fs.take k)) fs[k] := by
  unfold docR
  rw [List.take_succ_eq_append_getElem h, List.foldl_append]; rfl
theorem addR_kids {L : List RE} {f : FlatV} {K : Nat} (h : ∀ e ∈ L, e.kids.length ≤ K) : ∀ e ∈ addR L f, e.kids.length ≤ K + 1 := by
  have h1 : ∀ e ∈ L ++ [(⟨f.name, f.attrs, f.parent, [], true⟩ : RE)], e.kids.length ≤ K := fun e he => by
    rcases List.mem_append.1 he with he | he
    · exact h e he
    · rw [List.mem_singleton.1 he]; exact Nat.zero_le _
  intro e he
  unfold addR at he
  split at he
  · obtain ⟨j, hj, rfl⟩ := List.mem_iff_getElem.1 he
    rw [List.getElem_modify]
    split
    · have := h1 _ (List.getElem_mem (by rw [List.length_modify] at hj; exact hj))
      simp only [List.length_append, List.length_cons, List.length_nil]; omega
    · have := h1 _ (List.getElem_mem (by rw [List.length_modify] at hj; exact hj)); omega
  · have := h1 e he; omega
theorem docR_kids (fs : List FlatV) : ∀ e ∈ docR fs, e.kids.length ≤ fs.length := by
  unfold docR
  have : ∀ (fs : List FlatV) (L : List RE) (K : Nat), (∀ e ∈ L, e.kids.length ≤ K) → ∀ e ∈ fs.foldl addR L, e.kids.length ≤ K + fs.length := by
    intro fs
    induction fs with
    | nil => intro L K h; exact h
    | cons f r ih =>
      intro L K h e he
      have := ih (addR L f) (K + 1) (addR_kids h) e he
      rw [List.length_cons]; omega
  intro e he
  have := this fs [] 0 (fun e he => by cases he) e he
  omega
/-- Behind the attributes' append and store. -/
theorem after6 {T : RTys} {w wr wa wa' w3 w4 : World} {v v3 : Value} {l : List ReX} {nm : ByteArray} {par : Int} {ats : List At} {z0 : Value}
    (hR : RDoc T w.heap.size wr w.heap.size v l) (hba : Below wr.heap.size wr wa) (hbe : wa.heap[wr.heap.size]? = some (.cells #[.string nm, z0, .int .i64 par, .slice none 0 0, .bool true] T.el (0, 0)))
    (hv3 : OwnR EAt w3 w.heap.size T.at_ v3 ats) (hg : wa'.grownBy w3 none) (ho : v3.ownBlock = none ∨ v3.ownBlock = some wa'.heap.size) (hd : Below wa.heap.size wa wa') (hs : wa'.heap.size = wa.heap.size) (h4 : Below (w3.setCell ⟨wr.heap.size, 1, none⟩ v3).heap.size (w3.setCell ⟨wr.heap.size, 1, none⟩ v3) w4) :
    ∃ o3 l3 c3, v3 = .slice o3 l3 c3 ∧ Below wr.heap.size wr w4 ∧ w4.heap[wr.heap.size]? = some (.cells #[.string nm, .slice o3 l3 c3, .int .i64 par, .slice none 0 0, .bool true] T.el (0, 0)) ∧
      SubOk T w.heap.size w4 (fun k => v.ownBlock ≠ some k ∧ k ≠ w.heap.size) ⟨nm, o3, l3, c3, ats, par, none, 0, 0, [], true⟩ ∧ (∀ k, (Value.slice o3 l3 c3).ownBlock = some k → wr.heap.size < k) := by
  obtain ⟨o3, c3, rfl⟩ := ow_form hv3
  have hlt : wr.heap.size < wa.heap.size := Dc.hlt hbe
  have hlt' : wr.heap.size < wa'.heap.size := by omega
  have hb3 : w3.heap[wr.heap.size]? = some (.cells #[.string nm, z0, .int .i64 par, .slice none 0 0, .bool true] T.el (0, 0)) := (hg.block _ hlt' (fun e => by cases e)).trans ((hd.block _ hlt).trans hbe)
  have hset := heap_setCell_same w3 wr.heap.size 1 _ _ (.slice o3 ats.length c3) hb3
  have hBg : Below wr.heap.size wr w3 := (hba.trans (hd.mono (Nat.le_of_lt hlt))).grown hg (Nat.le_of_lt hlt') (fun k hk => by cases hk)
  have hB5 : Below wr.heap.size wr (w3.setCell ⟨wr.heap.size, 1, none⟩ (.slice o3 ats.length c3)) := hBg.setCell (p := ⟨wr.heap.size, 1, none⟩) (Nat.le_refl _) _
  have hlt3 : wr.heap.size < w3.heap.size := Dc.hlt hb3
  have hsz3 : wr.heap.size ≤ (w3.setCell ⟨wr.heap.size, 1, none⟩ (.slice o3 ats.length c3)).heap.size := by rw [World.size_setCell]; exact Nat.le_of_lt hlt3
  have hB4 : Below wr.heap.size wr w4 := hB5.trans (h4.mono hsz3)
  have hown : ∀ k, (Value.slice o3 ats.length c3).ownBlock = some k → wr.heap.size < k := fun k hk => by
    rcases ho with ho | ho
    · rw [ho] at hk; cases hk
    · rw [ho] at hk; injection hk with hk; omega
  refine ⟨o3, _, c3, rfl, hB4, ?_, ?_, hown⟩
  · rw [h4.block _ (by rw [World.size_setCell]; exact hlt3)]; exact hset
  · have hq : ∀ k, wr.heap.size ≤ k → v.ownBlock ≠ some k ∧ k ≠ w.heap.size := fun k hk => ⟨fun e => by have := (hR.own.lt k e).2; omega, by have := hR.lt; omega⟩
    refine ⟨?_, OwnR.nil _ _ _ _, fun k hk => hq k (by have := hown k hk; omega), fun k hk => by cases hk⟩
    exact (own_kept hv3 fun k hk => heap_setCell_other _ _ _ _ (fun e => by have he : k = wr.heap.size := e; have := hown k hk; omega)).keep h4
/-- Behind the element's append and store. -/
theorem after7 {T : RTys} {base b : Nat} {wb W1 w7 : World} {v v7 : Value} {l : List ReX} {x : ReX} (hR : RDoc T base wb b v l) (hs : SubOk T base wb (fun k => v.ownBlock ≠ some k ∧ k ≠ b) x) (hv : OwnR ERe w7 base T.el v7 (l ++ [x])) (hg : W1.grownBy w7 v.ownBlock) (ho : v7.ownBlock = v.ownBlock ∨ v7.ownBlock = some W1.heap.size) (hd : Below wb.heap.size wb W1) :
    (w7.cell? ⟨b, 0, none⟩ = some v ∧ w7.frozen? ⟨b, 0, none⟩ = false) ∧ ∀ w8, Below (w7.setCell ⟨b, 0, none⟩ v7).heap.size (w7.setCell ⟨b, 0, none⟩ v7) w8 → RDoc T base w8 b v7 (l ++ [x]) ∧ Below base wb w8 := by
  have h1 := hR.keep hd
  have hbox : w7.heap[b]? = some (.cells #[v] T.doc (0, 0)) := (hg.block b h1.lt (fun e => hR.ne e.symm)).trans h1.box
  have hm := RDoc.more hR hd (hs.kept (fun k _ hk => hd.block k hk) (fun _ hq _ => hq)) hv hg ho
  have hsz : base ≤ wb.heap.size := Nat.le_trans hR.bb (Nat.le_of_lt hR.lt)
  refine ⟨⟨Dc.hcell hbox rfl, Dc.hfree hbox⟩, fun w8 h8 => ⟨hm.keep h8, ?_⟩⟩
  have hB1 : Below base wb W1 := hd.mono hsz
  have hB7 : Below base wb w7 := hB1.grown hg (Nat.le_trans hsz hd.size) (fun k hk => (h1.own.lt k hk).1)
  have hB8 := hB7.setCell (p := ⟨b, 0, none⟩) hR.bb v7
  exact hB8.trans (h8.mono (by rw [World.size_setCell]; exact Nat.le_trans hsz (Nat.le_trans hd.size hg.size)))
theorem addR_set {l : List ReX} {x : ReX} {p : Nat} {f : FlatV} (hp : p < (l ++ [x]).length) (hx : x.re = ⟨f.name, f.attrs, f.parent, [], true⟩) (hpar : f.parent = (p : Int)) (ko : Option Addr) (kl kc : Nat) :
    ((l ++ [x]).set p { (l ++ [x])[p] with ko := ko, kl := kl, kc := kc, kids := (l ++ [x])[p].kids.take (l ++ [x])[p].kids.length ++ l.length :: (l ++ [x])[p].kids.drop (l ++ [x])[p].kids.length }).map ReX.re = addR (l.map ReX.re) f := by
  unfold addR
  rw [if_pos (by omega), hpar, Int.toNat_natCast, List.map_set]
  have hm : (l ++ [x]).map ReX.re = l.map ReX.re ++ [(⟨f.name, f.attrs, (p : Int), [], true⟩ : RE)] := by rw [List.map_append, List.map_cons, hx, hpar]; rfl
  rw [← hm]
  refine List.ext_getElem (by simp) fun j h1 h2 => ?_
  rw [List.getElem_set, List.getElem_modify]
  by_cases hj : p = j
  · subst hj
    rw [if_pos rfl, if_pos rfl, List.getElem_map]
    simp [ReX.re]
  · rw [if_neg hj, if_neg hj]
theorem below_turn {F : Nat → Prop} {B : Nat} {w w' : World} (h : Turn F w w') (hB : B ≤ w.heap.size) (hF : ∀ k, F k → B ≤ k) : Below B w w' := ⟨h.os, h.tape, h.output, by first | exact h.size | exact Nat.le_trans hB h.size, fun k hk => h.block k (Nat.lt_of_lt_of_le hk hB) (fun hf => absurd (hF k hf) (by omega))⟩
end Lead.Rc
namespace Go.Proofs.YtndlmmpheecleaaGreatDoor
open Go.RowKit Lead Lead.Dc Lead.Rc
set_option maxHeartbeats 8000000 in
set_option maxRecDepth 100000 in
theorem docof_dis (o : Option Addr) (len c : Nat) (fs : List FlX) (w0 w : World) (hS : SlA EFl w o len c fs) (hA : ∀ x ∈ fs, SlA EAt w0 x.ao x.al x.ac x.ats) (hb0 : Below w0.heap.size w0 w) (hl : len ≤ 1000) (hat : ∀ x ∈ fs, x.ats.length ≤ 1000) (hpar : ∀ i (h : i < fs.length), fs[i].par < (i : Int)) :
    Calls Tryz.prog 10 #[.slice o len c] w fun en w' => ∃ b v l, en = .returned (.pointer (some ⟨b, 0, none⟩)) ∧ RDoc RT_ w.heap.size w' b v l ∧ (l.map ReX.re = docR (fs.map fv) ∧ RDis l) ∧ Below w.heap.size w w' := by
  have hlm : len ≤ 9223372036854775807 := by omega
  obtain ⟨iA, hiA, hzA0, hzA1, hzA2⟩ := info_parts infoAt2
  obtain ⟨iR, hiR, hzR0, hzR1, hzR2⟩ := info_parts infoRe
  have H_hS := Lib.hid hS
  clear hS
  have H_hA := Lib.hid hA
  clear hA
  have H_hat := Lib.hid hat
  clear hat
  have H_hpar := Lib.hid hpar
  clear hpar
  have H_hiA := Lib.hid hiA
  clear hiA
  have H_hzA0 := Lib.hid hzA0
  clear hzA0
  have H_hzA1 := Lib.hid hzA1
  clear hzA1
  have H_hzA2 := Lib.hid hzA2
  clear hzA2
  have H_hiR := Lib.hid hiR
  clear hiR
  have H_hzR0 := Lib.hid hzR0
  clear hzR0
  have H_hzR1 := Lib.hid hzR1
  clear hzR1
  have H_hzR2 := Lib.hid hzR2
  clear hzR2
  go_enter Tryz.func10, Tryz.ntmps10
  go_wp2_with fail
  go_loopw [4] (fun t4 wr => ∃ (i : Nat) (v : Value) (l : List ReX), i ≤ len ∧ t4 = .int .i64 i ∧ RowKit.Hid (RDoc RT_ w.heap.size wr w.heap.size v l) ∧ RowKit.Hid (l.map ReX.re = docR ((fs.map fv).take i) ∧ RDis l) ∧ Below w.heap.size w wr) (fun t4 _ => len - (intOf t4).toNat)
  case atStart =>
    refine ⟨0, .slice none 0 0, [], Nat.zero_le _, rfl, Lib.hid ⟨heap_alloc_new _ _, Nat.le_refl _, OwnR.nil _ _ _ _, (fun e => by cases e), fun x hx => by cases hx⟩, Lib.hid ⟨rfl, RDis.nil⟩, by repeat' (first | (with_reducible first | exact bwR _ _ | assumption | refine bdn ?_ | refine bwA ?_ ?_ _ | refine bwD ?_ | refine bwS ?_ ?_ _) | omega | (simp <;> omega))⟩
  case round =>
    obtain ⟨i, v, l, hi, rfl, H_R, H_mm, hB⟩ := hrel
    have H_m := Lib.hid H_mm.out.1
    have H_dis := Lib.hid H_mm.out.2
    clear H_mm
    have hzr := hB.size
    by_cases hlt : i < len
    · have hi' : i < fs.length := by have := H_hS.out.1; omega
      obtain ⟨g, off, rfl, hgw, hrow⟩ := H_hS.out.2.2.2.resolve_left (by intro h; rw [h] at hi'; simp at hi')
      have hcell := fun (W : World) (hb : Below w.heap.size w W) (q : Nat) (u : Value) (hq : (EFl.enc fs[i])[q]? = some u) => (hrow.keep hb hgw) i hi' q u hq
      obtain ⟨x, hx⟩ : ∃ x, fs[i] = x := ⟨_, rfl⟩
      rw [hx] at hcell
      have hmem := List.getElem_mem hi'
      rw [hx] at hmem
      obtain ⟨nm, ao, al, ac, ats, par, dp⟩ := x
      have q0 : wr.cell? ⟨g, off + i * 4, none⟩ = some (.string nm) := hcell wr hB 0 _ rfl
      have q1 : wr.cell? ⟨g, off + i * 4 + 1, none⟩ = some (.slice ao al ac) := hcell wr hB 1 _ rfl
      have q2 : wr.cell? ⟨g, off + i * 4 + 2, none⟩ = some (.int .i64 par) := hcell wr hB 2 _ rfl
      have hgr : g < wr.heap.size := Nat.lt_of_lt_of_le hgw hzr
      have hgn : ¬ g = wr.heap.size := by omega
      have c0 := H_R.out.c0
      have hbl := H_R.out.lt
      have hbn : ¬ w.heap.size = wr.heap.size := by omega
      have hSA0 := H_hA.out _ hmem
      have hal : ats.length ≤ 1000 := H_hat.out _ hmem
      have hpi : par < (i : Int) := by have h := H_hpar.out i hi'; rw [hx] at h; exact h
      have H_hcell := Lib.hid hcell
      clear hcell
      have H_hrow := Lib.hid hrow
      clear hrow
      have H_hx := Lib.hid hx
      clear hx
      have H_hmem := Lib.hid hmem
      clear hmem
      have H_hSA0 := Lib.hid hSA0
      clear hSA0
      go_wp2_with fail
      go_region
      have hba : Below wr.heap.size wr (wr.alloc (.cells #[.string nm, .slice none 0 0, .int .i64 par, .slice none 0 0, .bool true] 62)).drew := by repeat' (first | (with_reducible first | exact bwR _ _ | assumption | refine bdn ?_ | refine bwA ?_ ?_ _ | refine bwD ?_ | refine bwS ?_ ?_ _) | omega | (simp <;> omega))
      have hbe : (wr.alloc (.cells #[.string nm, .slice none 0 0, .int .i64 par, .slice none 0 0, .bool true] 62)).drew.heap[wr.heap.size]? = some (.cells #[.string nm, .slice none 0 0, .int .i64 par, .slice none 0 0, .bool true] 62 (0, 0)) := heap_alloc_new _ _
      obtain ⟨be, hbe'⟩ : ∃ u, wr.heap.size = u := ⟨_, rfl⟩
      generalize (wr.alloc (.cells #[.string nm, .slice none 0 0, .int .i64 par, .slice none 0 0, .bool true] 62)).drew = wa at hba hbe ⊢
      have hBa : Below w.heap.size w wa := below_via hB hba
      have hRa := H_R.out.keep hba
      have q1a : wa.cell? ⟨g, off + i * 4 + 1, none⟩ = some (.slice ao al ac) := (hba.cell (p := ⟨g, off + i * 4 + 1, none⟩) hgr).trans q1
      have e1 : wa.cell? ⟨wr.heap.size, 1, none⟩ = some (.slice none 0 0) := Dc.hcell hbe rfl
      have hSA' : SlA EAt wa ao al ac ats := H_hSA0.out.keep (hb0.trans (hBa.mono hb0.size)) rfl
      have sa := hBa.size
      have H_q2 := Lib.hid q2
      clear q2
      clear q0 q1 c0
      have H_hbe := Lib.hid hbe
      clear hbe
      have H_hRa := Lib.hid hRa
      clear hRa
      have H_hSA' := Lib.hid hSA'
      clear hSA'
      have H_hbe' := Lib.hid hbe'
      clear hbe'
      go_wp2_with fail
      go_region_law (first | ((refine step_append_sla rfl (.tmp 26) (.tmp 31) 22 rfl EAt w.heap.size 59 iA _ 32 Tryz.underlying22 H_hiA.out H_hzA0.out H_hzA1.out H_hzA2.out rfl (by decide) (.slice none 0 0) [] rfl ao al ac ats rfl ?a1 ?a2 (OwnR.nil _ _ _ _) ?a3 ?_); (case a1 => first | exact H_hSA'.out | exact H_hSA'.out.keep (Below.refl _ _).drew rfl); (case a2 => show 0 + ats.length ≤ 1000000; omega); (case a3 => exact sa); intro v3 w3 hv3' hA3 hg3 ho3; have hv3 : OwnR EAt w3 w.heap.size 59 v3 ats := hv3'; clear hv3'; have hend := fun (w4 : World) h4 => after6 (w4 := w4) H_R.out hba H_hbe.out hv3 hg3 ho3 (by first | exact Below.refl _ _ | exact (Below.refl _ _).drew) rfl h4; obtain ⟨o3, c3, rfl⟩ := ow_form hv3; have hlw : wr.heap.size < wa.heap.size := Dc.hlt H_hbe.out; have hb3 := (hg3.block wr.heap.size (by first | exact hlw | (simp; exact hlw)) (fun e => by cases e)).trans H_hbe.out; have e31 : w3.cell? ⟨wr.heap.size, 1, none⟩ = some (.slice none 0 0) := Dc.hcell hb3 rfl; have x31 : w3.frozen? ⟨wr.heap.size, 1, none⟩ = false := Dc.hfree hb3; have H_hend := Lib.hid hend; clear hend hv3 hA3 hg3 ho3 hb3 hlw))
      all_goals
        have hend := H_hend.out _ (by first | exact Below.refl _ _ | exact (Below.refl _ _).drew)
        generalize w3.setCell ⟨wr.heap.size, 1, none⟩ (.slice o3 ats.length c3) = wb at hend ⊢
        obtain ⟨o4, l4, c4, hveq, hB4, hbe4, hsub4, hnew4⟩ := hend
        injection hveq with hv1 hv2 hv3
        subst hv1 hv2 hv3
        have hsub4' : SubOk RT_ w.heap.size wb (fun k => v.ownBlock ≠ some k ∧ k ≠ w.heap.size) ⟨nm, o3, ats.length, c3, ats, par, none, 0, 0, [], true⟩ := hsub4
        have hdis4 : RDis (l ++ [(⟨nm, o3, ats.length, c3, ats, par, none, 0, 0, [], true⟩ : ReX)]) := H_dis.out.app fun k hk y hy h1 => by
          have h2 := hnew4 k hk
          have h3 := ((H_R.out.sub y hy).ats.lt k h1).2
          omega
        obtain ⟨L3, hL3⟩ : ∃ u, ats.length = u := ⟨_, rfl⟩
        rw [hL3] at hbe4 hsub4' hdis4
        clear hnew4
        try rw [hL3]
        have hRb := H_R.out.keep hB4
        have c0b := hRb.c0
        have f0b := hRb.fr
        have e0 : wb.cell? ⟨wr.heap.size, 0, none⟩ = some (.string nm) := Dc.hcell hbe4 rfl
        have e1 : wb.cell? ⟨wr.heap.size, 1, none⟩ = some (.slice o3 L3 c3) := Dc.hcell hbe4 rfl
        have e2 : wb.cell? ⟨wr.heap.size, 2, none⟩ = some (.int .i64 par) := Dc.hcell hbe4 rfl
        have e3 : wb.cell? ⟨wr.heap.size, 3, none⟩ = some (.slice none 0 0) := Dc.hcell hbe4 rfl
        have e4 : wb.cell? ⟨wr.heap.size, 4, none⟩ = some (.bool true) := Dc.hcell hbe4 rfl
        have q2b : wb.cell? ⟨g, off + i * 4 + 2, none⟩ = some (.int .i64 par) := (hB4.cell (p := ⟨g, off + i * 4 + 2, none⟩) hgr).trans H_q2.out
        have hBb : Below w.heap.size w wb := below_via hB hB4
        have zbe := Dc.hlt hbe4
        have zbl := hRb.lt
        have hml : l.length = i := by
          have h := congrArg List.length H_m.out
          rw [List.length_map, docR_len, List.length_take, List.length_map] at h
          omega
        clear e31 x31 H_hend hsub4
        have H_hsub4' := Lib.hid hsub4'
        clear hsub4'
        have H_hRb := Lib.hid hRb
        clear hRb
        have H_hbe4 := Lib.hid hbe4
        clear hbe4
        have H_hL3 := Lib.hid hL3
        clear hL3
        have H_hml := Lib.hid hml
        clear hml
        have H_hdis4 := Lib.hid hdis4
        clear hdis4
        go_wp2_with fail
        go_region_law (((refine step_append_told rfl (.tmp 38) (.tmp 40) 63 rfl ERe w.heap.size 62 iR _ 80 Tryz.underlying63 H_hiR.out H_hzR0.out H_hzR1.out H_hzR2.out rfl (by decide) v l rfl _ 0 1 1 [⟨nm, o3, L3, c3, ats, par, none, 0, 0, [], true⟩] rfl rfl ?a2 ?a3 ?a4 ?a5 ?_); (case a2 => have := H_hml.out; show l.length + 1 ≤ 1000000; omega); (case a3 => first | exact H_hRb.out.own.alloc _ | exact (H_hRb.out.own.keep (Below.refl _ _).drew).alloc _ | exact (H_hRb.out.own.alloc _).keep (Below.refl _ _).drew); (case a4 => first | exact row_one (vs := #[.string nm, .slice o3 L3 c3, .int .i64 par, .slice none 0 0, .bool true]) rfl (fun j => World.cell?_alloc_new _ _ _ _) | exact row_one (vs := #[.string nm, .slice o3 L3 c3, .int .i64 par, .slice none 0 0, .bool true]) rfl (fun j => by rw [World.cell?_drew]; exact World.cell?_alloc_new _ _ _ _)); (case a5 => simp; omega); intro v7 w7 hv7 hA7 hg7 ho7; have hend := after7 H_hRb.out H_hsub4'.out hv7 hg7 ho7 (by repeat' (first | (with_reducible first | exact bwR _ _ | assumption | refine bdn ?_ | refine bwA ?_ ?_ _ | refine bwD ?_ | refine bwS ?_ ?_ _) | omega | (simp <;> omega))); obtain ⟨o7, c7, h7⟩ := ow_form hv7; rw [List.length_append, show ([_] : List ReX).length = 1 from rfl] at h7; subst h7; obtain ⟨⟨e7, x7⟩, hend⟩ := hend; have H_hend := Lib.hid hend; clear hend hv7 hA7 hg7 ho7))
        all_goals
          have hend := H_hend.out _ (by first | exact Below.refl _ _ | exact (Below.refl _ _).drew)
          generalize w7.setCell ⟨w.heap.size, 0, none⟩ (.slice o7 (l.length + 1) c7) = wc at hend ⊢
          obtain ⟨hRc, hBc⟩ := hend
          have hBcw : Below w.heap.size w wc := hBb.trans hBc
          have q2c : wc.cell? ⟨g, off + i * 4 + 2, none⟩ = some (.int .i64 par) := H_hcell.out wc hBcw 2 _ rfl
          have hlc : (l ++ [(⟨nm, o3, L3, c3, ats, par, none, 0, 0, [], true⟩ : ReX)]).length = i + 1 := by rw [List.length_append, H_hml.out]; rfl
          have hfv : (fs.map fv)[i]'(by rw [List.length_map]; exact hi') = ⟨nm, ats, par, dp⟩ := by rw [List.getElem_map, H_hx.out]; rfl
          have hdr : docR ((fs.map fv).take (i + 1)) = addR (l.map ReX.re) ⟨nm, ats, par, dp⟩ := by rw [docR_take (by rw [List.length_map]; exact hi'), hfv, H_m.out]
          have gi : IntKind.i64.wrap ((i : Int) + 1) = ((i + 1 : Nat) : Int) := IntWalk.i64_in _ (by omega)
          clear e7 x7 H_hend
          have H_hfv := Lib.hid hfv
          clear hfv
          by_cases hp0 : 0 ≤ par
          · obtain ⟨p, hpp⟩ := Int.eq_ofNat_of_zero_le hp0
            subst hpp
            have hpl : p < (l ++ [(⟨nm, o3, L3, c3, ats, (p : Int), none, 0, 0, [], true⟩ : ReX)]).length := by omega
            obtain ⟨g7, cap7, hv7, hg7, hbg7, hgb7, hlc7, hcm7, _, _⟩ := hRc.v_form hpl
            rw [List.length_append, show ([_] : List ReX).length = 1 from rfl] at hv7
            injection hv7 with ho7 _ hc7
            subst ho7 hc7
            have hcl := hRc.cells (by rw [List.length_append]; rfl) hpl
            have hsb := hRc.sub _ (List.getElem_mem hpl)
            obtain ⟨y, hy⟩ : ∃ y, (l ++ [(⟨nm, o3, L3, c3, ats, (p : Int), none, 0, 0, [], true⟩ : ReX)])[p] = y := ⟨_, rfl⟩
            rw [hy] at hcl hsb
            obtain ⟨_, _, _, y3, _⟩ := hcl
            have c0c := hRc.c0
            have hkl : y.kl = y.kids.length := by
              obtain ⟨o, c, h⟩ := ow_form hsb.kids
              injection h
            have hml' := H_hml.out
            have gpl : (p : Int) < ((l.length + 1 : Nat) : Int) := by omega
            have gpl2 : (p : Int) < (l.length : Int) + 1 := by omega
            have gpl3 : p < l.length + 1 := by omega
            have gpl4 : (p : Int) < (i : Int) + 1 := by omega
            have gpl5 : p < i + 1 := by omega
            have hkm : y.kids.length ≤ 900000 := by
              have hmy : y ∈ l ++ [(⟨nm, o3, L3, c3, ats, (p : Int), none, 0, 0, [], true⟩ : ReX)] := by rw [← hy]; exact List.getElem_mem _
              rcases List.mem_append.1 hmy with hmy | hmy
              · have h := docR_kids _ (y.re) (by rw [← H_m.out]; exact List.mem_map_of_mem hmy)
                rw [List.length_take, List.length_map] at h
                have h' : y.kids.length ≤ min i fs.length := h
                omega
              · rw [List.mem_singleton.1 hmy]; exact Nat.zero_le _
            have cK := fun (W : World) (hW : Below wc.heap.size wc W) => kid_any w.heap.size w.heap.size _ _ p y.kids.length i W (hRc.keep hW) (Nat.le_trans hBcw.size hW.size) hpl (by rw [hy]; exact Nat.le_refl _) (by omega) (by rw [hy]; exact hkm) (by omega)
            rw [hy] at cK
            have H_cK := Lib.hid cK
            clear cK
            have H_hRc := Lib.hid hRc
            clear hRc
            have H_hy := Lib.hid hy
            clear hy
            have H_hdr := Lib.hid hdr
            clear hdr
            have H_hlc := Lib.hid hlc
            clear hlc
            have H_hsb := Lib.hid hsb
            clear hsb
            have H_hml' := Lib.hid hml'
            clear hml'
            go_wp2_with fail
            go_region_law ((go_simp; go_at_call 47; ((with_reducible refine (H_cK.out _ ?hb).mono ?_); (case hb => first | exact Below.refl _ _ | exact (Below.refl _ _).drew); rintro _ w9 ⟨rfl, hK1, hK2⟩; have H_K1 := Lib.hid hK1; have H_K2 := Lib.hid hK2; clear hK1 hK2)))
            all_goals
              have hF : ∀ k, (Value.slice (some ⟨g7, 0, none⟩) (l.length + 1) c7).ownBlock = some k → w.heap.size ≤ k := fun k hk => by
                have hk' : some g7 = some k := hk
                injection hk' with hk'; omega
              have hB9 : Below w.heap.size w w9 := by
                first
                  | with_reducible exact hBcw.trans (below_turn H_K2.out hBcw.size hF)
                  | with_reducible exact hBcw.drew.trans (below_turn H_K2.out hBcw.drew.size hF)
              obtain ⟨ko, kl, kc, hK⟩ := H_K1.out
              have hmap := addR_set (l := l) (x := ⟨nm, o3, L3, c3, ats, (p : Int), none, 0, 0, [], true⟩) (p := p) (f := ⟨nm, ats, (p : Int), dp⟩) hpl rfl rfl ko kl kc
              rw [H_hml.out, H_hy.out, ← H_hdr.out] at hmap
              have hds := H_hdis4.out.set_av hpl (y := { (l ++ [(⟨nm, o3, L3, c3, ats, (p : Int), none, 0, 0, [], true⟩ : ReX)])[p] with ko := ko, kl := kl, kc := kc, kids := (l ++ [(⟨nm, o3, L3, c3, ats, (p : Int), none, 0, 0, [], true⟩ : ReX)])[p].kids.take y.kids.length ++ i :: (l ++ [(⟨nm, o3, L3, c3, ats, (p : Int), none, 0, 0, [], true⟩ : ReX)])[p].kids.drop y.kids.length }) (fun k hk => .inl hk)
              rw [H_hy.out] at hds
              have hmd := And.intro hmap hds
              clear H_K1 H_K2
              have H_hK := Lib.hid hK
              clear hK
              have H_hmd := Lib.hid hmd
              clear hmd
              go_wp2_with fail
              go_roundw
              case rel => exact ⟨i + 1, _, _, by omega, by go_num, H_hK, H_hmd, hB9⟩
              case measure => simp [intOf]; omega
          · have hmap : (l ++ [(⟨nm, o3, L3, c3, ats, par, none, 0, 0, [], true⟩ : ReX)]).map ReX.re = docR ((fs.map fv).take (i + 1)) := by
              rw [hdr]
              unfold addR
              rw [if_neg hp0, List.map_append]; rfl
            have hmd := And.intro hmap H_hdis4.out
            have H_hmd := Lib.hid hmd
            clear hmd
            have H_hRc := Lib.hid hRc
            clear hRc
            have H_hdr := Lib.hid hdr
            clear hdr
            have H_hlc := Lib.hid hlc
            clear hlc
            go_wp2_with fail
            go_roundw
            case rel => exact ⟨i + 1, _, _, by omega, by go_num, H_hRc, H_hmd, hBcw⟩
            case measure => simp [intOf]; omega
    · obtain rfl : len = i := by omega
      have hall : (fs.map fv).take len = fs.map fv := List.take_of_length_le (by rw [List.length_map]; have := H_hS.out.1; omega)
      have hmap := H_m.out
      rw [hall] at hmap
      clear hall
      have H_hmap := Lib.hid hmap
      clear hmap
      go_wp2_with fail
      go_returns
      exact ⟨_, v, l, rfl, H_R.out, ⟨H_hmap.out, H_dis.out⟩, hB⟩
end Go.Proofs.YtndlmmpheecleaaGreatDoor
