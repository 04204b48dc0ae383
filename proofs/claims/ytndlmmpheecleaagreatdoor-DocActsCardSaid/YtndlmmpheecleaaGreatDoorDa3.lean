/-
  The law DocActs, walked.
-/
import Derived.Test.YtndlmmpheecleaaGreatDoorUf
import Derived.Test.YtndlmmpheecleaaGreatDoorFl4
import Derived.Test.YtndlmmpheecleaaGreatDoorFf1
import Derived.Test.YtndlmmpheecleaaGreatDoorUg
import Derived.Test.YtndlmmpheecleaaGreatDoorSd1
import Derived.Test.YtndlmmpheecleaaGreatDoorCd
import Derived.Test.YtndlmmpheecleaaGreatDoorFaul
import Derived.Deep.DeepCutAuto
import Derived.Deep.RegionHeld
import Derived.Deep.CutBlock
import Derived.Deep.QuietTactic
import Derived.BigQuiet
namespace Go.Proofs.YtndlmmpheecleaaGreatDoor
open Go.RowKit Go.WideMaps Go.Maps Lead Lead.Dc Lead.Rc
theorem dgs_of {ea : Nat → Addr} {w : World} (hS : Sents ea w) : DGs ea w := ⟨hS.c2, hS.c3, hS.c4, hS.c5, hS.c6, hS.c7, hS.c8, hS.c9, hS.c10⟩
section
variable {B BR bd b next i kb c xn : Nat} {ob : Option Obj} {W0 W W1 : World} {v : Value} {l : List ReX} {E X : Els} {d xd : Nat → Nat}
theorem Half.box (h : Half B BR W0 bd b v l E next d c X xn xd kb ob W) : W.heap[kb]? = ob := by
  obtain ⟨_, _, _, _, _, h1⟩ := h
  exact h1.box.2.1
theorem Half.keep (h : Half B BR W0 bd b v l E next d c X xn xd kb ob W) (hb : Below W.heap.size W W1) : Half B BR W0 bd b v l E next d c X xn xd kb ob W1 := by
  obtain ⟨F', E', n', d', h0, h1⟩ := h
  exact ⟨F', E', n', d', h0, h1.keep hb⟩
theorem Full.box (h : Full B BR W0 bd b i kb ob W) : W.heap[kb]? = ob := by
  obtain ⟨_, _, _, _, _, _, h1⟩ := h
  exact h1.two.box.2.1
theorem Full.bel (h : Full B BR W0 bd b i kb ob W) : Below B W0 W := by
  obtain ⟨_, _, _, _, _, _, h1⟩ := h
  exact h1.two.bel
theorem Full.keep (h : Full B BR W0 bd b i kb ob W) (hb : Below W.heap.size W W1) : Full B BR W0 bd b i kb ob W1 := by
  obtain ⟨F', v', l', E', n', d', h1⟩ := h
  exact ⟨F', v', l', E', n', d', h1.keep hb⟩
end
theorem addC_le (E : Els) (d : Nat → Nat) (p q : Int) (nm : ByteArray) : addC E d p q nm ≤ 11 := by
  unfold addC; split
  · decide
  · split
    · decide
    · split
      · decide
      · split
        · decide
        · split <;> decide
theorem remC_le (E : Els) (n : Int) : remC E n ≤ 11 := by
  unfold remC; split
  · decide
  · split <;> decide
theorem movC_le (E : Els) (d : Nat → Nat) (n m q : Int) : movC E d n m q ≤ 11 := by
  unfold movC
  repeat' split
  all_goals decide
theorem setC_le (E : Els) (n : Int) (nm vl : ByteArray) : setC E n nm vl ≤ 11 := by
  unfold setC; split
  · decide
  · split
    · decide
    · split
      · decide
      · split <;> decide
theorem unsC_le (E : Els) (n : Int) (nm : ByteArray) : unsC E n nm ≤ 11 := by
  unfold unsC; split
  · decide
  · split <;> decide
theorem alloc_new (w : World) (o : Obj) : (w.alloc o).heap[w.heap.size]? = some o := by
  show (w.heap.push o)[w.heap.size]? = some o
  exact Array.getElem?_push_size
/-- An act in a block of its own. -/
abbrev actO (nm : ByteArray) (id dst at' : Int) (s4 s5 : ByteArray) : Obj := .cells #[.string nm, .int .i64 id, .int .i64 dst, .int .i64 at', .string s4, .string s5] 42 (0, 0)
theorem act_cells {W : World} {g : Nat} {nm : ByteArray} {id dst at' : Int} {s4 s5 : ByteArray} (h : W.heap[g]? = some (actO nm id dst at' s4 s5)) :
    W.cell? ⟨g, 0, none⟩ = some (.string nm) ∧ W.cell? ⟨g, 1, none⟩ = some (.int .i64 id) ∧ W.cell? ⟨g, 2, none⟩ = some (.int .i64 dst) ∧ W.cell? ⟨g, 3, none⟩ = some (.int .i64 at') ∧ W.cell? ⟨g, 4, none⟩ = some (.string s4) ∧ W.cell? ⟨g, 5, none⟩ = some (.string s5) :=
  ⟨Dc.hcell h rfl, Dc.hcell h rfl, Dc.hcell h rfl, Dc.hcell h rfl, Dc.hcell h rfl, Dc.hcell h rfl⟩
set_option maxHeartbeats 8000000 in
set_option maxRecDepth 100000 in
theorem lawacts_any (ea : Nat → Addr) (n : NT) (oa : Option Addr) (len cap : Nat) (acts : List AcX) (w : World) (hn : NodeOk w n) (ha : SlA EAc w oa len cap acts) (hai : ∀ a ∈ acts, I64 a.id ∧ I64 a.dst ∧ I64 a.at') (hS : Sents ea w) :
    Calls Tryz.prog 3 #[.agg n.vals.toArray, .slice oa len cap] w fun e w' => e = .returned (.bool true) ∧ Below w.heap.size w w' := by
  obtain ⟨ao, al, ac, ko, kl, kc, hv, _⟩ := hn.attrsAt
  have hG := dgs_of hS
  have cD := fun (W : World) (hb : Below w.heap.size w W) => docked_any ea W (hG.keep hb rfl)
  have cF := fun (W : World) (hb : Below w.heap.size w W) => flatsof2_any n W (hn.keep hb rfl)
  have cN := fun (W : World) (hb : Below w.heap.size w W) => new_any ea n W (hn.keep hb rfl) (hG.keep hb rfl).toC
  have hSK := fun (W : World) (hb : Below w.heap.size w W) => hS.keep hb rfl
  rw [hv] at cF cN ⊢
  obtain ⟨nk, hnk⟩ : ∃ u, n.name = u := ⟨_, rfl⟩
  obtain ⟨nr, hnr⟩ : ∃ u, n.rt = u := ⟨_, rfl⟩
  rw [hnk] at cF cN ⊢
  rw [hnr] at cN cF
  clear hv hn hnk hnr
  have H_cD := Lib.hid cD
  clear cD
  have H_cF := Lib.hid cF
  clear cF
  have H_cN := Lib.hid cN
  clear cN
  have H_hG := Lib.hid hG
  clear hG
  have H_hS := Lib.hid hS
  clear hS
  have H_hSK := Lib.hid hSK
  clear hSK
  have H_ha := Lib.hid ha
  clear ha
  have H_hai := Lib.hid hai
  clear hai
  go_enter Tryz.func3, Tryz.ntmps3
  go_wp2_with fail
  refine (H_cD.out _ (by repeat' (first | (with_reducible first | exact bwR _ _ | assumption | refine bdn ?_ | refine bwA ?_ ?_ _ | refine bwD ?_ | refine bwS ?_ ?_ _) | omega | (simp <;> omega)))).mono ?_
  rintro _ w1 ⟨rfl, hb1⟩
  have hB1 : Below w.heap.size w w1 := below_via (by repeat' (first | (with_reducible first | exact bwR _ _ | assumption | refine bdn ?_ | refine bwA ?_ ?_ _ | refine bwD ?_ | refine bwS ?_ ?_ _) | omega | (simp <;> omega))) hb1
  have k0 : w1.cell? ⟨w.heap.size, 0, none⟩ = some (.string nk) := gkeep hb1 (World.cell?_alloc_new _ _ _ _) (by simp)
  have k1 : w1.cell? ⟨w.heap.size, 1, none⟩ = some (.slice ao al ac) := gkeep hb1 (World.cell?_alloc_new _ _ _ _) (by simp)
  have k2 : w1.cell? ⟨w.heap.size, 2, none⟩ = some (.slice ko kl kc) := gkeep hb1 (World.cell?_alloc_new _ _ _ _) (by simp)
  have z1 : w.heap.size < w1.heap.size := Nat.lt_of_lt_of_le (by simp) hb1.size
  clear hb1
  go_wp2_with fail
  refine (H_cF.out _ (by repeat' (first | (with_reducible first | exact bwR _ _ | assumption | refine bdn ?_ | refine bwA ?_ ?_ _ | refine bwD ?_ | refine bwS ?_ ?_ _) | omega | (simp <;> omega)))).mono ?_
  rintro _ w2 ⟨o2, l2, c2, rfl, hl2, hb2, hfw⟩
  have hB2 : Below w.heap.size w w2 := below_via hB1 hb2
  have z2 : w.heap.size < w2.heap.size := Nat.lt_of_lt_of_le z1 hb2.size
  have m0 : w2.cell? ⟨w.heap.size, 0, none⟩ = some (.string nk) := (hb2.cell (p := ⟨w.heap.size, 0, none⟩) z1).trans k0
  have m1 : w2.cell? ⟨w.heap.size, 1, none⟩ = some (.slice ao al ac) := (hb2.cell (p := ⟨w.heap.size, 1, none⟩) z1).trans k1
  have m2 : w2.cell? ⟨w.heap.size, 2, none⟩ = some (.slice ko kl kc) := (hb2.cell (p := ⟨w.heap.size, 2, none⟩) z1).trans k2
  have hfl : l2 = 0 ∨ ∃ xs, SlA EFl w2 o2 l2 c2 xs ∧ (∀ x ∈ xs, SlA EAt w2 x.ao x.al x.ac x.ats) ∧ xs.map fv = allF nr (-1) 1 0 ∧ ∀ x ∈ xs, FlOk x := hfw.imp id (fun ⟨xs, a1, a2, a3⟩ => ⟨xs, a1, fun x hx => (a2 x hx).keep hb2 rfl, a3⟩)
  clear hfw hb2 hB1 z1 k0 k1 k2
  clear w1
  by_cases hl0 : l2 = 0
  · subst hl0
    clear hfl
    go_wp2_with fail
    go_returns
    exact ⟨rfl, by repeat' (first | (with_reducible first | exact bwR _ _ | assumption | refine bdn ?_ | refine bwA ?_ ?_ _ | refine bwD ?_ | refine bwS ?_ ?_ _) | omega | (simp <;> omega))⟩
  obtain ⟨xs, hsx, hax, hvals, hok⟩ := hfl.resolve_left hl0
  have hl0' : ((l2 : Int) == 0) = false := by simp; omega
  clear hfl
  have H_hsx := Lib.hid hsx
  clear hsx
  have H_hax := Lib.hid hax
  clear hax
  have H_hvals := Lib.hid hvals
  clear hvals
  have H_hok := Lib.hid hok
  clear hok
  by_cases h60 : 60 < len
  · have g60 : (60 : Int) < (len : Int) := by omega
    go_wp2_with fail
    go_returns
    exact ⟨rfl, by repeat' (first | (with_reducible first | exact bwR _ _ | assumption | refine bdn ?_ | refine bwA ?_ ?_ _ | refine bwD ?_ | refine bwS ?_ ?_ _) | omega | (simp <;> omega))⟩
  have g60 : ¬ (60 : Int) < (len : Int) := by omega
  go_wp2_with fail
  refine (H_cN.out _ (by repeat' (first | (with_reducible first | exact bwR _ _ | assumption | refine bdn ?_ | refine bwA ?_ ?_ _ | refine bwD ?_ | refine bwS ?_ ?_ _) | omega | (simp <;> omega)))).mono ?_
  rintro en w3 ⟨hb3, hN⟩
  have hB3 : Below w.heap.size w w3 := below_via hB2 hb3
  have hsx3 : SlA EFl w3 o2 l2 c2 xs := H_hsx.out.keep hb3 rfl
  have cFF := flatfault_any o2 l2 c2 xs w2 w3 hsx3 H_hax.out hb3 (by omega) (fun x hx => by
    obtain ⟨a1, _, a3⟩ := H_hok.out x hx
    exact ⟨by omega, fun a ha => by have := a3 a ha; omega⟩)
  rw [H_hvals.out, ff_all] at cFF
  have hb3' : Below w2.heap.size w2 w3 := hb3
  clear hb3 hsx3
  by_cases hc : (chkN nr 0 1).2 = 0
  case neg =>
    rw [if_neg hc] at hN
    obtain ⟨t', a', rfl, hE⟩ := hN
    have hpc : 0 < (chkN nr 0 1).2 := Nat.pos_of_ne_zero hc
    have hffv : ffV (chkN nr 0 1) = .agg #[.int .i64 ((chkN nr 0 1).2 : Int), .int .i64 ((chkN nr 0 1).1 : Int)] := by unfold ffV; rw [if_neg hc]
    rw [chkE_n hc] at hE
    rw [hffv] at cFF
    have h11 : (chkN nr 0 1).2 ≤ 11 := chkN_le nr 0 1
    obtain ⟨cc, hcc⟩ : ∃ u, (chkN nr 0 1).2 = u := ⟨_, rfl⟩
    obtain ⟨ci, hci⟩ : ∃ u, (chkN nr 0 1).1 = u := ⟨_, rfl⟩
    rw [hcc] at hE cFF hpc h11
    rw [hci] at hE cFF
    have gcc : (0 : Int) < (cc : Int) := by omega
    clear hc hffv hcc hci
    have H_hE := Lib.hid hE
    clear hE
    have H_cFF := Lib.hid cFF
    clear cFF
    go_wp2_with fail
    refine (H_cFF.out).mono ?_
    rintro _ w4 ⟨rfl, hb4⟩
    have hB4 : Below w.heap.size w w4 := below_via hB3 hb4
    have y4 := hB4.size
    have hE4 : ErrAt 264 145 ea w2.heap.size w4 (.iface t' (.pointer (some a'))) (cc, some ci) := H_hE.out.keep hb4 rfl (Nat.le_refl _)
    have cFa := fun (W : World) (hb : Below w4.heap.size w4 W) => faulted1_any ea (cc, some ci) (cc : Int) (ci : Int) (.iface t' (.pointer (some a'))) w2.heap.size W (hE4.keep hb rfl (Nat.le_refl _)) (H_hSK.out W (below_via hB4 hb)) h11 rfl rfl
    clear hE4 hb4
    have H_cFa := Lib.hid cFa
    clear cFa
    go_wp2_with fail
    refine (H_cFa.out _ (by repeat' (first | (with_reducible first | exact bwR _ _ | assumption | refine bdn ?_ | refine bwA ?_ ?_ _ | refine bwD ?_ | refine bwS ?_ ?_ _) | omega | (simp <;> omega)))).mono ?_
    rintro _ w5 ⟨rfl, hb5⟩
    have hB5 : Below w.heap.size w w5 := below_via (by repeat' (first | (with_reducible first | exact bwR _ _ | assumption | refine bdn ?_ | refine bwA ?_ ?_ _ | refine bwD ?_ | refine bwS ?_ ?_ _) | omega | (simp <;> omega))) hb5
    go_wp2_with fail
    go_returns
    exact ⟨rfl, by repeat' (first | (with_reducible first | exact bwR _ _ | assumption | refine bdn ?_ | refine bwA ?_ ?_ _ | refine bwD ?_ | refine bwS ?_ ?_ _) | omega | (simp <;> omega))⟩
  rw [if_pos hc] at hN
  obtain ⟨bd, F, d, rfl, hF, hD, hcnt⟩ := hN
  have hffv : ffV (chkN nr 0 1) = .agg #[.int .i64 0, .int .i64 (-1)] := by unfold ffV; rw [if_pos hc, hc]; rfl
  rw [hffv] at cFF
  have hstart := fun (lr : List ReX) (h : lr.map ReX.re = docR (allF nr (-1) 1 0)) => And.intro (RelD.start h) (sz_start h hc hD.good (by rw [treeE_len]; exact hcnt))
  have hatd := tree_atd hc
  have hEl := treeE_len nr
  have hpar : ∀ i (h : i < xs.length), xs[i].par < (i : Int) := fun i h => fl_par H_hvals.out h
  clear hffv
  have H_hD := Lib.hid hD
  clear hD
  have H_hF := Lib.hid hF
  clear hF
  have H_cFF := Lib.hid cFF
  clear cFF
  have H_hstart := Lib.hid hstart
  clear hstart
  have H_hatd := Lib.hid hatd
  clear hatd
  have H_hEl := Lib.hid hEl
  clear hEl
  have H_hpar := Lib.hid hpar
  clear hpar
  have H_hc := Lib.hid hc
  clear hc
  go_wp2_with fail
  refine (H_cFF.out).mono ?_
  rintro _ w4 ⟨rfl, hb4⟩
  have hB4 : Below w.heap.size w w4 := below_via hB3 hb4
  have hb24 : Below w2.heap.size w2 w4 := below_via hb3' hb4
  have y4 := hB4.size
  have y24 := hb24.size
  have cDoc := fun (W : World) (hb : Below w2.heap.size w2 W) => docof_dis o2 l2 c2 xs w2 W (H_hsx.out.keep hb rfl) H_hax.out hb (by omega) (fun x hx => by have := (H_hok.out x hx).2.1; omega) H_hpar.out
  rw [H_hvals.out] at cDoc
  have hD4 := H_hD.out.keep hb4
  clear hb4
  have H_cDoc := Lib.hid cDoc
  clear cDoc
  have H_hD4 := Lib.hid hD4
  clear hD4
  go_wp2_with fail
  refine (H_cDoc.out _ (by repeat' (first | (with_reducible first | exact bwR _ _ | assumption | refine bdn ?_ | refine bwA ?_ ?_ _ | refine bwD ?_ | refine bwS ?_ ?_ _) | omega | (simp <;> omega)))).mono ?_
  rintro _ w6 ⟨b, v, lr, rfl, hR, ⟨hre, hdis⟩, hb6⟩
  have hB6 : Below w.heap.size w w6 := below_via (by repeat' (first | (with_reducible first | exact bwR _ _ | assumption | refine bdn ?_ | refine bwA ?_ ?_ _ | refine bwD ?_ | refine bwS ?_ ?_ _) | omega | (simp <;> omega))) hb6
  have hb46 : Below w4.heap.size w4 w6 := below_via (by repeat' (first | (with_reducible first | exact bwR _ _ | assumption | refine bdn ?_ | refine bwA ?_ ?_ _ | refine bwD ?_ | refine bwS ?_ ?_ _) | omega | (simp <;> omega))) hb6
  have hD6 := H_hD4.out.keep hb46
  have hIS : Inv w2.heap.size w4.heap.size w2 bd b w6 F v lr (treeE nr (-1) 0) nr.cnt d 0 w.heap.size (w6.heap[w.heap.size]?) := by
    obtain ⟨hr1, hr2⟩ := H_hstart.out lr hre
    have hR4 := hR.lower (base' := w4.heap.size) (by simp)
    have hF4 := H_hD4.out.ok.F_lt
    refine ⟨⟨hD6, hR4, hr1, H_hF.out, hb24.size, fun k hk hr => ?_, hb24.trans (hb46.mono hb24.size), Nat.lt_of_lt_of_le z2 (Nat.le_trans hb24.size hb46.size), rfl, fun hf => ?_, fun hr => ?_⟩, hdis, hr2, H_hatd.out, by rw [H_hEl.out]; exact hcnt, hcnt⟩
    · have h1 := (RG.lt hR4 hr).1
      have h2 := hF4 k hk
      omega
    · have := H_hF.out _ hf; omega
    · have h1 := (RG.lt hR4 hr).1
      have h2 := hb24.size
      omega
  obtain ⟨E0, hE0⟩ : ∃ u, treeE nr (-1) 0 = u := ⟨_, rfl⟩
  obtain ⟨N0, hN0⟩ : ∃ u, nr.cnt = u := ⟨_, rfl⟩
  rw [hE0, hN0] at hIS
  have hGI : ∀ W, Below w2.heap.size w2 W → DGs ea W := fun W hW => H_hG.out.keep (hB2.trans (hW.mono (Nat.le_of_lt z2))) rfl
  have hSI : ∀ W, Below w2.heap.size w2 W → Sents ea W := fun W hW => H_hSK.out W (hB2.trans (hW.mono (Nat.le_of_lt z2)))
  clear hR hre hdis hb6 hb46 hD6 hE0 hN0 H_hD H_hD4 H_hF H_cFF H_hstart H_hatd H_hEl H_hpar H_hc H_cDoc H_cD H_cF H_cN H_hsx H_hax H_hvals H_hok m0 m1 m2
  have H_hIS := Lib.hid hIS
  clear hIS
  have H_hGI := Lib.hid hGI
  clear hGI
  have H_hSI := Lib.hid hSI
  clear hSI
  go_wp2_with fail
  go_loopw [11] (fun t11 wr => ∃ (k : Nat) (F : Nat → Prop) (v : Value) (l : List ReX) (E : Els) (next : Nat) (d : Nat → Nat) (kb : Nat) (ob : Option Obj), k ≤ len ∧ t11 = .int .i64 k ∧ RowKit.Hid (Inv w2.heap.size w4.heap.size w2 bd b wr F v l E next d k kb ob)) (fun t11 _ => len - (intOf t11).toNat)
  case atStart => exact ⟨0, _, _, _, _, _, _, _, _, Nat.zero_le _, rfl, H_hIS⟩
  case round =>
    obtain ⟨k, F, v, l, E, next, d, kb, ob, hk, rfl, H_I⟩ := hrel
    have hBr : Below w.heap.size w wr := hB2.trans (H_I.out.two.bel.mono (Nat.le_of_lt z2))
    by_cases hlt : k < len
    · have hk' : k < acts.length := by have := H_ha.out.1; omega
      have hk60 : k ≤ 60 := by omega
      obtain ⟨ga, off, rfl, hbw, hr⟩ := H_ha.out.2.2.2.resolve_left (by intro h; rw [h] at hk'; simp at hk')
      have hcell := fun (q : Nat) (v : Value) (hq : (EAc.enc acts[k])[q]? = some v) => (hr.keep hBr hbw) k hk' q v hq
      obtain ⟨xi, xt, xa⟩ := H_hai.out _ (List.getElem_mem hk')
      obtain ⟨x, hx⟩ : ∃ x, acts[k] = x := ⟨_, rfl⟩
      rw [hx] at hcell xi xt xa
      clear hx hr
      obtain ⟨nm, id, dst, at', s4, s5⟩ := x
      have q0 : wr.cell? ⟨ga, off + k * 6, none⟩ = some (.string nm) := hcell 0 _ rfl
      have q1 : wr.cell? ⟨ga, off + k * 6 + 1, none⟩ = some (.int .i64 id) := hcell 1 _ rfl
      have q2 : wr.cell? ⟨ga, off + k * 6 + 2, none⟩ = some (.int .i64 dst) := hcell 2 _ rfl
      have q3 : wr.cell? ⟨ga, off + k * 6 + 3, none⟩ = some (.int .i64 at') := hcell 3 _ rfl
      have q4 : wr.cell? ⟨ga, off + k * 6 + 4, none⟩ = some (.string s4) := hcell 4 _ rfl
      have q5 : wr.cell? ⟨ga, off + k * 6 + 5, none⟩ = some (.string s5) := hcell 5 _ rfl
      clear hcell
      go_upto_region 15 with fail
      go_cut [12] (fun s12 wx => s12 = .pointer (some ⟨wr.heap.size, 0, none⟩) ∧ Below wr.heap.size wr wx ∧ wx.heap[wr.heap.size]? = some (actO nm id dst at' s4 s5))
      case first =>
        go_wp2_with fail
        go_meet
        exact ⟨rfl, by repeat' (first | (with_reducible first | exact bwR _ _ | assumption | refine bdn ?_ | refine bwA ?_ ?_ _ | refine bwD ?_ | refine bwS ?_ ?_ _) | omega | (simp <;> omega)), alloc_new _ _⟩
      case rest =>
        obtain ⟨wA, rfl⟩ : ∃ u, u = wc := ⟨_, rfl⟩
        obtain ⟨rfl, hbA, hoA⟩ := hcut
        have hIA : Inv w2.heap.size w4.heap.size w2 bd b wA F v l E next d k wr.heap.size (some (actO nm id dst at' s4 s5)) :=
          ⟨H_I.out.two.fresh hbA hoA, H_I.out.dis, H_I.out.sz, H_I.out.at_, H_I.out.len, H_I.out.nx⟩
        have hBA : Below w.heap.size w wA := below_via hBr hbA
        obtain ⟨wo, rfl⟩ : ∃ u, u = wr := ⟨_, rfl⟩
        clear q0 q1 q2 q3 q4 q5 hbA
        obtain ⟨e0, e1, e2, e3, e4, e5⟩ := act_cells hoA
        have H_hoA := Lib.hid hoA
        clear hoA
        have H_hIA := Lib.hid hIA
        clear hIA
        by_cases hs4 : 60 < s4.size
        · have g4 : (60 : Int) < (s4.size : Int) := by omega
          go_wp2_with fail
          go_returns
          exact ⟨rfl, by repeat' (first | (with_reducible first | exact bwR _ _ | assumption | refine bdn ?_ | refine bwA ?_ ?_ _ | refine bwD ?_ | refine bwS ?_ ?_ _) | omega | (simp <;> omega))⟩
        have g4 : ¬ (60 : Int) < (s4.size : Int) := by omega
        by_cases hs5 : 250 < s5.size
        · have g5 : (250 : Int) < (s5.size : Int) := by omega
          go_wp2_with fail
          go_returns
          exact ⟨rfl, by repeat' (first | (with_reducible first | exact bwR _ _ | assumption | refine bdn ?_ | refine bwA ?_ ?_ _ | refine bwD ?_ | refine bwS ?_ ?_ _) | omega | (simp <;> omega))⟩
        have g5 : ¬ (250 : Int) < (s5.size : Int) := by omega
        have hn4 : s4.size ≤ 1000000 := by omega
        have hn5 : s5.size ≤ 1000000 := by omega
        clear hs4 hs5
        go_upto_block 2 with fail
        go_cut [] (fun wx => RowKit.Hid (Full w2.heap.size w4.heap.size w2 bd b k wo.heap.size (some (actO nm id dst at' s4 s5)) wx))
        case first =>
          by_cases hadd : (nm.toList == [97, 100, 100]) = true
          · as_aux_lemma =>
              have cP := p_add ea id at' s4 H_hIA.out hk60 (H_hGI.out _ H_hIA.out.two.bel) xi xa
              have H_cP := Lib.hid cP
              clear cP
              go_wp2_with fail
              refine (H_cP.out).mono ?_
              rintro _ w4 ⟨rfl, hH⟩
              obtain ⟨e0, e1, e2, e3, e4, e5⟩ := act_cells hH.box
              have cR := r_add id at' s4 H_hIA.out hk60 hH xi xa hn4
              clear H_cP
              have H_cR := Lib.hid cR
              clear cR
              go_wp2_with fail
              refine (H_cR.out).mono ?_
              rintro _ w5 ⟨rfl, hF⟩
              have cC := coded1_t ea _ w5 (addC_le E d id at' s4) (H_hSI.out w5 hF.bel)
              have g1 : (((ansA E next d id at' s4 : Nat) : Int) != ((ansA E next d id at' s4 : Nat) : Int)) = false := bne_self_eq_false _
              clear H_cR hH
              have H_hF := Lib.hid hF
              clear hF
              have H_cC := Lib.hid cC
              clear cC
              go_wp2_with fail
              refine (H_cC.out).mono ?_
              rintro _ w6 ⟨rfl, hb⟩
              have hF6 := H_hF.out.keep hb
              clear hb
              have H_hF6 := Lib.hid hF6
              clear hF6
              go_wp2_with fail
              go_meet
              exact H_hF6
          have hadd' : (nm.toList == [97, 100, 100]) = false := by simpa using hadd
          clear hadd e0 e1 e2 e3 e4 e5
          have e0 := (act_cells H_hoA.out).1
          by_cases hrem : (nm.toList == [114, 101, 109, 111, 118, 101]) = true
          · as_aux_lemma =>
              go_upto_region 27 with fail
              have hIg := H_hIA.out.keep (Below.refl _ wA).drew
              refine wp_region_held_drew (S := fun W => W.heap[wo.heap.size]? = some (actO nm id dst at' s4 s5)) (by kernel_rfl) hIg.two.box.2.1 (fun hHeld => ?_)
              generalize wA.drew = wg at hHeld hIg ⊢
              have cP := p_rem ea id hIg (H_hGI.out wg hIg.two.bel) xi
              have H_hIg := Lib.hid hIg
              clear hIg
              have H_cP := Lib.hid cP
              clear cP
              first
                | (refine wpAnyH_take (i := 0) (v := ?_) rfl (by kernel_rfl) (by kernel_rfl) (by kernel_rfl) (fun _ _ _ h => h) (Or.inl ⟨by rfl, ?_⟩) (by assumption) ?_
                   rotate_left
                   · (intro W hW; obtain ⟨e0, e1, e2, e3, e4, e5⟩ := act_cells hW; go_simp; try (with_reducible rfl)))
                | (refine wpAnyH_take (i := 0) (v := undef) rfl (by kernel_rfl) (by kernel_rfl) (by kernel_rfl) (fun _ _ _ h => h) (Or.inr ⟨by rfl, rfl⟩) (by assumption) ?_)
              try simp only [List.getElem_toArray, List.getElem_cons_zero, List.getElem_cons_succ, Act.put, List.setIfInBounds_toArray, List.set_cons_zero, List.set_cons_succ]
              first
                | (refine wpAnyH_take (i := 1) (v := ?_) rfl (by kernel_rfl) (by kernel_rfl) (by kernel_rfl) (fun _ _ _ h => h) (Or.inl ⟨by rfl, ?_⟩) (by assumption) ?_
                   rotate_left
                   · (intro W hW; obtain ⟨e0, e1, e2, e3, e4, e5⟩ := act_cells hW; go_simp; try (with_reducible rfl)))
                | (refine wpAnyH_take (i := 1) (v := undef) rfl (by kernel_rfl) (by kernel_rfl) (by kernel_rfl) (fun _ _ _ h => h) (Or.inr ⟨by rfl, rfl⟩) (by assumption) ?_)
              try simp only [List.getElem_toArray, List.getElem_cons_zero, List.getElem_cons_succ, Act.put, List.setIfInBounds_toArray, List.set_cons_zero, List.set_cons_succ]
              first
                | (refine wpAnyH_take (i := 2) (v := ?_) rfl (by kernel_rfl) (by kernel_rfl) (by kernel_rfl) (fun _ _ _ h => h) (Or.inl ⟨by rfl, ?_⟩) (by assumption) ?_
                   rotate_left
                   · (intro W hW; obtain ⟨e0, e1, e2, e3, e4, e5⟩ := act_cells hW; go_simp; try (with_reducible rfl)))
                | (refine wpAnyH_take (i := 2) (v := undef) rfl (by kernel_rfl) (by kernel_rfl) (by kernel_rfl) (fun _ _ _ h => h) (Or.inr ⟨by rfl, rfl⟩) (by assumption) ?_)
              try simp only [List.getElem_toArray, List.getElem_cons_zero, List.getElem_cons_succ, Act.put, List.setIfInBounds_toArray, List.set_cons_zero, List.set_cons_succ]
              first
                | (refine wpAnyH_take (i := 4) (v := ?_) rfl (by kernel_rfl) (by kernel_rfl) (by kernel_rfl) (fun _ _ _ h => h) (Or.inl ⟨by rfl, ?_⟩) (by assumption) ?_
                   rotate_left
                   · (intro W hW; obtain ⟨e0, e1, e2, e3, e4, e5⟩ := act_cells hW; go_simp; try (with_reducible rfl)))
                | (refine wpAnyH_take (i := 4) (v := undef) rfl (by kernel_rfl) (by kernel_rfl) (by kernel_rfl) (fun _ _ _ h => h) (Or.inr ⟨by rfl, rfl⟩) (by assumption) ?_)
              try simp only [List.getElem_toArray, List.getElem_cons_zero, List.getElem_cons_succ, Act.put, List.setIfInBounds_toArray, List.set_cons_zero, List.set_cons_succ]
              first
                | (refine wpAnyH_take (i := 5) (v := ?_) rfl (by kernel_rfl) (by kernel_rfl) (by kernel_rfl) (fun _ _ _ h => h) (Or.inl ⟨by rfl, ?_⟩) (by assumption) ?_
                   rotate_left
                   · (intro W hW; obtain ⟨e0, e1, e2, e3, e4, e5⟩ := act_cells hW; go_simp; try (with_reducible rfl)))
                | (refine wpAnyH_take (i := 5) (v := undef) rfl (by kernel_rfl) (by kernel_rfl) (by kernel_rfl) (fun _ _ _ h => h) (Or.inr ⟨by rfl, rfl⟩) (by assumption) ?_)
              try simp only [List.getElem_toArray, List.getElem_cons_zero, List.getElem_cons_succ, Act.put, List.setIfInBounds_toArray, List.set_cons_zero, List.set_cons_succ]
              first
                | (refine wpAnyH_take (i := 6) (v := ?_) rfl (by kernel_rfl) (by kernel_rfl) (by kernel_rfl) (fun _ _ _ h => h) (Or.inl ⟨by rfl, ?_⟩) (by assumption) ?_
                   rotate_left
                   · (intro W hW; obtain ⟨e0, e1, e2, e3, e4, e5⟩ := act_cells hW; go_simp; try (with_reducible rfl)))
                | (refine wpAnyH_take (i := 6) (v := undef) rfl (by kernel_rfl) (by kernel_rfl) (by kernel_rfl) (fun _ _ _ h => h) (Or.inr ⟨by rfl, rfl⟩) (by assumption) ?_)
              try simp only [List.getElem_toArray, List.getElem_cons_zero, List.getElem_cons_succ, Act.put, List.setIfInBounds_toArray, List.set_cons_zero, List.set_cons_succ]
              refine wpAnyH_ready (rs := [3]) (by kernel_rfl) (by simp) ?_
              refine AllReadyH.cons rfl (fun K hK => ?_) AllReadyH.nil
              go_simp
              go_at_call 14
              refine (H_cP.out).mono ?_
              rintro _ w4 ⟨rfl, hH⟩
              clear hHeld
              refine hK.out _ _ hH.box (fun hHeld => ?_)
              clear hK K
              try simp only [List.getElem_toArray, List.getElem_cons_zero, List.getElem_cons_succ, Act.put, List.setIfInBounds_toArray, List.set_cons_zero, List.set_cons_succ]
              have cR := r_rem id H_hIg.out hk60 hH 
              clear H_cP
              have H_cR := Lib.hid cR
              clear cR
              have H_hH := Lib.hid hH
              clear hH
              refine wpAnyH_ready (rs := [7]) (by kernel_rfl) (by simp) ?_
              refine AllReadyH.cons rfl (fun K hK => ?_) AllReadyH.nil
              go_simp
              go_at_call 15
              refine (H_cR.out).mono ?_
              rintro _ w5 ⟨rfl, hF⟩
              clear hHeld
              refine hK.out _ _ hF.box (fun hHeld => ?_)
              clear hK K
              try simp only [List.getElem_toArray, List.getElem_cons_zero, List.getElem_cons_succ, Act.put, List.setIfInBounds_toArray, List.set_cons_zero, List.set_cons_succ]
              have cC := coded1_t ea _ w5 (remC_le E id) (H_hSI.out w5 hF.bel)
              clear H_cR
              have H_hF := Lib.hid hF
              clear hF
              have H_cC := Lib.hid cC
              clear cC
              refine wpAnyH_ready (rs := [8]) (by kernel_rfl) (by simp) ?_
              refine AllReadyH.cons rfl (fun K hK => ?_) AllReadyH.nil
              go_simp
              go_at_call 13
              refine (H_cC.out).mono ?_
              rintro _ w6 ⟨rfl, hb⟩
              have hF6 := H_hF.out.keep hb
              clear hHeld hb
              refine hK.out _ _ hF6.box (fun hHeld => ?_)
              clear hK K
              try simp only [List.getElem_toArray, List.getElem_cons_zero, List.getElem_cons_succ, Act.put, List.setIfInBounds_toArray, List.set_cons_zero, List.set_cons_succ]
              first
                | (refine wpAnyH_take (i := 9) (v := ?_) rfl (by kernel_rfl) (by kernel_rfl) (by kernel_rfl) (fun _ _ _ h => h) (Or.inl ⟨by rfl, ?_⟩) (by assumption) ?_
                   rotate_left
                   · (intro W hW; obtain ⟨e0, e1, e2, e3, e4, e5⟩ := act_cells hW; go_simp; try (with_reducible rfl)))
                | (refine wpAnyH_take (i := 9) (v := undef) rfl (by kernel_rfl) (by kernel_rfl) (by kernel_rfl) (fun _ _ _ h => h) (Or.inr ⟨by rfl, rfl⟩) (by assumption) ?_)
              try simp only [List.getElem_toArray, List.getElem_cons_zero, List.getElem_cons_succ, Act.put, List.setIfInBounds_toArray, List.set_cons_zero, List.set_cons_succ]
              refine wpAnyH_done (by kernel_rfl) ?_ _
              have H_hF6 := Lib.hid hF6
              clear hF6
              go_wp2_with fail
              go_meet
              exact H_hF6.out
          have hrem' : (nm.toList == [114, 101, 109, 111, 118, 101]) = false := by simpa using hrem
          clear hrem
          by_cases hmov : (nm.toList == [109, 111, 118, 101]) = true
          · as_aux_lemma =>
              go_upto_region 30 with fail
              have hIg := H_hIA.out.keep (Below.refl _ wA).drew
              refine wp_region_held_drew (S := fun W => W.heap[wo.heap.size]? = some (actO nm id dst at' s4 s5)) (by kernel_rfl) hIg.two.box.2.1 (fun hHeld => ?_)
              generalize wA.drew = wg at hHeld hIg ⊢
              have cP := p_mov ea id dst at' hIg (H_hGI.out wg hIg.two.bel) xi xt xa
              have H_hIg := Lib.hid hIg
              clear hIg
              have H_cP := Lib.hid cP
              clear cP
              first
                | (refine wpAnyH_take (i := 0) (v := ?_) rfl (by kernel_rfl) (by kernel_rfl) (by kernel_rfl) (fun _ _ _ h => h) (Or.inl ⟨by rfl, ?_⟩) (by assumption) ?_
                   rotate_left
                   · (intro W hW; obtain ⟨e0, e1, e2, e3, e4, e5⟩ := act_cells hW; go_simp; try (with_reducible rfl)))
                | (refine wpAnyH_take (i := 0) (v := undef) rfl (by kernel_rfl) (by kernel_rfl) (by kernel_rfl) (fun _ _ _ h => h) (Or.inr ⟨by rfl, rfl⟩) (by assumption) ?_)
              try simp only [List.getElem_toArray, List.getElem_cons_zero, List.getElem_cons_succ, Act.put, List.setIfInBounds_toArray, List.set_cons_zero, List.set_cons_succ]
              first
                | (refine wpAnyH_take (i := 1) (v := ?_) rfl (by kernel_rfl) (by kernel_rfl) (by kernel_rfl) (fun _ _ _ h => h) (Or.inl ⟨by rfl, ?_⟩) (by assumption) ?_
                   rotate_left
                   · (intro W hW; obtain ⟨e0, e1, e2, e3, e4, e5⟩ := act_cells hW; go_simp; try (with_reducible rfl)))
                | (refine wpAnyH_take (i := 1) (v := undef) rfl (by kernel_rfl) (by kernel_rfl) (by kernel_rfl) (fun _ _ _ h => h) (Or.inr ⟨by rfl, rfl⟩) (by assumption) ?_)
              try simp only [List.getElem_toArray, List.getElem_cons_zero, List.getElem_cons_succ, Act.put, List.setIfInBounds_toArray, List.set_cons_zero, List.set_cons_succ]
              first
                | (refine wpAnyH_take (i := 2) (v := ?_) rfl (by kernel_rfl) (by kernel_rfl) (by kernel_rfl) (fun _ _ _ h => h) (Or.inl ⟨by rfl, ?_⟩) (by assumption) ?_
                   rotate_left
                   · (intro W hW; obtain ⟨e0, e1, e2, e3, e4, e5⟩ := act_cells hW; go_simp; try (with_reducible rfl)))
                | (refine wpAnyH_take (i := 2) (v := undef) rfl (by kernel_rfl) (by kernel_rfl) (by kernel_rfl) (fun _ _ _ h => h) (Or.inr ⟨by rfl, rfl⟩) (by assumption) ?_)
              try simp only [List.getElem_toArray, List.getElem_cons_zero, List.getElem_cons_succ, Act.put, List.setIfInBounds_toArray, List.set_cons_zero, List.set_cons_succ]
              first
                | (refine wpAnyH_take (i := 3) (v := ?_) rfl (by kernel_rfl) (by kernel_rfl) (by kernel_rfl) (fun _ _ _ h => h) (Or.inl ⟨by rfl, ?_⟩) (by assumption) ?_
                   rotate_left
                   · (intro W hW; obtain ⟨e0, e1, e2, e3, e4, e5⟩ := act_cells hW; go_simp; try (with_reducible rfl)))
                | (refine wpAnyH_take (i := 3) (v := undef) rfl (by kernel_rfl) (by kernel_rfl) (by kernel_rfl) (fun _ _ _ h => h) (Or.inr ⟨by rfl, rfl⟩) (by assumption) ?_)
              try simp only [List.getElem_toArray, List.getElem_cons_zero, List.getElem_cons_succ, Act.put, List.setIfInBounds_toArray, List.set_cons_zero, List.set_cons_succ]
              first
                | (refine wpAnyH_take (i := 4) (v := ?_) rfl (by kernel_rfl) (by kernel_rfl) (by kernel_rfl) (fun _ _ _ h => h) (Or.inl ⟨by rfl, ?_⟩) (by assumption) ?_
                   rotate_left
                   · (intro W hW; obtain ⟨e0, e1, e2, e3, e4, e5⟩ := act_cells hW; go_simp; try (with_reducible rfl)))
                | (refine wpAnyH_take (i := 4) (v := undef) rfl (by kernel_rfl) (by kernel_rfl) (by kernel_rfl) (fun _ _ _ h => h) (Or.inr ⟨by rfl, rfl⟩) (by assumption) ?_)
              try simp only [List.getElem_toArray, List.getElem_cons_zero, List.getElem_cons_succ, Act.put, List.setIfInBounds_toArray, List.set_cons_zero, List.set_cons_succ]
              first
                | (refine wpAnyH_take (i := 5) (v := ?_) rfl (by kernel_rfl) (by kernel_rfl) (by kernel_rfl) (fun _ _ _ h => h) (Or.inl ⟨by rfl, ?_⟩) (by assumption) ?_
                   rotate_left
                   · (intro W hW; obtain ⟨e0, e1, e2, e3, e4, e5⟩ := act_cells hW; go_simp; try (with_reducible rfl)))
                | (refine wpAnyH_take (i := 5) (v := undef) rfl (by kernel_rfl) (by kernel_rfl) (by kernel_rfl) (fun _ _ _ h => h) (Or.inr ⟨by rfl, rfl⟩) (by assumption) ?_)
              try simp only [List.getElem_toArray, List.getElem_cons_zero, List.getElem_cons_succ, Act.put, List.setIfInBounds_toArray, List.set_cons_zero, List.set_cons_succ]
              first
                | (refine wpAnyH_take (i := 6) (v := ?_) rfl (by kernel_rfl) (by kernel_rfl) (by kernel_rfl) (fun _ _ _ h => h) (Or.inl ⟨by rfl, ?_⟩) (by assumption) ?_
                   rotate_left
                   · (intro W hW; obtain ⟨e0, e1, e2, e3, e4, e5⟩ := act_cells hW; go_simp; try (with_reducible rfl)))
                | (refine wpAnyH_take (i := 6) (v := undef) rfl (by kernel_rfl) (by kernel_rfl) (by kernel_rfl) (fun _ _ _ h => h) (Or.inr ⟨by rfl, rfl⟩) (by assumption) ?_)
              try simp only [List.getElem_toArray, List.getElem_cons_zero, List.getElem_cons_succ, Act.put, List.setIfInBounds_toArray, List.set_cons_zero, List.set_cons_succ]
              first
                | (refine wpAnyH_take (i := 8) (v := ?_) rfl (by kernel_rfl) (by kernel_rfl) (by kernel_rfl) (fun _ _ _ h => h) (Or.inl ⟨by rfl, ?_⟩) (by assumption) ?_
                   rotate_left
                   · (intro W hW; obtain ⟨e0, e1, e2, e3, e4, e5⟩ := act_cells hW; go_simp; try (with_reducible rfl)))
                | (refine wpAnyH_take (i := 8) (v := undef) rfl (by kernel_rfl) (by kernel_rfl) (by kernel_rfl) (fun _ _ _ h => h) (Or.inr ⟨by rfl, rfl⟩) (by assumption) ?_)
              try simp only [List.getElem_toArray, List.getElem_cons_zero, List.getElem_cons_succ, Act.put, List.setIfInBounds_toArray, List.set_cons_zero, List.set_cons_succ]
              first
                | (refine wpAnyH_take (i := 9) (v := ?_) rfl (by kernel_rfl) (by kernel_rfl) (by kernel_rfl) (fun _ _ _ h => h) (Or.inl ⟨by rfl, ?_⟩) (by assumption) ?_
                   rotate_left
                   · (intro W hW; obtain ⟨e0, e1, e2, e3, e4, e5⟩ := act_cells hW; go_simp; try (with_reducible rfl)))
                | (refine wpAnyH_take (i := 9) (v := undef) rfl (by kernel_rfl) (by kernel_rfl) (by kernel_rfl) (fun _ _ _ h => h) (Or.inr ⟨by rfl, rfl⟩) (by assumption) ?_)
              try simp only [List.getElem_toArray, List.getElem_cons_zero, List.getElem_cons_succ, Act.put, List.setIfInBounds_toArray, List.set_cons_zero, List.set_cons_succ]
              first
                | (refine wpAnyH_take (i := 10) (v := ?_) rfl (by kernel_rfl) (by kernel_rfl) (by kernel_rfl) (fun _ _ _ h => h) (Or.inl ⟨by rfl, ?_⟩) (by assumption) ?_
                   rotate_left
                   · (intro W hW; obtain ⟨e0, e1, e2, e3, e4, e5⟩ := act_cells hW; go_simp; try (with_reducible rfl)))
                | (refine wpAnyH_take (i := 10) (v := undef) rfl (by kernel_rfl) (by kernel_rfl) (by kernel_rfl) (fun _ _ _ h => h) (Or.inr ⟨by rfl, rfl⟩) (by assumption) ?_)
              try simp only [List.getElem_toArray, List.getElem_cons_zero, List.getElem_cons_succ, Act.put, List.setIfInBounds_toArray, List.set_cons_zero, List.set_cons_succ]
              first
                | (refine wpAnyH_take (i := 11) (v := ?_) rfl (by kernel_rfl) (by kernel_rfl) (by kernel_rfl) (fun _ _ _ h => h) (Or.inl ⟨by rfl, ?_⟩) (by assumption) ?_
                   rotate_left
                   · (intro W hW; obtain ⟨e0, e1, e2, e3, e4, e5⟩ := act_cells hW; go_simp; try (with_reducible rfl)))
                | (refine wpAnyH_take (i := 11) (v := undef) rfl (by kernel_rfl) (by kernel_rfl) (by kernel_rfl) (fun _ _ _ h => h) (Or.inr ⟨by rfl, rfl⟩) (by assumption) ?_)
              try simp only [List.getElem_toArray, List.getElem_cons_zero, List.getElem_cons_succ, Act.put, List.setIfInBounds_toArray, List.set_cons_zero, List.set_cons_succ]
              first
                | (refine wpAnyH_take (i := 12) (v := ?_) rfl (by kernel_rfl) (by kernel_rfl) (by kernel_rfl) (fun _ _ _ h => h) (Or.inl ⟨by rfl, ?_⟩) (by assumption) ?_
                   rotate_left
                   · (intro W hW; obtain ⟨e0, e1, e2, e3, e4, e5⟩ := act_cells hW; go_simp; try (with_reducible rfl)))
                | (refine wpAnyH_take (i := 12) (v := undef) rfl (by kernel_rfl) (by kernel_rfl) (by kernel_rfl) (fun _ _ _ h => h) (Or.inr ⟨by rfl, rfl⟩) (by assumption) ?_)
              try simp only [List.getElem_toArray, List.getElem_cons_zero, List.getElem_cons_succ, Act.put, List.setIfInBounds_toArray, List.set_cons_zero, List.set_cons_succ]
              first
                | (refine wpAnyH_take (i := 13) (v := ?_) rfl (by kernel_rfl) (by kernel_rfl) (by kernel_rfl) (fun _ _ _ h => h) (Or.inl ⟨by rfl, ?_⟩) (by assumption) ?_
                   rotate_left
                   · (intro W hW; obtain ⟨e0, e1, e2, e3, e4, e5⟩ := act_cells hW; go_simp; try (with_reducible rfl)))
                | (refine wpAnyH_take (i := 13) (v := undef) rfl (by kernel_rfl) (by kernel_rfl) (by kernel_rfl) (fun _ _ _ h => h) (Or.inr ⟨by rfl, rfl⟩) (by assumption) ?_)
              try simp only [List.getElem_toArray, List.getElem_cons_zero, List.getElem_cons_succ, Act.put, List.setIfInBounds_toArray, List.set_cons_zero, List.set_cons_succ]
              first
                | (refine wpAnyH_take (i := 14) (v := ?_) rfl (by kernel_rfl) (by kernel_rfl) (by kernel_rfl) (fun _ _ _ h => h) (Or.inl ⟨by rfl, ?_⟩) (by assumption) ?_
                   rotate_left
                   · (intro W hW; obtain ⟨e0, e1, e2, e3, e4, e5⟩ := act_cells hW; go_simp; try (with_reducible rfl)))
                | (refine wpAnyH_take (i := 14) (v := undef) rfl (by kernel_rfl) (by kernel_rfl) (by kernel_rfl) (fun _ _ _ h => h) (Or.inr ⟨by rfl, rfl⟩) (by assumption) ?_)
              try simp only [List.getElem_toArray, List.getElem_cons_zero, List.getElem_cons_succ, Act.put, List.setIfInBounds_toArray, List.set_cons_zero, List.set_cons_succ]
              refine wpAnyH_ready (rs := [7]) (by kernel_rfl) (by simp) ?_
              refine AllReadyH.cons rfl (fun K hK => ?_) AllReadyH.nil
              go_simp
              go_at_call 16
              refine (H_cP.out).mono ?_
              rintro _ w4 ⟨rfl, hH⟩
              clear hHeld
              refine hK.out _ _ hH.box (fun hHeld => ?_)
              clear hK K
              try simp only [List.getElem_toArray, List.getElem_cons_zero, List.getElem_cons_succ, Act.put, List.setIfInBounds_toArray, List.set_cons_zero, List.set_cons_succ]
              have cR := r_mov id dst at' H_hIg.out hk60 hH 
              clear H_cP
              have H_cR := Lib.hid cR
              clear cR
              have H_hH := Lib.hid hH
              clear hH
              refine wpAnyH_ready (rs := [15]) (by kernel_rfl) (by simp) ?_
              refine AllReadyH.cons rfl (fun K hK => ?_) AllReadyH.nil
              go_simp
              go_at_call 17
              refine (H_cR.out).mono ?_
              rintro _ w5 ⟨rfl, hF⟩
              clear hHeld
              refine hK.out _ _ hF.box (fun hHeld => ?_)
              clear hK K
              try simp only [List.getElem_toArray, List.getElem_cons_zero, List.getElem_cons_succ, Act.put, List.setIfInBounds_toArray, List.set_cons_zero, List.set_cons_succ]
              have cC := coded1_t ea _ w5 (movC_le E d id dst at') (H_hSI.out w5 hF.bel)
              clear H_cR
              have H_hF := Lib.hid hF
              clear hF
              have H_cC := Lib.hid cC
              clear cC
              refine wpAnyH_ready (rs := [16]) (by kernel_rfl) (by simp) ?_
              refine AllReadyH.cons rfl (fun K hK => ?_) AllReadyH.nil
              go_simp
              go_at_call 13
              refine (H_cC.out).mono ?_
              rintro _ w6 ⟨rfl, hb⟩
              have hF6 := H_hF.out.keep hb
              clear hHeld hb
              refine hK.out _ _ hF6.box (fun hHeld => ?_)
              clear hK K
              try simp only [List.getElem_toArray, List.getElem_cons_zero, List.getElem_cons_succ, Act.put, List.setIfInBounds_toArray, List.set_cons_zero, List.set_cons_succ]
              first
                | (refine wpAnyH_take (i := 17) (v := ?_) rfl (by kernel_rfl) (by kernel_rfl) (by kernel_rfl) (fun _ _ _ h => h) (Or.inl ⟨by rfl, ?_⟩) (by assumption) ?_
                   rotate_left
                   · (intro W hW; obtain ⟨e0, e1, e2, e3, e4, e5⟩ := act_cells hW; go_simp; try (with_reducible rfl)))
                | (refine wpAnyH_take (i := 17) (v := undef) rfl (by kernel_rfl) (by kernel_rfl) (by kernel_rfl) (fun _ _ _ h => h) (Or.inr ⟨by rfl, rfl⟩) (by assumption) ?_)
              try simp only [List.getElem_toArray, List.getElem_cons_zero, List.getElem_cons_succ, Act.put, List.setIfInBounds_toArray, List.set_cons_zero, List.set_cons_succ]
              refine wpAnyH_done (by kernel_rfl) ?_ _
              have H_hF6 := Lib.hid hF6
              clear hF6
              go_wp2_with fail
              go_meet
              exact H_hF6.out
          have hmov' : (nm.toList == [109, 111, 118, 101]) = false := by simpa using hmov
          clear hmov
          by_cases hset : (nm.toList == [115, 101, 116]) = true
          · as_aux_lemma =>
              go_upto_region 33 with fail
              have hIg := H_hIA.out.keep (Below.refl _ wA).drew
              refine wp_region_held_drew (S := fun W => W.heap[wo.heap.size]? = some (actO nm id dst at' s4 s5)) (by kernel_rfl) hIg.two.box.2.1 (fun hHeld => ?_)
              generalize wA.drew = wg at hHeld hIg ⊢
              have cP := p_set ea id s4 s5 hIg (H_hGI.out wg hIg.two.bel) xi
              have H_hIg := Lib.hid hIg
              clear hIg
              have H_cP := Lib.hid cP
              clear cP
              first
                | (refine wpAnyH_take (i := 0) (v := ?_) rfl (by kernel_rfl) (by kernel_rfl) (by kernel_rfl) (fun _ _ _ h => h) (Or.inl ⟨by rfl, ?_⟩) (by assumption) ?_
                   rotate_left
                   · (intro W hW; obtain ⟨e0, e1, e2, e3, e4, e5⟩ := act_cells hW; go_simp; try (with_reducible rfl)))
                | (refine wpAnyH_take (i := 0) (v := undef) rfl (by kernel_rfl) (by kernel_rfl) (by kernel_rfl) (fun _ _ _ h => h) (Or.inr ⟨by rfl, rfl⟩) (by assumption) ?_)
              try simp only [List.getElem_toArray, List.getElem_cons_zero, List.getElem_cons_succ, Act.put, List.setIfInBounds_toArray, List.set_cons_zero, List.set_cons_succ]
              first
                | (refine wpAnyH_take (i := 1) (v := ?_) rfl (by kernel_rfl) (by kernel_rfl) (by kernel_rfl) (fun _ _ _ h => h) (Or.inl ⟨by rfl, ?_⟩) (by assumption) ?_
                   rotate_left
                   · (intro W hW; obtain ⟨e0, e1, e2, e3, e4, e5⟩ := act_cells hW; go_simp; try (with_reducible rfl)))
                | (refine wpAnyH_take (i := 1) (v := undef) rfl (by kernel_rfl) (by kernel_rfl) (by kernel_rfl) (fun _ _ _ h => h) (Or.inr ⟨by rfl, rfl⟩) (by assumption) ?_)
              try simp only [List.getElem_toArray, List.getElem_cons_zero, List.getElem_cons_succ, Act.put, List.setIfInBounds_toArray, List.set_cons_zero, List.set_cons_succ]
              first
                | (refine wpAnyH_take (i := 2) (v := ?_) rfl (by kernel_rfl) (by kernel_rfl) (by kernel_rfl) (fun _ _ _ h => h) (Or.inl ⟨by rfl, ?_⟩) (by assumption) ?_
                   rotate_left
                   · (intro W hW; obtain ⟨e0, e1, e2, e3, e4, e5⟩ := act_cells hW; go_simp; try (with_reducible rfl)))
                | (refine wpAnyH_take (i := 2) (v := undef) rfl (by kernel_rfl) (by kernel_rfl) (by kernel_rfl) (fun _ _ _ h => h) (Or.inr ⟨by rfl, rfl⟩) (by assumption) ?_)
              try simp only [List.getElem_toArray, List.getElem_cons_zero, List.getElem_cons_succ, Act.put, List.setIfInBounds_toArray, List.set_cons_zero, List.set_cons_succ]
              first
                | (refine wpAnyH_take (i := 3) (v := ?_) rfl (by kernel_rfl) (by kernel_rfl) (by kernel_rfl) (fun _ _ _ h => h) (Or.inl ⟨by rfl, ?_⟩) (by assumption) ?_
                   rotate_left
                   · (intro W hW; obtain ⟨e0, e1, e2, e3, e4, e5⟩ := act_cells hW; go_simp; try (with_reducible rfl)))
                | (refine wpAnyH_take (i := 3) (v := undef) rfl (by kernel_rfl) (by kernel_rfl) (by kernel_rfl) (fun _ _ _ h => h) (Or.inr ⟨by rfl, rfl⟩) (by assumption) ?_)
              try simp only [List.getElem_toArray, List.getElem_cons_zero, List.getElem_cons_succ, Act.put, List.setIfInBounds_toArray, List.set_cons_zero, List.set_cons_succ]
              first
                | (refine wpAnyH_take (i := 4) (v := ?_) rfl (by kernel_rfl) (by kernel_rfl) (by kernel_rfl) (fun _ _ _ h => h) (Or.inl ⟨by rfl, ?_⟩) (by assumption) ?_
                   rotate_left
                   · (intro W hW; obtain ⟨e0, e1, e2, e3, e4, e5⟩ := act_cells hW; go_simp; try (with_reducible rfl)))
                | (refine wpAnyH_take (i := 4) (v := undef) rfl (by kernel_rfl) (by kernel_rfl) (by kernel_rfl) (fun _ _ _ h => h) (Or.inr ⟨by rfl, rfl⟩) (by assumption) ?_)
              try simp only [List.getElem_toArray, List.getElem_cons_zero, List.getElem_cons_succ, Act.put, List.setIfInBounds_toArray, List.set_cons_zero, List.set_cons_succ]
              first
                | (refine wpAnyH_take (i := 5) (v := ?_) rfl (by kernel_rfl) (by kernel_rfl) (by kernel_rfl) (fun _ _ _ h => h) (Or.inl ⟨by rfl, ?_⟩) (by assumption) ?_
                   rotate_left
                   · (intro W hW; obtain ⟨e0, e1, e2, e3, e4, e5⟩ := act_cells hW; go_simp; try (with_reducible rfl)))
                | (refine wpAnyH_take (i := 5) (v := undef) rfl (by kernel_rfl) (by kernel_rfl) (by kernel_rfl) (fun _ _ _ h => h) (Or.inr ⟨by rfl, rfl⟩) (by assumption) ?_)
              try simp only [List.getElem_toArray, List.getElem_cons_zero, List.getElem_cons_succ, Act.put, List.setIfInBounds_toArray, List.set_cons_zero, List.set_cons_succ]
              first
                | (refine wpAnyH_take (i := 6) (v := ?_) rfl (by kernel_rfl) (by kernel_rfl) (by kernel_rfl) (fun _ _ _ h => h) (Or.inl ⟨by rfl, ?_⟩) (by assumption) ?_
                   rotate_left
                   · (intro W hW; obtain ⟨e0, e1, e2, e3, e4, e5⟩ := act_cells hW; go_simp; try (with_reducible rfl)))
                | (refine wpAnyH_take (i := 6) (v := undef) rfl (by kernel_rfl) (by kernel_rfl) (by kernel_rfl) (fun _ _ _ h => h) (Or.inr ⟨by rfl, rfl⟩) (by assumption) ?_)
              try simp only [List.getElem_toArray, List.getElem_cons_zero, List.getElem_cons_succ, Act.put, List.setIfInBounds_toArray, List.set_cons_zero, List.set_cons_succ]
              first
                | (refine wpAnyH_take (i := 8) (v := ?_) rfl (by kernel_rfl) (by kernel_rfl) (by kernel_rfl) (fun _ _ _ h => h) (Or.inl ⟨by rfl, ?_⟩) (by assumption) ?_
                   rotate_left
                   · (intro W hW; obtain ⟨e0, e1, e2, e3, e4, e5⟩ := act_cells hW; go_simp; try (with_reducible rfl)))
                | (refine wpAnyH_take (i := 8) (v := undef) rfl (by kernel_rfl) (by kernel_rfl) (by kernel_rfl) (fun _ _ _ h => h) (Or.inr ⟨by rfl, rfl⟩) (by assumption) ?_)
              try simp only [List.getElem_toArray, List.getElem_cons_zero, List.getElem_cons_succ, Act.put, List.setIfInBounds_toArray, List.set_cons_zero, List.set_cons_succ]
              first
                | (refine wpAnyH_take (i := 9) (v := ?_) rfl (by kernel_rfl) (by kernel_rfl) (by kernel_rfl) (fun _ _ _ h => h) (Or.inl ⟨by rfl, ?_⟩) (by assumption) ?_
                   rotate_left
                   · (intro W hW; obtain ⟨e0, e1, e2, e3, e4, e5⟩ := act_cells hW; go_simp; try (with_reducible rfl)))
                | (refine wpAnyH_take (i := 9) (v := undef) rfl (by kernel_rfl) (by kernel_rfl) (by kernel_rfl) (fun _ _ _ h => h) (Or.inr ⟨by rfl, rfl⟩) (by assumption) ?_)
              try simp only [List.getElem_toArray, List.getElem_cons_zero, List.getElem_cons_succ, Act.put, List.setIfInBounds_toArray, List.set_cons_zero, List.set_cons_succ]
              first
                | (refine wpAnyH_take (i := 10) (v := ?_) rfl (by kernel_rfl) (by kernel_rfl) (by kernel_rfl) (fun _ _ _ h => h) (Or.inl ⟨by rfl, ?_⟩) (by assumption) ?_
                   rotate_left
                   · (intro W hW; obtain ⟨e0, e1, e2, e3, e4, e5⟩ := act_cells hW; go_simp; try (with_reducible rfl)))
                | (refine wpAnyH_take (i := 10) (v := undef) rfl (by kernel_rfl) (by kernel_rfl) (by kernel_rfl) (fun _ _ _ h => h) (Or.inr ⟨by rfl, rfl⟩) (by assumption) ?_)
              try simp only [List.getElem_toArray, List.getElem_cons_zero, List.getElem_cons_succ, Act.put, List.setIfInBounds_toArray, List.set_cons_zero, List.set_cons_succ]
              first
                | (refine wpAnyH_take (i := 11) (v := ?_) rfl (by kernel_rfl) (by kernel_rfl) (by kernel_rfl) (fun _ _ _ h => h) (Or.inl ⟨by rfl, ?_⟩) (by assumption) ?_
                   rotate_left
                   · (intro W hW; obtain ⟨e0, e1, e2, e3, e4, e5⟩ := act_cells hW; go_simp; try (with_reducible rfl)))
                | (refine wpAnyH_take (i := 11) (v := undef) rfl (by kernel_rfl) (by kernel_rfl) (by kernel_rfl) (fun _ _ _ h => h) (Or.inr ⟨by rfl, rfl⟩) (by assumption) ?_)
              try simp only [List.getElem_toArray, List.getElem_cons_zero, List.getElem_cons_succ, Act.put, List.setIfInBounds_toArray, List.set_cons_zero, List.set_cons_succ]
              first
                | (refine wpAnyH_take (i := 12) (v := ?_) rfl (by kernel_rfl) (by kernel_rfl) (by kernel_rfl) (fun _ _ _ h => h) (Or.inl ⟨by rfl, ?_⟩) (by assumption) ?_
                   rotate_left
                   · (intro W hW; obtain ⟨e0, e1, e2, e3, e4, e5⟩ := act_cells hW; go_simp; try (with_reducible rfl)))
                | (refine wpAnyH_take (i := 12) (v := undef) rfl (by kernel_rfl) (by kernel_rfl) (by kernel_rfl) (fun _ _ _ h => h) (Or.inr ⟨by rfl, rfl⟩) (by assumption) ?_)
              try simp only [List.getElem_toArray, List.getElem_cons_zero, List.getElem_cons_succ, Act.put, List.setIfInBounds_toArray, List.set_cons_zero, List.set_cons_succ]
              first
                | (refine wpAnyH_take (i := 13) (v := ?_) rfl (by kernel_rfl) (by kernel_rfl) (by kernel_rfl) (fun _ _ _ h => h) (Or.inl ⟨by rfl, ?_⟩) (by assumption) ?_
                   rotate_left
                   · (intro W hW; obtain ⟨e0, e1, e2, e3, e4, e5⟩ := act_cells hW; go_simp; try (with_reducible rfl)))
                | (refine wpAnyH_take (i := 13) (v := undef) rfl (by kernel_rfl) (by kernel_rfl) (by kernel_rfl) (fun _ _ _ h => h) (Or.inr ⟨by rfl, rfl⟩) (by assumption) ?_)
              try simp only [List.getElem_toArray, List.getElem_cons_zero, List.getElem_cons_succ, Act.put, List.setIfInBounds_toArray, List.set_cons_zero, List.set_cons_succ]
              first
                | (refine wpAnyH_take (i := 14) (v := ?_) rfl (by kernel_rfl) (by kernel_rfl) (by kernel_rfl) (fun _ _ _ h => h) (Or.inl ⟨by rfl, ?_⟩) (by assumption) ?_
                   rotate_left
                   · (intro W hW; obtain ⟨e0, e1, e2, e3, e4, e5⟩ := act_cells hW; go_simp; try (with_reducible rfl)))
                | (refine wpAnyH_take (i := 14) (v := undef) rfl (by kernel_rfl) (by kernel_rfl) (by kernel_rfl) (fun _ _ _ h => h) (Or.inr ⟨by rfl, rfl⟩) (by assumption) ?_)
              try simp only [List.getElem_toArray, List.getElem_cons_zero, List.getElem_cons_succ, Act.put, List.setIfInBounds_toArray, List.set_cons_zero, List.set_cons_succ]
              refine wpAnyH_ready (rs := [7]) (by kernel_rfl) (by simp) ?_
              refine AllReadyH.cons rfl (fun K hK => ?_) AllReadyH.nil
              go_simp
              go_at_call 18
              refine (H_cP.out).mono ?_
              rintro _ w4 ⟨rfl, hH⟩
              clear hHeld
              refine hK.out _ _ hH.box (fun hHeld => ?_)
              clear hK K
              try simp only [List.getElem_toArray, List.getElem_cons_zero, List.getElem_cons_succ, Act.put, List.setIfInBounds_toArray, List.set_cons_zero, List.set_cons_succ]
              have cR := r_set id s4 s5 H_hIg.out hk60 hH hn4 hn5
              clear H_cP
              have H_cR := Lib.hid cR
              clear cR
              have H_hH := Lib.hid hH
              clear hH
              refine wpAnyH_ready (rs := [15]) (by kernel_rfl) (by simp) ?_
              refine AllReadyH.cons rfl (fun K hK => ?_) AllReadyH.nil
              go_simp
              go_at_call 19
              refine (H_cR.out).mono ?_
              rintro _ w5 ⟨rfl, hF⟩
              clear hHeld
              refine hK.out _ _ hF.box (fun hHeld => ?_)
              clear hK K
              try simp only [List.getElem_toArray, List.getElem_cons_zero, List.getElem_cons_succ, Act.put, List.setIfInBounds_toArray, List.set_cons_zero, List.set_cons_succ]
              have cC := coded1_t ea _ w5 (setC_le E id s4 s5) (H_hSI.out w5 hF.bel)
              clear H_cR
              have H_hF := Lib.hid hF
              clear hF
              have H_cC := Lib.hid cC
              clear cC
              refine wpAnyH_ready (rs := [16]) (by kernel_rfl) (by simp) ?_
              refine AllReadyH.cons rfl (fun K hK => ?_) AllReadyH.nil
              go_simp
              go_at_call 13
              refine (H_cC.out).mono ?_
              rintro _ w6 ⟨rfl, hb⟩
              have hF6 := H_hF.out.keep hb
              clear hHeld hb
              refine hK.out _ _ hF6.box (fun hHeld => ?_)
              clear hK K
              try simp only [List.getElem_toArray, List.getElem_cons_zero, List.getElem_cons_succ, Act.put, List.setIfInBounds_toArray, List.set_cons_zero, List.set_cons_succ]
              first
                | (refine wpAnyH_take (i := 17) (v := ?_) rfl (by kernel_rfl) (by kernel_rfl) (by kernel_rfl) (fun _ _ _ h => h) (Or.inl ⟨by rfl, ?_⟩) (by assumption) ?_
                   rotate_left
                   · (intro W hW; obtain ⟨e0, e1, e2, e3, e4, e5⟩ := act_cells hW; go_simp; try (with_reducible rfl)))
                | (refine wpAnyH_take (i := 17) (v := undef) rfl (by kernel_rfl) (by kernel_rfl) (by kernel_rfl) (fun _ _ _ h => h) (Or.inr ⟨by rfl, rfl⟩) (by assumption) ?_)
              try simp only [List.getElem_toArray, List.getElem_cons_zero, List.getElem_cons_succ, Act.put, List.setIfInBounds_toArray, List.set_cons_zero, List.set_cons_succ]
              refine wpAnyH_done (by kernel_rfl) ?_ _
              have H_hF6 := Lib.hid hF6
              clear hF6
              go_wp2_with fail
              go_meet
              exact H_hF6.out
          have hset' : (nm.toList == [115, 101, 116]) = false := by simpa using hset
          clear hset
          as_aux_lemma =>
            go_upto_region 19 with fail
            have hIg := H_hIA.out.keep (Below.refl _ wA).drew
            refine wp_region_held_drew (S := fun W => W.heap[wo.heap.size]? = some (actO nm id dst at' s4 s5)) (by kernel_rfl) hIg.two.box.2.1 (fun hHeld => ?_)
            generalize wA.drew = wg at hHeld hIg ⊢
            have cP := p_uns ea id s4 hIg (H_hGI.out wg hIg.two.bel) xi
            have H_hIg := Lib.hid hIg
            clear hIg
            have H_cP := Lib.hid cP
            clear cP
            first
              | (refine wpAnyH_take (i := 0) (v := ?_) rfl (by kernel_rfl) (by kernel_rfl) (by kernel_rfl) (fun _ _ _ h => h) (Or.inl ⟨by rfl, ?_⟩) (by assumption) ?_
                 rotate_left
                 · (intro W hW; obtain ⟨e0, e1, e2, e3, e4, e5⟩ := act_cells hW; go_simp; try (with_reducible rfl)))
              | (refine wpAnyH_take (i := 0) (v := undef) rfl (by kernel_rfl) (by kernel_rfl) (by kernel_rfl) (fun _ _ _ h => h) (Or.inr ⟨by rfl, rfl⟩) (by assumption) ?_)
            try simp only [List.getElem_toArray, List.getElem_cons_zero, List.getElem_cons_succ, Act.put, List.setIfInBounds_toArray, List.set_cons_zero, List.set_cons_succ]
            first
              | (refine wpAnyH_take (i := 1) (v := ?_) rfl (by kernel_rfl) (by kernel_rfl) (by kernel_rfl) (fun _ _ _ h => h) (Or.inl ⟨by rfl, ?_⟩) (by assumption) ?_
                 rotate_left
                 · (intro W hW; obtain ⟨e0, e1, e2, e3, e4, e5⟩ := act_cells hW; go_simp; try (with_reducible rfl)))
              | (refine wpAnyH_take (i := 1) (v := undef) rfl (by kernel_rfl) (by kernel_rfl) (by kernel_rfl) (fun _ _ _ h => h) (Or.inr ⟨by rfl, rfl⟩) (by assumption) ?_)
            try simp only [List.getElem_toArray, List.getElem_cons_zero, List.getElem_cons_succ, Act.put, List.setIfInBounds_toArray, List.set_cons_zero, List.set_cons_succ]
            first
              | (refine wpAnyH_take (i := 2) (v := ?_) rfl (by kernel_rfl) (by kernel_rfl) (by kernel_rfl) (fun _ _ _ h => h) (Or.inl ⟨by rfl, ?_⟩) (by assumption) ?_
                 rotate_left
                 · (intro W hW; obtain ⟨e0, e1, e2, e3, e4, e5⟩ := act_cells hW; go_simp; try (with_reducible rfl)))
              | (refine wpAnyH_take (i := 2) (v := undef) rfl (by kernel_rfl) (by kernel_rfl) (by kernel_rfl) (fun _ _ _ h => h) (Or.inr ⟨by rfl, rfl⟩) (by assumption) ?_)
            try simp only [List.getElem_toArray, List.getElem_cons_zero, List.getElem_cons_succ, Act.put, List.setIfInBounds_toArray, List.set_cons_zero, List.set_cons_succ]
            first
              | (refine wpAnyH_take (i := 3) (v := ?_) rfl (by kernel_rfl) (by kernel_rfl) (by kernel_rfl) (fun _ _ _ h => h) (Or.inl ⟨by rfl, ?_⟩) (by assumption) ?_
                 rotate_left
                 · (intro W hW; obtain ⟨e0, e1, e2, e3, e4, e5⟩ := act_cells hW; go_simp; try (with_reducible rfl)))
              | (refine wpAnyH_take (i := 3) (v := undef) rfl (by kernel_rfl) (by kernel_rfl) (by kernel_rfl) (fun _ _ _ h => h) (Or.inr ⟨by rfl, rfl⟩) (by assumption) ?_)
            try simp only [List.getElem_toArray, List.getElem_cons_zero, List.getElem_cons_succ, Act.put, List.setIfInBounds_toArray, List.set_cons_zero, List.set_cons_succ]
            first
              | (refine wpAnyH_take (i := 4) (v := ?_) rfl (by kernel_rfl) (by kernel_rfl) (by kernel_rfl) (fun _ _ _ h => h) (Or.inl ⟨by rfl, ?_⟩) (by assumption) ?_
                 rotate_left
                 · (intro W hW; obtain ⟨e0, e1, e2, e3, e4, e5⟩ := act_cells hW; go_simp; try (with_reducible rfl)))
              | (refine wpAnyH_take (i := 4) (v := undef) rfl (by kernel_rfl) (by kernel_rfl) (by kernel_rfl) (fun _ _ _ h => h) (Or.inr ⟨by rfl, rfl⟩) (by assumption) ?_)
            try simp only [List.getElem_toArray, List.getElem_cons_zero, List.getElem_cons_succ, Act.put, List.setIfInBounds_toArray, List.set_cons_zero, List.set_cons_succ]
            first
              | (refine wpAnyH_take (i := 6) (v := ?_) rfl (by kernel_rfl) (by kernel_rfl) (by kernel_rfl) (fun _ _ _ h => h) (Or.inl ⟨by rfl, ?_⟩) (by assumption) ?_
                 rotate_left
                 · (intro W hW; obtain ⟨e0, e1, e2, e3, e4, e5⟩ := act_cells hW; go_simp; try (with_reducible rfl)))
              | (refine wpAnyH_take (i := 6) (v := undef) rfl (by kernel_rfl) (by kernel_rfl) (by kernel_rfl) (fun _ _ _ h => h) (Or.inr ⟨by rfl, rfl⟩) (by assumption) ?_)
            try simp only [List.getElem_toArray, List.getElem_cons_zero, List.getElem_cons_succ, Act.put, List.setIfInBounds_toArray, List.set_cons_zero, List.set_cons_succ]
            first
              | (refine wpAnyH_take (i := 7) (v := ?_) rfl (by kernel_rfl) (by kernel_rfl) (by kernel_rfl) (fun _ _ _ h => h) (Or.inl ⟨by rfl, ?_⟩) (by assumption) ?_
                 rotate_left
                 · (intro W hW; obtain ⟨e0, e1, e2, e3, e4, e5⟩ := act_cells hW; go_simp; try (with_reducible rfl)))
              | (refine wpAnyH_take (i := 7) (v := undef) rfl (by kernel_rfl) (by kernel_rfl) (by kernel_rfl) (fun _ _ _ h => h) (Or.inr ⟨by rfl, rfl⟩) (by assumption) ?_)
            try simp only [List.getElem_toArray, List.getElem_cons_zero, List.getElem_cons_succ, Act.put, List.setIfInBounds_toArray, List.set_cons_zero, List.set_cons_succ]
            first
              | (refine wpAnyH_take (i := 8) (v := ?_) rfl (by kernel_rfl) (by kernel_rfl) (by kernel_rfl) (fun _ _ _ h => h) (Or.inl ⟨by rfl, ?_⟩) (by assumption) ?_
                 rotate_left
                 · (intro W hW; obtain ⟨e0, e1, e2, e3, e4, e5⟩ := act_cells hW; go_simp; try (with_reducible rfl)))
              | (refine wpAnyH_take (i := 8) (v := undef) rfl (by kernel_rfl) (by kernel_rfl) (by kernel_rfl) (fun _ _ _ h => h) (Or.inr ⟨by rfl, rfl⟩) (by assumption) ?_)
            try simp only [List.getElem_toArray, List.getElem_cons_zero, List.getElem_cons_succ, Act.put, List.setIfInBounds_toArray, List.set_cons_zero, List.set_cons_succ]
            first
              | (refine wpAnyH_take (i := 9) (v := ?_) rfl (by kernel_rfl) (by kernel_rfl) (by kernel_rfl) (fun _ _ _ h => h) (Or.inl ⟨by rfl, ?_⟩) (by assumption) ?_
                 rotate_left
                 · (intro W hW; obtain ⟨e0, e1, e2, e3, e4, e5⟩ := act_cells hW; go_simp; try (with_reducible rfl)))
              | (refine wpAnyH_take (i := 9) (v := undef) rfl (by kernel_rfl) (by kernel_rfl) (by kernel_rfl) (fun _ _ _ h => h) (Or.inr ⟨by rfl, rfl⟩) (by assumption) ?_)
            try simp only [List.getElem_toArray, List.getElem_cons_zero, List.getElem_cons_succ, Act.put, List.setIfInBounds_toArray, List.set_cons_zero, List.set_cons_succ]
            first
              | (refine wpAnyH_take (i := 10) (v := ?_) rfl (by kernel_rfl) (by kernel_rfl) (by kernel_rfl) (fun _ _ _ h => h) (Or.inl ⟨by rfl, ?_⟩) (by assumption) ?_
                 rotate_left
                 · (intro W hW; obtain ⟨e0, e1, e2, e3, e4, e5⟩ := act_cells hW; go_simp; try (with_reducible rfl)))
              | (refine wpAnyH_take (i := 10) (v := undef) rfl (by kernel_rfl) (by kernel_rfl) (by kernel_rfl) (fun _ _ _ h => h) (Or.inr ⟨by rfl, rfl⟩) (by assumption) ?_)
            try simp only [List.getElem_toArray, List.getElem_cons_zero, List.getElem_cons_succ, Act.put, List.setIfInBounds_toArray, List.set_cons_zero, List.set_cons_succ]
            refine wpAnyH_ready (rs := [5]) (by kernel_rfl) (by simp) ?_
            refine AllReadyH.cons rfl (fun K hK => ?_) AllReadyH.nil
            go_simp
            go_at_call 20
            refine (H_cP.out).mono ?_
            rintro _ w4 ⟨rfl, hH⟩
            clear hHeld
            refine hK.out _ _ hH.box (fun hHeld => ?_)
            clear hK K
            try simp only [List.getElem_toArray, List.getElem_cons_zero, List.getElem_cons_succ, Act.put, List.setIfInBounds_toArray, List.set_cons_zero, List.set_cons_succ]
            have cR := r_uns id s4 H_hIg.out hk60 hH 
            clear H_cP
            have H_cR := Lib.hid cR
            clear cR
            have H_hH := Lib.hid hH
            clear hH
            refine wpAnyH_ready (rs := [11]) (by kernel_rfl) (by simp) ?_
            refine AllReadyH.cons rfl (fun K hK => ?_) AllReadyH.nil
            go_simp
            go_at_call 21
            refine (H_cR.out).mono ?_
            rintro _ w5 ⟨rfl, hF⟩
            clear hHeld
            refine hK.out _ _ hF.box (fun hHeld => ?_)
            clear hK K
            try simp only [List.getElem_toArray, List.getElem_cons_zero, List.getElem_cons_succ, Act.put, List.setIfInBounds_toArray, List.set_cons_zero, List.set_cons_succ]
            have cC := coded1_t ea _ w5 (unsC_le E id s4) (H_hSI.out w5 hF.bel)
            clear H_cR
            have H_hF := Lib.hid hF
            clear hF
            have H_cC := Lib.hid cC
            clear cC
            refine wpAnyH_ready (rs := [12]) (by kernel_rfl) (by simp) ?_
            refine AllReadyH.cons rfl (fun K hK => ?_) AllReadyH.nil
            go_simp
            go_at_call 13
            refine (H_cC.out).mono ?_
            rintro _ w6 ⟨rfl, hb⟩
            have hF6 := H_hF.out.keep hb
            clear hHeld hb
            refine hK.out _ _ hF6.box (fun hHeld => ?_)
            clear hK K
            try simp only [List.getElem_toArray, List.getElem_cons_zero, List.getElem_cons_succ, Act.put, List.setIfInBounds_toArray, List.set_cons_zero, List.set_cons_succ]
            first
              | (refine wpAnyH_take (i := 13) (v := ?_) rfl (by kernel_rfl) (by kernel_rfl) (by kernel_rfl) (fun _ _ _ h => h) (Or.inl ⟨by rfl, ?_⟩) (by assumption) ?_
                 rotate_left
                 · (intro W hW; obtain ⟨e0, e1, e2, e3, e4, e5⟩ := act_cells hW; go_simp; try (with_reducible rfl)))
              | (refine wpAnyH_take (i := 13) (v := undef) rfl (by kernel_rfl) (by kernel_rfl) (by kernel_rfl) (fun _ _ _ h => h) (Or.inr ⟨by rfl, rfl⟩) (by assumption) ?_)
            try simp only [List.getElem_toArray, List.getElem_cons_zero, List.getElem_cons_succ, Act.put, List.setIfInBounds_toArray, List.set_cons_zero, List.set_cons_succ]
            refine wpAnyH_done (by kernel_rfl) ?_ _
            have H_hF6 := Lib.hid hF6
            clear hF6
            go_wp2_with fail
            go_meet
            exact H_hF6.out
        case rest =>
          as_aux_lemma =>
            obtain ⟨F2, v2, lx, E2, nx2, d2, hI2⟩ := hcut.out
            have hBB : Below w.heap.size w wc := hB2.trans (hI2.two.bel.mono (Nat.le_of_lt z2))
            have hbx := fun (W : World) (hW : Below wc.heap.size wc W) => act_cells (hI2.keep hW).two.box.2.1
            obtain ⟨e0, e1, e2, e3, e4, e5⟩ := hbx wc (Below.refl _ _)
            have hRd := hI2.two.rdoc
            have hRel := hI2.two.rel
            have hlm : lx.length ≤ 1000000 := by rw [hRel.len]; have := hI2.nx; omega
            have cA := fun (W : World) (hW : Below wc.heap.size wc W) => rattr_any w4.heap.size b v2 lx id s4 W (hRd.keep hW) hlm
            cases hz : atZ E2 id with
            | none =>
              have hA : attrI s4 (lx.map ReX.re) id = -1 := by
                unfold attrI
                rw [hRel.has, show (if 0 ≤ id then elAt E2 id.toNat else none) = none from hz]; rfl
              have cP := attr_none bd nx2 id s4 F2 E2 d2 wc hI2.two.dok xi hz
              simp only [hA] at cA
              have H_hcut := Lib.hid hcut
              clear hcut
              have H_cA := Lib.hid cA
              clear cA
              have H_cP := Lib.hid cP
              clear cP
              have H_hI2 := Lib.hid hI2
              clear hI2
              have H_hRd := Lib.hid hRd
              clear hRd
              have H_hRel := Lib.hid hRel
              clear hRel
              have H_hbx := Lib.hid hbx
              clear hbx
              have H_hBB := Lib.hid hBB
              clear hBB
              have H_hz := Lib.hid hz
              clear hz
              go_wp2_with fail
              refine (H_cP.out).mono ?_
              rintro _ w7 ⟨rfl, hb7⟩
              have hb7' : Below wc.heap.size wc w7 := hb7
              clear hb7 e0 e1 e2 e3 e4 e5
              obtain ⟨e0, e1, e2, e3, e4, e5⟩ := H_hbx.out w7 hb7'
              go_wp2_with fail
              refine (H_cA.out w7 hb7').mono ?_
              rintro _ w8 ⟨rfl, hb8⟩
              have hb8' : Below wc.heap.size wc w8 := below_via hb7' hb8
              have hI8 := H_hI2.out.keep hb8'
              clear hb8
              have H_hI8 := Lib.hid hI8
              clear hI8
              go_wp2_with fail
              go_quiet (fail)
              go_wp2_with fail
              go_roundw
              case rel => exact ⟨k + 1, F2, v2, lx, E2, nx2, d2, _, _, by omega, by go_num, Lib.hid (H_hI8.out.keep (by repeat' (first | (with_reducible first | exact bwR _ _ | assumption | refine bdn ?_ | refine bwA ?_ ?_ _ | refine bwD ?_ | refine bwS ?_ ?_ _) | omega | (simp <;> omega))))⟩
              case measure => simp [intOf]; omega
            | some e =>
              obtain ⟨q, rfl, he⟩ := atZ_some hz
              obtain ⟨hnl, y1, hna, y2, y3, hni⟩ := hRel.el q e he
              clear y1 y2 y3
              have cP := attr_any bd nx2 q s4 F2 E2 d2 e wc hI2.two.dok he
              simp only [rattr_at hnl hni, hna] at cA
              cases hi : idxA s4 e.attrs with
              | none =>
                rw [attrV_idx_none hi] at cP
                simp only [hi, show optI none = -1 from rfl] at cA
                simp only [attrEnd] at cP
                clear he hna hni hnl
                have H_hcut := Lib.hid hcut
                clear hcut
                have H_cA := Lib.hid cA
                clear cA
                have H_cP := Lib.hid cP
                clear cP
                have H_hI2 := Lib.hid hI2
                clear hI2
                have H_hRd := Lib.hid hRd
                clear hRd
                have H_hRel := Lib.hid hRel
                clear hRel
                have H_hbx := Lib.hid hbx
                clear hbx
                have H_hBB := Lib.hid hBB
                clear hBB
                have H_hz := Lib.hid hz
                clear hz
                go_wp2_with fail
                refine (H_cP.out).mono ?_
                rintro _ w7 ⟨rfl, hb7⟩
                have hb7' : Below wc.heap.size wc w7 := hb7
                clear hb7 e0 e1 e2 e3 e4 e5
                obtain ⟨e0, e1, e2, e3, e4, e5⟩ := H_hbx.out w7 hb7'
                go_wp2_with fail
                refine (H_cA.out w7 hb7').mono ?_
                rintro _ w8 ⟨rfl, hb8⟩
                have hb8' : Below wc.heap.size wc w8 := below_via hb7' hb8
                have hI8 := H_hI2.out.keep hb8'
                clear hb8
                have H_hI8 := Lib.hid hI8
                clear hI8
                go_wp2_with fail
                go_quiet (fail)
                go_wp2_with fail
                go_roundw
                case rel => exact ⟨k + 1, F2, v2, lx, E2, nx2, d2, _, _, by omega, by go_num, Lib.hid (H_hI8.out.keep (by repeat' (first | (with_reducible first | exact bwR _ _ | assumption | refine bdn ?_ | refine bwA ?_ ?_ _ | refine bwD ?_ | refine bwS ?_ ?_ _) | omega | (simp <;> omega))))⟩
                case measure => simp [intOf]; omega
              | some j =>
                obtain ⟨hjl, hav⟩ := attrV_idx hi
                rw [hav] at cP
                simp only [attrEnd] at cP
                simp only [hi, show optI (some j) = (j : Int) from rfl] at cA
                obtain ⟨gd, capd, hv, y1, y2, y3, y4, y5, y6, y7⟩ := hRd.v_form hnl
                clear y1 y2 y3 y4 y5 y6 y7
                have hcell := fun (W : World) (hW : Below wc.heap.size wc W) => (hRd.keep hW).cells (g := gd) (cap := capd) (p := q) hv hnl
                have hc0 := fun (W : World) (hW : Below wc.heap.size wc W) => (hRd.keep hW).c0
                simp only [hv] at hc0
                have hs := hRd.sub _ (List.getElem_mem hnl)
                obtain ⟨ga2, ca, a1, a2, a3, a4, a5, a6⟩ := hs.ats.form.resolve_left (by rintro ⟨_, a⟩; rw [← hna, a] at hjl; simp at hjl)
                rw [hna] at a1 a6
                have hav3 : lx[q].ao = some ⟨ga2, 0, none⟩ ∧ lx[q].al = e.attrs.length ∧ lx[q].ac = ca := by unfold ReX.av at a1; injection a1 with h1 h2 h3; exact ⟨h1, h2, h3⟩
                simp only [hav3.1, hav3.2.1, hav3.2.2] at hcell
                have hrw : ∀ W, Below wc.heap.size wc W → W.cell? ⟨ga2, j * 2 + 1, none⟩ = some (.string e.attrs[j].2) := fun W hW => by
                  have h := (a6.keep hW a3) j hjl 1 _ rfl
                  rw [Nat.zero_add] at h
                  exact h
                have gq : (q : Int) < (lx.length : Int) := by omega
                have gq0 : (0 : Int) ≤ (q : Int) := by omega
                have gj : (j : Int) < (e.attrs.length : Int) := by omega
                have gj0 : (0 : Int) ≤ (j : Int) := by omega
                obtain ⟨K, hK⟩ : ∃ u, e.attrs.length = u := ⟨_, rfl⟩
                obtain ⟨L, hL⟩ : ∃ u, lx.length = u := ⟨_, rfl⟩
                obtain ⟨AV, hAV⟩ : ∃ u, e.attrs[j].2 = u := ⟨_, rfl⟩
                rw [hK] at gj
                rw [hL] at gq
                simp only [hK] at hcell
                simp only [hL] at hc0
                simp only [hAV] at hrw cP
                have hQ : ∀ W, Below wc.heap.size wc W → W.cell? ⟨wo.heap.size, 1, none⟩ = some (.int .i64 (q : Int)) ∧ W.cell? ⟨b, 0, none⟩ = some (.slice (some ⟨gd, 0, none⟩) L capd) ∧ W.cell? ⟨gd, q * 5 + 1, none⟩ = some (.slice (some ⟨ga2, 0, none⟩) K ca) ∧ W.cell? ⟨ga2, j * 2 + 1, none⟩ = some (.string AV) :=
                  fun W hW => ⟨(hbx W hW).2.1, hc0 W hW, (hcell W hW).2.1, hrw W hW⟩
                have gA : (AV.toList != AV.toList) = false := bne_self_eq_false _
                clear hcell hc0 hrw a1 a2 a3 a4 a5 a6 hav3 hs hav hv he hna hni hnl
                clear hAV
                have H_hcut := Lib.hid hcut
                clear hcut
                have H_cA := Lib.hid cA
                clear cA
                have H_cP := Lib.hid cP
                clear cP
                have H_hI2 := Lib.hid hI2
                clear hI2
                have H_hRd := Lib.hid hRd
                clear hRd
                have H_hRel := Lib.hid hRel
                clear hRel
                have H_hbx := Lib.hid hbx
                clear hbx
                have H_hBB := Lib.hid hBB
                clear hBB
                have H_hK := Lib.hid hK
                clear hK
                have H_hL := Lib.hid hL
                clear hL
                have H_hQ := Lib.hid hQ
                clear hQ
                have H_hi := Lib.hid hi
                clear hi
                have H_hz := Lib.hid hz
                clear hz
                have H_hjl := Lib.hid hjl
                clear hjl
                go_wp2_with fail
                refine (H_cP.out).mono ?_
                rintro _ w7 ⟨rfl, hb7⟩
                have hb7' : Below wc.heap.size wc w7 := hb7
                clear hb7 e0 e1 e2 e3 e4 e5
                obtain ⟨e0, e1, e2, e3, e4, e5⟩ := H_hbx.out w7 hb7'
                go_wp2_with fail
                refine (H_cA.out w7 hb7').mono ?_
                rintro _ w8 ⟨rfl, hb8⟩
                have hb8' : Below wc.heap.size wc w8 := below_via hb7' hb8
                have hI8 := H_hI2.out.keep hb8'
                clear hb8
                clear e0 e1 e2 e3 e4 e5
                obtain ⟨e1, x0, x1, x2⟩ := H_hQ.out w8 hb8'
                have H_hI8 := Lib.hid hI8
                clear hI8
                go_wp2_with fail
                go_quiet (fail)
                go_wp2_with fail
                go_roundw
                case rel => exact ⟨k + 1, F2, v2, lx, E2, nx2, d2, _, _, by omega, by go_num, Lib.hid (H_hI8.out.keep (by repeat' (first | (with_reducible first | exact bwR _ _ | assumption | refine bdn ?_ | refine bwA ?_ ?_ _ | refine bwD ?_ | refine bwS ?_ ?_ _) | omega | (simp <;> omega))))⟩
                case measure => simp [intOf]; omega
    · obtain rfl : k = len := by omega
      have cS := samedoc_any w4.heap.size b v l E next d bd F wr H_I.out.two.dok H_I.out.two.rdoc H_I.out.two.rel (by have := H_I.out.len; omega) (by have := H_I.out.nx; omega) (fun n e he => by have := (H_I.out.at_ n e he).2; omega)
      have H_cS := Lib.hid cS
      clear cS
      go_wp2_with fail
      refine (H_cS.out).mono ?_
      rintro _ w9 ⟨rfl, hb9⟩
      have hB9 : Below w.heap.size w w9 := below_via hBr hb9
      go_wp2_with fail
      go_returns
      exact ⟨rfl, hB9⟩
end Go.Proofs.YtndlmmpheecleaaGreatDoor
