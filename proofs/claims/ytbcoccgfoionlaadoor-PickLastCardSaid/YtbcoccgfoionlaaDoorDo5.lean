/-
  Walks over package doc: off, Remove.
-/
import Derived.Test.YtbcoccgfoionlaaDoorDo4
namespace Lead.Dc
open Go Go.RowKit Lead
variable {E : Els} {next : Nat} {d : Nat → Nat}
/-- n is no child of p any more. -/
def offE (E : Els) (n p : Nat) : Els := upd E p (fun e => { e with kids := offK e.kids n })
theorem Good.below_trans (g : Good E next d) {n : Nat} : ∀ (f x y : Nat), x ∈ below E 10 n → y ∈ below E f x → y ∈ below E 10 n := by
  intro f
  induction f with
  | zero => intro x y hx hy; rw [List.mem_singleton.1 hy]; exact hx
  | succ f ih =>
    intro x y hx hy
    rcases List.mem_cons.1 hy with rfl | hy
    · exact hx
    · obtain ⟨k, hk, hy⟩ := List.mem_flatMap.1 hy
      exact ih k y (g.below_kid 10 n x k (by omega) hx hk) hy
theorem offE_at (n p x : Nat) (h : x ≠ p) : elAt (offE E n p) x = elAt E x := by unfold offE; rw [elAt_upd, if_neg h]
theorem offE_kids (n p x : Nat) (h : x ≠ p) : kidsAt (offE E n p) x = kidsAt E x := by unfold kidsAt; rw [offE_at n p x h]
theorem Good.off_p (g : Good E next d) {n p : Nat} {e : El} (hn : elAt E n = some e) (h0 : n ≠ 0) (hp : e.parent = (p : Int)) : p ∉ below E 10 n ∧ ∃ pe, elAt E p = some pe ∧ n ∈ pe.kids := by
  obtain ⟨q, pe, hq, hpe, hd, hk, _⟩ := g.par hn h0
  obtain rfl : p = q := by rw [hp] at hq; exact Int.ofNat_inj.1 hq
  exact ⟨fun h => by have := (g.below_d 10 n p h).1; omega, pe, hpe, hk⟩
theorem Good.wk_off (g : Good E next d) (hl : E.length ≤ 1000000) {n p : Nat} {e : El} (hn : elAt E n = some e) (h0 : n ≠ 0) (hp : e.parent = (p : Int)) :
    Wk (offE E n p) next d (fun x => x ∈ below E 10 n) ∧ below (offE E n p) 10 n = below E 10 n := by
  obtain ⟨hpb, _⟩ := g.off_p hn h0 hp
  have hne : ∀ x ∈ below E 10 n, x ≠ p := fun x hx h => hpb (h ▸ hx)
  have hin : ∀ x ∈ below E 10 n, ∃ e, elAt E x = some e := fun x hx => g.below_in 10 n x ⟨e, hn⟩ hx
  have hbe : ∀ x ∈ below E 10 n, below (offE E n p) 10 x = below E 10 x := fun x hx => below_congr 10 x fun y hy => offE_kids n p y (hne y (g.below_trans 10 x y hx hy))
  refine ⟨⟨fun x hx => ?_, fun x hx => ?_, fun x hx k hk => ?_, fun x hx => ?_, fun x hx => ?_, fun x hx => ?_⟩, hbe n (self_below 10 n)⟩
  · rw [offE_at n p x (hne x hx)]; exact hin x hx
  · obtain ⟨ex, hex⟩ := hin x hx; exact g.lt x ex hex
  · rw [offE_kids n p x (hne x hx)] at hk
    exact ⟨g.below_kid 10 n x k (by omega) hx hk, (g.kid hk).1⟩
  · obtain ⟨ex, hex⟩ := hin x hx; exact g.dm x ex hex
  · rw [hbe x hx]
    obtain ⟨ex, hex⟩ := hin x hx
    exact Nat.le_trans (g.below_len hex) hl
  · rw [offE_kids n p x (hne x hx)]
    obtain ⟨ex, hex⟩ := hin x hx
    rw [kidsAt_some hex]
    exact Nat.le_trans (g.kids_len hex) hl
/-- Those that are not among some. -/
def notIn (E : Els) (l : List Nat) : Els := E.filter fun x => !l.contains x.1
theorem notIn_nil (E : Els) : notIn E [] = E := by unfold notIn; simp
theorem notIn_at (E : Els) (l : List Nat) (x : Nat) : elAt (notIn E l) x = if x ∈ l then none else elAt E x := by
  unfold notIn
  rw [elAt_filter (p := fun x => !l.contains x)]
  by_cases h : x ∈ l
  · rw [if_pos h, if_neg (by simp [h])]
  · rw [if_neg h, if_pos (by simp [h])]
theorem notIn_step (E : Els) (l : List Nat) (k : Nat) (hk : k < l.length) : dropE (notIn E (l.take k)) l[k] = notIn E (l.take (k + 1)) := by
  unfold dropE notIn
  rw [List.filter_filter]
  refine List.filter_congr fun x _ => ?_
  rw [List.take_succ_eq_append_getElem hk]
  simp only [List.contains_eq_mem, List.mem_append, List.mem_singleton]
  by_cases h1 : x.1 = l[k]
  · simp [h1]
  · by_cases h2 : x.1 ∈ l.take k <;> simp [h1, h2]
theorem notIn_keys {E : Els} (h : (E.map (·.1)).Nodup) (l : List Nat) : ((notIn E l).map (·.1)).Nodup := by
  unfold notIn
  exact h.sublist (List.Sublist.map _ List.filter_sublist)
variable {P : Program} {T : Tys} {w w' : World} {bd bm cnt : Nat} {pl : Nat → Plc} {F : Nat → Prop} {D : DataW Unit}
theorem Foot.drop (h : Foot w F bd bm E pl) (hs : w.heap.size ≤ w'.heap.size) (n : Nat) : Foot w' F bd bm (dropE E n) pl := by
  have old : ∀ x ex, elAt (dropE E n) x = some ex → elAt E x = some ex := fun x ex hex => by
    rw [dropE_at] at hex
    split at hex
    · cases hex
    · exact hex
  exact ⟨h.d, h.m, fun x ex hx => h.el x ex (old x ex hx), fun x ex hx => h.av x ex (old x ex hx), fun x ex hx => h.kv x ex (old x ex hx), fun k hk => Nat.lt_of_lt_of_le (h.lt k hk) hs⟩
/-- A look-up at a step of a region that draws its order. -/
theorem step_hit {ops : Array Oper} {o : Oper} {a : Act} {K : Act → World → Prop} {Q : Exit → Act → World → Prop} {X : Prop} (Kt : TysOk P T) (hgd : o.guard = none) (m x : Operand) (hop : o.op = Op.lookup T.M m x false)
    (hm : a.eval m = .map (some bm)) {n : Nat} {e : El} (hx : a.eval x = .int .i64 (n : Int)) (h : DAt P T w bd E next pl bm cnt D) (he : elAt E n = some e) (hn : I64 (n : Int))
    (hK : K (a.put o.dst (.pointer (some ⟨(pl n).blk, 0, none⟩))) w) : if Region.wanted o (yielded ops a.tmps) = true then Oper.wp P o a w K Q else X := by
  have hw : Region.wanted o (yielded ops a.tmps) = true := by simp [Region.wanted, hgd]
  rw [if_pos hw]
  obtain ⟨h1, h2⟩ := h.hit Kt he hn
  unfold Oper.wp
  simp [execOp, hop, hm, hx, h1, Result.andThen]
  exact hK
def eqN (n x : Nat) : Bool := ((x : Int) == (n : Int))
theorem off_filter (l : List Nat) (n : Nat) : (l.filter fun x => !eqN n x) = offK l n := by
  unfold offK eqN
  refine List.filter_congr fun x _ => ?_
  rw [Bool.eq_iff_iff]
  simp
  omega
end Lead.Dc
namespace Go.Proofs.YtbcoccgfoionlaaDoor
open Go.RowKit Go.WideMaps Go.Maps Lead Lead.Dc
theorem off_pred (n B : Nat) (W : World) (x : Nat) (hc : W.cell? ⟨B, 0, none⟩ = some (.int .i64 (n : Int))) :
    Go.Proofs.FnGives Tryd.prog 39 #[.pointer (some ⟨B, 0, none⟩)] #[encN x] (.bool (eqN n x)) W := by
  have hq : eqN n x = ((x : Int) == (n : Int)) := rfl
  show Calls Tryd.prog 39 #[.int .i64 (x : Int), .pointer (some ⟨B, 0, none⟩)] W _
  rw [hq]
  obtain ⟨r, hr⟩ : ∃ r, ((x : Int) == (n : Int)) = r := ⟨_, rfl⟩
  rw [hr]
  clear hq
  go_enter Tryd.func39, Tryd.ntmps39
  go_wp2_with fail
  go_returns
  exact ⟨rfl, 0, rfl⟩
theorem zInt (w : World) : (zeroValue 3).run Tryd.prog w = .ok (.int .i64 0) w := by kernel_rfl
set_option maxHeartbeats 600000 in
set_option maxRecDepth 100000 in
theorem off_any (bd next n p bm cnt : Nat) (F : Nat → Prop) (E : Els) (_d : Nat → Nat) (pl : Nat → Plc) (D : DataW Unit) (e pe : El) (w : World) (hA : DAt Tryd.prog TT w bd E next pl bm cnt D) (hF : Foot w F bd bm E pl) (he : elAt E n = some e) (hp : e.parent = (p : Int)) (hpe : elAt E p = some pe) (hk : n ∈ pe.kids) (hn : n ≤ 1000000) (hpn : p ≤ 1000000) :
    Calls Tryd.prog 25 #[.pointer (some ⟨bd, 0, none⟩), .int .i64 (n : Int)] w fun en w' => en = .returned (.tuple #[]) ∧ ∃ (kv' : Value) (F' : Nat → Prop), (∀ k, F' k → F k ∨ w.heap.size ≤ k) ∧
      DAt Tryd.prog TT w' bd (Dc.upd E p (fun _ => { pe with kids := offK pe.kids n })) next (fun x => if x = p then ⟨(pl p).blk, (pl p).av, kv'⟩ else pl x) bm cnt D ∧
      Foot w' F' bd bm (Dc.upd E p (fun _ => { pe with kids := offK pe.kids n })) (fun x => if x = p then ⟨(pl p).blk, (pl p).av, kv'⟩ else pl x) ∧ Turn F w w' := by
  have hnI : I64 (n : Int) := i64_nat (by omega)
  have hpI : I64 (p : Int) := i64_nat (by omega)
  have zw := hA.ltD
  obtain ⟨w1, hw1⟩ : ∃ u, w.alloc (.cells #[.int .i64 (n : Int)] 3) = u := ⟨_, rfl⟩
  have hB1 : Below w.heap.size w w1 := by rw [← hw1]; exact (Below.refl _ _).alloc (Nat.le_refl _) _
  have hz1 : w1.heap.size = w.heap.size + 1 := by rw [← hw1]; simp
  have hbox : w1.heap[w.heap.size]? = some (.cells #[.int .i64 (n : Int)] 3 (0, 0)) := by rw [← hw1]; exact heap_alloc_new _ _
  have hA1 := hA.keep hB1
  have c0 := hA1.c0
  have b0 : w1.cell? ⟨w.heap.size, 0, none⟩ = some (.int .i64 (n : Int)) := hcell hbox rfl
  have hn1 := hA1.els n e he
  have e2 := hn1.e2
  rw [hp] at e2
  have hp1 := hA1.els p pe hpe
  have e3 := hp1.e3
  have y3 := hp1.fr 3
  obtain ⟨o3, l3, k3, hkv3, hS3⟩ := hp1.kids.sl
  rw [hkv3] at e3
  have hl0 : 0 < pe.kids.length := List.length_pos_of_mem hk
  have hF1 := hF.keep (w' := w1) hB1.size
  obtain rfl : l3 = pe.kids.length := hS3.1
  have H_hA := Lib.hid hA
  clear hA
  have H_hF := Lib.hid hF
  clear hF
  have H_he := Lib.hid he
  clear he
  have H_hpe := Lib.hid hpe
  clear hpe
  have H_hnI := Lib.hid hnI
  clear hnI
  have H_hpI := Lib.hid hpI
  clear hpI
  have H_hA1 := Lib.hid hA1
  clear hA1
  have H_hn1 := Lib.hid hn1
  clear hn1
  have H_hp1 := Lib.hid hp1
  clear hp1
  have H_hkv3 := Lib.hid hkv3
  clear hkv3
  have H_hS3 := Lib.hid hS3
  clear hS3
  have H_hF1 := Lib.hid hF1
  clear hF1
  have H_hbox := Lib.hid hbox
  clear hbox
  have H_hB1 := Lib.hid hB1
  clear hB1
  have H_hp := Lib.hid hp
  clear hp
  have H_hw1 := Lib.hid hw1
  clear hw1
  go_enter Tryd.func25, Tryd.ntmps25
  go_wp2_with fail
  rw [H_hw1.out]
  have hAd := H_hA1.out.keep (Below.refl w1.heap.size w1).drew
  have hl1 : (Instr.lookup 61 (.map (some bm)) (.int .i64 (n : Int)) false).run Tryd.prog w1.drew = .ok (.pointer (some ⟨(pl n).blk, 0, none⟩)) w1.drew := (hAd.hit TK H_he.out H_hnI.out).1
  have hl2 : (Instr.lookup 61 (.map (some bm)) (.int .i64 (p : Int)) false).run Tryd.prog w1.drew = .ok (.pointer (some ⟨(pl p).blk, 0, none⟩)) w1.drew := (hAd.hit TK H_hpe.out H_hpI.out).1
  have H_hAd := Lib.hid hAd
  clear hAd
  go_region
  all_goals
    clear hl1 hl2
    go_wp2_with fail
    have hB2 : Below w1.heap.size w1 w1.drew := (Below.refl _ _).drew
    refine (del_any (ρ := Tryd.dfI_ren) Tryd.dfI (base := 0) (kids := pe.kids) (p := eqN n) (g0 := 39) (lb := #[.pointer (some ⟨w.heap.size, 0, none⟩)]) (t := 3) (enters_of Tryd.func39 (by kernel_rfl) rfl) zInt (kv := .slice o3 pe.kids.length k3) (by have h := H_hp1.out.kids; rw [H_hkv3.out] at h; exact h.keep hB2) hl0 ?hp).mono ?_
    case hp =>
      intro W' x hW
      refine off_pred n w.heap.size W' x ?_
      have h := hW w.heap.size (by show w.heap.size < w1.heap.size; omega) (fun hb => by
        have h2 := H_hp1.out.kids
        rw [H_hkv3.out] at h2
        obtain ⟨_, _, cur, hc⟩ := (show OwnQ EIn w 0 3 (.slice o3 pe.kids.length k3) pe.kids by have h3 := (H_hA.out.els p pe H_hpe.out).kids; rw [H_hkv3.out] at h3; exact h3).rowB hb
        exact absurd (hlt hc) (Nat.lt_irrefl _))
      exact hcell (h.trans H_hbox.out) rfl
    rintro _ w3 ⟨v3, rfl, hv3, hrt, hvb⟩
    obtain ⟨o7, l7, c7, rfl⟩ := own_form hv3
    rw [off_filter] at hv3
    have z3 : w1.heap.size ≤ w3.heap.size := hrt.size
    have hw3 : ∀ j, j < w1.heap.size → rowB (.slice o3 pe.kids.length k3) ≠ some j → w3.heap[j]? = w1.heap[j]? := fun j hj hn => hrt.block j hj hn
    have hq := H_hp1.out.kids
    rw [H_hkv3.out] at hq
    have hbne : rowB (.slice o3 pe.kids.length k3) ≠ some (pl p).blk := fun hb => by
      obtain ⟨_, _, cur, hcq⟩ := hq.rowB hb
      exact H_hp1.out.blk_ne hcq TK.h5 rfl
    have hcq := H_hp1.out.cell
    rw [← hw3 _ H_hp1.out.lt hbne] at hcq
    have e3_3 : w3.cell? ⟨(pl p).blk, 3, none⟩ = some (pl p).kv := hcell hcq rfl
    have y3_3 : w3.frozen? ⟨(pl p).blk, 3, none⟩ = false := hfree hcq
    have hfin := H_hA1.out.kids TK H_hF1.out H_hpe.out (w1 := w3) (v' := .slice o7 l7 c7) (l' := offK pe.kids n) ⟨hrt.os, hrt.tape, hrt.output⟩ z3 (fun j hj hn => hw3 j hj (by rw [← H_hkv3.out]; exact hn)) hv3 (fun b hb => by rw [H_hkv3.out]; exact hvb b hb)
    have hvlt : ∀ b, rowB (.slice o7 l7 c7) = some b → F b ∨ w.heap.size ≤ b := fun b hb => by
      rcases hvb b hb with h | h
      · exact .inl (H_hF.out.kv p pe H_hpe.out b (by rw [H_hkv3.out]; exact h))
      · right
        have : w1.heap.size ≤ b := h
        omega
    clear hcq hw3 hrt hvb hv3 hq
    have H_hfin := Lib.hid hfin
    clear hfin
    have H_hvlt := Lib.hid hvlt
    clear hvlt
    go_wp2_with fail
    go_returns
    refine ⟨rfl, .slice o7 l7 c7, _, fun j hj => ?_, H_hfin.out.1, H_hfin.out.2.1, ((Turn.of_below H_hB1.out).goOn H_hfin.out.2.2 (fun j hj => .inl hj))⟩
    rcases hj with h | h
    · exact .inl h
    · exact H_hvlt.out j h
/-- Remove's errors. -/
def ErrIs (T : TypeId) (ea : Nat → Addr) (c : Nat) (w : World) (en : Ending) (w' : World) : Prop := en = .returned (.iface T (.pointer (some (ea c)))) ∧ Below w.heap.size w w'
set_option maxHeartbeats 1000000 in
theorem rem_none (ea : Nat → Addr) (bd next : Nat) (z : Int) (F : Nat → Prop) (E : Els) (d : Nat → Nat) (w : World) (hD : DokG Tryd.prog TT w bd F E next d) (hG : DGs ea w) (hz : I64 z) (h : atZ E z = none) :
    Calls Tryd.prog 9 #[.pointer (some ⟨bd, 0, none⟩), .int .i64 z] w (ErrIs 168 ea 5 w) := by
  have hNone := hG.c5
  have zhNone := zlt hNone
  have xhNone := zlts hNone
  have yhNone := zne hNone
  obtain ⟨⟨pl, bm, cnt, D, hA, hc, hF⟩, hg, hbig, hlen⟩ := hD
  have c0 := hA.c0
  have hm := atZ_none h
  have H_hA := Lib.hid hA
  clear hA
  have H_hm := Lib.hid hm
  clear hm
  have H_h := Lib.hid h
  clear h
  have H_hz := Lib.hid hz
  clear hz
  have H_hG := Lib.hid hG
  clear hG
  clear hc hF hg
  go_enter Tryd.func9, Tryd.ntmps9
  go_wp2_with (at_lookup; refine wp_miss_ok (T := TT) TK rfl _ _ rfl rfl rfl H_hA.out H_hm.out H_hz.out ?_)
  go_returns
  exact ⟨rfl, by repeat' (first | (with_reducible first | exact bwR _ _ | assumption | refine bdn ?_ | refine bwA ?_ ?_ _ | refine bwD ?_ | refine bwS ?_ ?_ _) | omega | (simp <;> omega))⟩
set_option maxHeartbeats 1000000 in
theorem rem_root (ea : Nat → Addr) (bd next : Nat) (F : Nat → Prop) (E : Els) (d : Nat → Nat) (w : World) (hD : DokG Tryd.prog TT w bd F E next d) (hG : DGs ea w) :
    Calls Tryd.prog 9 #[.pointer (some ⟨bd, 0, none⟩), .int .i64 0] w (ErrIs 168 ea 3 w) := by
  have hShape := hG.c3
  have zhShape := zlt hShape
  have xhShape := zlts hShape
  have yhShape := zne hShape
  obtain ⟨⟨pl, bm, cnt, D, hA, hc, hF⟩, hg, hbig, hlen⟩ := hD
  have c0 := hA.c0
  obtain ⟨e, he, _⟩ := hg.root
  have hnI : I64 ((0 : Nat) : Int) := i64_nat (by omega)
  have H_hA := Lib.hid hA
  clear hA
  have H_hG := Lib.hid hG
  clear hG
  have H_he := Lib.hid he
  clear he
  have H_hnI := Lib.hid hnI
  clear hnI
  clear hc hF hg
  go_enter Tryd.func9, Tryd.ntmps9
  go_wp2_with (at_lookup; refine wp_hit_ok (T := TT) (n := 0) TK rfl _ _ rfl rfl rfl H_hA.out H_he.out H_hnI.out ?_)
  go_returns
  exact ⟨rfl, by repeat' (first | (with_reducible first | exact bwR _ _ | assumption | refine bdn ?_ | refine bwA ?_ ?_ _ | refine bwD ?_ | refine bwS ?_ ?_ _) | omega | (simp <;> omega))⟩
set_option maxHeartbeats 2000000 in
set_option maxRecDepth 100000 in
theorem rem_ok (_ea : Nat → Addr) (bd next n p : Nat) (F : Nat → Prop) (E : Els) (d : Nat → Nat) (e : El) (w : World) (hD : DokG Tryd.prog TT w bd F E next d) (he : elAt E n = some e) (h0 : n ≠ 0) (hp : e.parent = (p : Int)) :
    Calls Tryd.prog 9 #[.pointer (some ⟨bd, 0, none⟩), .int .i64 (n : Int)] w fun en w' => en = .returned .nilIface ∧ Became Tryd.prog TT w w' bd F (removeE E n p) next := by
  obtain ⟨⟨pl, bm, cnt, D, hA, hc, hF⟩, hg, hbig, hlen⟩ := hD
  have c0 := hA.c0
  obtain ⟨hpb, pe, hpe, hk⟩ := hg.off_p he h0 hp
  have hnn : n < next := hg.lt n e he
  have hpn : p < next := hg.lt p pe hpe
  have hnI : I64 (n : Int) := i64_nat (by omega)
  obtain ⟨hwk, hbw⟩ := hg.wk_off hlen he h0 hp
  have hbn := hg.below_nodup 10 n
  have hbl := hg.below_len he
  have hbin : ∀ x ∈ below E 10 n, x < next ∧ ∃ ex, elAt (offE E n p) x = some ex := fun x hx => ⟨hwk.lt x hx, hwk.here x hx⟩
  have hnd : ((offE E n p).map (·.1)).Nodup := by unfold offE; rw [upd_keys]; exact hg.keys
  have hoe : Dc.upd E p (fun _ => { pe with kids := offK pe.kids n }) = offE E n p := upd_const hg.keys hpe (fun e => { e with kids := offK e.kids n })
  have hcon := off_any bd next n p bm cnt F E d pl D e pe w hA hF he hp hpe hk (by omega) (by omega)
  rw [hoe] at hcon
  have hnz : ((n : Int) == 0) = false := by rw [beq_eq_false_iff_ne]; omega
  have hdn := hg.dm n e he
  have H_hA := Lib.hid hA
  clear hA
  have H_he := Lib.hid he
  clear he
  have H_hpe := Lib.hid hpe
  clear hpe
  have H_hp := Lib.hid hp
  clear hp
  have H_hwk := Lib.hid hwk
  clear hwk
  have H_hbw := Lib.hid hbw
  clear hbw
  have H_hbn := Lib.hid hbn
  clear hbn
  have H_hbl := Lib.hid hbl
  clear hbl
  have H_hbin := Lib.hid hbin
  clear hbin
  have H_hnd := Lib.hid hnd
  clear hnd
  have H_hoe := Lib.hid hoe
  clear hoe
  have H_hcon := Lib.hid hcon
  clear hcon
  have H_hF := Lib.hid hF
  clear hF
  have H_hnI := Lib.hid hnI
  clear hnI
  clear hg
  go_enter Tryd.func9, Tryd.ntmps9
  go_wp2_with (at_lookup; refine wp_hit_ok (T := TT) TK rfl _ _ rfl rfl rfl H_hA.out H_he.out H_hnI.out ?_)
  refine H_hcon.out.mono ?_
  rintro _ w1 ⟨rfl, kv', F1, hF1, hA1, hFt1, hT1⟩
  obtain ⟨pl1, hpl1⟩ : ∃ u, (fun x => if x = p then (⟨(pl p).blk, (pl p).av, kv'⟩ : Plc) else pl x) = u := ⟨_, rfl⟩
  rw [hpl1] at hA1 hFt1
  have z1 := hT1.size
  have hD1 : Dok Tryd.prog TT w1 bd F1 (offE E n p) next := ⟨_, _, _, _, hA1, hc, hFt1⟩
  have H_hA1 := Lib.hid hA1
  clear hA1
  have H_hFt1 := Lib.hid hFt1
  clear hFt1
  have H_hT1 := Lib.hid hT1
  clear hT1
  have H_hF1 := Lib.hid hF1
  clear hF1
  have H_hD1 := Lib.hid hD1
  clear hD1
  clear hpl1
  go_wp2_with fail
  refine (below_wk bd next F1 (offE E n p) d _ H_hwk.out hbig 10 n w1 H_hD1.out (self_below 10 n) (by omega)).mono ?_
  rintro _ w2 ⟨v2, rfl, ho2, hb2⟩
  rw [H_hbw.out] at ho2
  have t2 := hb2.size
  obtain ⟨l, hl⟩ : ∃ u, below E 10 n = u := ⟨_, rfl⟩
  have hself := self_below (E := E) 10 n
  rw [hl] at ho2 hself
  obtain ⟨g, cp, rfl, hg0, hg1, _, _, hr2⟩ : ∃ g cp, v2 = .slice (some ⟨g, 0, none⟩) l.length cp ∧ w1.heap.size ≤ g ∧ g < w2.heap.size ∧ l.length ≤ cp ∧ l.length ≤ maxLen ∧ RowIn EIn w2 g 0 l := by
    rcases ho2.form with ⟨_, h⟩ | h
    · rw [h] at hself; cases hself
    · exact h
  have hA2 := H_hA1.out.keep hb2
  have hFt2 := H_hFt1.out.keep (w' := w2) hb2.size
  have hT2 : Turn F w w2 := H_hT1.out.goOn (Turn.of_below (F := F) hb2) (fun j h => .inl h)
  have hl2 : l.length ≤ 1000000 := by have := H_hbl.out; rw [hl] at this; omega
  have hgF : ¬ F1 g := fun h => by have := H_hFt1.out.lt g h; omega
  rw [hl] at H_hbn H_hbin
  have H_hl := Lib.hid hl
  clear hl
  have H_hr2 := Lib.hid hr2
  clear hr2
  have H_hA2 := Lib.hid hA2
  clear hA2
  have H_hFt2 := Lib.hid hFt2
  clear hFt2
  have H_hT2 := Lib.hid hT2
  clear hT2
  have H_hgF := Lib.hid hgF
  clear hgF
  clear ho2 hself
  go_wp2_with fail
  go_loopw [31] (fun t31 wr => ∃ (k : Nat) (D' : DataW Unit), k ≤ l.length ∧ t31 = .int .i64 k ∧ RowKit.Hid (DAt Tryd.prog TT wr bd (notIn (offE E n p) (l.take k)) next pl1 bm cnt D') ∧ RowKit.Hid (Foot wr F1 bd bm (notIn (offE E n p) (l.take k)) pl1) ∧ RowKit.Hid (Turn F1 w2 wr)) (fun t31 _ => l.length - (intOf t31).toNat)
  case atStart => exact ⟨0, D, Nat.zero_le _, rfl, (by rw [List.take_zero, notIn_nil]; exact H_hA2), (by rw [List.take_zero, notIn_nil]; exact H_hFt2), Turn.refl _ _⟩
  case round =>
    obtain ⟨k, D', hk2, rfl, hAr, hFr, hTr⟩ := hrel
    have H_Ar : RowKit.Hid (DAt Tryd.prog TT wr bd (notIn (offE E n p) (l.take k)) next pl1 bm cnt D') := hAr
    have H_Fr : RowKit.Hid (Foot wr F1 bd bm (notIn (offE E n p) (l.take k)) pl1) := hFr
    have H_Tr : RowKit.Hid (Turn F1 w2 wr) := hTr
    clear hAr hFr hTr
    by_cases hlt : k < l.length
    · have hrw := H_Tr.out.row H_hr2.out hg1 H_hgF.out
      have q0 : wr.cell? ⟨g, k, none⟩ = some (.int .i64 (l[k] : Int)) := by
        have h := hrw k hlt 0 _ rfl
        simpa [EIn] using h
      have c0r := H_Ar.out.c0
      have hx := H_hbin.out l[k] (List.getElem_mem hlt)
      have hkI : I64 (l[k] : Int) := i64_nat (by omega)
      have hni : l[k] ∉ l.take k := fun hm => by
        obtain ⟨i, hi, he⟩ := List.mem_take_iff_getElem.1 hm
        exact List.pairwise_iff_getElem.1 H_hbn.out i k (by omega) hlt (by omega) he
      obtain ⟨ex, hex⟩ := hx.2
      have hat : elAt (notIn (offE E n p) (l.take k)) l[k] = some ex := by rw [notIn_at, if_neg hni]; exact hex
      have hstep := notIn_step (offE E n p) l k hlt
      have hmapr := H_Ar.out.map
      obtain ⟨c, hce⟩ : ∃ c, l[k] = c := ⟨_, rfl⟩
      rw [hce] at q0 hkI hat hstep
      clear hrw hx hni hex hce
      have H_hat := Lib.hid hat
      clear hat
      have H_hkI := Lib.hid hkI
      clear hkI
      have H_hstep := Lib.hid hstep
      clear hstep
      have H_hmapr := Lib.hid hmapr
      clear hmapr
      go_wp2_with (at_delete; refine wpList_delete_own _ rfl _ _ 61 3 rfl 65 (int_keyed Tryd.underlying3) Tryd.underlying61 pElem bm cnt D' rfl H_hmapr.out _ _ rfl (key_of TK H_hkI.out) ?_)
      intro w5 hown5 hturn5
      have hgrow5 := hturn5.grown
      have hA5 := H_Ar.out.del (w' := w5) (notIn_keys H_hnd.out _) H_hat.out hown5 hgrow5
      have hF5 := H_Fr.out.drop (w' := w5) hgrow5.size c
      rw [H_hstep.out] at hA5 hF5
      have hT5 : Turn F1 w2 w5 := H_Tr.out.goOn (Turn.grown hgrow5 H_hFt1.out.m) (fun j h => .inl h)
      clear hown5 hturn5 hgrow5
      have H_hA5 := Lib.hid hA5
      clear hA5
      have H_hF5 := Lib.hid hF5
      clear hF5
      have H_hT5 := Lib.hid hT5
      clear hT5
      go_wp2_with fail
      go_roundw
      case rel => exact ⟨k + 1, _, by omega, by go_num, H_hA5, H_hF5, H_hT5⟩
      case measure => simp [intOf]; omega
    · obtain rfl : k = l.length := by omega
      rw [List.take_length] at H_Ar H_Fr
      have hre : notIn (offE E n p) l = removeE E n p := by rw [← H_hl.out]; rfl
      rw [hre] at H_Ar H_Fr
      clear hre
      go_wp2_with fail
      go_returns
      exact ⟨rfl, F1, H_hF1.out, ⟨_, _, _, _, H_Ar.out, hc, H_Fr.out⟩, H_hT2.out.trans H_Tr.out (fun j hj hf => (H_hF1.out j hf).resolve_right (by omega))⟩
end Go.Proofs.YtbcoccgfoionlaaDoor
