/-
  Several texts as one: St2, St3, St4, St5.
-/
import Derived.Test.YteaipondofbecaaGreatDoorSt1
import Derived.Test.YteaipondofbecaaGreatDoorSw
import Derived.Test.YteaipondofbecaaGreatDoorRpc
import Derived.Test.YteaipondofbecaaGreatDoorCut1
/-
  Plain: the reference's reading of a rule's line is style's.
-/
namespace Lead.Sy
open Go Lead Lead.Dc Lead.Pk
theorem cut_no {s p : By} (h : Lib.index s p = -1) : (Lib.cut s p).2.2 = false := by unfold Lib.cut; rw [h, if_neg (by decide)]
theorem cut_yes {s p : By} {i : Nat} (h : Lib.index s p = (i : Int)) : Lib.cut s p = (s.take i, s.drop (i + p.length), true) := by
  unfold Lib.cut
  rw [h, if_pos (by omega), Int.toNat_natCast]
theorem occ_app {a b p : By} {i : Nat} (h : Lib.occAt a p i = true) : Lib.occAt (a ++ b) p i = true := by
  unfold Lib.occAt at h ⊢
  rw [List.isPrefixOf_iff_prefix] at h ⊢
  obtain ⟨t, ht⟩ := h
  by_cases hi : i ≤ a.length
  · rw [List.drop_append_of_le_length hi, ← ht]
    exact ⟨t ++ b, by rw [List.append_assoc]⟩
  · rw [List.drop_eq_nil_of_le (by omega)] at ht
    rw [List.append_eq_nil_iff] at ht
    rw [ht.1]; exact ⟨_, rfl⟩
theorem occ_len {a p : By} {i : Nat} (hp : p ≠ []) (h : Lib.occAt a p i = true) : i + p.length ≤ a.length := by
  unfold Lib.occAt at h
  rw [List.isPrefixOf_iff_prefix] at h
  have h1 := h.length_le
  rw [List.length_drop] at h1
  have : 0 < p.length := List.length_pos_iff.2 hp
  omega
theorem occ_back {a b p : By} {i : Nat} (hi : i + p.length ≤ a.length) (h : Lib.occAt (a ++ b) p i = true) : Lib.occAt a p i = true := by
  unfold Lib.occAt at h ⊢
  rw [List.isPrefixOf_iff_prefix] at h ⊢
  rw [List.drop_append_of_le_length (by omega)] at h
  exact List.prefix_of_prefix_length_le h (List.prefix_append _ _) (by rw [List.length_drop]; omega)
/-- A line, behind its head. -/
theorem line_noOpen {s : By} (h : Lib.index s sOpen = -1) : lineP s = none := by
  refine lineP_no ?_
  unfold lineOk
  rw [cut_no h]; rfl
variable {s : By} {k : Nat}
theorem be_of (h : Lib.index s sOpen = (k : Int)) : beP s = s.drop (k + 3) ∧ hdP s = s.take k ∧ (Lib.cut s sOpen).2.2 = true := by
  unfold beP hdP
  rw [cut_yes h]
  exact ⟨rfl, rfl, rfl⟩
theorem line_noEnd (h : Lib.hasSuffix (beP s) sEnd = false) : lineP s = none := by
  refine lineP_no ?_
  unfold lineOk
  rw [h, Bool.and_false, Bool.false_and, Bool.false_and]; rfl
theorem suf_of {b : By} : Lib.hasSuffix b sEnd = (decide (2 ≤ b.length) && decide (b.drop (b.length - 2) = sEnd)) := by
  unfold Lib.hasSuffix
  rw [Bool.eq_iff_iff, List.isSuffixOf_iff_suffix, Bool.and_eq_true, decide_eq_true_eq, decide_eq_true_eq]
  constructor
  · intro h
    have hl : 2 ≤ b.length := h.length_le
    refine ⟨hl, ?_⟩
    obtain ⟨t, rfl⟩ := h
    rw [List.length_append, show sEnd.length = 2 from rfl, Nat.add_sub_cancel, List.drop_left]
  · rintro ⟨_, h⟩
    rw [← h]; exact List.drop_suffix _ _
theorem line_noCol (hs : Lib.hasSuffix (beP s) sEnd = true) (h : Lib.index (reP s) sCol = -1) : lineP s = none := by
  refine lineP_no ?_
  unfold lineOk
  rw [cut_no h]
  simp
theorem re_of (hs : Lib.hasSuffix (beP s) sEnd = true) : reP s = (beP s).take ((beP s).length - 2) ∧ beP s = reP s ++ sEnd ∧ (reP s).length + 2 = (beP s).length := by
  have h1 := suf_spec hs
  have h2 : reP s = (beP s).take ((beP s).length - 2) := by unfold reP Lib.trimSuffix; rw [if_pos hs]; rfl
  refine ⟨h2, h1, ?_⟩
  have h3 := congrArg List.length h1
  rw [List.length_append] at h3
  exact h3.symm
/-- The colon behind the value's end, or none. -/
theorem col_no (hs : Lib.hasSuffix (beP s) sEnd = true) (h : Lib.index (beP s) sCol = -1 ∨ ∃ m : Nat, Lib.index (beP s) sCol = (m : Int) ∧ (beP s).length - 2 < m + 2) : lineP s = none := by
  refine line_noCol hs ?_
  obtain ⟨_, h2, h3⟩ := re_of hs
  rcases Lib.index_spec (reP s) sCol with ⟨h4, _⟩ | ⟨j, h4, h5, h6, _⟩
  · exact h4
  · exfalso
    have h7 : Lib.occAt (beP s) sCol j = true := by rw [h2]; exact occ_app h6
    have h8 := occ_len (by decide) h6
    rw [show sCol.length = 2 from rfl] at h8
    rcases h with h | ⟨m, h, hm⟩
    · rcases Lib.index_spec (beP s) sCol with ⟨_, h9⟩ | ⟨i, h9, _⟩
      · rw [h9 j (by omega)] at h7; cases h7
      · rw [h] at h9; omega
    · rcases Lib.index_spec (beP s) sCol with ⟨h9, _⟩ | ⟨i, h9, _, _, h10⟩
      · rw [h] at h9; omega
      · rw [h] at h9
        obtain rfl : m = i := by omega
        rcases Nat.lt_or_ge j m with hj | hj
        · rw [h10 j hj] at h7; cases h7
        · omega
/-- The colon ahead of the value's end. -/
theorem col_yes (hs : Lib.hasSuffix (beP s) sEnd = true) {m : Nat} (h : Lib.index (beP s) sCol = (m : Int)) (hm : m + 2 ≤ (beP s).length - 2) :
    (Lib.cut (reP s) sCol).2.2 = true ∧ naP s = (beP s).take m ∧ vaP s = ((beP s).take ((beP s).length - 2)).drop (m + 2) := by
  obtain ⟨h1, h2, h3⟩ := re_of hs
  have hi : Lib.index (reP s) sCol = (m : Int) := by
    rcases Lib.index_spec (beP s) sCol with ⟨h9, _⟩ | ⟨i, h9, _, h8, h10⟩
    · rw [h] at h9; omega
    · rw [h] at h9
      obtain rfl : m = i := by omega
      rw [h2] at h8
      have hocc := occ_back (by rw [show sCol.length = 2 from rfl]; omega) h8
      refine Lib.index_hit (fun j hj => ?_) (by omega) hocc
      cases hj' : Lib.occAt (reP s) sCol j with
      | false => rfl
      | true =>
        have h11 := h10 j hj
        rw [h2, occ_app hj'] at h11; cases h11
  have hc := cut_yes hi
  refine ⟨by rw [hc], ?_, ?_⟩
  · unfold naP
    rw [hc]
    show (reP s).take m = _
    rw [h1, List.take_take]
    congr 1; omega
  · unfold vaP
    rw [hc]
    show (reP s).drop (m + 2) = _
    rw [h1]
theorem firV_is (nm : By) : (firstP nm).isSome = !decide (firV nm = []) := by
  unfold firV firstP
  by_cases h1 : nm = nFill
  · rw [if_pos h1]; rfl
  rw [if_neg h1]
  by_cases h2 : nm = nRule
  · rw [if_pos h2]; rfl
  rw [if_neg h2]
  by_cases h3 : nm = nShow
  · rw [if_pos h3]; rfl
  rw [if_neg h3]
  by_cases h4 : nm = nLevel
  · rw [if_pos h4]; rfl
  rw [if_neg h4]; rfl
end Lead.Sy

/-
  Walks over the reference's sheets: ruleOf.
-/
namespace Lead.Sy
open Go Go.RowKit Lead Lead.Dc Lead.Pk Lead.Rc
/-- What ruleOf answers. -/
def RuleR (TS TW : TypeId) (o : Option Ru) (w : World) (en : Ending) (w' : World) : Prop := Below w.heap.size w w' ∧ ∃ (a c d : ByteArray) (so : Option Addr) (sl sc : Nat) (ok : Bool),
  en = .returned (.tuple #[.agg #[.string a, .slice so sl sc, .string c, .string d], .bool ok]) ∧
  match o with
  | none => ok = false
  | some u => ok = true ∧ a = bs u.tx ∧ c = bs u.nm ∧ d = bs u.vl ∧ ∃ xs : List SrX, OwnR ESr w' w.heap.size TS (.slice so sl sc) xs ∧ (∀ x ∈ xs, OwnR EWs w' w.heap.size TW x.sl x.ws) ∧ xs.map SrX.st = u.st
/-- The result's box, while ruleOf walks: w the call's world. -/
structure RuB (T : TypeId) (w W : World) : Prop where
  bel : Below w.heap.size w W
  res : ∃ y0 y1 y2 y3 : Value, W.heap[w.heap.size]? = some (.cells #[y0, y1, y2, y3] T (0, 0))
variable {T : TypeId} {w W W' : World}
theorem RuB.lt (h : RuB T w W) : w.heap.size < W.heap.size := by
  obtain ⟨_, _, _, _, h⟩ := h.res
  exact Dc.hlt h
theorem RuB.step (h : RuB T w W) (hb : Below W.heap.size W W') : RuB T w W' := by
  have hl := h.lt
  obtain ⟨y0, y1, y2, y3, h1⟩ := h.res
  exact ⟨below_via h.bel hb, y0, y1, y2, y3, (hb.block _ hl).trans h1⟩
theorem RuB.f (h : RuB T w W) : ∃ y0 y1 y2 y3 : Value, W.cell? ⟨w.heap.size, 0, none⟩ = some y0 ∧ W.cell? ⟨w.heap.size, 1, none⟩ = some y1 ∧ W.cell? ⟨w.heap.size, 2, none⟩ = some y2 ∧ W.cell? ⟨w.heap.size, 3, none⟩ = some y3 ∧ ∀ j, W.frozen? ⟨w.heap.size, j, none⟩ = false := by
  obtain ⟨y0, y1, y2, y3, h1⟩ := h.res
  exact ⟨y0, y1, y2, y3, Dc.hcell h1 rfl, Dc.hcell h1 rfl, Dc.hcell h1 rfl, Dc.hcell h1 rfl, fun _ => Dc.hfree h1⟩
theorem RuB.start (w : World) (vs : Value × Value × Value × Value) : RuB T w (w.alloc (.cells #[vs.1, vs.2.1, vs.2.2.1, vs.2.2.2] T)) :=
  ⟨(Below.refl _ _).alloc (Nat.le_refl _) _, _, _, _, _, heap_alloc_new _ _⟩
theorem RuB.set (h : RuB T w W) (x0 x1 x2 x3 : Value) : RuB T w ((((W.setCell ⟨w.heap.size, 0, none⟩ x0).setCell ⟨w.heap.size, 1, none⟩ x1).setCell ⟨w.heap.size, 2, none⟩ x2).setCell ⟨w.heap.size, 3, none⟩ x3) ∧
    ∀ j, ((((W.setCell ⟨w.heap.size, 0, none⟩ x0).setCell ⟨w.heap.size, 1, none⟩ x1).setCell ⟨w.heap.size, 2, none⟩ x2).setCell ⟨w.heap.size, 3, none⟩ x3).cell? ⟨w.heap.size, j, none⟩ = (#[x0, x1, x2, x3] : Array Value)[j]? := by
  obtain ⟨y0, y1, y2, y3, h1⟩ := h.res
  have h4 := heap_setCell_same _ w.heap.size 3 _ _ x3 (heap_setCell_same _ w.heap.size 2 _ _ x2 (heap_setCell_same _ w.heap.size 1 _ _ x1 (heap_setCell_same W w.heap.size 0 _ _ x0 h1)))
  refine ⟨⟨(((h.bel.setCell (p := ⟨w.heap.size, 0, none⟩) (Nat.le_refl _) _).setCell (p := ⟨w.heap.size, 1, none⟩) (Nat.le_refl _) _).setCell (p := ⟨w.heap.size, 2, none⟩) (Nat.le_refl _) _).setCell (p := ⟨w.heap.size, 3, none⟩) (Nat.le_refl _) _, _, _, _, _, h4⟩, fun j => ?_⟩
  rw [cell_of h4]; rfl
theorem set4_other (W : World) (b : Nat) (x0 x1 x2 x3 : Value) {k : Nat} (hk : k ≠ b) : ((((W.setCell ⟨b, 0, none⟩ x0).setCell ⟨b, 1, none⟩ x1).setCell ⟨b, 2, none⟩ x2).setCell ⟨b, 3, none⟩ x3).heap[k]? = W.heap[k]? :=
  (heap_setCell_other _ ⟨b, 3, none⟩ k _ hk).trans ((heap_setCell_other _ ⟨b, 2, none⟩ k _ hk).trans ((heap_setCell_other _ ⟨b, 1, none⟩ k _ hk).trans (heap_setCell_other _ ⟨b, 0, none⟩ k _ hk)))
/-- A row behind the box stays. -/
theorem own_set4 {α : Type} {En : Enc α} {e : TypeId} {v : Value} {xs : List α} {base : Nat} (h : OwnR En W base e v xs) (hb : w.heap.size < base) (x0 x1 x2 x3 : Value) :
    OwnR En ((((W.setCell ⟨w.heap.size, 0, none⟩ x0).setCell ⟨w.heap.size, 1, none⟩ x1).setCell ⟨w.heap.size, 2, none⟩ x2).setCell ⟨w.heap.size, 3, none⟩ x3) w.heap.size e v xs :=
  (own_kept h (fun k hk => set4_other W w.heap.size x0 x1 x2 x3 (by have := (h.lt k hk).1; omega))).base (Nat.le_of_lt hb)
end Lead.Sy
namespace Go.Proofs.YteaipondofbecaaGreatDoor
open Go.RowKit Lead Lead.Dc Lead.Pk Lead.Rc Lead.Sy
theorem rres_rule (tmps : Array Value) (w0 : World) (g : Nat) (y0 y1 y2 y3 b : Value) (h2 : tmps[2]?.getD undef = .pointer (some ⟨g, 0, none⟩)) (h3 : tmps[3]?.getD undef = b)
    (hc : ∀ j, w0.cell? ⟨g, j, none⟩ = (#[y0, y1, y2, y3] : Array Value)[j]?) :
    (results Tryz.f83 tmps).run Tryz.prog w0 = .ok (.tuple #[.agg #[y0, y1, y2, y3], b]) w0 := by
  simp [results, Tryz.results83, go_sem, h2, h3, hc]
set_option maxHeartbeats 8000000 in
set_option maxRecDepth 100000 in
theorem rruleof_any (S : ByteArray) (s : By) (hSs : S.data.toList = s) (w : World) (hs : S.size ≤ 100000) :
    Calls Tryz.prog 83 #[.string S] w (RuleR 213 9 (lineP s) w) := by
  have hlen : s.length = S.size := by rw [← hSs]; simp
  have cP := fun W => rplace_any S ⟨#[32, 123, 32]⟩ W (by omega) (by decide) (by decide)
  rw [hSs, show (ByteArray.mk #[32, 123, 32]).data.toList = sOpen from rfl] at cP
  rcases Lib.index_spec s sOpen with ⟨hk, _⟩ | ⟨k, hk, hkl, hko, _⟩
  · rw [hk] at cP
    have hno := line_noOpen hk
    have H_cP := Lib.hid cP
    clear cP
    have H_hno := Lib.hid hno
    clear hno
    have H_hSs := Lib.hid hSs
    clear hSs
    have H_hlen := Lib.hid hlen
    clear hlen
    have H_hk := Lib.hid hk
    clear hk
    go_enter Tryz.func83, Tryz.ntmps83
    go_wp2_with fail
    refine (H_cP.out _).mono ?_
    rintro _ w1 ⟨rfl, hb1⟩
    have hW := (RuB.start (T := 150) w (.string ⟨#[]⟩, .slice none 0 0, .string ⟨#[]⟩, .string ⟨#[]⟩)).step hb1
    clear hb1
    obtain ⟨y0, y1, y2, y3, a0, a1, a2, a3, af⟩ := hW.f
    have H_W := Lib.hid hW
    clear hW
    ((try go_simp); (repeat go_step))
    with_reducible refine bodyPost_ret (rres_rule _ _ w.heap.size _ _ _ _ (.bool false) ?h2 ?h3 ((H_W.out.set _ _ _ _).2)) rfl ?_
    case h2 => simp
    case h3 => simp
    refine ⟨(H_W.out.set _ _ _ _).1.bel, _, _, _, _, _, _, _, rfl, ?_⟩
    rw [H_hno.out]
  rw [hk] at cP
  have hk3 := occ_len (show sOpen ≠ [] by decide) hko
  rw [show sOpen.length = 3 from rfl] at hk3
  obtain ⟨hbe, hhd, hcu⟩ := be_of hk
  have hRl : (S.extract (k + 3) S.size).data.toList = beP s := by
    rw [ext_list S (k + 3) S.size (by omega), hSs, List.take_of_length_le (by omega), hbe]
  have hbl : (beP s).length ≤ 100000 := by rw [hbe, List.length_drop]; omega
  obtain ⟨R, hR⟩ : ∃ u, S.extract (k + 3) S.size = u := ⟨_, rfl⟩
  rw [hR] at hRl
  have hRs : R.size = (beP s).length := by rw [← hRl]; simp
  have cQ := fun W => rplace_any R ⟨#[58, 32]⟩ W (by omega) (by decide) (by decide)
  rw [hRl, show (ByteArray.mk #[58, 32]).data.toList = sCol from rfl] at cQ
  have g0 : ¬ ((k : Int) < 0) := by omega
  have g1 : (k : Int) + 3 ≤ (S.size : Int) := by omega
  have g2 : (0 : Int) ≤ (k : Int) + 3 := by omega
  have gw : IntKind.i64.wrap ((k : Int) + 3) = (k : Int) + 3 := IntWalk.i64_in _ (by omega)
  have gt : ((k : Int) + 3).toNat = k + 3 := by omega
  obtain ⟨M, hM⟩ : ∃ u, Lib.index (beP s) sCol = u := ⟨_, rfl⟩
  rw [hM] at cQ
  have H_cP := Lib.hid cP
  clear cP
  have H_cQ := Lib.hid cQ
  clear cQ
  have H_hSs := Lib.hid hSs
  clear hSs
  have H_hlen := Lib.hid hlen
  clear hlen
  have H_hbe := Lib.hid hbe
  clear hbe
  have H_hhd := Lib.hid hhd
  clear hhd
  have H_hcu := Lib.hid hcu
  clear hcu
  have H_hRl := Lib.hid hRl
  clear hRl
  have H_hM := Lib.hid hM
  clear hM
  have H_hk := Lib.hid hk
  clear hk
  have H_hRs := Lib.hid hRs
  clear hRs
  go_enter Tryz.func83, Tryz.ntmps83
  go_wp2_with fail
  refine (H_cP.out _).mono ?_
  rintro _ w1 ⟨rfl, hb1⟩
  have hW := (RuB.start (T := 150) w (.string ⟨#[]⟩, .slice none 0 0, .string ⟨#[]⟩, .string ⟨#[]⟩)).step hb1
  clear hb1
  go_wp2_with fail
  try rw [hR]
  refine (H_cQ.out _).mono ?_
  rintro _ w2 ⟨rfl, hb2⟩
  have hW2 := hW.step hb2
  clear hb2 hW
  obtain ⟨y0, y1, y2, y3, a0, a1, a2, a3, af⟩ := hW2.f
  have H_W := Lib.hid hW2
  clear hW2
  by_cases h2 : R.size < 2
  · have g3 : (R.size : Int) < 2 := by omega
    have hno := line_noEnd (s := s) (by rw [suf_of, decide_eq_false (by have := H_hRs.out; omega)]; rfl)
    have H_hno := Lib.hid hno
    clear hno
    ((try go_simp); (repeat go_step))
    with_reducible refine bodyPost_ret (rres_rule _ _ w.heap.size _ _ _ _ (.bool false) ?h2 ?h3 ((H_W.out.set _ _ _ _).2)) rfl ?_
    case h2 => simp
    case h3 => simp
    refine ⟨(H_W.out.set _ _ _ _).1.bel, _, _, _, _, _, _, _, rfl, ?_⟩
    rw [H_hno.out]
  have g3 : ¬ (R.size : Int) < 2 := by omega
  rcases Lib.index_spec (beP s) sCol with ⟨hm, _⟩ | ⟨m, hm, hml, hmo, _⟩
  · obtain rfl : M = -1 := H_hM.out.symm.trans hm
    have hno : lineP s = none := by
      cases hf : Lib.hasSuffix (beP s) sEnd with
      | false => exact line_noEnd hf
      | true => exact col_no hf (.inl hm)
    have H_hno := Lib.hid hno
    clear hno
    have H_hm := Lib.hid hm
    clear hm
    ((try go_simp); (repeat go_step))
    with_reducible refine bodyPost_ret (rres_rule _ _ w.heap.size _ _ _ _ (.bool false) ?h2 ?h3 ((H_W.out.set _ _ _ _).2)) rfl ?_
    case h2 => simp
    case h3 => simp
    refine ⟨(H_W.out.set _ _ _ _).1.bel, _, _, _, _, _, _, _, rfl, ?_⟩
    rw [H_hno.out]
  obtain rfl : M = (m : Int) := H_hM.out.symm.trans hm
  have g4 : ¬ ((m : Int) < 0) := by omega
  have hm2 := occ_len (show sCol ≠ [] by decide) hmo
  rw [show sCol.length = 2 from rfl, ← H_hRs.out] at hm2
  have hbR : R.size ≤ 100000 := by have := H_hRs.out; omega
  have gz : IntKind.i64.wrap ((R.size : Int) - 2) = ((R.size - 2 : Nat) : Int) := (IntWalk.i64_in _ (by omega)).trans (by omega)
  have gm : IntKind.i64.wrap ((m : Int) + 2) = (m : Int) + 2 := IntWalk.i64_in _ (by omega)
  have g5 : ((R.size - 2 : Nat) : Int) ≤ (R.size : Int) := by omega
  have hsf := suf_of (b := beP s)
  rw [decide_eq_true (by have := H_hRs.out; omega), Bool.true_and, ← H_hRs.out] at hsf
  have heq : ((R.extract (R.size - 2) R.size).toList == [32, 125]) = Lib.hasSuffix (beP s) sEnd := by
    rw [hsf, ByteArray.toList_eq, ext_list R (R.size - 2) R.size (by omega), Bool.eq_iff_iff, beq_iff_eq, decide_eq_true_eq, H_hRl.out, List.take_of_length_le (by have := H_hRs.out; omega)]
    exact Iff.rfl
  clear hsf
  cases hf : Lib.hasSuffix (beP s) sEnd with
  | false =>
    rw [hf] at heq
    have hno := line_noEnd hf
    have H_hno := Lib.hid hno
    clear hno
    have H_hm := Lib.hid hm
    clear hm
    have H_hf := Lib.hid hf
    clear hf
    have H_hmo := Lib.hid hmo
    clear hmo
    ((try go_simp); (repeat go_step))
    with_reducible refine bodyPost_ret (rres_rule _ _ w.heap.size _ _ _ _ (.bool false) ?h2 ?h3 ((H_W.out.set _ _ _ _).2)) rfl ?_
    case h2 => simp
    case h3 => simp
    refine ⟨(H_W.out.set _ _ _ _).1.bel, _, _, _, _, _, _, _, rfl, ?_⟩
    rw [H_hno.out]
  | true =>
    rw [hf] at heq
    by_cases hml2 : R.size - 2 < m + 2
    · have g6 : ((R.size - 2 : Nat) : Int) < (m : Int) + 2 := by omega
      have hno := col_no hf (.inr ⟨m, hm, by have := H_hRs.out; omega⟩)
      have H_hno := Lib.hid hno
      clear hno
      have H_hm := Lib.hid hm
      clear hm
      have H_hf := Lib.hid hf
      clear hf
      have H_hmo := Lib.hid hmo
      clear hmo
      go_wp2_with fail
      with_reducible refine bodyPost_ret (rres_rule _ _ w.heap.size _ _ _ _ (.bool false) ?h2 ?h3 ((H_W.out.set _ _ _ _).2)) rfl ?_
      case h2 => simp
      case h3 => simp
      refine ⟨(H_W.out.set _ _ _ _).1.bel, _, _, _, _, _, _, _, rfl, ?_⟩
      rw [H_hno.out]
    have g6 : ¬ ((R.size - 2 : Nat) : Int) < (m : Int) + 2 := by omega
    have g6b : decide (((R.size - 2 : Nat) : Int) < (m : Int) + 2) = false := decide_eq_false g6
    obtain ⟨hc1, hc2, hc3⟩ := col_yes hf hm (by have := H_hRs.out; omega)
    have hV : (R.extract (m + 2) (R.size - 2)).data.toList = vaP s := by rw [ext_list R (m + 2) (R.size - 2) (by omega), H_hRl.out, hc3, H_hRs.out]
    have hN : R.extract 0 m = bs (naP s) := by rw [ext_list R 0 m (by omega), H_hRl.out, hc2]; rfl
    have hH : (S.extract 0 k).data.toList = hdP s := by rw [ext_list S 0 k (by omega), H_hSs.out, H_hhd.out]; rfl
    have hok : lineOk s = ((firstP (naP s)).isSome && wdL (vaP s)) := by
      unfold lineOk
      rw [H_hcu.out, hf, hc1, Bool.true_and, Bool.true_and, Bool.true_and]
    have cW := fun W => risword_any (R.extract (m + 2) (R.size - 2)) W (by rw [ByteArray.size_extract]; omega)
    rw [hV] at cW
    have cS := fun W => rsteps_any (S.extract 0 k) (hdP s) hH W (by rw [ByteArray.size_extract]; omega)
    have cF := fun W => rfirst_any (naP s) W
    have hfne : ((bs (firV (naP s))).toList == []) = !(firstP (naP s)).isSome := by
      rw [firV_is, ByteArray.toList_eq, bs_list]
      cases firV (naP s) <;> rfl
    have g7 : (k : Int) ≤ (S.size : Int) := by omega
    have g8 : (m : Int) + 2 ≤ ((R.size - 2 : Nat) : Int) := by omega
    have g9 : (m : Int) ≤ (R.size : Int) := by omega
    have g10 : (0 : Int) ≤ (m : Int) + 2 := by omega
    obtain ⟨V, hVe⟩ : ∃ u, R.extract (m + 2) (R.size - 2) = u := ⟨_, rfl⟩
    obtain ⟨Nm, hNe⟩ : ∃ u, R.extract 0 m = u := ⟨_, rfl⟩
    obtain ⟨Hd, hHe⟩ : ∃ u, S.extract 0 k = u := ⟨_, rfl⟩
    rw [hVe] at hV cW
    rw [hNe] at hN
    rw [hHe] at hH cS
    rw [← hN] at cF
    obtain ⟨wd, hwd⟩ : ∃ u, wdL (vaP s) = u := ⟨_, rfl⟩
    rw [hwd] at cW hok
    obtain ⟨fs, hfs⟩ : ∃ u, (firstP (naP s)).isSome = u := ⟨_, rfl⟩
    rw [hfs] at hfne hok
    obtain ⟨FV, hFV⟩ : ∃ u, bs (firV (naP s)) = u := ⟨_, rfl⟩
    rw [hFV] at cF hfne
    clear H_cP H_cQ af a0 a1 a2 a3
    have H_hV := Lib.hid hV
    clear hV
    have H_hN := Lib.hid hN
    clear hN
    have H_hH := Lib.hid hH
    clear hH
    have H_hok := Lib.hid hok
    clear hok
    have H_cW := Lib.hid cW
    clear cW
    have H_cS := Lib.hid cS
    clear cS
    have H_cF := Lib.hid cF
    clear cF
    have H_hwd := Lib.hid hwd
    clear hwd
    have H_hfs := Lib.hid hfs
    clear hfs
    have H_hFV := Lib.hid hFV
    clear hFV
    have H_hf := Lib.hid hf
    clear hf
    have H_hm := Lib.hid hm
    clear hm
    have H_hc1 := Lib.hid hc1
    clear hc1
    have H_hc2 := Lib.hid hc2
    clear hc2
    have H_hc3 := Lib.hid hc3
    clear hc3
    have H_hml2 := Lib.hid hml2
    clear hml2
    have H_hmo := Lib.hid hmo
    clear hmo
    go_wp2_with fail
    try rw [hHe]
    have hltw2 := H_W.out.lt
    refine (H_cS.out _).mono ?_
    intro en w3 hSt
    obtain ⟨hb3, so, sl, sc, rfl, hxs⟩ := steps_form hSt
    clear hSt
    have H_W := Lib.hid (H_W.out.step hb3)
    have hb23 : Below w2.heap.size w2 w3 := hb3
    have hsz2 := H_W.out.bel.size
    have hlt2 : w.heap.size < w2.heap.size := hltw2
    clear hb3
    obtain ⟨is, his⟩ : ∃ u, (readP (hdP s)).isSome = u := ⟨_, rfl⟩
    rw [his]
    have H_hxs := Lib.hid hxs
    clear hxs
    have H_his := Lib.hid his
    clear his
    go_wp2_with fail
    try rw [hVe]
    refine (H_cW.out _).mono ?_
    rintro _ w4 ⟨rfl, hb4⟩
    have H_W := Lib.hid (H_W.out.step hb4)
    have hb24 : Below w2.heap.size w2 w4 := below_via hb23 hb4
    have hb34 : Below w3.heap.size w3 w4 := hb4
    clear hb4
    go_wp2_with fail
    go_region
    have hgB : w4.heap.size < ((w4.alloc (.cells #[.string Hd, .slice so sl sc, .string Nm, .string V] 150)).drew).heap.size := by simp
    have hcB : ∀ j, ((w4.alloc (.cells #[.string Hd, .slice so sl sc, .string Nm, .string V] 150)).drew).cell? ⟨w4.heap.size, j, none⟩ = (#[.string Hd, .slice so sl sc, .string Nm, .string V] : Array Value)[j]? := fun j => by rw [World.cell?_drew]; exact World.cell?_alloc_new _ _ _ _
    have hB4 : Below w4.heap.size w4 ((w4.alloc (.cells #[.string Hd, .slice so sl sc, .string Nm, .string V] 150)).drew) := ((Below.refl _ _).alloc (Nat.le_refl _) _).drew
    have hWB := H_W.out.step hB4
    have hl4 := H_W.out.lt
    generalize ((w4.alloc (.cells #[.string Hd, .slice so sl sc, .string Nm, .string V] 150)).drew) = wB at hgB hcB hB4 hWB ⊢
    obtain ⟨gB, hgBe⟩ : ∃ u, w4.heap.size = u := ⟨_, rfl⟩
    rw [hgBe] at hgB hcB hl4 ⊢
    have hb3B : Below w3.heap.size w3 wB := below_via hb34 hB4
    obtain ⟨y0, y1, y2, y3, a0, a1, a2, a3, af⟩ := hWB.f
    have H_WB := Lib.hid hWB
    clear hWB hB4 H_W
    have hset := H_WB.out.set (.string Hd) (.slice so sl sc) (.string Nm) (.string V)
    have hownk : ∀ W6, Below wB.heap.size wB W6 → ∀ l, readP (hdP s) = some l → ∃ xs : List SrX, OwnR ESr ((((W6.setCell ⟨w.heap.size, 0, none⟩ (.string Hd)).setCell ⟨w.heap.size, 1, none⟩ (.slice so sl sc)).setCell ⟨w.heap.size, 2, none⟩ (.string Nm)).setCell ⟨w.heap.size, 3, none⟩ (.string V)) w.heap.size 213 (.slice so sl sc) xs ∧ (∀ x ∈ xs, OwnR EWs ((((W6.setCell ⟨w.heap.size, 0, none⟩ (.string Hd)).setCell ⟨w.heap.size, 1, none⟩ (.slice so sl sc)).setCell ⟨w.heap.size, 2, none⟩ (.string Nm)).setCell ⟨w.heap.size, 3, none⟩ (.string V)) w.heap.size 9 x.sl x.ws) ∧ xs.map SrX.st = l := fun W6 h6 l hl => by
      obtain ⟨xs, h1, h2, h3⟩ := H_hxs.out l hl
      exact ⟨xs, own_set4 ((h1.keep hb3B).keep h6) hlt2 _ _ _ _, fun x hx => own_set4 (((h2 x hx).keep hb3B).keep h6) hlt2 _ _ _ _, h3⟩
    have hSK : ∀ W6, Below wB.heap.size wB W6 → RuB 150 w W6 ∧ ∀ j, W6.cell? ⟨gB, j, none⟩ = (#[.string Hd, .slice so sl sc, .string Nm, .string V] : Array Value)[j]? := fun W6 h6 => ⟨H_WB.out.step h6, fun j => (h6.cell (p := ⟨gB, j, none⟩) hgB).trans (hcB j)⟩
    have H_hset := Lib.hid hset
    clear hset
    have H_hownk := Lib.hid hownk
    clear hownk
    have H_hSK := Lib.hid hSK
    clear hSK
    cases is with
    | false =>
      have hno : lineP s = none := lineP_none (by have := H_his.out; cases h : readP (hdP s) with | none => rfl | some l => rw [h] at this; cases this)
      have H_hno := Lib.hid hno
      clear hno
      go_wp2_with fail
      go_region
      all_goals
        ((try go_simp); (repeat go_step))
        with_reducible refine bodyPost_ret (rres_rule _ _ w.heap.size _ _ _ _ (.bool false) ?h2 ?h3 (fun j => (World.cell?_drew _ _).trans (H_hset.out.2 j))) rfl ?_
        case h2 => simp
        case h3 => simp
        refine ⟨H_hset.out.1.bel.drew, _, _, _, _, _, _, _, rfl, ?_⟩
        rw [H_hno.out]
    | true =>
      cases wd with
      | false =>
        have hno : lineP s = none := lineP_no (by rw [H_hok.out, Bool.and_false])
        have H_hno := Lib.hid hno
        clear hno
        go_wp2_with fail
        go_region
        all_goals
          ((try go_simp); (repeat go_step))
          with_reducible refine bodyPost_ret (rres_rule _ _ w.heap.size _ _ _ _ (.bool false) ?h2 ?h3 (fun j => (World.cell?_drew _ _).trans (H_hset.out.2 j))) rfl ?_
          case h2 => simp
          case h3 => simp
          refine ⟨H_hset.out.1.bel.drew, _, _, _, _, _, _, _, rfl, ?_⟩
          rw [H_hno.out]
      | true =>
        cases fs with
        | false =>
          have hno : lineP s = none := lineP_no (by rw [H_hok.out]; rfl)
          have H_hno := Lib.hid hno
          clear hno
          go_wp2_with fail
          go_region_law (first | (go_simp; go_at_call 87; ((refine (H_cF.out _).mono ?_); rintro _ w6 ⟨rfl, hb6⟩; have hB6 : Below wB.heap.size wB w6 := below_via (by repeat' (first | (with_reducible first | exact bwR _ _ | assumption | refine bdn ?_ | refine bwA ?_ ?_ _ | refine bwD ?_ | refine bwS ?_ ?_ _) | omega | (simp <;> omega))) hb6; obtain ⟨hR6, hc6⟩ := H_hSK.out w6 hB6; obtain ⟨z0, z1, z2, z3, b0, b1, b2, b3, bf⟩ := hR6.f; have H_R6 := Lib.hid (hR6.set (.string Hd) (.slice so sl sc) (.string Nm) (.string V)); clear hb6 hR6)))
          all_goals
            ((try go_simp); (repeat go_step))
            with_reducible refine bodyPost_ret (rres_rule _ _ w.heap.size _ _ _ _ (.bool false) ?h2 ?h3 (H_R6.out.2)) rfl ?_
            case h2 => simp
            case h3 => simp
            refine ⟨H_R6.out.1.bel, _, _, _, _, _, _, _, rfl, ?_⟩
            rw [H_hno.out]
        | true =>
          obtain ⟨l, hl⟩ : ∃ l, readP (hdP s) = some l := by have := H_his.out; cases h : readP (hdP s) with | none => rw [h] at this; cases this | some l => exact ⟨l, rfl⟩
          have hyes : lineP s = some ⟨l, hdP s, naP s, vaP s⟩ := lineP_yes (by rw [H_hok.out]; rfl) hl
          have hHd : Hd = bs (hdP s) := by rw [← H_hH.out, bs_of]
          have hVd : V = bs (vaP s) := by rw [← H_hV.out, bs_of]
          have hown := H_hownk.out
          have hrow := fun W6 h6 => hown W6 h6 l hl
          clear hown
          have H_hyes := Lib.hid hyes
          clear hyes
          have H_hHd := Lib.hid hHd
          clear hHd
          have H_hVd := Lib.hid hVd
          clear hVd
          have H_hl := Lib.hid hl
          clear hl
          have H_hrow := Lib.hid hrow
          clear hrow
          go_wp2_with fail
          go_region_law (first | (go_simp; go_at_call 87; ((refine (H_cF.out _).mono ?_); rintro _ w6 ⟨rfl, hb6⟩; have hB6 : Below wB.heap.size wB w6 := below_via (by repeat' (first | (with_reducible first | exact bwR _ _ | assumption | refine bdn ?_ | refine bwA ?_ ?_ _ | refine bwD ?_ | refine bwS ?_ ?_ _) | omega | (simp <;> omega))) hb6; obtain ⟨hR6, hc6⟩ := H_hSK.out w6 hB6; obtain ⟨z0, z1, z2, z3, b0, b1, b2, b3, bf⟩ := hR6.f; have H_R6 := Lib.hid (hR6.set (.string Hd) (.slice so sl sc) (.string Nm) (.string V)); clear hb6 hR6)))
          all_goals
            ((try go_simp); (repeat go_step))
            with_reducible refine bodyPost_ret (rres_rule _ _ w.heap.size _ _ _ _ (.bool true) ?h2 ?h3 (H_R6.out.2)) rfl ?_
            case h2 => simp
            case h3 => simp
            refine ⟨H_R6.out.1.bel, _, _, _, _, _, _, _, rfl, ?_⟩
            rw [H_hyes.out]
            exact ⟨rfl, H_hHd.out, H_hN.out, H_hVd.out, H_hrow.out w6 hB6⟩
end Go.Proofs.YteaipondofbecaaGreatDoor

/-
  The reference's sheets: the rows of rules, while SheetOf reads.
-/
namespace Lead.Sy
open Go Go.RowKit Lead Lead.Dc Lead.Pk Lead.Rc
/-- A rule of the reference. -/
structure RrX where
  tx : By
  so : Option Addr
  sn : Nat
  sc : Nat
  ss : List SrX
  nm : By
  vl : By
def RrX.sl (x : RrX) : Value := .slice x.so x.sn x.sc
def RrX.ru (x : RrX) : Ru := ⟨x.ss.map SrX.st, x.tx, x.nm, x.vl⟩
def ERr : Enc RrX := ⟨fun x => [.string (bs x.tx), .slice x.so x.sn x.sc, .string (bs x.nm), .string (bs x.vl)], 4, fun _ => rfl, fun x u h => by simp at h; rcases h with rfl | rfl | rfl | rfl <;> rfl, by decide⟩
/-- A rule's own rows, none of them the row v. -/
def RuK (TS TW : TypeId) (W : World) (base : Nat) (v : Value) (x : RrX) : Prop :=
  (OwnR ESr W base TS x.sl x.ss ∧ ∀ b, x.sl.ownBlock = some b → v.ownBlock ≠ some b) ∧ ∀ y ∈ x.ss, OwnR EWs W base TW y.sl y.ws ∧ ∀ b, y.sl.ownBlock = some b → v.ownBlock ≠ some b
/-- The rows of SheetOf, while it reads: w the call's world, w1 behind Cut. -/
structure SrW (TR TS TW : TypeId) (w w1 W : World) (v : Value) (xs : List RrX) : Prop where
  bel : Below w.heap.size w W
  one : w.heap.size ≤ w1.heap.size
  size : w1.heap.size ≤ W.heap.size
  old : ∀ k, k < w1.heap.size → W.heap[k]? = w1.heap[k]?
  own : OwnR ERr W w1.heap.size TR v xs
  wants : ∀ x ∈ xs, RuK TS TW W w1.heap.size v x
variable {TR TS TW : TypeId} {w w1 W W' : World} {v : Value} {xs : List RrX}
theorem RuK.keep {base : Nat} {x : RrX} (h : RuK TS TW W base v x) (hb : Below W.heap.size W W') : RuK TS TW W' base v x :=
  ⟨⟨h.1.1.keep hb, h.1.2⟩, fun y hy => ⟨(h.2 y hy).1.keep hb, (h.2 y hy).2⟩⟩
theorem SrW.start (hb : Below w.heap.size w w1) : SrW TR TS TW w w1 w1 (.slice none 0 0) [] :=
  ⟨hb, hb.size, Nat.le_refl _, fun _ _ => rfl, OwnR.nil _ _ _ _, fun x hx => by cases hx⟩
theorem SrW.step (h : SrW TR TS TW w w1 W v xs) (hb : Below W.heap.size W W') : SrW TR TS TW w w1 W' v xs :=
  ⟨below_via h.bel hb, h.one, Nat.le_trans h.size hb.size, fun k hk => (hb.block k (Nat.lt_of_lt_of_le hk h.size)).trans (h.old k hk), h.own.keep hb, fun x hx => (h.wants x hx).keep hb⟩
theorem SrW.app {w3 : World} {v3 : Value} {x : RrX} (h : SrW TR TS TW w w1 W v xs) (hx : RuK TS TW W w1.heap.size v x)
    (hv : OwnR ERr w3 w1.heap.size TR v3 (xs ++ [x])) (hg : W.grownBy w3 v.ownBlock) (ho : v3.ownBlock = v.ownBlock ∨ v3.ownBlock = some W.heap.size) : SrW TR TS TW w w1 w3 v3 (xs ++ [x]) := by
  have hno : ∀ k, v.ownBlock = some k → w1.heap.size ≤ k := fun k hk => (h.own.lt k hk).1
  have h1 := h.one
  have hs := h.size
  have keepO : ∀ {α : Type} {En : Enc α} {e : TypeId} {u : Value} {l : List α}, OwnR En W w1.heap.size e u l → (∀ b, u.ownBlock = some b → v.ownBlock ≠ some b) → OwnR En w3 w1.heap.size e u l ∧ ∀ b, u.ownBlock = some b → v3.ownBlock ≠ some b := fun hy hyv => by
    refine ⟨own_kept hy (fun b hb => hg.block b (hy.lt b hb).2 (fun e => hyv b hb e.symm)), fun b hb => ?_⟩
    rcases ho with ho | ho
    · rw [ho]; exact hyv b hb
    · rw [ho]; intro e; injection e with e; have := (hy.lt b hb).2; omega
  have keepW : ∀ (y : RrX), RuK TS TW W w1.heap.size v y → RuK TS TW w3 w1.heap.size v3 y := fun y hy => ⟨keepO hy.1.1 hy.1.2, fun z hz => keepO (hy.2 z hz).1 (hy.2 z hz).2⟩
  refine ⟨h.bel.grown hg h.bel.size (fun k hk => by have := hno k hk; omega), h1, Nat.le_trans hs hg.size, fun k hk => (hg.block k (by omega) (fun e => by have := hno k e.symm; omega)).trans (h.old k hk), hv, fun y hy => ?_⟩
  rcases List.mem_append.1 hy with hy | hy
  · exact keepW y (h.wants y hy)
  · rw [List.mem_singleton.1 hy]; exact keepW x hx
/-- What SheetOf answers: the number and the place of its fault, and the rules where there is none. -/
def SheetR (TR TS TW : TypeId) (c : Nat × Option Nat) (us : List Ru) (w : World) (en : Ending) (w' : World) : Prop := Below w.heap.size w w' ∧ ∃ (so : Option Addr) (sl sc : Nat),
  en = .returned (.tuple #[.slice so sl sc, .agg #[.int .i64 (c.1 : Int), .int .i64 (atI c.2)]]) ∧
  ∃ xs : List RrX, OwnR ERr w' w.heap.size TR (.slice so sl sc) xs ∧ (∀ x ∈ xs, OwnR ESr w' w.heap.size TS x.sl x.ss ∧ ∀ y ∈ x.ss, OwnR EWs w' w.heap.size TW y.sl y.ws) ∧ xs.map RrX.ru = (if c.1 = 0 then us else [])
end Lead.Sy
namespace Go.Proofs.YteaipondofbecaaGreatDoor
open Go.RowKit Lead Lead.Dc Lead.Pk Lead.Rc Lead.Sy
theorem infoRr : (Tryz.prog.info? 150).map (fun i => (i.zero, i.size, i.bytes)) = some (some (.agg #[.string ⟨#[]⟩, .slice none 0 0, .string ⟨#[]⟩, .string ⟨#[]⟩]), 4, 72) := by kernel_rfl
theorem rres_sheet (tmps : Array Value) (w0 : World) (g : Nat) (y0 y1 v : Value) (h2 : tmps[2]?.getD undef = v) (h3 : tmps[3]?.getD undef = .pointer (some ⟨g, 0, none⟩))
    (hc : ∀ j, w0.cell? ⟨g, j, none⟩ = (#[y0, y1] : Array Value)[j]?) :
    (results Tryz.f28 tmps).run Tryz.prog w0 = .ok (.tuple #[v, .agg #[y0, y1]]) w0 := by
  simp [results, Tryz.results28, go_sem, h2, h3, hc]
end Go.Proofs.YteaipondofbecaaGreatDoor

/-
  Walks over the reference's sheets: SheetOf.
-/
namespace Lead.Sy
open Go Go.RowKit Lead Lead.Dc Lead.Pk Lead.Rc
/-- The fault's box, while SheetOf walks: w the call's world. -/
structure FaB (T : TypeId) (w W : World) : Prop where
  bel : Below w.heap.size w W
  res : ∃ y0 y1 : Value, W.heap[w.heap.size]? = some (.cells #[y0, y1] T (0, 0))
variable {T : TypeId} {w W W' : World}
theorem FaB.lt (h : FaB T w W) : w.heap.size < W.heap.size := by
  obtain ⟨_, _, h⟩ := h.res
  exact Dc.hlt h
theorem FaB.step (h : FaB T w W) (hb : Below W.heap.size W W') : FaB T w W' := by
  have hl := h.lt
  obtain ⟨y0, y1, h1⟩ := h.res
  exact ⟨below_via h.bel hb, y0, y1, (hb.block _ hl).trans h1⟩
theorem FaB.f (h : FaB T w W) : ∃ y0 y1 : Value, W.cell? ⟨w.heap.size, 0, none⟩ = some y0 ∧ W.cell? ⟨w.heap.size, 1, none⟩ = some y1 ∧ ∀ j, W.frozen? ⟨w.heap.size, j, none⟩ = false := by
  obtain ⟨y0, y1, h1⟩ := h.res
  exact ⟨y0, y1, Dc.hcell h1 rfl, Dc.hcell h1 rfl, fun _ => Dc.hfree h1⟩
theorem FaB.start (w : World) (vs : Value × Value) : FaB T w (w.alloc (.cells #[vs.1, vs.2] T)) :=
  ⟨(Below.refl _ _).alloc (Nat.le_refl _) _, _, _, heap_alloc_new _ _⟩
theorem FaB.set (h : FaB T w W) (x0 x1 : Value) : FaB T w ((W.setCell ⟨w.heap.size, 0, none⟩ x0).setCell ⟨w.heap.size, 1, none⟩ x1) ∧
    ∀ j, ((W.setCell ⟨w.heap.size, 0, none⟩ x0).setCell ⟨w.heap.size, 1, none⟩ x1).cell? ⟨w.heap.size, j, none⟩ = (#[x0, x1] : Array Value)[j]? := by
  obtain ⟨y0, y1, h1⟩ := h.res
  have h4 := heap_setCell_same _ w.heap.size 1 _ _ x1 (heap_setCell_same W w.heap.size 0 _ _ x0 h1)
  refine ⟨⟨(h.bel.setCell (p := ⟨w.heap.size, 0, none⟩) (Nat.le_refl _) _).setCell (p := ⟨w.heap.size, 1, none⟩) (Nat.le_refl _) _, _, _, h4⟩, fun j => ?_⟩
  rw [cell_of h4]; rfl
/-- A row behind the box stays. -/
theorem own_set2 {α : Type} {En : Enc α} {e : TypeId} {v : Value} {xs : List α} {base : Nat} (h : OwnR En W base e v xs) (hb : w.heap.size < base) (x0 x1 : Value) :
    OwnR En ((W.setCell ⟨w.heap.size, 0, none⟩ x0).setCell ⟨w.heap.size, 1, none⟩ x1) w.heap.size e v xs :=
  (own_kept h (fun k hk => by
    have hne : k ≠ w.heap.size := by have := (h.lt k hk).1; omega
    exact (heap_setCell_other _ ⟨w.heap.size, 1, none⟩ k _ hne).trans (heap_setCell_other _ ⟨w.heap.size, 0, none⟩ k _ hne))).base (Nat.le_of_lt hb)
end Lead.Sy
namespace Go.Proofs.YteaipondofbecaaGreatDoor
open Go.RowKit Lead Lead.Dc Lead.Pk Lead.Rc Lead.Sy
set_option maxHeartbeats 400000 in
theorem rbare3_any (c : Int) (w : World) : Calls Tryz.prog 81 #[.int .i64 c] w fun e w' => e = .returned (.agg #[.int .i64 c, .int .i64 (-1)]) ∧ Below w.heap.size w w' := by
  go_enter Tryz.func81, Tryz.ntmps81
  go_wp2_with fail
  refine bodyPost_ret (by simp [results, Tryz.results81, go_sem, *]; try rfl) rfl ?_
  exact ⟨rfl, by repeat' (first | (with_reducible first | exact bwR _ _ | assumption | refine bdn ?_ | refine bwA ?_ ?_ _ | refine bwD ?_ | refine bwS ?_ ?_ _) | omega | (simp <;> omega))⟩
set_option maxHeartbeats 400000 in
theorem rfine3_any (w : World) : Calls Tryz.prog 52 #[] w fun e w' => e = .returned (.agg #[.int .i64 0, .int .i64 (-1)]) ∧ Below w.heap.size w w' := by
  go_enter Tryz.func52, Tryz.ntmps52
  go_wp2_with fail
  refine bodyPost_ret (by simp [results, Tryz.results52, go_sem, *]; try rfl) rfl ?_
  exact ⟨rfl, by repeat' (first | (with_reducible first | exact bwR _ _ | assumption | refine bdn ?_ | refine bwA ?_ ?_ _ | refine bwD ?_ | refine bwS ?_ ?_ _) | omega | (simp <;> omega))⟩
set_option maxHeartbeats 8000000 in
set_option maxRecDepth 100000 in
theorem rsheetof_any (S : ByteArray) (s : By) (hSs : S.data.toList = s) (w : World) (hs : S.size ≤ 100000) :
    Calls Tryz.prog 28 #[.string S] w (SheetR 150 213 9 (shC s) (shU s) w) := by
  have hlen : s.length = S.size := by rw [← hSs]; simp
  have cB := fun (c : Int) (W : World) => rbare3_any c W
  have cG := fun (W : World) => rfine3_any W
  by_cases h1 : 10000 < S.size
  · have g1 : (10000 : Int) < (S.size : Int) := by omega
    have hre := shC_long (s := s) (by omega)
    have H_cB := Lib.hid cB
    clear cB
    have H_cG := Lib.hid cG
    clear cG
    have H_hre := Lib.hid hre
    clear hre
    have H_hSs := Lib.hid hSs
    clear hSs
    go_enter Tryz.func28, Tryz.ntmps28
    go_wp2_with fail
    refine (H_cB.out _ _).mono ?_
    rintro _ w1 ⟨rfl, hb1⟩
    have hF := (FaB.start (T := 36) w (.int .i64 0, .int .i64 0)).step hb1
    clear hb1
    obtain ⟨y0, y1, a0, a1, af⟩ := hF.f
    have H_F := Lib.hid hF
    clear hF
    ((try go_simp); (repeat go_step))
    with_reducible refine bodyPost_ret (rres_sheet _ _ w.heap.size _ _ (.slice none 0 0) ?h2 ?h3 ((H_F.out.set _ _).2)) rfl ?_
    case h2 => simp
    case h3 => simp
    refine ⟨(H_F.out.set _ _).1.bel, none, 0, 0, ?_, [], OwnR.nil _ _ _ _, (fun x hx => by cases hx), ?_⟩
    · rw [H_hre.out]; rfl
    · rw [H_hre.out]; rfl
  have g1 : ¬ (10000 : Int) < (S.size : Int) := by omega
  have cS := fun (W : World) => rcut_any S 10 W hs
  rw [hSs] at cS
  obtain ⟨i0, hi0, hz0, hz1, hz2⟩ := info_parts infoRr
  have hsm : ∀ x ∈ cutL 10 s, x.length ≤ 100000 := fun x hx => Nat.le_trans (Lead.Pk.cutL_small hx) (by omega)
  have hcount := cutL_count 10 s
  have hlen2 := cutL_length s
  have H_cS := Lib.hid cS
  clear cS
  have H_cB := Lib.hid cB
  clear cB
  have H_cG := Lib.hid cG
  clear cG
  have H_hSs := Lib.hid hSs
  clear hSs
  have H_hi0 := Lib.hid hi0
  clear hi0
  have H_hz0 := Lib.hid hz0
  clear hz0
  have H_hz1 := Lib.hid hz1
  clear hz1
  have H_hz2 := Lib.hid hz2
  clear hz2
  have H_hlen := Lib.hid hlen
  clear hlen
  have H_hsm := Lib.hid hsm
  clear hsm
  go_enter Tryz.func28, Tryz.ntmps28
  go_wp2_with fail
  refine (H_cS.out _).mono ?_
  rintro _ w1 ⟨vw, rfl, hOw, hb1⟩
  have hF := (FaB.start (T := 36) w (.int .i64 0, .int .i64 0)).step hb1
  have hO1 := ownS_row hOw
  obtain ⟨ow, cw, rfl⟩ := Pk.ow_form hO1
  have hSl := Pk.sla_of hO1
  clear hb1 hOw hO1
  have hwords : ∀ (W : World), (∀ k, k < w1.heap.size → W.heap[k]? = w1.heap[k]?) → ∀ i (h : i < (cutL 10 s).length), ∃ g off, ow = some ⟨g, off, none⟩ ∧ W.cell? ⟨g, off + i, none⟩ = some (.string (bs (cutL 10 s)[i])) := fun W hW i h => by
    obtain ⟨g, off, rfl, hg, hr⟩ := hSl.2.2.2.resolve_left (by intro h'; rw [h'] at h; simp at h)
    refine ⟨g, off, rfl, ?_⟩
    rw [World.cell?_of_block (w := w1) (w' := W) (a := ⟨g, off + i, none⟩) (hW g hg)]
    have h2 := hr i h 0 _ rfl
    simpa [ESs, bs] using h2
  have hwm : (cutL 10 s).length ≤ cw ∧ cw ≤ maxLen := ⟨hSl.2.1, hSl.2.2.1⟩
  have hgD : ∀ i (h : i < (cutL 10 s).length), (cutL 10 s).getD i [] = (cutL 10 s)[i] := fun i h => by rw [List.getD_eq_getElem?_getD, List.getElem?_eq_getElem h]; rfl
  have hW1 : SrW 150 213 9 w w1 w1 (.slice none 0 0) [] := SrW.start hF.bel
  have hFl := hF.lt
  have hFs : ∀ W, (∀ k, k < w1.heap.size → W.heap[k]? = w1.heap[k]?) → Below w.heap.size w W → FaB 36 w W := fun W h1 h2 => by
    obtain ⟨y0, y1, h3⟩ := hF.res
    exact ⟨h2, y0, y1, (h1 _ hFl).trans h3⟩
  obtain ⟨n, hn⟩ : ∃ u, (cutF 10 s).1.length = u := ⟨_, rfl⟩
  obtain ⟨L, hL⟩ : ∃ u, (cutL 10 s).length = u := ⟨_, rfl⟩
  rw [hn, hL] at hlen2
  rw [hL] at hcount hwm ⊢
  clear hSl hF
  have H_hW1 := Lib.hid hW1
  clear hW1
  have H_hwords := Lib.hid hwords
  clear hwords
  have H_hn := Lib.hid hn
  clear hn
  have H_hL := Lib.hid hL
  clear hL
  have H_hgD := Lib.hid hgD
  clear hgD
  have H_hFs := Lib.hid hFs
  clear hFs
  have H_hlen2 := Lib.hid hlen2
  clear hlen2
  have H_hFl := Lib.hid hFl
  clear hFl
  go_wp2_with fail
  go_loopw [5, 6, 7, 8] (fun t5 t6 _ _ wr => ∃ (i : Nat) (v : Value) (xs : List RrX), i ≤ n ∧ t5 = v ∧ t6 = .int .i64 i ∧ RowKit.Hid (shT (cutF 10 s).1 i = some (xs.map RrX.ru)) ∧ RowKit.Hid (SrW 150 213 9 w w1 wr v xs)) (fun _ t6 _ _ _ => n + 1 - (intOf t6).toNat)
  case atStart => exact ⟨0, _, [], Nat.zero_le _, rfl, rfl, Lib.hid rfl, H_hW1⟩
  case round =>
    obtain ⟨i, v, xs, hi, rfl, rfl, H_rd, H_W⟩ := hrel
    obtain ⟨ov, cv, rfl⟩ := Pk.ow_form H_W.out.own
    have hlen2 := H_hlen2.out
    have hiL : i < (cutL 10 s).length := by rw [H_hL.out]; omega
    obtain ⟨g, off, rfl, d0⟩ := H_hwords.out wr H_W.out.old i hiL
    have hsl : s.length ≤ 10000 := by have := H_hlen.out; omega
    have gi : IntKind.i64.wrap ((i : Int) + 1) = ((i + 1 : Nat) : Int) := IntWalk.i64_in _ (by omega)
    have gz : IntKind.i64.wrap ((L : Int) - 1) = (n : Int) := (IntWalk.i64_in _ (by omega)).trans (by omega)
    have g0 : (i : Int) < (L : Int) := by omega
    have g0' : i < L := by omega
    have hgd := H_hgD.out i hiL
    have hwl := H_hsm.out _ (List.getElem_mem hiL)
    obtain ⟨wd, hwd⟩ : ∃ u, (cutL 10 s)[i] = u := ⟨_, rfl⟩
    rw [hwd] at d0 hgd hwl
    have cC := fun W => rruleof_any (bs wd) wd rfl W (by rw [bs_size]; exact hwl)
    have H_F := Lib.hid (H_hFs.out wr H_W.out.old H_W.out.bel)
    have hFlt := H_F.out.lt
    have hz5 := H_W.out.bel.size
    by_cases hl : i = n
    · subst hl
      clear hi hlen2
      have hlast : (cutF 10 s).2 = wd := by rw [← hgd, ← H_hn.out]; exact (cutL_get_last s).symm
      by_cases he : wd = []
      · have hq : ((bs wd).toList == []) = true := by rw [ByteArray.toList_eq, bs_list, he]; rfl
        have hend := shC_end hsl (by rw [H_hn.out]; exact H_rd.out) (hlast.trans he)
        rw [List.length_map] at hend
        have H_hlast := Lib.hid hlast
        clear hlast
        have H_hgd := Lib.hid hgd
        clear hgd
        have H_hwd := Lib.hid hwd
        clear hwd
        have H_cC := Lib.hid cC
        clear cC
        have H_he := Lib.hid he
        clear he
        have H_hsl := Lib.hid hsl
        clear hsl
        by_cases h40 : 40 < xs.length
        · have g40 : (40 : Int) < (xs.length : Int) := by omega
          have hre : shC s = (7, none) := by rw [hend.1, if_pos h40]
          have H_hre := Lib.hid hre
          clear hre
          have H_hend := Lib.hid hend
          clear hend
          go_wp2_with fail
          refine (H_cB.out _ _).mono ?_
          rintro _ w5 ⟨rfl, hb5⟩
          have hF5 := H_F.out.step hb5
          clear hb5
          obtain ⟨y0, y1, a0, a1, af⟩ := hF5.f
          have H_F := Lib.hid hF5
          clear hF5
          ((try go_simp); (repeat go_step))
          with_reducible refine bodyPost_ret (rres_sheet _ _ w.heap.size _ _ (.slice none 0 0) ?h2 ?h3 ((H_F.out.set _ _).2)) rfl ?_
          case h2 => simp
          case h3 => simp
          refine ⟨(H_F.out.set _ _).1.bel, none, 0, 0, ?_, [], OwnR.nil _ _ _ _, (fun x hx => by cases hx), ?_⟩
          · rw [H_hre.out]; rfl
          · rw [H_hre.out]; rfl
        · have g40 : ¬ (40 : Int) < (xs.length : Int) := by omega
          have hre : shC s = (0, none) := by rw [hend.1, if_neg h40]
          have hus := hend.2
          have H_hre := Lib.hid hre
          clear hre
          have H_hend := Lib.hid hend
          clear hend
          have H_hus := Lib.hid hus
          clear hus
          go_wp2_with fail
          refine (H_cG.out _).mono ?_
          rintro _ w5 ⟨rfl, hb5⟩
          have hF5 := H_F.out.step hb5
          have hW5 := H_W.out.step hb5
          clear hb5
          obtain ⟨y0, y1, a0, a1, af⟩ := hF5.f
          have H_F := Lib.hid hF5
          clear hF5
          have H_hW5 := Lib.hid hW5
          clear hW5
          ((try go_simp); (repeat go_step))
          with_reducible refine bodyPost_ret (rres_sheet _ _ w.heap.size _ _ (.slice ov xs.length cv) ?h2 ?h3 ((H_F.out.set _ _).2)) rfl ?_
          case h2 => simp
          case h3 => simp
          have hlt1 := H_hFl.out
          refine ⟨(H_F.out.set _ _).1.bel, ov, _, cv, ?_, xs, own_set2 H_hW5.out.own hlt1 _ _, (fun x hx => ⟨own_set2 (H_hW5.out.wants x hx).1.1 hlt1 _ _, fun y hy => own_set2 ((H_hW5.out.wants x hx).2 y hy).1 hlt1 _ _⟩), ?_⟩
          · rw [H_hre.out]; rfl
          · rw [H_hre.out]; exact H_hus.out.symm
      · have hq : ((bs wd).toList == []) = false := by rw [ByteArray.toList_eq, bs_list, beq_eq_false_iff_ne]; exact he
        have hre := shC_last hsl (by rw [H_hn.out]; exact H_rd.out) (by rw [hlast]; exact he)
        rw [H_hn.out] at hre
        have H_hre := Lib.hid hre
        clear hre
        have H_hlast := Lib.hid hlast
        clear hlast
        have H_hgd := Lib.hid hgd
        clear hgd
        have H_hwd := Lib.hid hwd
        clear hwd
        have H_cC := Lib.hid cC
        clear cC
        have H_he := Lib.hid he
        clear he
        have H_hsl := Lib.hid hsl
        clear hsl
        go_wp2_with fail
        refine (H_cC.out _).mono ?_
        rintro en w5 ⟨hb5, ra, rc, rd, so5, sl5, sc5, ok, rfl, hmt⟩
        have hF5 := H_F.out.step hb5
        have hW5 := H_W.out.step hb5
        have z5 : wr.heap.size ≤ w5.heap.size := hb5.size
        have hbA : Below w5.heap.size w5 (w5.alloc (.cells #[.string ra, .slice so5 sl5 sc5, .string rc, .string rd] 150)) := (Below.refl _ _).alloc (Nat.le_refl _) _
        have hF6 := hF5.step hbA
        obtain ⟨y0, y1, a0, a1, af⟩ := hF6.f
        have H_F := Lib.hid hF6
        clear hb5 d0 hF5 hF6 hbA
        have H_hW5 := Lib.hid hW5
        clear hW5
        clear hmt
        cases ok with
        | true =>
          go_wp2_with fail
          ((try go_simp); (repeat go_step))
          with_reducible refine bodyPost_ret (rres_sheet _ _ w.heap.size _ _ (.slice none 0 0) ?h2 ?h3 ((H_F.out.set _ _).2)) rfl ?_
          case h2 => simp
          case h3 => simp
          refine ⟨(H_F.out.set _ _).1.bel, none, 0, 0, ?_, [], OwnR.nil _ _ _ _, (fun x hx => by cases hx), ?_⟩
          · rw [H_hre.out]; rfl
          · rw [H_hre.out]; rfl
        | false =>
          go_wp2_with fail
          ((try go_simp); (repeat go_step))
          with_reducible refine bodyPost_ret (rres_sheet _ _ w.heap.size _ _ (.slice none 0 0) ?h2 ?h3 ((H_F.out.set _ _).2)) rfl ?_
          case h2 => simp
          case h3 => simp
          refine ⟨(H_F.out.set _ _).1.bel, none, 0, 0, ?_, [], OwnR.nil _ _ _ _, (fun x hx => by cases hx), ?_⟩
          · rw [H_hre.out]; rfl
          · rw [H_hre.out]; rfl
    · have hi2 : i < n := by omega
      have ge : ((i : Int) == (n : Int)) = false := by rw [beq_eq_false_iff_ne]; omega
      have hlv : (cutF 10 s).1.getD i [] = wd := by rw [← hgd]; exact (cutL_get_lt (by rw [H_hn.out]; exact hi2)).symm
      clear hi hlen2
      obtain ⟨O, hO⟩ : ∃ u, lineP wd = u := ⟨_, rfl⟩
      rw [hO] at cC
      cases O with
      | none =>
        have hre := shC_bad hsl H_rd.out (by rw [H_hn.out]; exact hi2) (by rw [hlv]; exact hO)
        have H_hre := Lib.hid hre
        clear hre
        have H_hgd := Lib.hid hgd
        clear hgd
        have H_hwd := Lib.hid hwd
        clear hwd
        have H_cC := Lib.hid cC
        clear cC
        have H_hsl := Lib.hid hsl
        clear hsl
        have H_hlv := Lib.hid hlv
        clear hlv
        have H_hl := Lib.hid hl
        clear hl
        have H_hO := Lib.hid hO
        clear hO
        go_wp2_with fail
        refine (H_cC.out _).mono ?_
        rintro en w5 ⟨hb5, ra, rc, rd, so5, sl5, sc5, ok, rfl, hmt⟩
        have hF5 := H_F.out.step hb5
        have hW5 := H_W.out.step hb5
        have z5 : wr.heap.size ≤ w5.heap.size := hb5.size
        have hbA : Below w5.heap.size w5 (w5.alloc (.cells #[.string ra, .slice so5 sl5 sc5, .string rc, .string rd] 150)) := (Below.refl _ _).alloc (Nat.le_refl _) _
        have hF6 := hF5.step hbA
        obtain ⟨y0, y1, a0, a1, af⟩ := hF6.f
        have H_F := Lib.hid hF6
        clear hb5 d0 hF5 hF6 hbA
        have H_hW5 := Lib.hid hW5
        clear hW5
        obtain rfl : ok = false := hmt
        go_wp2_with fail
        ((try go_simp); (repeat go_step))
        with_reducible refine bodyPost_ret (rres_sheet _ _ w.heap.size _ _ (.slice none 0 0) ?h2 ?h3 ((H_F.out.set _ _).2)) rfl ?_
        case h2 => simp
        case h3 => simp
        refine ⟨(H_F.out.set _ _).1.bel, none, 0, 0, ?_, [], OwnR.nil _ _ _ _, (fun x hx => by cases hx), ?_⟩
        · rw [H_hre.out]; rfl
        · rw [H_hre.out]; rfl
      | some u =>
        have hrn : shT (cutF 10 s).1 (i + 1) = some (xs.map RrX.ru ++ [u]) := shT_next H_rd.out (by rw [hlv]; exact hO)
        have H_hgd := Lib.hid hgd
        clear hgd
        have H_hwd := Lib.hid hwd
        clear hwd
        have H_cC := Lib.hid cC
        clear cC
        have H_hsl := Lib.hid hsl
        clear hsl
        have H_hlv := Lib.hid hlv
        clear hlv
        have H_hl := Lib.hid hl
        clear hl
        have H_hO := Lib.hid hO
        clear hO
        have H_hrn := Lib.hid hrn
        clear hrn
        go_wp2_with fail
        refine (H_cC.out _).mono ?_
        rintro en w5 ⟨hb5, ra, rc, rd, so5, sl5, sc5, ok, rfl, hmt⟩
        have hF5 := H_F.out.step hb5
        have hW5 := H_W.out.step hb5
        have z5 : wr.heap.size ≤ w5.heap.size := hb5.size
        have hbA : Below w5.heap.size w5 (w5.alloc (.cells #[.string ra, .slice so5 sl5 sc5, .string rc, .string rd] 150)) := (Below.refl _ _).alloc (Nat.le_refl _) _
        have hF6 := hF5.step hbA
        obtain ⟨y0, y1, a0, a1, af⟩ := hF6.f
        have H_F := Lib.hid hF6
        clear hb5 d0 hF5 hF6 hbA
        have H_hW5 := Lib.hid hW5
        clear hW5
        obtain ⟨rfl, rfl, rfl, rfl, ys, hy1, hy2, hy3⟩ := hmt
        clear a0 a1 af
        have hbk : Below w5.heap.size w5 ((w5.alloc (.cells #[.string (bs u.tx), .slice so5 sl5 sc5, .string (bs u.nm), .string (bs u.vl)] 150)).alloc (.cells #[.string (bs u.tx), .slice so5 sl5 sc5, .string (bs u.nm), .string (bs u.vl)] 150)) := ((Below.refl w5.heap.size w5).alloc (Nat.le_refl _) _).alloc (by simp) _
        have hW6 := H_hW5.out.step hbk
        have hwr := H_W.out.size
        have hsep : ∀ {α : Type} {En : Enc α} {e : TypeId} {q : Value} {m : List α}, OwnR En w5 wr.heap.size e q m → ∀ b, q.ownBlock = some b → (Value.slice ov xs.length cv).ownBlock ≠ some b := fun hq b hb e => by
          have h1 := (hq.lt b hb).1
          have h2 := (H_W.out.own.lt b e).2
          omega
        have hx6 : RuK 213 9 ((w5.alloc (.cells #[.string (bs u.tx), .slice so5 sl5 sc5, .string (bs u.nm), .string (bs u.vl)] 150)).alloc (.cells #[.string (bs u.tx), .slice so5 sl5 sc5, .string (bs u.nm), .string (bs u.vl)] 150)) w1.heap.size (.slice ov xs.length cv) ⟨u.tx, so5, sl5, sc5, ys, u.nm, u.vl⟩ :=
          ⟨⟨(hy1.keep hbk).base hwr, hsep hy1⟩, fun y hy => ⟨((hy2 y hy).keep hbk).base hwr, hsep (hy2 y hy)⟩⟩
        have hxl := (shT_all H_rd.out).1
        rw [List.length_map] at hxl
        have hxc : xs.length + 1 ≤ 1000000 := by have := H_hsl.out; omega
        have hru : RrX.ru ⟨u.tx, so5, sl5, sc5, ys, u.nm, u.vl⟩ = u := by
          show (⟨ys.map SrX.st, u.tx, u.nm, u.vl⟩ : Ru) = u
          rw [hy3]
        clear hy1 hy2 hsep
        have H_hW6 := Lib.hid hW6
        clear hW6
        have H_hx6 := Lib.hid hx6
        clear hx6
        have H_hxl := Lib.hid hxl
        clear hxl
        have H_hbk := Lib.hid hbk
        clear hbk
        have H_hru := Lib.hid hru
        clear hru
        have H_hy3 := Lib.hid hy3
        clear hy3
        go_wp2_with (at_builtin; refine wp_append_told rfl (.tmp 52) (.tmp 54) 71 rfl ERr w1.heap.size 150 i0 _ 72 Tryz.underlying71 H_hi0.out H_hz0.out H_hz1.out H_hz2.out rfl (by decide) _ xs rfl _ _ 1 1 [⟨u.tx, so5, sl5, sc5, ys, u.nm, u.vl⟩] rfl rfl ?a1 ?a2 ?a3 ?a4 ?_)
        case a1 => exact hxc
        case a2 => exact H_hW6.out.own
        case a3 => exact row_one (vs := #[.string (bs u.tx), .slice so5 sl5 sc5, .string (bs u.nm), .string (bs u.vl)]) rfl (fun j => by have h := World.cell?_alloc_new (w5.alloc (.cells #[.string (bs u.tx), .slice so5 sl5 sc5, .string (bs u.nm), .string (bs u.vl)] 150)) #[.string (bs u.tx), .slice so5 sl5 sc5, .string (bs u.nm), .string (bs u.vl)] 150 j; rw [World.size_alloc] at h; exact h)
        case a4 => exact H_hW6.out.size
        intro v3 w6 hv3 hA3 hg3 ho3
        obtain ⟨o3, c3, rfl⟩ := Pk.ow_form hv3
        have hW7 := H_hW6.out.app (x := ⟨u.tx, so5, sl5, sc5, ys, u.nm, u.vl⟩) H_hx6.out hv3 hg3 (by rw [World.size_alloc, World.size_alloc]; exact ho3)
        clear hv3 hA3 hg3 ho3
        have H_hW7 := Lib.hid hW7
        clear hW7
        go_wp2_with fail
        go_roundw
        case rel => exact ⟨i + 1, _, xs ++ [⟨u.tx, so5, sl5, sc5, ys, u.nm, u.vl⟩], by omega, rfl, by go_num, Lib.hid (by rw [List.map_append, List.map_cons, List.map_nil, H_hru.out]; exact H_hrn.out), H_hW7⟩
        case measure => simp [intOf]; omega
end Go.Proofs.YteaipondofbecaaGreatDoor
