/-
  Plain: a shape out of a text: the error, and the points.
-/
import Derived.Test.YtpdaenldmgpkjaaGreatDoorShp
import Derived.Test.YtpdaenldmgpkjaaGreatDoorPa
namespace Lead
open Go Go.RowKit
/-- What reading a text as a shape tells: the error, and the points. -/
def readC (l : List UInt8) : Nat × Option Nat := if l = [] then (0, none) else match shW (cutL 32 l) with
  | none => (1, none)
  | some ps => shC ps
def readL (l : List UInt8) : List Pt := if l = [] then [] else if readC l = (0, none) then (cutL 32 l).map ptV else []
theorem readC_bad {l x : List UInt8} (h0 : l ≠ []) (hx : x ∈ cutL 32 l) (h : ptB x = false) : readC l = (1, none) ∧ readL l = [] := by
  have e : readC l = (1, none) := by unfold readC; rw [if_neg h0, shW_none hx h]
  exact ⟨e, by unfold readL; rw [if_neg h0, e, if_neg (by decide)]⟩
theorem readC_ok {l : List UInt8} (h0 : l ≠ []) (h : ∀ x ∈ cutL 32 l, ptB x = true) : readC l = shC ((cutL 32 l).map ptV) := by
  unfold readC
  rw [if_neg h0, shW_all h]
theorem readL_ok {l : List UInt8} (h0 : l ≠ []) (h : readC l = (0, none)) : readL l = (cutL 32 l).map ptV := by unfold readL; rw [if_neg h0, if_pos h]
theorem readL_no {l : List UInt8} (h : (readC l).1 ≠ 0) : readL l = [] := by
  unfold readL
  split
  · rfl
  · rw [if_neg (fun e => h (by rw [e]))]
theorem rdC_R {l : List UInt8} (h : rdC l = 0) : Right (rdN l) (rdD l) := by
  cases hp : rdP l with
  | none => rw [rd_none hp] at h; cases h
  | some x =>
    obtain ⟨n, d⟩ := x
    obtain ⟨h1, h2, h3⟩ := rd_some hp
    rw [h2, h3]
    exact chk_0 (h1.symm.trans h)
theorem ptV_cut {l c0 c1 : List UInt8} (hc : cutL 44 l = [c0, c1]) (h : ptB l = true) : ptV l = ⟨rdN c0, rdD c0, rdN c1, rdD c1⟩ ∧ rdC c0 = 0 ∧ rdC c1 = 0 := by
  have h' := h
  unfold ptB at h'
  simp only [Bool.and_eq_true, beq_iff_eq] at h'
  obtain ⟨⟨h1, h2⟩, h3⟩ := h'
  have h4 := cut2 l h1 (fun hm => rdC_no hm h3)
  rw [hc] at h4
  obtain ⟨rfl, rfl⟩ : c0 = (cut1 44 l).1 ∧ c1 = (cut1 44 l).2.1 := by
    injection h4 with a b
    injection b with b
    exact ⟨a, b⟩
  exact ⟨rfl, h2, h3⟩
theorem ptV_I {l : List UInt8} (h : ptB l = true) : (ptV l).I := by
  have h' := h
  unfold ptB at h'
  simp only [Bool.and_eq_true, beq_iff_eq] at h'
  obtain ⟨⟨h1, h2⟩, h3⟩ := h'
  exact ⟨(rdC_R h2).ni, (rdC_R h2).di, (rdC_R h3).ni, (rdC_R h3).di⟩
theorem ptB_two {l c0 c1 : List UInt8} (hc : cutL 44 l = [c0, c1]) : ptB l = decide (rdC c0 = 0 ∧ rdC c1 = 0) := by
  rw [ptB_cut, hc]; simp
theorem ptB_not {l : List UInt8} (h : (cutL 44 l).length ≠ 2) : ptB l = false := by
  rw [ptB_cut]; exact decide_eq_false (fun h' => h h'.1)
theorem size_list2 (s : ByteArray) : s.data.toList.length = s.size := by simp
theorem tst2 (s : ByteArray) (L : List UInt8) : ((s.toList == L) = true ∧ s.data.toList = L) ∨ ((s.toList == L) = false ∧ s.data.toList ≠ L) := by
  by_cases h : s.toList = L
  · exact .inl ⟨by rw [h]; exact beq_self_eq_true _, by rw [← ByteArray.toList_eq]; exact h⟩
  · exact .inr ⟨beq_eq_false_iff_ne.2 h, by rw [← ByteArray.toList_eq]; exact h⟩
theorem cutw_le (y : UInt8) : ∀ (n : Nat) (l : List UInt8), l.length ≤ n → (cutL y l).length ≤ l.length + 1 ∧ ∀ x ∈ cutL y l, x.length ≤ l.length := by
  intro n
  induction n with
  | zero =>
    intro l hl
    obtain rfl := List.length_eq_zero_iff.1 (Nat.le_zero.1 hl)
    exact ⟨Nat.le_refl 1, fun x hx => by rw [show cutL y [] = [[]] from rfl] at hx; simp at hx; rw [hx]; exact Nat.le_refl _⟩
  | succ n ih =>
    intro l hl
    cases hb : (cut1 y l).2.2 with
    | false =>
      have e : cutL y l = [l] := by rw [cutL_R, cutR_1, hb, if_neg (by decide), cut1_no y l hb]
      rw [e]
      exact ⟨by simp, fun x hx => by simp at hx; rw [hx]; exact Nat.le_refl _⟩
    | true =>
      have e : cutL y l = (cut1 y l).1 :: cutL y (cut1 y l).2.1 := by rw [cutL_R, cutR_1, if_pos hb, cutL_R]
      have h1 := congrArg List.length (cut1_yes y l hb)
      rw [List.length_append, List.length_cons] at h1
      obtain ⟨h2, h3⟩ := ih (cut1 y l).2.1 (by omega)
      rw [e]
      refine ⟨by rw [List.length_cons]; omega, fun x hx => ?_⟩
      rcases List.mem_cons.1 hx with rfl | hx
      · omega
      · have := h3 x hx; omega
theorem cutL_len2 (y : UInt8) (l : List UInt8) : (cutL y l).length ≤ l.length + 1 := (cutw_le y _ l (Nat.le_refl _)).1
theorem cutL_mem2 {y : UInt8} {l x : List UInt8} (h : x ∈ cutL y l) : x.length ≤ l.length := (cutw_le y _ l (Nat.le_refl _)).2 x h
theorem rdC_le2 (l : List UInt8) : rdC l ≤ 11 := by
  unfold rdC
  split
  · decide
  · next x _ => rcases chk_cases x.1 x.2 with ⟨_, h⟩ | ⟨_, _, h⟩ | ⟨_, _, _, h⟩ | ⟨_, _, _, _, h⟩ | ⟨_, _, _, _, h⟩ <;> rw [h] <;> decide
end Lead
