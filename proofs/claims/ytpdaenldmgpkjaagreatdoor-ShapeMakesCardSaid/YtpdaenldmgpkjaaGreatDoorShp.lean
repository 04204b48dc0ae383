/-
  Plain: a shape out of a text: words cut by blanks; each a point: two fractions with a comma between.
-/
import Derived.Test.YtpdaenldmgpkjaaGreatDoorDa
import Derived.Test.YtpdaenldmgpkjaaGreatDoorPa
namespace Lead
open Go Go.RowKit
theorem numOf_no {l : List UInt8} {m : Nat} (h : 0 ≤ numOf l m) : (44 : UInt8) ∉ l := by
  obtain ⟨u, _, rfl, _⟩ := numOf_some h
  intro hm
  exact absurd (List.all_eq_true.1 (dec_all u) 44 hm) (by decide)
theorem numS_no {l : List UInt8} {n : Int} (h : numS l = some n) : (44 : UInt8) ∉ l := by
  unfold numS at h
  split at h
  · next h45 =>
    split at h
    · next h1 =>
      cases l with
      | nil => simp at h45
      | cons c r =>
        obtain rfl : c = 45 := by simpa using h45
        have h2 : (44 : UInt8) ∉ r := numOf_no (m := 10) (by simp only [List.drop_succ_cons, List.drop_zero] at h1; omega)
        intro hm
        rcases List.mem_cons.1 hm with h | h
        · exact absurd h (by decide)
        · exact h2 h
    · cases h
  · split at h
    · next h0 => exact numOf_no h0
    · cases h
theorem rdP_no {l : List UInt8} {x : Int × Int} (h : rdP l = some x) : (44 : UInt8) ∉ l := by
  unfold rdP at h
  split at h
  · cases h
  · next n hn =>
    split at h
    · next h2 =>
      split at h
      · cases h
      · next h3 =>
        intro hm
        rw [cut1_yes 47 l h2] at hm
        rcases List.mem_append.1 hm with h | h
        · exact numS_no hn h
        · rcases List.mem_cons.1 h with h | h
          · exact absurd h (by decide)
          · exact numOf_no (m := 10) (by omega) h
    · next h2 =>
      have h4 := cut1_no 47 l (by simpa using h2)
      rw [h4] at hn
      exact numS_no hn
theorem rdC_no {l : List UInt8} (h : (44 : UInt8) ∈ l) : rdC l ≠ 0 := by
  unfold rdC
  split
  · decide
  · next x hx => exact absurd h (rdP_no hx)
theorem cut1_mem (y : UInt8) (l : List UInt8) (h : y ∈ l) : (cut1 y l).2.2 = true := by
  cases h2 : (cut1 y l).2.2 with
  | true => rfl
  | false =>
    have h3 := cutR_1 y l
    rw [h2] at h3
    exfalso
    revert h h2
    clear h3
    induction l with
    | nil => intro h; cases h
    | cons c r ih =>
      intro h h2
      unfold cut1 at h2
      by_cases hc : c = y
      · rw [if_pos hc] at h2; cases h2
      · rw [if_neg hc] at h2
        rcases List.mem_cons.1 h with h | h
        · exact hc h.symm
        · exact ih h h2
/-- Is a word a point? -/
def ptB (l : List UInt8) : Bool := (cut1 44 l).2.2 && (rdC (cut1 44 l).1 == 0) && (rdC (cut1 44 l).2.1 == 0)
theorem cut2 (l : List UInt8) (h : (cut1 44 l).2.2 = true) (hy : (44 : UInt8) ∉ (cut1 44 l).2.1) : cutL 44 l = [(cut1 44 l).1, (cut1 44 l).2.1] := by
  rw [cutL_R, cutR_1, if_pos h, cutR_1]
  have h2 : (cut1 44 (cut1 44 l).2.1).2.2 = false := by
    cases h3 : (cut1 44 (cut1 44 l).2.1).2.2 with
    | false => rfl
    | true =>
      exact absurd (by rw [cut1_yes 44 _ h3]; simp) hy
  rw [h2, if_neg (by decide), cut1_no 44 _ h2]
/-- A word that is no point: cut by commas it has not two parts, or one of them is no fraction. -/
theorem ptB_cut (l : List UInt8) : ptB l = decide ((cutL 44 l).length = 2 ∧ rdC ((cutL 44 l).getD 0 []) = 0 ∧ rdC ((cutL 44 l).getD 1 []) = 0) := by
  unfold ptB
  cases h : (cut1 44 l).2.2 with
  | false =>
    rw [cutL_R, cutR_1, h, if_neg (by decide)]
    simp
  | true =>
    by_cases hy : (44 : UInt8) ∈ (cut1 44 l).2.1
    · have h1 : (rdC (cut1 44 l).2.1 == 0) = false := by simpa using rdC_no hy
      have h2 : (cutL 44 l).length ≠ 2 := by
        rw [cutL_R, cutR_1, if_pos h, cutR_1, if_pos (cut1_mem 44 _ hy)]
        have h3 := cutR_ne 44 (cut1 44 (cut1 44 l).2.1).2.1
        have h4 : (cutR 44 (cut1 44 (cut1 44 l).2.1).2.1).length ≠ 0 := fun h5 => h3 (List.eq_nil_of_length_eq_zero h5)
        simp only [List.length_cons]; omega
      rw [h1]; simp [h2]
    · rw [cut2 l h hy]
      by_cases h1 : rdC (cut1 44 l).1 = 0 <;> by_cases h2 : rdC (cut1 44 l).2.1 = 0 <;> simp [h1, h2]
def ptV (l : List UInt8) : Pt := ⟨rdN (cut1 44 l).1, rdD (cut1 44 l).1, rdN (cut1 44 l).2.1, rdD (cut1 44 l).2.1⟩
/-- The points of words, so far as they are points. -/
def shW : List (List UInt8) → Option (List Pt)
  | [] => some []
  | w :: r => if ptB w = true then (shW r).map (ptV w :: ·) else none
theorem shW_all {l : List (List UInt8)} (h : ∀ x ∈ l, ptB x = true) : shW l = some (l.map ptV) := by
  induction l with
  | nil => rfl
  | cons x r ih =>
    rw [shW, if_pos (h x List.mem_cons_self), ih fun y hy => h y (List.mem_cons_of_mem _ hy)]
    rfl
theorem shW_none {l : List (List UInt8)} {x : List UInt8} (hx : x ∈ l) (h : ptB x = false) : shW l = none := by
  induction l with
  | nil => cases hx
  | cons y r ih =>
    rw [shW]
    split
    · next hy =>
      rcases List.mem_cons.1 hx with rfl | hx
      · rw [h] at hy; cases hy
      · rw [ih hx]; rfl
    · rfl
end Lead
