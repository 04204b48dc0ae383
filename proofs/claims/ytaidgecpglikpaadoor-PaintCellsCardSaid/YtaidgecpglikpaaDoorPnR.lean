/-
  The statement PaintReaches: its walk.
-/
import Derived.Test.YtaidgecpglikpaaDoorPnQ
namespace Lead
open Go Go.RowKit
theorem longB_no {l : List Pc} (h : longB l = false) : l.length ≤ 8 ∧ ∀ p ∈ l, p.len ≤ 40 ∧ p.fill.size ≤ 60 ∧ p.rule.size ≤ 60 := by
  unfold longB at h
  rw [Bool.or_eq_false_iff] at h
  refine ⟨by have := h.1; simp at this; exact this, fun p hp => ?_⟩
  have h2 := List.any_eq_false.1 h.2 p hp
  unfold longP at h2
  simp at h2
  omega
theorem cells_take (l : List Pk) (n y : Nat) : ∀ h, y < h → ((cellsP l n h).drop (y * n)).take n = rowP l y (dots n) := by
  intro h
  induction h with
  | zero => intro hy; omega
  | succ h ih =>
    intro hy
    rw [cellsP_step]
    have hlen := cellsP_len l n h
    by_cases hh : y = h
    · subst hh
      rw [List.drop_append_of_le_length (by omega), List.drop_of_length_le (by omega), List.nil_append]
      exact List.take_of_length_le (by rw [rowP_len]; simp [dots])
    · have hy' : y < h := by omega
      have hle : (y + 1) * n ≤ h * n := Nat.mul_le_mul_right _ hy'
      rw [Nat.succ_mul] at hle
      rw [List.drop_append_of_le_length (by omega), List.take_append_of_le_length (by rw [List.length_drop]; omega)]
      exact ih hy'
end Lead
