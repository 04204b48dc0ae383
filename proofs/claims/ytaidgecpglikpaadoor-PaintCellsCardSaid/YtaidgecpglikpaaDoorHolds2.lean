/-
  The walk over the statement ShapeHolds.
-/
import Derived.Test.YtaidgecpglikpaaDoorHolds1
import Derived.Test.YtaidgecpglikpaaDoorFaul
namespace Lead
open Go Go.RowKit Go.WideShapes
theorem chk_le3 (n d : Int) : chk n d ≤ 3 := by
  rcases chk_cases n d with ⟨_, h⟩ | ⟨_, _, h⟩ | ⟨_, _, _, h⟩ | ⟨_, _, _, _, h⟩ | ⟨_, _, _, _, h⟩ <;> omega
theorem ptC_le (a b c d : Int) : ptC a b c d ≤ 11 := by
  have := chk_le3 a b; have := chk_le3 c d
  rcases ptC_cases a b c d with ⟨_, h⟩ | ⟨_, _, h⟩ | ⟨_, _, _, h⟩ | ⟨_, _, _, _, h⟩ | ⟨_, _, _, _, h⟩ <;> omega
theorem firstBad_le (ps : List Pt) : ∀ k, (firstBad ps k).1 ≤ 11 := by
  induction ps with
  | nil => intro k; exact Nat.zero_le _
  | cons p ps ih =>
    intro k
    unfold firstBad
    by_cases h0 : p.c = 0
    · rw [if_pos h0]; exact ih _
    · rw [if_neg h0]; exact ptC_le _ _ _ _
theorem crL_err {ps : List Pt} {p : Pt} (h : crC ps p ≠ (0, none)) : (crL ps p).sum = 0 ∧ ((crL ps p).length : Int) = 0 := by
  unfold crL; rw [if_neg h]; exact ⟨rfl, rfl⟩
theorem str_lit {s : ByteArray} {l : List UInt8} (h : (s.toList == l) = true) : s = ⟨l.toArray⟩ := by
  have h1 := eq_of_beq h
  apply bytes_inj
  rw [← h1, ByteArray.toList_eq]
theorem shC_le (ps : List Pt) : (shC ps).1 ≤ 11 := by
  unfold shC
  split
  · decide
  · exact firstBad_le _ _
end Lead
namespace Go.Proofs.YtaidgecpglikpaaDoor
open Go.RowKit Lead
end Go.Proofs.YtaidgecpglikpaaDoor
