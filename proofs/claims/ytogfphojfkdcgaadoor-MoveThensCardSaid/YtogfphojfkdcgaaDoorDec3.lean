/-
  Walks over the document's answer: a number of digits.
-/
import Derived.Test.YtogfphojfkdcgaaDoorDa
import Derived.Test.YtogfphojfkdcgaaDoorRows
namespace Lead
open Go Go.RowKit
theorem numOf_cases (l : List UInt8) (most : Nat) : (l.length < 1 ∧ numOf l most = -1) ∨ (1 ≤ l.length ∧ most < l.length ∧ numOf l most = -1) ∨ (1 < l.length ∧ l.length ≤ most ∧ l.head? = some 48 ∧ numOf l most = -1) ∨
    (1 ≤ l.length ∧ l.length ≤ most ∧ ¬ (1 < l.length ∧ l.head? = some 48) ∧ numOf l most = if l.all isDig = true then (numF l : Int) else -1) := by
  unfold numOf
  by_cases h1 : l.length < 1
  · exact .inl ⟨h1, if_pos (.inl h1)⟩
  · by_cases h2 : most < l.length
    · exact .inr (.inl ⟨by omega, h2, if_pos (.inr (.inl h2))⟩)
    · by_cases h3 : 1 < l.length ∧ l.head? = some 48
      · exact .inr (.inr (.inl ⟨h3.1, by omega, h3.2, if_pos (.inr (.inr h3))⟩))
      · exact .inr (.inr (.inr ⟨by omega, by omega, h3, if_neg (by rintro (h | h | h) <;> first | omega | exact h3 h)⟩))
theorem numF_take {l : List UInt8} {k : Nat} (h : k < l.length) : numF (l.take (k + 1)) = 10 * numF (l.take k) + (l[k].toNat - 48) := by
  rw [List.take_succ_eq_append_getElem h, numF_snoc]
theorem all_take {l : List UInt8} {k : Nat} (h : k < l.length) : (l.take (k + 1)).all isDig = ((l.take k).all isDig && isDig l[k]) := by
  rw [List.take_succ_eq_append_getElem h, List.all_append]; simp
theorem numF_bound {l : List UInt8} {k : Nat} (h : (l.take k).all isDig = true) (hk : k ≤ 10) : numF (l.take k) < 10000000000 := by
  have h1 := numF_lt h
  have h2 : (l.take k).length ≤ 10 := by rw [List.length_take]; omega
  have h3 : (10 : Nat) ^ (l.take k).length ≤ 10 ^ 10 := Nat.pow_le_pow_right (by decide) h2
  have h4 : (10 : Nat) ^ 10 = 10000000000 := by decide
  omega
theorem bytes_at {s : ByteArray} {k : Nat} (h : k < s.size) : s.data.toList[k]'(by simpa using h) = s[k] := rfl
theorem head_at {s : ByteArray} (h : 0 < s.size) : s.data.toList.head? = some s[0] := by
  rw [List.head?_eq_getElem?, List.getElem?_eq_getElem (by simpa using h)]; rfl
def NumRel (s : ByteArray) (n i : Value) : Prop := ∃ k : Nat, k ≤ s.size ∧ i = .int .i64 k ∧ (s.data.toList.take k).all isDig = true ∧ n = .int .i64 (numF (s.data.toList.take k))
end Lead
namespace Go.Proofs.YtogfphojfkdcgaaDoor
open Go.RowKit Lead

end Go.Proofs.YtogfphojfkdcgaaDoor
