/-
  Several texts as one: Dec1, Dec4, Dec7.
-/
import Derived.Test.YteaipondofbecaaGreatDoorPa
import Derived.Lib.ItoaLen
import Derived.Lib.AtoiAllCases
import Derived.Lib.AtoiTie
import Derived.Lib.ItoaMem
import Derived.Lib.IndexBytes
import Derived.Lib.IndexMore
/-
  Plain: texts that are cut by a byte; numbers as digits.
-/
namespace Lead
open Go Go.RowKit

/-- A text cut by a byte: what is done, and what has begun. -/
def cutStep (y : UInt8) (s : List (List UInt8) × List UInt8) (c : UInt8) : List (List UInt8) × List UInt8 := if c = y then (s.1 ++ [s.2], []) else (s.1, s.2 ++ [c])
def cutF (y : UInt8) (l : List UInt8) : List (List UInt8) × List UInt8 := l.foldl (cutStep y) ([], [])
def cutL (y : UInt8) (l : List UInt8) : List (List UInt8) := (cutF y l).1 ++ [(cutF y l).2]
theorem cutF_snoc (y : UInt8) (l : List UInt8) (c : UInt8) : cutF y (l ++ [c]) = cutStep y (cutF y l) c := by
  unfold cutF; rw [List.foldl_append]; rfl
theorem cutF_take (y : UInt8) (l : List UInt8) (k : Nat) (h : k < l.length) : cutF y (l.take (k + 1)) = cutStep y (cutF y (l.take k)) l[k] := by
  rw [List.take_succ_eq_append_getElem h, cutF_snoc]
theorem snoc_ind {α : Type} {P : List α → Prop} (h0 : P []) (h1 : ∀ l a, P l → P (l ++ [a])) (l : List α) : P l := by
  have : ∀ r : List α, P r.reverse := by
    intro r
    induction r with
    | nil => exact h0
    | cons a r ih => rw [List.reverse_cons]; exact h1 _ _ ih
  have := this l.reverse
  rwa [List.reverse_reverse] at this
theorem cutF_len (y : UInt8) (l : List UInt8) : (cutF y l).1.length ≤ l.length := by
  induction l using snoc_ind with
  | h0 => simp [cutF]
  | h1 l c ih =>
    rw [cutF_snoc]
    unfold cutStep
    split <;> simp <;> omega
/-- The first cut: what is ahead of the first such byte, and what is behind. -/
def cut1 (y : UInt8) : List UInt8 → List UInt8 × List UInt8 × Bool
  | [] => ([], [], false)
  | c :: l => if c = y then ([], l, true) else (c :: (cut1 y l).1, (cut1 y l).2.1, (cut1 y l).2.2)

end Lead

/-
  Plain: fractions as texts: what is read.
-/
namespace Lead
open Go Go.RowKit

def cutR (y : UInt8) : List UInt8 → List (List UInt8)
  | [] => [[]]
  | c :: l => if c = y then [] :: cutR y l else (c :: (cutR y l).headD []) :: (cutR y l).tail
theorem cutR_ne (y : UInt8) (l : List UInt8) : cutR y l ≠ [] := by
  cases l with
  | nil => simp [cutR]
  | cons c l => unfold cutR; split <;> simp
theorem cutR_eta (y : UInt8) (l : List UInt8) : (cutR y l).headD [] :: (cutR y l).tail = cutR y l := by
  cases h : cutR y l with
  | nil => exact absurd h (cutR_ne y l)
  | cons a r => rfl
theorem cut_fold (y : UInt8) (l : List UInt8) : ∀ (L : List (List UInt8)) (cur : List UInt8), (l.foldl (cutStep y) (L, cur)).1 ++ [(l.foldl (cutStep y) (L, cur)).2] = L ++ ((cur ++ (cutR y l).headD []) :: (cutR y l).tail) := by
  induction l with
  | nil => intro L cur; simp [cutR]
  | cons c l ih =>
    intro L cur
    rw [List.foldl_cons]
    by_cases h : c = y
    · rw [show cutStep y (L, cur) c = (L ++ [cur], []) from if_pos h]
      have := ih (L ++ [cur]) []
      rw [this]
      have e := cutR_eta y l
      simp only [cutR, if_pos h, List.nil_append, List.headD_cons, List.append_nil, List.tail_cons, e]
      simp
    · rw [show cutStep y (L, cur) c = (L, cur ++ [c]) from if_neg h]
      have := ih L (cur ++ [c])
      rw [this]
      simp only [cutR, if_neg h, List.headD_cons, List.tail_cons]
      simp
theorem cutL_R (y : UInt8) (l : List UInt8) : cutL y l = cutR y l := by
  have := cut_fold y l [] []
  rw [List.nil_append, List.nil_append, cutR_eta] at this
  exact this
theorem cutR_1 (y : UInt8) (l : List UInt8) : cutR y l = if (cut1 y l).2.2 = true then (cut1 y l).1 :: cutR y (cut1 y l).2.1 else [(cut1 y l).1] := by
  induction l with
  | nil => simp [cutR, cut1]
  | cons c l ih =>
    by_cases h : c = y
    · simp [cutR, cut1, h]
    · simp only [cutR, cut1, if_neg h]
      rw [ih]
      split <;> rfl
theorem cut1_no (y : UInt8) (l : List UInt8) (h : (cut1 y l).2.2 = false) : (cut1 y l).1 = l := by
  induction l with
  | nil => rfl
  | cons c l ih =>
    by_cases h1 : c = y
    · simp [cut1, h1] at h
    · simp only [cut1, if_neg h1] at h ⊢
      rw [ih h]
theorem cut1_yes (y : UInt8) (l : List UInt8) (h : (cut1 y l).2.2 = true) : l = (cut1 y l).1 ++ y :: (cut1 y l).2.1 := by
  induction l with
  | nil => simp [cut1] at h
  | cons c l ih =>
    by_cases h1 : c = y
    · simp [cut1, h1]
    · simp only [cut1, if_neg h1] at h ⊢
      rw [List.cons_append, ← ih h]
end Lead

/-
  Plain: package frac's numbers are the reference's; a text cut at its first byte.
-/
namespace Lead
open Go Go.RowKit

end Lead
