/-
  Plain: texts that are cut by a byte; numbers as digits.
-/
import Derived.Test.YthijgncjaophjaaDoorBase
import Derived.Lib.ItoaLen
import Derived.Lib.AtoiAllCases
import Derived.Lib.AtoiTie
namespace Lead
open Go Go.RowKit

/-- A text cut by a byte: what is done, and what has begun. -/
def cutStep (y : UInt8) (s : List (List UInt8) × List UInt8) (c : UInt8) : List (List UInt8) × List UInt8 := if c = y then (s.1 ++ [s.2], []) else (s.1, s.2 ++ [c])
def cutF (y : UInt8) (l : List UInt8) : List (List UInt8) × List UInt8 := l.foldl (cutStep y) ([], [])
def cutL (y : UInt8) (l : List UInt8) : List (List UInt8) := (cutF y l).1 ++ [(cutF y l).2]
theorem cutF_snoc (y : UInt8) (l : List UInt8) (c : UInt8) : cutF y (l ++ [c]) = cutStep y (cutF y l) c := by
  unfold cutF; rw [List.foldl_append]; rfl
theorem cutF_take (y : UInt8) (l : List UInt8) (k : Nat) (h : k < l.length) : cutF y (l.take (k + 1)) = cutStep y (cutF y (l.take k)) l[k] := by
  rw [List.take_succ_eq_append_getElem h, cutF_snoc]
theorem snoc_ind {α : Type} {P : List α → Prop} (h0 : P []) (h1 : ∀ l a, P l → P (l ++ [a])) (l : List α) : P l := by
  have : ∀ r : List α, P r.reverse := by
    intro r
    induction r with
    | nil => exact h0
    | cons a r ih => rw [List.reverse_cons]; exact h1 _ _ ih
  have := this l.reverse
  rwa [List.reverse_reverse] at this
theorem cutF_len (y : UInt8) (l : List UInt8) : (cutF y l).1.length ≤ l.length := by
  induction l using snoc_ind with
  | h0 => simp [cutF]
  | h1 l c ih =>
    rw [cutF_snoc]
    unfold cutStep
    split <;> simp <;> omega
/-- What is cut off last: the text behind the last such byte. -/
theorem cutF_last (y : UInt8) (l : List UInt8) : (cutF y l).2.length ≤ l.length ∧ (cutF y l).2 = l.drop (l.length - (cutF y l).2.length) := by
  induction l using snoc_ind with
  | h0 => simp [cutF]
  | h1 l c ih =>
    rw [cutF_snoc]
    unfold cutStep
    obtain ⟨h1, h2⟩ := ih
    split
    · simp
    · refine ⟨by simp; omega, ?_⟩
      simp only [List.length_append, List.length_singleton]
      rw [show l.length + 1 - ((cutF y l).2.length + 1) = l.length - (cutF y l).2.length by omega, List.drop_append_of_le_length (by omega), ← h2]

/-- The first cut: what is ahead of the first such byte, and what is behind. -/
def cut1 (y : UInt8) : List UInt8 → List UInt8 × List UInt8 × Bool
  | [] => ([], [], false)
  | c :: l => if c = y then ([], l, true) else (c :: (cut1 y l).1, (cut1 y l).2.1, (cut1 y l).2.2)

/-- A digit. -/
def isDig (c : UInt8) : Bool := decide (48 ≤ c.toNat ∧ c.toNat ≤ 57)
/-- The number of digits. -/
def numF (l : List UInt8) : Nat := l.foldl (fun n c => 10 * n + (c.toNat - 48)) 0
theorem numF_snoc (l : List UInt8) (c : UInt8) : numF (l ++ [c]) = 10 * numF l + (c.toNat - 48) := by
  unfold numF; rw [List.foldl_append]; rfl
theorem numF_lt {l : List UInt8} (h : l.all isDig = true) : numF l < 10 ^ l.length := by
  induction l using snoc_ind with
  | h0 => simp [numF]
  | h1 l c ih =>
    rw [List.all_append, Bool.and_eq_true] at h
    have h2 := ih h.1
    have h3 : 48 ≤ c.toNat ∧ c.toNat ≤ 57 := by have := h.2; simp [isDig] at this; exact this
    rw [numF_snoc, List.length_append, List.length_singleton, Nat.pow_succ]
    omega
/-- A number of digits, so many at most (-1: it is none). -/
def numOf (l : List UInt8) (most : Nat) : Int := if l.length < 1 ∨ most < l.length ∨ (1 < l.length ∧ l.head? = some 48) then -1 else if l.all isDig = true then (numF l : Int) else -1
theorem ofNat_toNat {u : Nat} (h : u < 256) : (UInt8.ofNat u).toNat = u := by
  rw [UInt8.toNat_ofNat']; exact Nat.mod_eq_of_lt h
theorem dec_all (u : Nat) : (Lib.decDigits u).all isDig = true := by
  induction u using Nat.strongRecOn with
  | ind u ih =>
    rw [Lib.decDigits]
    split
    · rename_i h
      simp only [List.all_cons, List.all_nil, Bool.and_true]
      unfold isDig; rw [ofNat_toNat (by omega)]; simp; omega
    · rename_i h
      rw [List.all_append, ih (u / 10) (by omega)]
      simp only [List.all_cons, List.all_nil, Bool.and_true, Bool.true_and]
      unfold isDig; rw [ofNat_toNat (by omega)]; simp; omega
theorem dec_num (u : Nat) : numF (Lib.decDigits u) = u := by
  induction u using Nat.strongRecOn with
  | ind u ih =>
    rw [Lib.decDigits]
    split
    · rename_i h
      show 10 * 0 + ((UInt8.ofNat (48 + u)).toNat - 48) = u
      rw [ofNat_toNat (by omega)]; omega
    · rename_i h
      rw [numF_snoc, ih (u / 10) (by omega), ofNat_toNat (by omega)]; omega
theorem dec_ne (u : Nat) : 1 ≤ (Lib.decDigits u).length := by
  rw [Lib.decDigits]
  split
  · simp
  · simp
theorem dec_head (u : Nat) (h : (Lib.decDigits u).head? = some 48) : u = 0 := by
  induction u using Nat.strongRecOn with
  | ind u ih =>
    rw [Lib.decDigits] at h
    split at h
    · rename_i h1
      have h := Option.some.inj h
      have := congrArg UInt8.toNat h
      rw [ofNat_toNat (by omega)] at this
      have h2 : (48 : UInt8).toNat = 48 := rfl
      omega
    · rename_i h1
      have hne := dec_ne (u / 10)
      have h3 : (Lib.decDigits (u / 10)).head? = some 48 := by
        cases he : Lib.decDigits (u / 10) with
        | nil => rw [he] at hne; simp at hne
        | cons a r => rw [he] at h; simpa using h
      have := ih (u / 10) (by omega) h3
      omega
theorem dec_zero : Lib.decDigits 0 = [48] := by rw [Lib.decDigits]; rfl
/-- Digits without a nought ahead are the number's own. -/
theorem dec_of (l : List UInt8) (h0 : 1 ≤ l.length) (hd : l.all isDig = true) (hz : ¬ (1 < l.length ∧ l.head? = some 48)) : Lib.decDigits (numF l) = l := by
  induction l using snoc_ind with
  | h0 => simp at h0
  | h1 l c ih =>
    rw [List.all_append, Bool.and_eq_true] at hd
    have h3 : 48 ≤ c.toNat ∧ c.toNat ≤ 57 := by have := hd.2; simp [isDig] at this; exact this
    have hc : UInt8.ofNat (48 + (c.toNat - 48)) = c := by
      have : 48 + (c.toNat - 48) = c.toNat := by omega
      rw [this]; exact UInt8.ofNat_toNat
    rw [numF_snoc]
    cases l with
    | nil =>
      show Lib.decDigits (10 * 0 + (c.toNat - 48)) = [c]
      rw [Lib.decDigits, dif_pos (by omega)]
      simp only [Nat.mul_zero, Nat.zero_add]
      rw [hc]
    | cons a l =>
      have ha : a ≠ 48 := fun e => hz ⟨by simp, by simp [e]⟩
      have h1 := ih (by simp) hd.1 (fun ⟨_, h⟩ => ha (by simpa using h))
      have hpos : 1 ≤ numF (a :: l) := by
        rcases Nat.eq_zero_or_pos (numF (a :: l)) with h | h
        · rw [h, dec_zero] at h1
          simp at h1
          exact absurd h1.1.symm ha
        · exact h
      generalize numF (a :: l) = u at *
      rw [Lib.decDigits, dif_neg (by omega)]
      rw [show (10 * u + (c.toNat - 48)) / 10 = u by omega, show (10 * u + (c.toNat - 48)) % 10 = c.toNat - 48 by omega, hc, h1]
theorem numOf_dec {u most : Nat} (h : (Lib.decDigits u).length ≤ most) : numOf (Lib.decDigits u) most = u := by
  have h1 := dec_ne u
  unfold numOf
  rw [if_neg, if_pos (dec_all u), dec_num]
  rintro (h2 | h2 | ⟨h2, h3⟩)
  · omega
  · omega
  · rw [dec_head u h3, dec_zero] at h2; simp at h2
theorem numOf_some {l : List UInt8} {most : Nat} (h : 0 ≤ numOf l most) : ∃ u : Nat, numOf l most = u ∧ l = Lib.decDigits u ∧ l.length ≤ most := by
  unfold numOf at h ⊢
  by_cases h1 : l.length < 1 ∨ most < l.length ∨ (1 < l.length ∧ l.head? = some 48)
  · rw [if_pos h1] at h; omega
  · rw [if_neg h1] at h ⊢
    by_cases h2 : l.all isDig = true
    · rw [if_pos h2]
      exact ⟨numF l, rfl, (dec_of l (by omega) h2 (fun h3 => h1 (.inr (.inr h3)))).symm, by omega⟩
    · rw [if_neg h2] at h; omega
end Lead
