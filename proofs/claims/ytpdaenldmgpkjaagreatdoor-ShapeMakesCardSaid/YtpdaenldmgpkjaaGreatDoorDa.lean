/-
  Several texts as one: Dec1, Dec4, Dec7.
-/
import Derived.Test.YtpdaenldmgpkjaaGreatDoorPa
import Derived.Lib.ItoaLen
import Derived.Lib.AtoiAllCases
import Derived.Lib.AtoiTie
import Derived.Lib.ItoaMem
import Derived.Lib.IndexBytes
import Derived.Lib.IndexMore
/-
  Plain: texts that are cut by a byte; numbers as digits.
-/
namespace Lead
open Go Go.RowKit

/-- A text cut by a byte: what is done, and what has begun. -/
def cutStep (y : UInt8) (s : List (List UInt8) × List UInt8) (c : UInt8) : List (List UInt8) × List UInt8 := if c = y then (s.1 ++ [s.2], []) else (s.1, s.2 ++ [c])
def cutF (y : UInt8) (l : List UInt8) : List (List UInt8) × List UInt8 := l.foldl (cutStep y) ([], [])
def cutL (y : UInt8) (l : List UInt8) : List (List UInt8) := (cutF y l).1 ++ [(cutF y l).2]
theorem cutF_snoc (y : UInt8) (l : List UInt8) (c : UInt8) : cutF y (l ++ [c]) = cutStep y (cutF y l) c := by
  unfold cutF; rw [List.foldl_append]; rfl
theorem cutF_take (y : UInt8) (l : List UInt8) (k : Nat) (h : k < l.length) : cutF y (l.take (k + 1)) = cutStep y (cutF y (l.take k)) l[k] := by
  rw [List.take_succ_eq_append_getElem h, cutF_snoc]
theorem snoc_ind {α : Type} {P : List α → Prop} (h0 : P []) (h1 : ∀ l a, P l → P (l ++ [a])) (l : List α) : P l := by
  have : ∀ r : List α, P r.reverse := by
    intro r
    induction r with
    | nil => exact h0
    | cons a r ih => rw [List.reverse_cons]; exact h1 _ _ ih
  have := this l.reverse
  rwa [List.reverse_reverse] at this
theorem cutF_len (y : UInt8) (l : List UInt8) : (cutF y l).1.length ≤ l.length := by
  induction l using snoc_ind with
  | h0 => simp [cutF]
  | h1 l c ih =>
    rw [cutF_snoc]
    unfold cutStep
    split <;> simp <;> omega
/-- What is cut off last: the text behind the last such byte. -/
theorem cutF_last (y : UInt8) (l : List UInt8) : (cutF y l).2.length ≤ l.length ∧ (cutF y l).2 = l.drop (l.length - (cutF y l).2.length) := by
  induction l using snoc_ind with
  | h0 => simp [cutF]
  | h1 l c ih =>
    rw [cutF_snoc]
    unfold cutStep
    obtain ⟨h1, h2⟩ := ih
    split
    · simp
    · refine ⟨by simp; omega, ?_⟩
      simp only [List.length_append, List.length_singleton]
      rw [show l.length + 1 - ((cutF y l).2.length + 1) = l.length - (cutF y l).2.length by omega, List.drop_append_of_le_length (by omega), ← h2]

/-- The first cut: what is ahead of the first such byte, and what is behind. -/
def cut1 (y : UInt8) : List UInt8 → List UInt8 × List UInt8 × Bool
  | [] => ([], [], false)
  | c :: l => if c = y then ([], l, true) else (c :: (cut1 y l).1, (cut1 y l).2.1, (cut1 y l).2.2)

/-- A digit. -/
def isDig (c : UInt8) : Bool := decide (48 ≤ c.toNat ∧ c.toNat ≤ 57)
/-- The number of digits. -/
def numF (l : List UInt8) : Nat := l.foldl (fun n c => 10 * n + (c.toNat - 48)) 0
theorem numF_snoc (l : List UInt8) (c : UInt8) : numF (l ++ [c]) = 10 * numF l + (c.toNat - 48) := by
  unfold numF; rw [List.foldl_append]; rfl
theorem numF_lt {l : List UInt8} (h : l.all isDig = true) : numF l < 10 ^ l.length := by
  induction l using snoc_ind with
  | h0 => simp [numF]
  | h1 l c ih =>
    rw [List.all_append, Bool.and_eq_true] at h
    have h2 := ih h.1
    have h3 : 48 ≤ c.toNat ∧ c.toNat ≤ 57 := by have := h.2; simp [isDig] at this; exact this
    rw [numF_snoc, List.length_append, List.length_singleton, Nat.pow_succ]
    omega
/-- A number of digits, so many at most (-1: it is none). -/
def numOf (l : List UInt8) (most : Nat) : Int := if l.length < 1 ∨ most < l.length ∨ (1 < l.length ∧ l.head? = some 48) then -1 else if l.all isDig = true then (numF l : Int) else -1
theorem ofNat_toNat {u : Nat} (h : u < 256) : (UInt8.ofNat u).toNat = u := by
  rw [UInt8.toNat_ofNat']; exact Nat.mod_eq_of_lt h
theorem dec_all (u : Nat) : (Lib.decDigits u).all isDig = true := by
  induction u using Nat.strongRecOn with
  | ind u ih =>
    rw [Lib.decDigits]
    split
    · rename_i h
      simp only [List.all_cons, List.all_nil, Bool.and_true]
      unfold isDig; rw [ofNat_toNat (by omega)]; simp; omega
    · rename_i h
      rw [List.all_append, ih (u / 10) (by omega)]
      simp only [List.all_cons, List.all_nil, Bool.and_true, Bool.true_and]
      unfold isDig; rw [ofNat_toNat (by omega)]; simp; omega
theorem dec_num (u : Nat) : numF (Lib.decDigits u) = u := by
  induction u using Nat.strongRecOn with
  | ind u ih =>
    rw [Lib.decDigits]
    split
    · rename_i h
      show 10 * 0 + ((UInt8.ofNat (48 + u)).toNat - 48) = u
      rw [ofNat_toNat (by omega)]; omega
    · rename_i h
      rw [numF_snoc, ih (u / 10) (by omega), ofNat_toNat (by omega)]; omega
theorem dec_ne (u : Nat) : 1 ≤ (Lib.decDigits u).length := by
  rw [Lib.decDigits]
  split
  · simp
  · simp
theorem dec_head (u : Nat) (h : (Lib.decDigits u).head? = some 48) : u = 0 := by
  induction u using Nat.strongRecOn with
  | ind u ih =>
    rw [Lib.decDigits] at h
    split at h
    · rename_i h1
      have h := Option.some.inj h
      have := congrArg UInt8.toNat h
      rw [ofNat_toNat (by omega)] at this
      have h2 : (48 : UInt8).toNat = 48 := rfl
      omega
    · rename_i h1
      have hne := dec_ne (u / 10)
      have h3 : (Lib.decDigits (u / 10)).head? = some 48 := by
        cases he : Lib.decDigits (u / 10) with
        | nil => rw [he] at hne; simp at hne
        | cons a r => rw [he] at h; simpa using h
      have := ih (u / 10) (by omega) h3
      omega
theorem dec_zero : Lib.decDigits 0 = [48] := by rw [Lib.decDigits]; rfl
/-- Digits without a nought ahead are the number's own. -/
theorem dec_of (l : List UInt8) (h0 : 1 ≤ l.length) (hd : l.all isDig = true) (hz : ¬ (1 < l.length ∧ l.head? = some 48)) : Lib.decDigits (numF l) = l := by
  induction l using snoc_ind with
  | h0 => simp at h0
  | h1 l c ih =>
    rw [List.all_append, Bool.and_eq_true] at hd
    have h3 : 48 ≤ c.toNat ∧ c.toNat ≤ 57 := by have := hd.2; simp [isDig] at this; exact this
    have hc : UInt8.ofNat (48 + (c.toNat - 48)) = c := by
      have : 48 + (c.toNat - 48) = c.toNat := by omega
      rw [this]; exact UInt8.ofNat_toNat
    rw [numF_snoc]
    cases l with
    | nil =>
      show Lib.decDigits (10 * 0 + (c.toNat - 48)) = [c]
      rw [Lib.decDigits, dif_pos (by omega)]
      simp only [Nat.mul_zero, Nat.zero_add]
      rw [hc]
    | cons a l =>
      have ha : a ≠ 48 := fun e => hz ⟨by simp, by simp [e]⟩
      have h1 := ih (by simp) hd.1 (fun ⟨_, h⟩ => ha (by simpa using h))
      have hpos : 1 ≤ numF (a :: l) := by
        rcases Nat.eq_zero_or_pos (numF (a :: l)) with h | h
        · rw [h, dec_zero] at h1
          simp at h1
          exact absurd h1.1.symm ha
        · exact h
      generalize numF (a :: l) = u at *
      rw [Lib.decDigits, dif_neg (by omega)]
      rw [show (10 * u + (c.toNat - 48)) / 10 = u by omega, show (10 * u + (c.toNat - 48)) % 10 = c.toNat - 48 by omega, hc, h1]
theorem numOf_dec {u most : Nat} (h : (Lib.decDigits u).length ≤ most) : numOf (Lib.decDigits u) most = u := by
  have h1 := dec_ne u
  unfold numOf
  rw [if_neg, if_pos (dec_all u), dec_num]
  rintro (h2 | h2 | ⟨h2, h3⟩)
  · omega
  · omega
  · rw [dec_head u h3, dec_zero] at h2; simp at h2
theorem numOf_some {l : List UInt8} {most : Nat} (h : 0 ≤ numOf l most) : ∃ u : Nat, numOf l most = u ∧ l = Lib.decDigits u ∧ l.length ≤ most := by
  unfold numOf at h ⊢
  by_cases h1 : l.length < 1 ∨ most < l.length ∨ (1 < l.length ∧ l.head? = some 48)
  · rw [if_pos h1] at h; omega
  · rw [if_neg h1] at h ⊢
    by_cases h2 : l.all isDig = true
    · rw [if_pos h2]
      exact ⟨numF l, rfl, (dec_of l (by omega) h2 (fun h3 => h1 (.inr (.inr h3)))).symm, by omega⟩
    · rw [if_neg h2] at h; omega
end Lead

/-
  Plain: fractions as texts: what is read.
-/
namespace Lead
open Go Go.RowKit

def cutR (y : UInt8) : List UInt8 → List (List UInt8)
  | [] => [[]]
  | c :: l => if c = y then [] :: cutR y l else (c :: (cutR y l).headD []) :: (cutR y l).tail
theorem cutR_ne (y : UInt8) (l : List UInt8) : cutR y l ≠ [] := by
  cases l with
  | nil => simp [cutR]
  | cons c l => unfold cutR; split <;> simp
theorem cutR_eta (y : UInt8) (l : List UInt8) : (cutR y l).headD [] :: (cutR y l).tail = cutR y l := by
  cases h : cutR y l with
  | nil => exact absurd h (cutR_ne y l)
  | cons a r => rfl
theorem cut_fold (y : UInt8) (l : List UInt8) : ∀ (L : List (List UInt8)) (cur : List UInt8), (l.foldl (cutStep y) (L, cur)).1 ++ [(l.foldl (cutStep y) (L, cur)).2] = L ++ ((cur ++ (cutR y l).headD []) :: (cutR y l).tail) := by
  induction l with
  | nil => intro L cur; simp [cutR]
  | cons c l ih =>
    intro L cur
    rw [List.foldl_cons]
    by_cases h : c = y
    · rw [show cutStep y (L, cur) c = (L ++ [cur], []) from if_pos h]
      have := ih (L ++ [cur]) []
      rw [this]
      have e := cutR_eta y l
      simp only [cutR, if_pos h, List.nil_append, List.headD_cons, List.append_nil, List.tail_cons, e]
      simp
    · rw [show cutStep y (L, cur) c = (L, cur ++ [c]) from if_neg h]
      have := ih L (cur ++ [c])
      rw [this]
      simp only [cutR, if_neg h, List.headD_cons, List.tail_cons]
      simp
theorem cutL_R (y : UInt8) (l : List UInt8) : cutL y l = cutR y l := by
  have := cut_fold y l [] []
  rw [List.nil_append, List.nil_append, cutR_eta] at this
  exact this
theorem cutR_1 (y : UInt8) (l : List UInt8) : cutR y l = if (cut1 y l).2.2 = true then (cut1 y l).1 :: cutR y (cut1 y l).2.1 else [(cut1 y l).1] := by
  induction l with
  | nil => simp [cutR, cut1]
  | cons c l ih =>
    by_cases h : c = y
    · simp [cutR, cut1, h]
    · simp only [cutR, cut1, if_neg h]
      rw [ih]
      split <;> rfl
theorem cut1_no (y : UInt8) (l : List UInt8) (h : (cut1 y l).2.2 = false) : (cut1 y l).1 = l := by
  induction l with
  | nil => rfl
  | cons c l ih =>
    by_cases h1 : c = y
    · simp [cut1, h1] at h
    · simp only [cut1, if_neg h1] at h ⊢
      rw [ih h]
theorem cut1_yes (y : UInt8) (l : List UInt8) (h : (cut1 y l).2.2 = true) : l = (cut1 y l).1 ++ y :: (cut1 y l).2.1 := by
  induction l with
  | nil => simp [cut1] at h
  | cons c l ih =>
    by_cases h1 : c = y
    · simp [cut1, h1]
    · simp only [cut1, if_neg h1] at h ⊢
      rw [List.cons_append, ← ih h]
/-- What is no number of digits. -/
theorem numOf_bad {l : List UInt8} {most : Nat} {c : UInt8} (h : c ∈ l) (hc : isDig c = false) : numOf l most = -1 := by
  unfold numOf
  split
  · rfl
  · rw [if_neg]
    intro ha
    rw [List.all_eq_true] at ha
    rw [ha c h] at hc; cases hc

/-- A number with a sign, of ten digits at most. -/
def numS (l : List UInt8) : Option Int :=
  if l.head? = some 45 then (if 1 ≤ numOf (l.drop 1) 10 then some (-(numOf (l.drop 1) 10)) else none)
  else if 0 ≤ numOf l 10 then some (numOf l 10) else none
/-- A fraction's parts, out of its text. -/
def rdP (l : List UInt8) : Option (Int × Int) :=
  match numS (cut1 47 l).1 with
  | none => none
  | some n => if (cut1 47 l).2.2 = true then (if numOf (cut1 47 l).2.1 10 < 0 ∨ numOf (cut1 47 l).2.1 10 = 1 then none else some (n, numOf (cut1 47 l).2.1 10)) else some (n, 1)
def rdC (l : List UInt8) : Nat := match rdP l with
  | none => 1
  | some x => chk x.1 x.2
def rdN (l : List UInt8) : Int := match rdP l with
  | none => 0
  | some x => x.1
def rdD (l : List UInt8) : Int := match rdP l with
  | none => 0
  | some x => x.2
theorem rd_none {l : List UInt8} (h : rdP l = none) : rdC l = 1 := by unfold rdC; rw [h]
theorem rd_some {l : List UInt8} {n d : Int} (h : rdP l = some (n, d)) : rdC l = chk n d ∧ rdN l = n ∧ rdD l = d := by unfold rdC rdN rdD; rw [h]; exact ⟨rfl, rfl, rfl⟩
theorem numOf_lt {l : List UInt8} {most : Nat} (hm : most ≤ 10) : -1 ≤ numOf l most ∧ numOf l most < 10000000000 := by
  unfold numOf
  split
  · omega
  · split
    · rename_i h1 h2
      have h3 := numF_lt h2
      have h4 : l.length ≤ 10 := by omega
      have h5 : (10 : Nat) ^ l.length ≤ 10 ^ 10 := Nat.pow_le_pow_right (by decide) h4
      have h6 : (10 : Nat) ^ 10 = 10000000000 := by decide
      omega
    · omega
theorem head_cut {l : List UInt8} : (cut1 47 l).1.head? = some 45 ↔ l.head? = some 45 := by
  cases l with
  | nil => simp [cut1]
  | cons c l =>
    by_cases h : c = 47
    · subst h; simp [cut1]
    · simp [cut1, h]

/-- The ways of the reference's reading: w: what the text is cut into; D: the digits ahead. -/
theorem rd_cases (l : List UInt8) :
    (2 < (cutL 47 l).length ∧ rdP l = none) ∨
    (∃ h, cutL 47 l = [h] ∧ (h.head? = some 45 ↔ l.head? = some 45) ∧ rdP l = (numS h).map fun n => (n, 1)) ∨
    (∃ h t, cutL 47 l = [h, t] ∧ (h.head? = some 45 ↔ l.head? = some 45) ∧ rdP l = (numS h).bind fun n => if numOf t 10 < 0 ∨ numOf t 10 = 1 then none else some (n, numOf t 10)) := by
  rw [cutL_R, cutR_1]
  by_cases h1 : (cut1 47 l).2.2 = true
  · rw [if_pos h1]
    rw [cutR_1]
    by_cases h2 : (cut1 47 (cut1 47 l).2.1).2.2 = true
    · left
      rw [if_pos h2]
      have hne := cutR_ne 47 (cut1 47 (cut1 47 l).2.1).2.1
      have hlen : 1 ≤ (cutR 47 (cut1 47 (cut1 47 l).2.1).2.1).length := by
        cases h : cutR 47 (cut1 47 (cut1 47 l).2.1).2.1 with
        | nil => exact absurd h hne
        | cons a r => simp
      refine ⟨by simp only [List.length_cons]; omega, ?_⟩
      have hb : numOf (cut1 47 l).2.1 10 = -1 := by
        have e := cut1_yes 47 (cut1 47 l).2.1 h2
        exact numOf_bad (c := 47) (by rw [e]; simp) (by decide)
      unfold rdP
      cases numS (cut1 47 l).1 with
      | none => rfl
      | some n => simp only [if_pos h1]; rw [hb]; rfl
    · right; right
      rw [if_neg h2]
      have e := cut1_no 47 (cut1 47 l).2.1 (Bool.eq_false_iff.2 h2)
      rw [e]
      refine ⟨_, _, rfl, head_cut, ?_⟩
      unfold rdP
      cases numS (cut1 47 l).1 with
      | none => rfl
      | some n => simp only [if_pos h1, Option.bind_some]
  · right; left
    rw [if_neg h1]
    refine ⟨_, rfl, head_cut, ?_⟩
    unfold rdP
    cases numS (cut1 47 l).1 with
    | none => rfl
    | some n => simp only [if_neg h1, Option.map_some]
end Lead

/-
  Plain: package frac's numbers are the reference's; a text cut at its first byte.
-/
namespace Lead
open Go Go.RowKit

theorem dig_val {c : UInt8} (h : isDig c = true) : Lib.digitVal c = some (c.toNat - 48) := by
  have h1 : 48 ≤ c.toNat ∧ c.toNat ≤ 57 := by simpa [isDig] using h
  unfold Lib.digitVal
  rw [if_pos h1]
theorem decFrom_all (l : List UInt8) : ∀ acc, l.all isDig = true → Lib.decFrom acc l = some (l.foldl (fun n c => 10 * n + (c.toNat - 48)) acc) := by
  induction l with
  | nil => intro acc _; rfl
  | cons c l ih =>
    intro acc h
    rw [List.all_cons, Bool.and_eq_true] at h
    rw [Lib.decFrom, dig_val h.1]
    rw [List.foldl_cons, show 10 * acc + (c.toNat - 48) = acc * 10 + (c.toNat - 48) by omega]
    exact ih _ h.2
theorem decNat_dec (u : Nat) : Lib.decNat (Lib.decDigits u) = some u := by
  unfold Lib.decNat
  have h1 := dec_ne u
  have h2 : (Lib.decDigits u).isEmpty = false := by
    cases h : Lib.decDigits u with
    | nil => rw [h] at h1; simp at h1
    | cons a r => rfl
  rw [h2, if_neg (by decide), decFrom_all _ _ (dec_all u)]
  exact congrArg some (dec_num u)
theorem dec_first (u : Nat) : ∃ c r, Lib.decDigits u = c :: r ∧ isDig c = true := by
  have h1 := dec_ne u
  have h2 := dec_all u
  cases h : Lib.decDigits u with
  | nil => rw [h] at h1; simp at h1
  | cons a r =>
    rw [h, List.all_cons, Bool.and_eq_true] at h2
    exact ⟨a, r, rfl, h2.1⟩
theorem atoi_itoa (n : Int) : Lib.atoi (Lib.itoa n) = some n := by
  unfold Lib.itoa
  by_cases h : n < 0
  · rw [if_pos h]
    show Option.map (fun (m : Nat) => -(m : Int)) (Lib.decNat (Lib.decDigits n.natAbs)) = some n
    rw [decNat_dec]
    show some (-((n.natAbs : Nat) : Int)) = some n
    congr 1; omega
  · rw [if_neg h]
    obtain ⟨c, r, hc, hd⟩ := dec_first n.toNat
    have h1 : 48 ≤ c.toNat ∧ c.toNat ≤ 57 := by simpa [isDig] using hd
    rw [hc]
    unfold Lib.atoi
    have e1 : (c == 45) = false := by rw [beq_eq_false_iff_ne]; intro e; rw [e] at h1; exact absurd h1.1 (by decide)
    have e2 : (c == 43) = false := by rw [beq_eq_false_iff_ne]; intro e; rw [e] at h1; exact absurd h1.1 (by decide)
    simp only [e1, e2]
    show Option.map (fun (m : Nat) => (m : Int)) (Lib.decNat (c :: r)) = some n
    rw [← hc, decNat_dec]
    show some ((n.toNat : Nat) : Int) = some n
    congr 1; omega
theorem trim_minus (r : List UInt8) : Lib.trimPrefix (45 :: r) [45] = r := by
  unfold Lib.trimPrefix Lib.hasPrefix
  simp
theorem trim_other {l : List UInt8} (h : l.head? ≠ some 45) : Lib.trimPrefix l [45] = l := by
  unfold Lib.trimPrefix Lib.hasPrefix
  rw [if_neg]
  cases l with
  | nil => simp
  | cons a r => intro e; simp at e; exact h (by simp [e])
theorem numS_itoa {l : List UInt8} {n : Int} (h : numS l = some n) : l = Lib.itoa n ∧ (Lib.trimPrefix l [45]).length ≤ 10 ∧ -10000000000 < n ∧ n < 10000000000 := by
  unfold numS at h
  by_cases hm : l.head? = some 45
  · rw [if_pos hm] at h
    by_cases h1 : 1 ≤ numOf (l.drop 1) 10
    · rw [if_pos h1] at h
      obtain ⟨u, hu, hr, hl⟩ := numOf_some (l := l.drop 1) (most := 10) (by omega)
      have hb := numOf_lt (l := l.drop 1) (most := 10) (by decide)
      have hn := Option.some.inj h
      have e : l = 45 :: l.drop 1 := by
        cases l with
        | nil => cases hm
        | cons a r => have : a = 45 := by simpa using hm
                      rw [this]; rfl
      rw [hu] at hn hb h1
      refine ⟨?_, ?_, by omega, by omega⟩
      · rw [e, hr, ← hn, Lib.itoa_neg u (by omega)]
      · rw [e, trim_minus]; exact hl
    · rw [if_neg h1] at h; cases h
  · rw [if_neg hm] at h
    by_cases h1 : 0 ≤ numOf l 10
    · rw [if_pos h1] at h
      obtain ⟨u, hu, hr, hl⟩ := numOf_some (l := l) (most := 10) h1
      have hb := numOf_lt (l := l) (most := 10) (by decide)
      have hn := Option.some.inj h
      rw [hu] at hn hb
      refine ⟨?_, ?_, by omega, by omega⟩
      · rw [← hn, Lib.itoa_nonneg]; exact hr
      · rw [trim_other hm]; exact hl
    · rw [if_neg h1] at h; cases h
theorem numS_of {l : List UInt8} {v : Int} (h : Lib.itoa v = l) (hl : (Lib.trimPrefix l [45]).length ≤ 10) : numS l = some v := by
  unfold Lib.itoa at h
  by_cases hv : v < 0
  · rw [if_pos hv] at h
    subst h
    rw [trim_minus] at hl
    show (if 1 ≤ numOf (Lib.decDigits v.natAbs) 10 then some (-(numOf (Lib.decDigits v.natAbs) 10)) else none) = some v
    rw [numOf_dec hl, if_pos (by omega)]
    congr 1; omega
  · rw [if_neg hv] at h
    obtain ⟨c, r, hc, hd⟩ := dec_first v.toNat
    have h1 : 48 ≤ c.toNat ∧ c.toNat ≤ 57 := by simpa [isDig] using hd
    have hm : l.head? ≠ some 45 := by
      rw [← h, hc]
      intro e
      have : c = 45 := by simpa using e
      rw [this] at h1; exact absurd h1.1 (by decide)
    rw [trim_other hm] at hl
    unfold numS
    rw [if_neg hm, ← h, numOf_dec (by rw [h]; exact hl), if_pos (by omega)]
    congr 1; omega
theorem dec_len' {u : Nat} (h : u < 10000000000) : (Lib.decDigits u).length ≤ 18 := by
  rw [Lib.decDigits_length]
  have : ∀ (k u : Nat), u < 10 ^ (k + 1) → Lib.nDigits u ≤ k + 1 := by
    intro k
    induction k with
    | zero => intro u h; rw [Lib.nDigits_small (by simpa using h)]; exact Nat.le_refl _
    | succ k ih =>
      intro u h
      by_cases h1 : u < 10
      · rw [Lib.nDigits_small h1]; omega
      · rw [Lib.nDigits_big h1]
        have := ih (u / 10) (by rw [Nat.pow_succ] at h; omega)
        omega
  have := this 17 u (by have : (10 : Nat) ^ (17 + 1) = 1000000000000000000 := by decide
                        omega)
  exact this
theorem numS_atoi {l : List UInt8} {n : Int} (h : numS l = some n) : Lib.atoiAll l = .ok n := by
  obtain ⟨h1, h2, h3, h4⟩ := numS_itoa h
  have hl : l.length ≤ 18 := by
    rw [h1]
    unfold Lib.itoa
    split
    · rename_i hn
      rw [h1] at h2
      unfold Lib.itoa at h2
      rw [if_pos hn, trim_minus] at h2
      rw [List.length_cons]; omega
    · rename_i hn
      have := dec_len' (u := n.toNat) (by omega)
      omega
  rw [Lib.atoiAll_short l hl, h1, atoi_itoa]
  rfl
theorem idx_first (l : List UInt8) : Lib.indexByte l 47 = if (cut1 47 l).2.2 = true then ((cut1 47 l).1.length : Int) else -1 := by
  induction l with
  | nil => rfl
  | cons c l ih =>
    unfold Lib.indexByte
    by_cases h : c = 47
    · subst h; simp [cut1]
    · have e : (c == 47) = false := by rw [beq_eq_false_iff_ne]; exact h
      rw [e, if_neg (by decide), ih]
      simp only [cut1, if_neg h]
      by_cases h2 : (cut1 47 l).2.2 = true
      · rw [if_pos h2, if_pos h2, if_neg (by simp)]; rfl
      · rw [if_neg h2, if_neg h2]; rfl
theorem cut1_nil {l : List UInt8} (h : (cut1 47 l).2.2 = false) : (cut1 47 l).2.1 = [] := by
  induction l with
  | nil => rfl
  | cons c l ih =>
    by_cases h1 : c = 47
    · simp [cut1, h1] at h
    · simp only [cut1, if_neg h1] at h ⊢
      exact ih h
theorem cut_first (l : List UInt8) : Lib.cut l [47] = ((cut1 47 l).1, (cut1 47 l).2.1, (cut1 47 l).2.2) := by
  unfold Lib.cut
  rw [Lib.index_one, idx_first]
  by_cases h : (cut1 47 l).2.2 = true
  · rw [if_pos h, if_pos (by omega), h]
    have e := cut1_yes 47 l h
    generalize (cut1 47 l).1 = a at *
    generalize (cut1 47 l).2.1 = b at *
    subst e
    simp
  · have h' := Bool.eq_false_iff.2 h
    rw [if_neg h, if_neg (by omega), h', cut1_no 47 l h', cut1_nil h']
end Lead
