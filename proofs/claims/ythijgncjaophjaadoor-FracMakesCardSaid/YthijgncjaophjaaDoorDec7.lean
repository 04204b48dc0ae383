/-
  Plain: package frac's numbers are the reference's; a text cut at its first byte.
-/
import Derived.Test.YthijgncjaophjaaDoorDec4
import Derived.Lib.ItoaMem
import Derived.Lib.IndexBytes
import Derived.Lib.IndexMore
namespace Lead
open Go Go.RowKit

theorem dig_val {c : UInt8} (h : isDig c = true) : Lib.digitVal c = some (c.toNat - 48) := by
  have h1 : 48 ≤ c.toNat ∧ c.toNat ≤ 57 := by simpa [isDig] using h
  unfold Lib.digitVal
  rw [if_pos h1]
theorem decFrom_all (l : List UInt8) : ∀ acc, l.all isDig = true → Lib.decFrom acc l = some (l.foldl (fun n c => 10 * n + (c.toNat - 48)) acc) := by
  induction l with
  | nil => intro acc _; rfl
  | cons c l ih =>
    intro acc h
    rw [List.all_cons, Bool.and_eq_true] at h
    rw [Lib.decFrom, dig_val h.1]
    rw [List.foldl_cons, show 10 * acc + (c.toNat - 48) = acc * 10 + (c.toNat - 48) by omega]
    exact ih _ h.2
theorem decNat_dec (u : Nat) : Lib.decNat (Lib.decDigits u) = some u := by
  unfold Lib.decNat
  have h1 := dec_ne u
  have h2 : (Lib.decDigits u).isEmpty = false := by
    cases h : Lib.decDigits u with
    | nil => rw [h] at h1; simp at h1
    | cons a r => rfl
  rw [h2, if_neg (by decide), decFrom_all _ _ (dec_all u)]
  exact congrArg some (dec_num u)
theorem dec_first (u : Nat) : ∃ c r, Lib.decDigits u = c :: r ∧ isDig c = true := by
  have h1 := dec_ne u
  have h2 := dec_all u
  cases h : Lib.decDigits u with
  | nil => rw [h] at h1; simp at h1
  | cons a r =>
    rw [h, List.all_cons, Bool.and_eq_true] at h2
    exact ⟨a, r, rfl, h2.1⟩
theorem atoi_itoa (n : Int) : Lib.atoi (Lib.itoa n) = some n := by
  unfold Lib.itoa
  by_cases h : n < 0
  · rw [if_pos h]
    show Option.map (fun (m : Nat) => -(m : Int)) (Lib.decNat (Lib.decDigits n.natAbs)) = some n
    rw [decNat_dec]
    show some (-((n.natAbs : Nat) : Int)) = some n
    congr 1; omega
  · rw [if_neg h]
    obtain ⟨c, r, hc, hd⟩ := dec_first n.toNat
    have h1 : 48 ≤ c.toNat ∧ c.toNat ≤ 57 := by simpa [isDig] using hd
    rw [hc]
    unfold Lib.atoi
    have e1 : (c == 45) = false := by rw [beq_eq_false_iff_ne]; intro e; rw [e] at h1; exact absurd h1.1 (by decide)
    have e2 : (c == 43) = false := by rw [beq_eq_false_iff_ne]; intro e; rw [e] at h1; exact absurd h1.1 (by decide)
    simp only [e1, e2]
    show Option.map (fun (m : Nat) => (m : Int)) (Lib.decNat (c :: r)) = some n
    rw [← hc, decNat_dec]
    show some ((n.toNat : Nat) : Int) = some n
    congr 1; omega
theorem trim_minus (r : List UInt8) : Lib.trimPrefix (45 :: r) [45] = r := by
  unfold Lib.trimPrefix Lib.hasPrefix
  simp
theorem trim_other {l : List UInt8} (h : l.head? ≠ some 45) : Lib.trimPrefix l [45] = l := by
  unfold Lib.trimPrefix Lib.hasPrefix
  rw [if_neg]
  cases l with
  | nil => simp
  | cons a r => intro e; simp at e; exact h (by simp [e])
theorem numS_itoa {l : List UInt8} {n : Int} (h : numS l = some n) : l = Lib.itoa n ∧ (Lib.trimPrefix l [45]).length ≤ 10 ∧ -10000000000 < n ∧ n < 10000000000 := by
  unfold numS at h
  by_cases hm : l.head? = some 45
  · rw [if_pos hm] at h
    by_cases h1 : 1 ≤ numOf (l.drop 1) 10
    · rw [if_pos h1] at h
      obtain ⟨u, hu, hr, hl⟩ := numOf_some (l := l.drop 1) (most := 10) (by omega)
      have hb := numOf_lt (l := l.drop 1) (most := 10) (by decide)
      have hn := Option.some.inj h
      have e : l = 45 :: l.drop 1 := by
        cases l with
        | nil => cases hm
        | cons a r => have : a = 45 := by simpa using hm
                      rw [this]; rfl
      rw [hu] at hn hb h1
      refine ⟨?_, ?_, by omega, by omega⟩
      · rw [e, hr, ← hn, Lib.itoa_neg u (by omega)]
      · rw [e, trim_minus]; exact hl
    · rw [if_neg h1] at h; cases h
  · rw [if_neg hm] at h
    by_cases h1 : 0 ≤ numOf l 10
    · rw [if_pos h1] at h
      obtain ⟨u, hu, hr, hl⟩ := numOf_some (l := l) (most := 10) h1
      have hb := numOf_lt (l := l) (most := 10) (by decide)
      have hn := Option.some.inj h
      rw [hu] at hn hb
      refine ⟨?_, ?_, by omega, by omega⟩
      · rw [← hn, Lib.itoa_nonneg]; exact hr
      · rw [trim_other hm]; exact hl
    · rw [if_neg h1] at h; cases h
theorem numS_of {l : List UInt8} {v : Int} (h : Lib.itoa v = l) (hl : (Lib.trimPrefix l [45]).length ≤ 10) : numS l = some v := by
  unfold Lib.itoa at h
  by_cases hv : v < 0
  · rw [if_pos hv] at h
    subst h
    rw [trim_minus] at hl
    show (if 1 ≤ numOf (Lib.decDigits v.natAbs) 10 then some (-(numOf (Lib.decDigits v.natAbs) 10)) else none) = some v
    rw [numOf_dec hl, if_pos (by omega)]
    congr 1; omega
  · rw [if_neg hv] at h
    obtain ⟨c, r, hc, hd⟩ := dec_first v.toNat
    have h1 : 48 ≤ c.toNat ∧ c.toNat ≤ 57 := by simpa [isDig] using hd
    have hm : l.head? ≠ some 45 := by
      rw [← h, hc]
      intro e
      have : c = 45 := by simpa using e
      rw [this] at h1; exact absurd h1.1 (by decide)
    rw [trim_other hm] at hl
    unfold numS
    rw [if_neg hm, ← h, numOf_dec (by rw [h]; exact hl), if_pos (by omega)]
    congr 1; omega
theorem dec_len' {u : Nat} (h : u < 10000000000) : (Lib.decDigits u).length ≤ 18 := by
  rw [Lib.decDigits_length]
  have : ∀ (k u : Nat), u < 10 ^ (k + 1) → Lib.nDigits u ≤ k + 1 := by
    intro k
    induction k with
    | zero => intro u h; rw [Lib.nDigits_small (by simpa using h)]; exact Nat.le_refl _
    | succ k ih =>
      intro u h
      by_cases h1 : u < 10
      · rw [Lib.nDigits_small h1]; omega
      · rw [Lib.nDigits_big h1]
        have := ih (u / 10) (by rw [Nat.pow_succ] at h; omega)
        omega
  have := this 17 u (by have : (10 : Nat) ^ (17 + 1) = 1000000000000000000 := by decide
                        omega)
  exact this
theorem numS_atoi {l : List UInt8} {n : Int} (h : numS l = some n) : Lib.atoiAll l = .ok n := by
  obtain ⟨h1, h2, h3, h4⟩ := numS_itoa h
  have hl : l.length ≤ 18 := by
    rw [h1]
    unfold Lib.itoa
    split
    · rename_i hn
      rw [h1] at h2
      unfold Lib.itoa at h2
      rw [if_pos hn, trim_minus] at h2
      rw [List.length_cons]; omega
    · rename_i hn
      have := dec_len' (u := n.toNat) (by omega)
      omega
  rw [Lib.atoiAll_short l hl, h1, atoi_itoa]
  rfl
theorem idx_first (l : List UInt8) : Lib.indexByte l 47 = if (cut1 47 l).2.2 = true then ((cut1 47 l).1.length : Int) else -1 := by
  induction l with
  | nil => rfl
  | cons c l ih =>
    unfold Lib.indexByte
    by_cases h : c = 47
    · subst h; simp [cut1]
    · have e : (c == 47) = false := by rw [beq_eq_false_iff_ne]; exact h
      rw [e, if_neg (by decide), ih]
      simp only [cut1, if_neg h]
      by_cases h2 : (cut1 47 l).2.2 = true
      · rw [if_pos h2, if_pos h2, if_neg (by simp)]; rfl
      · rw [if_neg h2, if_neg h2]; rfl
theorem cut1_nil {l : List UInt8} (h : (cut1 47 l).2.2 = false) : (cut1 47 l).2.1 = [] := by
  induction l with
  | nil => rfl
  | cons c l ih =>
    by_cases h1 : c = 47
    · simp [cut1, h1] at h
    · simp only [cut1, if_neg h1] at h ⊢
      exact ih h
theorem cut_first (l : List UInt8) : Lib.cut l [47] = ((cut1 47 l).1, (cut1 47 l).2.1, (cut1 47 l).2.2) := by
  unfold Lib.cut
  rw [Lib.index_one, idx_first]
  by_cases h : (cut1 47 l).2.2 = true
  · rw [if_pos h, if_pos (by omega), h]
    have e := cut1_yes 47 l h
    generalize (cut1 47 l).1 = a at *
    generalize (cut1 47 l).2.1 = b at *
    subst e
    simp
  · have h' := Bool.eq_false_iff.2 h
    rw [if_neg h, if_neg (by omega), h', cut1_no 47 l h', cut1_nil h']
end Lead
