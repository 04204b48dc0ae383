/-
  Plain: the reference's lowest terms are package frac's; values with an error's number.
-/
import Derived.Test.YthijgncjaophjaaDoorPl10
namespace Lead
open Go Go.RowKit

/-- A number where there is no error, else 0. -/
def z0 (c : Nat) (q : Int) : Int := if c = 0 then q else 0
theorem z0_0 {c : Nat} {q : Int} (h : c = 0) : z0 c q = q := by unfold z0; rw [if_pos h]
theorem z0_n {c : Nat} {q : Int} (h : c ≠ 0) : z0 c q = 0 := by unfold z0; rw [if_neg h]
theorem frV_z (T : Nat) (ea : Nat → Addr) (c : Nat) (q r : Int) : frV T ea c q r = .tuple #[.agg #[.int .i64 (z0 c q), .int .i64 (z0 c r)], evl T ea c] := by
  by_cases h : c = 0
  · rw [frV_0 h, z0_0 h, z0_0 h, evl_0 h]
  · rw [frV_n h, z0_n h, z0_n h, evl_n h]
/-- What the reference answers: a fraction and an error's number. -/
def frN (c : Nat) (q r : Int) : Value := .tuple #[.agg #[.int .i64 (z0 c q), .int .i64 (z0 c r)], .int .i64 c]
theorem frN_0 {c : Nat} {q r : Int} (h : c = 0) : frN c q r = .tuple #[.agg #[.int .i64 q, .int .i64 r], .int .i64 0] := by unfold frN; rw [z0_0 h, z0_0 h, h]; rfl
theorem frN_n {c : Nat} {q r : Int} (h : c ≠ 0) : frN c q r = .tuple #[.agg #[.int .i64 0, .int .i64 0], .int .i64 c] := by unfold frN; rw [z0_n h, z0_n h]

theorem both_cases (n d n' d' : Int) : (chk n d ≠ 0 ∧ bothC n d n' d' = chk n d) ∨ (chk n d = 0 ∧ chk n' d' ≠ 0 ∧ bothC n d n' d' = chk n' d') ∨ (chk n d = 0 ∧ chk n' d' = 0 ∧ bothC n d n' d' = 0) := by
  unfold bothC
  by_cases h1 : chk n d = 0
  · by_cases h2 : chk n' d' = 0
    · exact .inr (.inr ⟨h1, h2, by rw [if_pos h1, h2]⟩)
    · exact .inr (.inl ⟨h1, h2, by rw [if_pos h1]⟩)
  · exact .inl ⟨h1, by rw [if_neg h1]⟩
theorem chk_low {n d : Int} (h0 : d ≠ 0) : chk (lowN n d) (lowD n d) = lowC n d := by
  obtain ⟨_, e2, e3⟩ := low_any (n := n) h0
  unfold chk lowC
  rw [if_neg (by omega), if_neg (by omega)]
theorem low_neg {n d : Int} (h : d < 0) : (-n).tdiv (Int.gcd (-n) (-d) : Int) = lowN n d ∧ (-d).tdiv (Int.gcd (-n) (-d) : Int) = lowD n d := by
  unfold lowN lowD lowG
  rw [if_pos h, Int.gcd_neg, Int.neg_gcd, Int.neg_tdiv, Int.neg_tdiv, Int.tdiv_neg, Int.tdiv_neg]
  exact ⟨rfl, rfl⟩
theorem low_pos {n d : Int} (h : ¬ d < 0) : n.tdiv (Int.gcd n d : Int) = lowN n d ∧ d.tdiv (Int.gcd n d : Int) = lowD n d := by
  unfold lowN lowD lowG
  rw [if_neg h]
  exact ⟨rfl, rfl⟩
theorem B62.neg {x : Int} (h : B62 x) : B62 (-x) := by unfold B62 at *; omega
theorem lowN_i64 {n d : Int} (h : B62 n) : I64 (lowN n d) := by
  have := tdiv_abs n (lowG n d)
  unfold B62 at h; unfold I64 lowN; omega
theorem lowD_i64 {n d : Int} (h : B62 d) : I64 (lowD n d) := by
  have := tdiv_abs d (lowG n d)
  unfold B62 at h; unfold I64 lowD; omega
end Lead
