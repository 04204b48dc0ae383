/-
  Plain: what was added is taken off, what was multiplied divided.
-/
import Derived.Test.YthijgncjaophjaaDoorPl7
namespace Lead
open Go Go.RowKit

/-- Lowest terms, whatever the sign below. -/
theorem low_any {n d : Int} (hd : d ≠ 0) : lowN n d * d = n * lowD n d ∧ Int.gcd (lowN n d) (lowD n d) = 1 ∧ 1 ≤ lowD n d := by
  rcases Int.lt_or_gt_of_ne hd with h | h
  · have hg0 : 0 < Int.gcd n d := Int.gcd_pos_iff.2 (.inr (by omega))
    have hG : lowG n d = -(Int.gcd n d : Int) := by unfold lowG; rw [if_pos h]
    have d1 : -(Int.gcd n d : Int) ∣ n := Int.neg_dvd.2 (Int.gcd_dvd_left n d)
    have d2 : -(Int.gcd n d : Int) ∣ d := Int.neg_dvd.2 (Int.gcd_dvd_right n d)
    have e1 : n = -(Int.gcd n d : Int) * lowN n d := by unfold lowN; rw [hG]; exact (Int.mul_tdiv_cancel' d1).symm
    have e2 : d = -(Int.gcd n d : Int) * lowD n d := by unfold lowD; rw [hG]; exact (Int.mul_tdiv_cancel' d2).symm
    have e3 : Int.gcd n d = Int.gcd n d * Int.gcd (lowN n d) (lowD n d) := by
      have : Int.gcd n d = Int.gcd (-(Int.gcd n d : Int) * lowN n d) (-(Int.gcd n d : Int) * lowD n d) := by rw [← e1, ← e2]
      rw [Int.gcd_mul_left] at this
      simpa using this
    refine ⟨?_, ?_, ?_⟩
    · generalize (Int.gcd n d : Int) = g at e1 e2
      calc lowN n d * d = lowN n d * (-g * lowD n d) := by rw [← e2]
        _ = (-g * lowN n d) * lowD n d := by grind
        _ = n * lowD n d := by rw [← e1]
    · exact Nat.eq_of_mul_eq_mul_left hg0 (by rw [← e3, Nat.mul_one])
    · have h1 : (0 : Int) < (Int.gcd n d : Int) := by omega
      have h2 : 0 < (Int.gcd n d : Int) * lowD n d := by
        have : (Int.gcd n d : Int) * lowD n d = -d := by
          have := e2; rw [Int.neg_mul] at this; omega
        omega
      have := Int.pos_of_mul_pos_right h2 (by omega)
      omega
  · obtain ⟨g, h1, h2, h3, h4, h5⟩ := low_spec (n := n) (d := d) (by omega)
    exact ⟨low_eq (by omega), h4, h5⟩
/-- A fraction that is of a right one's value comes out as that one, without an error. -/
theorem low_same {n d : Int} (hd : d ≠ 0) {a : Fr} (ha : a.R) (h : n * a.d = a.n * d) : lowN n d = a.n ∧ lowD n d = a.d ∧ lowC n d = 0 := by
  obtain ⟨e1, e2, e3⟩ := low_any (n := n) hd
  have e4 : lowN n d * a.d = a.n * lowD n d := by
    refine Int.eq_of_mul_eq_mul_right hd ?_
    have l1 : lowN n d * a.d * d = (lowN n d * d) * a.d := by grind
    have l2 : a.n * lowD n d * d = (a.n * d) * lowD n d := by grind
    rw [l1, l2, e1, ← h]; grind
  obtain ⟨h1, h2⟩ := right_one e2 e3 ha.co ha.d0 e4
  refine ⟨h1, h2, ?_⟩
  unfold lowC
  rw [h1, h2, if_pos ⟨sml_true.2 ha.nb, sml_true.2 ha.db⟩]

theorem add_comm2 (a b : Fr) : a.add b = b.add a := by
  unfold Fr.add addN addD
  rw [Int.add_comm, Int.mul_comm a.d b.d]
theorem addC_comm2 (a b : Fr) : a.addC b = b.addC a := by
  unfold Fr.addC addN addD
  rw [Int.add_comm, Int.mul_comm a.d b.d]
def subN (a b : Fr) : Int := a.n * b.d - b.n * a.d
def Fr.sub (a b : Fr) : Fr := ⟨lowN (subN a b) (addD a b), lowD (subN a b) (addD a b)⟩
/-- What was added is taken off. -/
theorem sub_back {a b : Fr} (ha : a.R) (hb : b.R) (hc : a.addC b = 0) : (a.add b).sub b = a ∧ lowC (subN (a.add b) b) (addD (a.add b) b) = 0 := by
  have e := add_eq (a := a) (b := b) ha.d0 hb.d0
  have hs := add_right ha.d0 hb.d0 hc
  have d0 := hs.d0
  generalize a.add b = s at *
  have hd := addD_pos (a := s) (b := b) d0 hb.d0
  have h : subN s b * a.d = a.n * addD s b := by
    unfold subN addD
    have hb0 := hb.d0
    grind
  obtain ⟨h1, h2, h3⟩ := low_same (by omega) ha h
  refine ⟨?_, h3⟩
  unfold Fr.sub
  rw [h1, h2]
def mulN (a b : Fr) : Int := a.n * b.n
def Fr.mul (a b : Fr) : Fr := ⟨lowN (mulN a b) (addD a b), lowD (mulN a b) (addD a b)⟩
def Fr.mulC (a b : Fr) : Nat := lowC (mulN a b) (addD a b)
theorem mul_comm2 (a b : Fr) : a.mul b = b.mul a := by
  unfold Fr.mul mulN addD
  rw [Int.mul_comm a.n b.n, Int.mul_comm a.d b.d]
theorem mulC_comm2 (a b : Fr) : a.mulC b = b.mulC a := by
  unfold Fr.mulC mulN addD
  rw [Int.mul_comm a.n b.n, Int.mul_comm a.d b.d]
def divN (a b : Fr) : Int := a.n * b.d
def divD (a b : Fr) : Int := a.d * b.n
def Fr.div (a b : Fr) : Fr := ⟨lowN (divN a b) (divD a b), lowD (divN a b) (divD a b)⟩
theorem mul_eq {a b : Fr} (ha : 1 ≤ a.d) (hb : 1 ≤ b.d) : (a.mul b).n * (a.d * b.d) = a.n * b.n * (a.mul b).d := low_eq (addD_pos ha hb)
theorem mul_right {a b : Fr} (ha : 1 ≤ a.d) (hb : 1 ≤ b.d) (hc : a.mulC b = 0) : (a.mul b).R := low_right (addD_pos ha hb) hc
/-- What was multiplied is divided. -/
theorem div_back {a b : Fr} (ha : a.R) (hb : b.R) (hc : a.mulC b = 0) (h0 : b.n ≠ 0) : (a.mul b).div b = a ∧ lowC (divN (a.mul b) b) (divD (a.mul b) b) = 0 := by
  have e := mul_eq (a := a) (b := b) ha.d0 hb.d0
  have hs := mul_right ha.d0 hb.d0 hc
  have d0 := hs.d0
  generalize a.mul b = s at *
  have hd : divD s b ≠ 0 := by unfold divD; exact Int.mul_ne_zero (by omega) h0
  have h : divN s b * a.d = a.n * divD s b := by
    unfold divN divD
    grind
  obtain ⟨h1, h2, h3⟩ := low_same hd ha h
  refine ⟨?_, h3⟩
  unfold Fr.div
  rw [h1, h2]
theorem mul_zero {a b : Fr} (ha : 1 ≤ a.d) (hb : 1 ≤ b.d) (h0 : b.n = 0) : (a.mul b).n = 0 := by
  have e := mul_eq (a := a) (b := b) ha hb
  rw [h0, Int.mul_zero, Int.zero_mul] at e
  have := mul_pos1 ha hb
  rcases Int.mul_eq_zero.1 e with h | h
  · exact h
  · omega
end Lead
