/-
  Plain: fractions in lowest terms: what they are, when they are one, their order and their sums.
-/
import Derived.Test.YthijgncjaophjaaDoorPl1
namespace Lead
open Go Go.RowKit

theorem low_spec {n d : Int} (hd : 1 ≤ d) : ∃ g : Int, 1 ≤ g ∧ n = g * lowN n d ∧ d = g * lowD n d ∧ Int.gcd (lowN n d) (lowD n d) = 1 ∧ 1 ≤ lowD n d := by
  have hg0 : 0 < Int.gcd n d := Int.gcd_pos_iff.2 (.inr (by omega))
  have hG : lowG n d = (Int.gcd n d : Int) := by unfold lowG; rw [if_neg (by omega)]
  have e1 : n = (Int.gcd n d : Int) * lowN n d := by unfold lowN; rw [hG]; exact (Int.mul_tdiv_cancel' (Int.gcd_dvd_left n d)).symm
  have e2 : d = (Int.gcd n d : Int) * lowD n d := by unfold lowD; rw [hG]; exact (Int.mul_tdiv_cancel' (Int.gcd_dvd_right n d)).symm
  refine ⟨(Int.gcd n d : Int), by omega, e1, e2, ?_, ?_⟩
  · unfold lowN lowD
    rw [hG, Int.tdiv_eq_ediv_of_dvd (Int.gcd_dvd_left n d), Int.tdiv_eq_ediv_of_dvd (Int.gcd_dvd_right n d)]
    exact Int.gcd_ediv_gcd_ediv_gcd hg0
  · have h1 : (0 : Int) < (Int.gcd n d : Int) := by omega
    have h2 : 0 < (Int.gcd n d : Int) * lowD n d := by omega
    have := Int.pos_of_mul_pos_right h2 (by omega)
    omega

/-- Lowest terms that are not too great are right. -/
theorem low_right {n d : Int} (hd : 1 ≤ d) (hc : lowC n d = 0) : Right (lowN n d) (lowD n d) := by
  obtain ⟨g, h1, h2, h3, h4, h5⟩ := low_spec (n := n) hd
  rcases lowC_cases n d with ⟨_, h⟩ | ⟨_, _, h⟩ | ⟨h6, h7, _⟩
  · omega
  · omega
  · have h6 := sml_true.1 h6; have h7 := sml_true.1 h7
    exact chk_0 (by
      rcases chk_cases (lowN n d) (lowD n d) with ⟨h, _⟩ | ⟨_, h, _⟩ | ⟨_, _, h, _⟩ | ⟨_, _, _, h, _⟩ | ⟨_, _, _, _, h⟩
      · omega
      · exact absurd h4 h
      · rw [sml_true.2 h6] at h; cases h
      · rw [sml_true.2 h7] at h; cases h
      · exact h)
theorem low_eq {n d : Int} (hd : 1 ≤ d) : lowN n d * d = n * lowD n d := by
  obtain ⟨g, h1, h2, h3, _⟩ := low_spec (n := n) hd
  calc lowN n d * d = lowN n d * (g * lowD n d) := by rw [← h3]
    _ = (g * lowN n d) * lowD n d := by grind
    _ = n * lowD n d := by rw [← h2]
theorem Right.co {n d : Int} (h : Right n d) : Int.gcd n d = 1 := by
  have := chk_right h
  rcases chk_cases n d with ⟨_, h⟩ | ⟨_, _, h⟩ | ⟨_, h, _⟩ | ⟨_, h, _⟩ | ⟨_, h, _⟩
  · omega
  · omega
  · exact h
  · exact h
  · exact h

theorem dvd_co {a b c : Int} (h : Int.gcd a b = 1) (hd : b ∣ a * c) : b ∣ c := by
  rw [← Int.natAbs_dvd_natAbs] at hd ⊢
  rw [Int.natAbs_mul] at hd
  exact Nat.Coprime.dvd_of_dvd_mul_left (by rw [Nat.Coprime, Nat.gcd_comm]; exact h) hd
/-- Two right fractions of one value are one. -/
theorem right_one {a b c d : Int} (h1 : Int.gcd a b = 1) (hb : 1 ≤ b) (h2 : Int.gcd c d = 1) (hd : 1 ≤ d) (h : a * d = c * b) : a = c ∧ b = d := by
  have e1 : b ∣ d := dvd_co h1 ⟨c, by grind⟩
  have e2 : d ∣ b := dvd_co h2 ⟨a, by grind⟩
  have e : b = d := Int.dvd_antisymm (by omega) (by omega) e1 e2
  subst e
  exact ⟨Int.eq_of_mul_eq_mul_right (by omega) h, rfl⟩
theorem cmpI_anti (x y : Int) : cmpI y x = - cmpI x y := by
  rcases cmpI_cases x y with ⟨h, e⟩ | ⟨h, e⟩ | ⟨h, e⟩ <;> rcases cmpI_cases y x with ⟨h', e'⟩ | ⟨h', e'⟩ | ⟨h', e'⟩ <;> first | omega | (rw [e, e']; rfl)
theorem cmpI_pos {x y k : Int} (hk : 0 < k) : cmpI (x * k) (y * k) = cmpI x y := by
  rcases cmpI_cases x y with ⟨h, e⟩ | ⟨h, e⟩ | ⟨h, e⟩
  · have := Int.mul_lt_mul_of_pos_right h hk
    rw [e]; unfold cmpI; rw [if_pos this]
  · have := Int.mul_lt_mul_of_pos_right h hk
    rw [e]; unfold cmpI; rw [if_neg (by omega), if_pos this]
  · subst h; rw [e]; unfold cmpI; rw [if_neg (by omega), if_neg (by omega)]
theorem cmpI_0 {x y : Int} : cmpI x y = 0 ↔ x = y := by
  rcases cmpI_cases x y with ⟨h, e⟩ | ⟨h, e⟩ | ⟨h, e⟩ <;> rw [e]
  · exact ⟨fun h => by omega, fun h => by omega⟩
  · exact ⟨fun h => by omega, fun h => by omega⟩
  · exact ⟨fun _ => h, fun _ => rfl⟩

/-- A fraction. -/
structure Fr where
  n : Int
  d : Int
def Fr.R (a : Fr) : Prop := Right a.n a.d
def Fr.c (a : Fr) : Nat := chk a.n a.d
def Fr.cmp (a b : Fr) : Int := cmpI (a.n * b.d) (b.n * a.d)
def addN (a b : Fr) : Int := a.n * b.d + b.n * a.d
def addD (a b : Fr) : Int := a.d * b.d
def Fr.add (a b : Fr) : Fr := ⟨lowN (addN a b) (addD a b), lowD (addN a b) (addD a b)⟩
def Fr.addC (a b : Fr) : Nat := lowC (addN a b) (addD a b)

theorem addD_pos {a b : Fr} (ha : 1 ≤ a.d) (hb : 1 ≤ b.d) : 1 ≤ addD a b := mul_pos1 ha hb
theorem add_eq {a b : Fr} (ha : 1 ≤ a.d) (hb : 1 ≤ b.d) : (a.add b).n * (a.d * b.d) = (a.n * b.d + b.n * a.d) * (a.add b).d := low_eq (addD_pos ha hb)
theorem add_right {a b : Fr} (ha : 1 ≤ a.d) (hb : 1 ≤ b.d) (hc : a.addC b = 0) : (a.add b).R := low_right (addD_pos ha hb) hc
theorem add_d {a b : Fr} (ha : 1 ≤ a.d) (hb : 1 ≤ b.d) : 1 ≤ (a.add b).d := (low_spec (addD_pos ha hb)).elim fun _ h => h.2.2.2.2
theorem add_co {a b : Fr} (ha : 1 ≤ a.d) (hb : 1 ≤ b.d) : Int.gcd (a.add b).n (a.add b).d = 1 := (low_spec (addD_pos ha hb)).elim fun _ h => h.2.2.2.1

/-- What is added to both makes no difference. -/
theorem add_cmp {a b c : Fr} (ha : 1 ≤ a.d) (hb : 1 ≤ b.d) (hc : 1 ≤ c.d) : (a.add c).cmp (b.add c) = a.cmp b := by
  have e1 := add_eq (a := a) (b := c) ha hc
  have e2 := add_eq (a := b) (b := c) hb hc
  have d1 := add_d (a := a) (b := c) ha hc
  have d2 := add_d (a := b) (b := c) hb hc
  unfold Fr.cmp
  generalize a.add c = x at e1 d1 ⊢
  generalize b.add c = y at e2 d2 ⊢
  obtain ⟨an, ad⟩ := a; obtain ⟨bn, bd⟩ := b; obtain ⟨cn, cd⟩ := c; obtain ⟨xn, xd⟩ := x; obtain ⟨yn, yd⟩ := y
  simp only at *
  have k1 : 0 < ad * bd * (cd * cd) := by
    have := mul_pos1 ha hb; have := mul_pos1 hc hc; have := mul_pos1 (mul_pos1 ha hb) (mul_pos1 hc hc); omega
  have k2 : 0 < xd * yd * (cd * cd) := by
    have := mul_pos1 (mul_pos1 d1 d2) (mul_pos1 hc hc); omega
  have l1 : xn * yd * (ad * bd * (cd * cd)) = (an * bd) * (xd * yd * (cd * cd)) + cn * ad * bd * xd * yd * cd := by
    have : xn * yd * (ad * bd * (cd * cd)) = (xn * (ad * cd)) * (yd * bd * cd) := by grind
    rw [this, e1]; grind
  have l2 : yn * xd * (ad * bd * (cd * cd)) = (bn * ad) * (xd * yd * (cd * cd)) + cn * ad * bd * xd * yd * cd := by
    have : yn * xd * (ad * bd * (cd * cd)) = (yn * (bd * cd)) * (xd * ad * cd) := by grind
    rw [this, e2]; grind
  rw [← cmpI_pos (x := xn * yd) k1, ← cmpI_pos (x := an * bd) k2, l1, l2]
  generalize (an * bd) * (xd * yd * (cd * cd)) = u
  generalize (bn * ad) * (xd * yd * (cd * cd)) = v
  generalize cn * ad * bd * xd * yd * cd = t
  unfold cmpI
  by_cases h1 : u < v
  · rw [if_pos h1, if_pos (by omega)]
  · rw [if_neg h1, if_neg (by omega)]
    by_cases h2 : v < u
    · rw [if_pos h2, if_pos (by omega)]
    · rw [if_neg h2, if_neg (by omega)]
/-- A sum of three may be put together in any way. -/
theorem add_assoc3 {a b c : Fr} (ha : 1 ≤ a.d) (hb : 1 ≤ b.d) (hc : 1 ≤ c.d) : (a.add c).add b = a.add (b.add c) := by
  have e1 := add_eq (a := a) (b := c) ha hc
  have d1 := add_d (a := a) (b := c) ha hc
  have e2 := add_eq (a := b) (b := c) hb hc
  have d2 := add_d (a := b) (b := c) hb hc
  have f1 := add_eq (a := a.add c) (b := b) d1 hb
  have g1 := add_d (a := a.add c) (b := b) d1 hb
  have c1 := add_co (a := a.add c) (b := b) d1 hb
  have f2 := add_eq (a := a) (b := b.add c) ha d2
  have g2 := add_d (a := a) (b := b.add c) ha d2
  have c2 := add_co (a := a) (b := b.add c) ha d2
  generalize (a.add c).add b = p at f1 g1 c1 ⊢
  generalize a.add (b.add c) = q at f2 g2 c2 ⊢
  generalize a.add c = x at *
  generalize b.add c = y at *
  obtain ⟨an, ad⟩ := a; obtain ⟨bn, bd⟩ := b; obtain ⟨cn, cd⟩ := c; obtain ⟨xn, xd⟩ := x; obtain ⟨yn, yd⟩ := y
  obtain ⟨pn, pd⟩ := p; obtain ⟨qn, qd⟩ := q
  simp only at *
  have h : pn * qd = qn * pd := by
    have k : xd * bd * (ad * yd) * (ad * cd) * (bd * cd) ≠ 0 := by
      have := mul_pos1 (mul_pos1 (mul_pos1 (mul_pos1 d1 hb) (mul_pos1 ha d2)) (mul_pos1 ha hc)) (mul_pos1 hb hc); omega
    refine Int.eq_of_mul_eq_mul_right k ?_
    have l1 : pn * qd * (xd * bd * (ad * yd) * (ad * cd) * (bd * cd)) = (pn * (xd * bd)) * (qd * (ad * yd) * (ad * cd) * (bd * cd)) := by grind
    have l2 : qn * pd * (xd * bd * (ad * yd) * (ad * cd) * (bd * cd)) = (qn * (ad * yd)) * (pd * (xd * bd) * (ad * cd) * (bd * cd)) := by grind
    rw [l1, l2, f1, f2]
    have m1 : (xn * bd + bn * xd) * pd * (qd * (ad * yd) * (ad * cd) * (bd * cd)) = ((xn * (ad * cd)) * bd + bn * xd * (ad * cd)) * (pd * qd * (ad * yd) * (bd * cd)) := by grind
    have m2 : (an * yd + yn * ad) * qd * (pd * (xd * bd) * (ad * cd) * (bd * cd)) = (an * yd * (bd * cd) + (yn * (bd * cd)) * ad) * (pd * qd * (xd * bd) * (ad * cd)) := by grind
    rw [m1, m2, e1, e2]
    grind
  obtain ⟨h1, h2⟩ := right_one c1 g1 c2 g2 h
  rw [h1, h2]
theorem fr_eq {a b : Fr} (ha : a.R) (hb : b.R) : a.cmp b = 0 ↔ a.n = b.n ∧ a.d = b.d := by
  unfold Fr.cmp
  rw [cmpI_0]
  exact ⟨fun h => right_one ha.co ha.d0 hb.co hb.d0 h, fun ⟨h1, h2⟩ => by rw [h1, h2]⟩
end Lead
