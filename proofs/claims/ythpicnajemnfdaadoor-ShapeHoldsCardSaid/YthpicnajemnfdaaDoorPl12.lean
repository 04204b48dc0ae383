/-
  Plain: the reference's crossings are package shape's.
-/
import Derived.Test.YthpicnajemnfdaaDoorPl6
namespace Lead
open Go Go.RowKit

def atI (o : Option Nat) : Int := match o with
  | none => -1
  | some i => i

def upI (a p : Pt) : Int := p.yn * a.yd - a.yn * p.yd
def dxI (a b : Pt) : Int := b.xn * a.xd - a.xn * b.xd

/-- What the reference reckons is the side, or its opposite. -/
theorem bey_eq (a b p : Pt) : upI a p * b.yd * dxI a b * p.xd - dxI a p * (upI a b * p.yd) * b.xd = sideI a b p := by
  unfold upI dxI sideI
  grind
theorem bey_neg (a b p : Pt) : -(upI a p * b.yd) * dxI a b * p.xd - dxI a p * (-(upI a b * p.yd)) * b.xd = - sideI a b p := by
  unfold upI dxI sideI
  grind

structure BeyW (a b p : Pt) : Prop where
  u1 : wrap64 (wrap64 (p.yn * a.yd) - wrap64 (a.yn * p.yd)) = upI a p
  u2 : wrap64 (wrap64 (b.yn * a.yd) - wrap64 (a.yn * b.yd)) = upI a b
  d1 : wrap64 (wrap64 (b.xn * a.xd) - wrap64 (a.xn * b.xd)) = dxI a b
  d2 : wrap64 (wrap64 (p.xn * a.xd) - wrap64 (a.xn * p.xd)) = dxI a p
  n : wrap64 (upI a p * b.yd) = upI a p * b.yd
  d : wrap64 (upI a b * p.yd) = upI a b * p.yd
  n' : wrap64 (-(upI a p * b.yd)) = -(upI a p * b.yd)
  d' : wrap64 (-(upI a b * p.yd)) = -(upI a b * p.yd)
  l : wrap64 (wrap64 (upI a p * b.yd * dxI a b) * p.xd) = upI a p * b.yd * dxI a b * p.xd
  r : wrap64 (wrap64 (dxI a p * (upI a b * p.yd)) * b.xd) = dxI a p * (upI a b * p.yd) * b.xd
  l' : wrap64 (wrap64 (-(upI a p * b.yd) * dxI a b) * p.xd) = -(upI a p * b.yd) * dxI a b * p.xd
  r' : wrap64 (wrap64 (dxI a p * (-(upI a b * p.yd))) * b.xd) = dxI a p * (-(upI a b * p.yd)) * b.xd
theorem bey_wrap {a b p : Pt} (ha : PtOk a) (hb : PtOk b) (hp : PtOk p) : BeyW a b p := by
  obtain ⟨a1, a2, a3, a4⟩ := ha.b
  obtain ⟨b1, b2, b3, b4⟩ := hb.b
  obtain ⟨p1, p2, p3, p4⟩ := hp.b
  have e1 := mb 20000 20 400000 b1 a2 rfl
  have e2 := mb 20000 20 400000 a1 b2 rfl
  have e3 := mb 20000 20 400000 p3 a4 rfl
  have e4 := mb 20000 20 400000 a3 p4 rfl
  have e5 := mb 20000 20 400000 p1 a2 rfl
  have e6 := mb 20000 20 400000 a1 p2 rfl
  have e7 := mb 20000 20 400000 b3 a4 rfl
  have e8 := mb 20000 20 400000 a3 b4 rfl
  have U1 : -800000 ≤ upI a p ∧ upI a p ≤ 800000 := by unfold upI; omega
  have U2 : -800000 ≤ upI a b ∧ upI a b ≤ 800000 := by unfold upI; omega
  have D1 : -800000 ≤ dxI a b ∧ dxI a b ≤ 800000 := by unfold dxI; omega
  have D2 : -800000 ≤ dxI a p ∧ dxI a p ≤ 800000 := by unfold dxI; omega
  have N := mb 800000 20 16000000 U1 b4 rfl
  have D := mb 800000 20 16000000 U2 p4 rfl
  have L := mb 16000000 800000 12800000000000 N D1 rfl
  have R := mb 800000 16000000 12800000000000 D2 D rfl
  have LL := mb 12800000000000 20 256000000000000 L p2 rfl
  have RR := mb 12800000000000 20 256000000000000 R b2 rfl
  have L' := mb (a := -(upI a p * b.yd)) 16000000 800000 12800000000000 (by omega) D1 rfl
  have R' := mb (b := -(upI a b * p.yd)) 800000 16000000 12800000000000 D2 (by omega) rfl
  have LL' := mb 12800000000000 20 256000000000000 L' p2 rfl
  have RR' := mb 12800000000000 20 256000000000000 R' b2 rfl
  refine ⟨?_, ?_, ?_, ?_, ?_, ?_, ?_, ?_, ?_, ?_, ?_, ?_⟩
  · rw [w60 (x := p.yn * a.yd) (by omega), w60 (x := a.yn * p.yd) (by omega), w60 (by omega)]; rfl
  · rw [w60 (x := b.yn * a.yd) (by omega), w60 (x := a.yn * b.yd) (by omega), w60 (by omega)]; rfl
  · rw [w60 (x := b.xn * a.xd) (by omega), w60 (x := a.xn * b.xd) (by omega), w60 (by omega)]; rfl
  · rw [w60 (x := p.xn * a.xd) (by omega), w60 (x := a.xn * p.xd) (by omega), w60 (by omega)]; rfl
  · exact w60 (by omega)
  · exact w60 (by omega)
  · exact w60 (by omega)
  · exact w60 (by omega)
  · rw [w60 (x := upI a p * b.yd * dxI a b) (by omega)]; exact w60 (by omega)
  · rw [w60 (x := dxI a p * (upI a b * p.yd)) (by omega)]; exact w60 (by omega)
  · rw [w60 (x := -(upI a p * b.yd) * dxI a b) (by omega)]; exact w60 (by omega)
  · rw [w60 (x := dxI a p * (-(upI a b * p.yd))) (by omega)]; exact w60 (by omega)

theorem mul_lt_of {x y k : Int} (hk : 1 ≤ k) (h : x * k < y * k) : x < y := by
  by_cases h1 : x < y
  · exact h1
  · have := Int.mul_le_mul_of_nonneg_right (show y ≤ x by omega) (show 0 ≤ k by omega); omega
theorem up_pos {a b p : Pt} (ha : PtOk a) (hb : PtOk b) (hp : PtOk p) (h1 : ¬ p.yn * a.yd < a.yn * p.yd) (h2 : p.yn * b.yd < b.yn * p.yd) : 1 ≤ upI a b ∧ ¬ upI a b * p.yd < 0 := by
  have da := ha.y.d0
  have db := hb.y.d0
  have dp := hp.y.d0
  have e1 := Int.mul_le_mul_of_nonneg_right (show a.yn * p.yd ≤ p.yn * a.yd by omega) (show 0 ≤ b.yd by omega)
  have e2 := Int.mul_lt_mul_of_pos_right h2 (show 0 < a.yd by omega)
  have e3 : a.yn * b.yd < b.yn * a.yd := by
    refine mul_lt_of dp ?_
    have l1 : a.yn * b.yd * p.yd = a.yn * p.yd * b.yd := by grind
    have l2 : b.yn * a.yd * p.yd = b.yn * p.yd * a.yd := by grind
    have l3 : p.yn * a.yd * b.yd = p.yn * b.yd * a.yd := by grind
    omega
  have h : 1 ≤ upI a b := by unfold upI; omega
  have := mul_pos1 h dp
  exact ⟨h, by omega⟩
theorem up_neg {a b p : Pt} (ha : PtOk a) (hb : PtOk b) (hp : PtOk p) (h1 : p.yn * a.yd < a.yn * p.yd) (h2 : ¬ p.yn * b.yd < b.yn * p.yd) : upI a b ≤ -1 ∧ upI a b * p.yd < 0 := by
  have da := ha.y.d0
  have db := hb.y.d0
  have dp := hp.y.d0
  have e1 := Int.mul_le_mul_of_nonneg_right (show b.yn * p.yd ≤ p.yn * b.yd by omega) (show 0 ≤ a.yd by omega)
  have e2 := Int.mul_lt_mul_of_pos_right h1 (show 0 < b.yd by omega)
  have e3 : b.yn * a.yd < a.yn * b.yd := by
    refine mul_lt_of dp ?_
    have l1 : a.yn * b.yd * p.yd = a.yn * p.yd * b.yd := by grind
    have l2 : b.yn * a.yd * p.yd = b.yn * p.yd * a.yd := by grind
    have l3 : p.yn * a.yd * b.yd = p.yn * b.yd * a.yd := by grind
    omega
  have h : upI a b ≤ -1 := by unfold upI; omega
  have := mul_pos1 (a := - upI a b) (b := p.yd) (by omega) dp
  rw [Int.neg_mul] at this
  exact ⟨h, by omega⟩
/-- The first sign: of a's and p's heights. -/
theorem cmp_le {x y : Int} : (y < x ∧ ¬ cmpI x y ≤ 0) ∨ (¬ y < x ∧ cmpI x y ≤ 0) := by
  rcases cmpI_cases x y with ⟨h, e⟩ | ⟨h, e⟩ | ⟨h, e⟩ <;> omega
end Lead
