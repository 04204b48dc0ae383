/-
  Plain: what a box holds.
-/
import Derived.Test.YthpicnajemnfdaaDoorPl6
import Derived.Test.YthpicnajemnfdaaDoorPl8
namespace Lead
open Go Go.RowKit

theorem cmpI_le {x y : Int} : cmpI x y ≤ 0 ↔ x ≤ y := by
  rcases cmpI_cases x y with ⟨h, e⟩ | ⟨h, e⟩ | ⟨h, e⟩ <;> rw [e] <;> constructor <;> intro _ <;> omega
theorem cmpI_lt {x y : Int} : cmpI x y < 0 ↔ x < y := by
  rcases cmpI_cases x y with ⟨h, e⟩ | ⟨h, e⟩ | ⟨h, e⟩ <;> rw [e] <;> constructor <;> intro _ <;> omega

theorem cross_flat (an ad cn cd yn yd : Int) (p : Pt) : crossPt ⟨an, ad, yn, yd⟩ ⟨cn, cd, yn, yd⟩ p = 0 := by
  unfold crossPt crossB
  simp only
  cases decide (p.yn * yd < yn * p.yd) <;> simp
theorem cross_up (X y b : Fr) (p : Pt) (hX : 1 ≤ X.d) (hy : 1 ≤ y.d) (hb : 1 ≤ b.d) (hp : 1 ≤ p.yd) (hyb : y.n * b.d ≤ b.n * y.d) :
    crossPt ⟨X.n, X.d, y.n, y.d⟩ ⟨X.n, X.d, b.n, b.d⟩ p = if y.n * p.yd ≤ p.yn * y.d ∧ p.yn * b.d < b.n * p.yd ∧ p.xn * X.d < X.n * p.xd then 1 else 0 := by
  have hs : sideI ⟨X.n, X.d, y.n, y.d⟩ ⟨X.n, X.d, b.n, b.d⟩ p = (X.n * p.xd - p.xn * X.d) * ((b.n * y.d - y.n * b.d) * (X.d * p.yd)) := by
    unfold sideI; simp only; grind
  unfold crossPt
  rw [hs]
  simp only
  have hk := mul_pos1 hX hp
  generalize hU : X.n * p.xd - p.xn * X.d = U
  generalize hV : b.n * y.d - y.n * b.d = V
  have hV0 : 0 ≤ V := by omega
  by_cases hC : p.yn * y.d < y.n * p.yd <;> by_cases hD : p.yn * b.d < b.n * p.yd
  · unfold crossB; simp [hC, hD]; intro h; omega
  · exfalso
    have e1 : b.n * p.yd * y.d ≤ p.yn * b.d * y.d := Int.mul_le_mul_of_nonneg_right (by omega) (by omega)
    have e2 : p.yn * y.d * b.d < y.n * p.yd * b.d := Int.mul_lt_mul_of_pos_right hC (by omega)
    have e3 : V * p.yd < 0 := by rw [← hV]; grind
    have e4 : 0 ≤ V * p.yd := Int.mul_nonneg hV0 (by omega)
    omega
  · have e1 : y.n * p.yd * b.d ≤ p.yn * y.d * b.d := Int.mul_le_mul_of_nonneg_right (by omega) (by omega)
    have e2 : p.yn * b.d * y.d < b.n * p.yd * y.d := Int.mul_lt_mul_of_pos_right hD (by omega)
    have e3 : 0 < V * p.yd := by rw [← hV]; grind
    have hV1 : 0 < V := Int.pos_of_mul_pos_left e3 (by omega) |> fun h => by omega
    have hK : 0 < V * (X.d * p.yd) := Int.mul_pos hV1 (by omega)
    have hsg : 0 < U * (V * (X.d * p.yd)) ↔ 0 < U := ⟨fun h => Int.pos_of_mul_pos_left h (by omega) |> fun h => by omega, fun h => Int.mul_pos h hK⟩
    unfold crossB
    simp only [hC, hD, decide_false, decide_true, true_and, hsg]
    by_cases hU0 : 0 < U
    · rw [if_pos hU0, if_pos ⟨by omega, by omega⟩]
    · rw [if_neg hU0, if_neg (by simp), if_neg (by omega)]
  · unfold crossB; simp [hC, hD]

theorem add_le {y h : Fr} (hy : 1 ≤ y.d) (hh : 1 ≤ h.d) (h0 : 0 ≤ h.n) : y.n * (y.add h).d ≤ (y.add h).n * y.d := by
  have e := add_eq hy hh
  have d := add_d hy hh
  generalize y.add h = b at e d
  refine Int.le_of_mul_le_mul_right (a := h.d) ?_ (by omega)
  have e1 : b.n * y.d * h.d = y.n * b.d * h.d + h.n * y.d * b.d := by
    have : b.n * y.d * h.d = b.n * (y.d * h.d) := by grind
    rw [this, e]; grind
  have e2 : 0 ≤ h.n * y.d * b.d := Int.mul_nonneg (Int.mul_nonneg h0 (by omega)) (by omega)
  omega

def boxIn (x y r b : Fr) (p : Pt) : Bool :=
  decide (x.n * p.xd ≤ p.xn * x.d) && decide (p.xn * r.d < r.n * p.xd) && decide (y.n * p.yd ≤ p.yn * y.d) && decide (p.yn * b.d < b.n * p.yd)

theorem box_holds (x y w h : Fr) (p : Pt) (hx : 1 ≤ x.d) (hy : 1 ≤ y.d) (hw : 1 ≤ w.d) (hh : 1 ≤ h.d) (hw0 : 0 ≤ w.n) (hh0 : 0 ≤ h.n) (hs : shC (boxP x y w h) = (0, none)) (hp : PtOk p) :
    crC (boxP x y w h) p = (0, none) ∧ ((crL (boxP x y w h) p).sum != 0) = boxIn x y (x.add w) (y.add h) p ∧ (((crL (boxP x y w h) p).length : Int) % 2 == 1) = boxIn x y (x.add w) (y.add h) p := by
  obtain ⟨h1, _, h2⟩ := shC_ok hs
  have hC := crC_ok h2 hp h1
  refine ⟨hC, ?_⟩
  have hL : crL (boxP x y w h) p = [crossPt ⟨x.n, x.d, y.n, y.d⟩ ⟨(x.add w).n, (x.add w).d, y.n, y.d⟩ p, crossPt ⟨(x.add w).n, (x.add w).d, y.n, y.d⟩ ⟨(x.add w).n, (x.add w).d, (y.add h).n, (y.add h).d⟩ p,
      crossPt ⟨(x.add w).n, (x.add w).d, (y.add h).n, (y.add h).d⟩ ⟨x.n, x.d, (y.add h).n, (y.add h).d⟩ p, crossPt ⟨x.n, x.d, (y.add h).n, (y.add h).d⟩ ⟨x.n, x.d, y.n, y.d⟩ p].filter fun c => c != 0 := by
    unfold crL
    rw [if_pos hC]
    unfold crsTo
    rw [show (boxP x y w h).length = 4 from rfl, show List.range 4 = [0, 1, 2, 3] by decide]
    rfl
  have hyb := add_le hy hh hh0
  have hxr := add_le hx hw hw0
  have hrd := add_d (a := x) (b := w) hx hw
  have hbd := add_d (a := y) (b := h) hy hh
  have hpd := hp.y.d0
  have hpx := hp.x.d0
  rw [hL, cross_flat, cross_flat, cross_swap ⟨x.n, x.d, y.n, y.d⟩, cross_up (x.add w) y (y.add h) p hrd hy hbd hpd hyb, cross_up x y (y.add h) p hx hy hbd hpd hyb]
  generalize x.add w = r at *
  generalize y.add h = b at *
  -- x at most r: what is to the left of x is to the left of r
  have himp : p.xn * x.d < x.n * p.xd → p.xn * r.d < r.n * p.xd := fun h => by
    have e1 : p.xn * x.d * r.d < x.n * p.xd * r.d := Int.mul_lt_mul_of_pos_right h (by omega)
    have e2 : x.n * r.d * p.xd ≤ r.n * x.d * p.xd := Int.mul_le_mul_of_nonneg_right hxr (by omega)
    have e3 : p.xn * r.d * x.d < r.n * p.xd * x.d := by grind
    exact Int.lt_of_mul_lt_mul_right e3 (by omega)
  unfold boxIn
  by_cases hA : p.xn * x.d < x.n * p.xd <;> by_cases hB : p.xn * r.d < r.n * p.xd <;> by_cases hCy : y.n * p.yd ≤ p.yn * y.d <;> by_cases hD : p.yn * b.d < b.n * p.yd
  all_goals first
    | exact absurd (himp hA) hB
    | (have hA' : ¬ x.n * p.xd ≤ p.xn * x.d := by omega
       simp [hA, hB, hCy, hD, hA'])
    | (have hA' : x.n * p.xd ≤ p.xn * x.d := by omega
       simp [hA, hB, hCy, hD, hA'])
end Lead
