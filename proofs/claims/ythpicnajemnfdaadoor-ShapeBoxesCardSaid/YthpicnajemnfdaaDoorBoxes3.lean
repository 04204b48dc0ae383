/-
  The walk over the statement ShapeBoxes: joined.
-/
import Derived.Test.YthpicnajemnfdaaDoorBoxes2
namespace Go.Proofs.YthpicnajemnfdaaDoor
open Go.RowKit Lead

theorem boxes_any (ea : Nat → Addr) (x y u h : Fr) (p : Pt) (w : World) (hx : x.I) (hy : y.I) (hu : u.I) (hh : h.I) (hp : p.I) (hShape : w.cell? ⟨2, 0, none⟩ = some (.iface 87 (.pointer (some (ea 3))))) (hBound : w.cell? ⟨1, 0, none⟩ = some (.iface 87 (.pointer (some (ea 2))))) :
    Calls Tryd.prog 4 #[.agg #[.int .i64 x.n, .int .i64 x.d], .agg #[.int .i64 y.n, .int .i64 y.d], .agg #[.int .i64 u.n, .int .i64 u.d], .agg #[.int .i64 h.n, .int .i64 h.d], .agg #[.int .i64 p.xn, .int .i64 p.xd, .int .i64 p.yn, .int .i64 p.yd]] w fun e w' => e = .returned (.bool true) ∧ Below w.heap.size w w' := by
  by_cases hc : boxC x y u h = (0, none)
  · by_cases hpc : p.c = 0
    · by_cases hn : u.n < 0
      · exact boxes_n1 ea x y u h p w hx hy hu hh hp hShape hBound hc hpc hn
      by_cases hn2 : h.n < 0
      · exact boxes_n2 ea x y u h p w hx hy hu hh hp hShape hBound hc hpc hn hn2
      have hL : boxL x y u h = boxP x y u h := if_pos hc
      obtain ⟨g1, g2, g3, g4, g5, g6, g7⟩ : x.c = 0 ∧ y.c = 0 ∧ u.c = 0 ∧ h.c = 0 ∧ x.addC u = 0 ∧ y.addC h = 0 ∧ boxC x y u h = shC (boxP x y u h) := by
        rcases boxC_cases x y u h with ⟨g1, g2⟩ | ⟨_, g1, g2⟩ | ⟨_, _, g1, g2⟩ | ⟨_, _, _, g1, g2⟩ | ⟨_, _, _, _, g1, g2⟩ | ⟨_, _, _, _, _, g1, g2⟩ | g
        · rw [hc] at g2; exact absurd (congrArg Prod.snd g2) (by simp)
        · rw [hc] at g2; exact absurd (congrArg Prod.snd g2) (by simp)
        · rw [hc] at g2; exact absurd (congrArg Prod.snd g2) (by simp)
        · rw [hc] at g2; exact absurd (congrArg Prod.snd g2) (by simp)
        · rw [hc] at g2; exact absurd (congrArg Prod.fst g2) (by simp)
        · rw [hc] at g2; exact absurd (congrArg Prod.fst g2) (by simp)
        · exact g
      have rx : x.R := chk_0 g1
      have ry : y.R := chk_0 g2
      have ru : u.R := chk_0 g3
      have rh : h.R := chk_0 g4
      have rr : (x.add u).R := add_right rx.d0 ru.d0 g5
      have rb : (y.add h).R := add_right ry.d0 rh.d0 g6
      have hPI := boxP_I hx hy g5 g6
      have hpo := pt_ok hpc
      obtain ⟨hC, hW, hE⟩ := box_holds x y u h p rx.d0 ry.d0 ru.d0 rh.d0 (by omega) (by omega) (g7.symm.trans hc) hpo
      have hbb : boxIn x y (x.add u) (y.add h) p = (decide (cmpI (x.n * p.xd) (p.xn * x.d) ≤ 0) && decide (cmpI (p.xn * (x.add u).d) ((x.add u).n * p.xd) < 0) && decide (cmpI (y.n * p.yd) (p.yn * y.d) ≤ 0) && decide (cmpI (p.yn * (y.add h).d) ((y.add h).n * p.yd) < 0)) := by
        unfold boxIn; simp only [cmpI_le, cmpI_lt]
      by_cases k1 : cmpI (x.n * p.xd) (p.xn * x.d) ≤ 0
      · by_cases k2 : cmpI (p.xn * (x.add u).d) ((x.add u).n * p.xd) < 0
        · by_cases k3 : cmpI (y.n * p.yd) (p.yn * y.d) ≤ 0
          · by_cases k4 : cmpI (p.yn * (y.add h).d) ((y.add h).n * p.yd) < 0
            · exact boxes_m5 ea x y u h p w hx hy hu hh hp hPI rx ry rr rb hpo hShape hBound hc hL hpc hn hn2 _ _ _ _ _ hC hW hE rfl rfl rfl rfl k1 k2 k3 k4 (by rw [hbb]; simp [k1, k2, k3, k4])
            · exact boxes_m4 ea x y u h p w hx hy hu hh hp hPI rx ry rr rb hpo hShape hBound hc hL hpc hn hn2 _ _ _ _ _ hC hW hE rfl rfl rfl rfl k1 k2 k3 k4 (by rw [hbb]; simp [k1, k2, k3, k4])
          · exact boxes_m3 ea x y u h p w hx hy hu hh hp hPI rx ry rr rb hpo hShape hBound hc hL hpc hn hn2 _ _ _ _ _ hC hW hE rfl rfl rfl rfl k1 k2 k3 (by rw [hbb]; simp [k1, k2, k3])
        · exact boxes_m2 ea x y u h p w hx hy hu hh hp hPI rx ry rr rb hpo hShape hBound hc hL hpc hn hn2 _ _ _ _ _ hC hW hE rfl rfl rfl rfl k1 k2 (by rw [hbb]; simp [k1, k2])
      · exact boxes_m1 ea x y u h p w hx hy hu hh hp hPI rx ry rr rb hpo hShape hBound hc hL hpc hn hn2 _ _ _ _ _ hC hW hE rfl rfl rfl rfl k1 (by rw [hbb]; simp [k1])
    · exact boxes_p ea x y u h p w hx hy hu hh hp hShape hBound hc hpc
  · refine boxes_e ea x y u h p w hx hy hu hh hp hShape hBound ?_
    rcases boxC_cases x y u h with ⟨g1, g2⟩ | ⟨_, g1, g2⟩ | ⟨_, _, g1, g2⟩ | ⟨_, _, _, g1, g2⟩ | ⟨_, _, _, _, g1, g2⟩ | ⟨_, _, _, _, _, g1, g2⟩ | ⟨_, _, _, _, g1, g2, g3⟩
    · rw [g2]; exact g1
    · rw [g2]; exact g1
    · rw [g2]; exact g1
    · rw [g2]; exact g1
    · rw [g2]; decide
    · rw [g2]; decide
    · rw [g3] at hc ⊢
      rcases shC_some (boxP x y u h) with hs | hs
      · exact absurd hs hc
      · exact hs
end Go.Proofs.YthpicnajemnfdaaDoor
