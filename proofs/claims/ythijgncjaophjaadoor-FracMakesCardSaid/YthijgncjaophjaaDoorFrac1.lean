/-
  Walks over package frac: divisor, small.
-/
import Derived.Test.YthijgncjaophjaaDoorRows
import Derived.Test.YthijgncjaophjaaDoorPl1
namespace Go.Proofs.YthijgncjaophjaaDoor
open Go.RowKit Lead

set_option maxHeartbeats 400000 in
theorem fsmall_any (a : Int) (w : World) :
    Calls Tryd.prog 85 #[.int .i64 a] w fun e w' => e = .returned (.bool (decide (-1073741824 ≤ a ∧ a ≤ 1073741824))) ∧ w = w' := by
  go_enter Tryd.func85, Tryd.ntmps85
  go_wp2
  all_goals
    go_ret
    refine ⟨?_, rfl⟩
    congr 2
    simp
    omega

set_option maxHeartbeats 400000 in
theorem fdivisor_any (a b : Int) (w : World) (ha : I64 a) (hb : I64 b) :
    Calls Tryd.prog 89 #[.int .i64 a, .int .i64 b] w fun e w' => e = .returned (.int .i64 (wrap64 (Int.gcd a b))) ∧ ∃ n, w' = w.drewN n := by
  go_enter Tryd.func89, Tryd.ntmps89
  go_wp2
  go_loopw [0, 1] (fun s t wr => ∃ x y : Int, s = .int .i64 x ∧ t = .int .i64 y ∧ I64 x ∧ I64 y ∧ Int.gcd x y = Int.gcd a b ∧ ∃ n, wr = w.drewN n) (fun _ t _ => (intOf t).natAbs)
  case atStart => exact ⟨a, b, rfl, rfl, ha, hb, rfl, 0, rfl⟩
  case round =>
    obtain ⟨x, y, rfl, rfl, hx, hy, hg, n, rfl⟩ := hrel
    have HG : Hid (Int.gcd x y = Int.gcd a b) := hg
    clear hg
    by_cases h0 : y = 0
    · subst h0
      go_wp2
      · have h := max_neg' hx (by assumption)
        go_ret
        exact ⟨by rw [← HG.out, h]; rfl, n, rfl⟩
      · have h := max_neg hx (by assumption)
        go_ret
        exact ⟨by rw [← HG.out, h]; rfl, n, rfl⟩
    · have hy' : (y == 0) = false := by simpa using h0
      go_wp2
      go_region
      go_wp2
      go_roundw
      case rel => exact ⟨y, x.tmod y, rfl, rfl, hy, tmod_i64 hy h0, gcd_step.trans HG.out, n + 1, rfl⟩
      case measure => exact tmod_lt h0
end Go.Proofs.YthijgncjaophjaaDoor
