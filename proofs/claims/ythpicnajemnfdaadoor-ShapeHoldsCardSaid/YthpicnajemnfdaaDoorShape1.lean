/-
  Walks over package shape: less, side.
-/
import Derived.Test.YthpicnajemnfdaaDoorRows
import Derived.Test.YthpicnajemnfdaaDoorPl1
namespace Go.Proofs.YthpicnajemnfdaaDoor
open Go.RowKit Lead

set_option maxHeartbeats 400000 in
theorem shless_any (n d n' d' x y : Int) (b : Bool) (w : World) (hw1 : wrap64 (n * d') = x) (hw2 : wrap64 (n' * d) = y) (hb : decide (x < y) = b) :
    Calls Tryd.prog 77 #[.agg #[.int .i64 n, .int .i64 d], .agg #[.int .i64 n', .int .i64 d']] w fun e w' => e = .returned (.bool b) ∧ Below w.heap.size w w' := by
  have H_b := Lib.hid hb
  clear hb
  go_enter Tryd.func77, Tryd.ntmps77
  go_wp2_with fail
  go_returns
  exact ⟨by rw [← H_b.out]; rfl, by repeat' (first | (with_reducible exact Below.refl _ _) | (with_reducible assumption) | (with_reducible refine bdn ?_) | (with_reducible refine Below.alloc ?_ ?_ _) | (with_reducible refine Below.drew ?_) | (with_reducible refine Below.setCell ?_ ?_ _) | omega | (simp <;> omega))⟩

set_option maxHeartbeats 1000000 in
set_option maxRecDepth 100000 in
theorem shside_any (axn axd ayn ayd bxn bxd byn byd pxn pxd pyn pyd s : Int) (w : World)
    (hs : wrap64 (wrap64 (wrap64 (wrap64 (wrap64 (wrap64 (bxn * axd) - wrap64 (axn * bxd)) * wrap64 (wrap64 (pyn * ayd) - wrap64 (ayn * pyd))) * byd) * pxd) - wrap64 (wrap64 (wrap64 (wrap64 (wrap64 (pxn * axd) - wrap64 (axn * pxd)) * wrap64 (wrap64 (byn * ayd) - wrap64 (ayn * byd))) * bxd) * pyd)) = s) :
    Calls Tryd.prog 78 #[.agg #[.int .i64 axn, .int .i64 axd, .int .i64 ayn, .int .i64 ayd], .agg #[.int .i64 bxn, .int .i64 bxd, .int .i64 byn, .int .i64 byd], .agg #[.int .i64 pxn, .int .i64 pxd, .int .i64 pyn, .int .i64 pyd]] w fun e w' => e = .returned (.int .i64 s) ∧ Below w.heap.size w w' := by
  have H_hs := Lib.hid hs
  clear hs
  go_enter Tryd.func78, Tryd.ntmps78
  go_wp2_with fail
  go_quiet (fail)
  go_wp2_with fail
  go_quiet (fail)
  go_wp2_with fail
  go_returns
  exact ⟨by rw [← H_hs.out]; rfl, by repeat' (first | (with_reducible exact Below.refl _ _) | (with_reducible assumption) | (with_reducible refine bdn ?_) | (with_reducible refine Below.alloc ?_ ?_ _) | (with_reducible refine Below.drew ?_) | (with_reducible refine Below.setCell ?_ ?_ _) | omega | (simp <;> omega))⟩
end Go.Proofs.YthpicnajemnfdaaDoor
