/-
  Walks over the statements' helpers moved, asMove; plain: errors of moves.
-/
import Derived.Test.YtbekidefgdijkaaGreatDoorMvd
namespace Lead
open Go Go.RowKit
theorem thenC_ne2 {m n : Mv} (h : ¬ thenC m n = (0, none)) : (thenC m n).1 ≠ 0 := by
  rcases thenC_cases m n with ⟨k, e⟩ | ⟨_, k, e⟩ | ⟨_, _, _, e⟩ | ⟨_, _, _, e⟩
  · rw [e]; exact k
  · rw [e]; exact k
  · rw [e]; decide
  · exact absurd e h
theorem atC_ne2 {m : Mv} {p : Pt} (h : ¬ atC m p = (0, none)) : (atC m p).1 ≠ 0 := by
  rcases at_cases m p with ⟨k, e⟩ | ⟨_, k, e⟩ | ⟨_, _, k, e⟩ | ⟨_, _, _, _, e⟩ | ⟨_, _, _, _, e⟩
  · rw [e]; exact k
  · rw [e]; exact k
  · rw [e]; exact k
  · rw [e]; decide
  · exact absurd e h
theorem thenV_z2 {m n : Mv} (h : ¬ thenC m n = (0, none)) : thenV m n = ⟨⟨0, 0⟩, ⟨0, 0⟩, ⟨0, 0⟩, ⟨0, 0⟩, ⟨0, 0⟩, ⟨0, 0⟩⟩ := if_neg h
theorem at_R2 {m : Mv} {p : Pt} (h : atC m p = (0, none)) : (atV m p).R := by
  obtain ⟨h1, h2, h3, h4⟩ := at_ok h
  rw [h4]
  exact (mvPt_val h1 h2 h3).1
end Lead
namespace Go.Proofs.YtbekidefgdijkaaGreatDoor
open Go.RowKit Lead
set_option maxHeartbeats 1000000 in
set_option maxRecDepth 100000 in
theorem asm_any (m : Mv) (w : World) : Calls Tryz.prog 19 #[.agg #[.int .i64 m.A.n, .int .i64 m.A.d, .int .i64 m.B.n, .int .i64 m.B.d, .int .i64 m.C.n, .int .i64 m.C.d, .int .i64 m.D.n, .int .i64 m.D.d, .int .i64 m.E.n, .int .i64 m.E.d, .int .i64 m.F.n, .int .i64 m.F.d]] w fun e w' => e = .returned (.agg #[.int .i64 m.A.n, .int .i64 m.A.d, .int .i64 m.B.n, .int .i64 m.B.d, .int .i64 m.C.n, .int .i64 m.C.d, .int .i64 m.D.n, .int .i64 m.D.d, .int .i64 m.E.n, .int .i64 m.E.d, .int .i64 m.F.n, .int .i64 m.F.d]) ∧ Below w.heap.size w w' := by
  go_enter Tryz.func19, Tryz.ntmps19
  ((try go_simp); (repeat go_step))
  refine bodyPost_ret (by simp [results, Tryz.results19, go_sem]; try rfl) rfl ?_
  exact ⟨rfl, by repeat' (first | (with_reducible exact Below.refl _ _) | (with_reducible assumption) | (with_reducible refine bdn ?_) | (with_reducible refine Below.alloc ?_ ?_ _) | (with_reducible refine Below.drew ?_) | (with_reducible refine Below.setCell ?_ ?_ _) | omega | (simp <;> omega))⟩
end Go.Proofs.YtbekidefgdijkaaGreatDoor
