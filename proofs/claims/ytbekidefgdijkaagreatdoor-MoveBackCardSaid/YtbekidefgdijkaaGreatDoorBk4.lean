/-
  Walks over package move: Back.
-/
import Derived.Test.YtbekidefgdijkaaGreatDoorBk2
import Derived.Test.YtbekidefgdijkaaGreatDoorBk3
namespace Go.Proofs.YtbekidefgdijkaaGreatDoor
open Go.RowKit Lead
theorem mback_any (ea : Nat → Addr) (m : Mv) (w : World) (im : m.I) (hG : Gs true ea w) (hsz : 20 ≤ w.heap.size) :
    Calls Tryz.prog 31 #[.agg #[.int .i64 m.A.n, .int .i64 m.A.d, .int .i64 m.B.n, .int .i64 m.B.d, .int .i64 m.C.n, .int .i64 m.C.d, .int .i64 m.D.n, .int .i64 m.D.d, .int .i64 m.E.n, .int .i64 m.E.d, .int .i64 m.F.n, .int .i64 m.F.d]] w (RetME 218 95 ea (backC m) (backV m) w) := by
  rcases backC_cases m with ⟨h1, h2⟩ | ⟨h1, h2, h3⟩ | ⟨h1, h2, h3, h4⟩ | ⟨h1, h2, h3, _, _⟩ | ⟨h1, h2, h3, _, _⟩
  · exact mback_e1 ea m w im hG hsz h1 h2
  · exact mback_e2 ea m w im hG hsz h1 h2 h3
  · exact mback_e3 ea m w im hG hsz h1 h2 h3 h4
  · exact mback_kb ea m w im hG hsz h1 h2 h3
  · exact mback_kb ea m w im hG hsz h1 h2 h3
end Go.Proofs.YtbekidefgdijkaaGreatDoor
