/-
  Plain: a call that answers a move and an error.
-/
import Derived.Test.YtlhadgnpkooiaaaGreatDoorMa
namespace Lead
open Go Go.RowKit
/-- A call that answers a move and an error. -/
def RetME (T F : Nat) (ea : Nat → Addr) (c : Nat × Option Nat) (q : Mv) (w : World) (en : Ending) (w' : World) : Prop :=
  ∃ x, en = .returned (.tuple #[.agg #[.int .i64 q.A.n, .int .i64 q.A.d, .int .i64 q.B.n, .int .i64 q.B.d, .int .i64 q.C.n, .int .i64 q.C.d, .int .i64 q.D.n, .int .i64 q.D.d, .int .i64 q.E.n, .int .i64 q.E.d, .int .i64 q.F.n, .int .i64 q.F.d], x]) ∧ ErrAt T F ea w.heap.size w' x c ∧ Below w.heap.size w w'
end Lead
