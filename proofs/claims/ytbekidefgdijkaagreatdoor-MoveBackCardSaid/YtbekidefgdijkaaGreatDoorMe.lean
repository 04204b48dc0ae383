/-
  Plain: a call that answers a move and an error.
-/
import Derived.Test.YtbekidefgdijkaaGreatDoorMa
namespace Lead
open Go Go.RowKit
/-- A call that answers a move and an error. -/
def RetME (T F : Nat) (ea : Nat → Addr) (c : Nat × Option Nat) (q : Mv) (w : World) (en : Ending) (w' : World) : Prop :=
  ∃ x, en = .returned (.tuple #[.agg #[.int .i64 q.A.n, .int .i64 q.A.d, .int .i64 q.B.n, .int .i64 q.B.d, .int .i64 q.C.n, .int .i64 q.C.d, .int .i64 q.D.n, .int .i64 q.D.d, .int .i64 q.E.n, .int .i64 q.E.d, .int .i64 q.F.n, .int .i64 q.F.d], x]) ∧ ErrAt T F ea w.heap.size w' x c ∧ Below w.heap.size w w'
theorem call_me {P : Program} {f : FuncId} {args : Array Value} {w W : World} {R : Ending → World → Prop} {T F : Nat} {ea : Nat → Addr} {c : Nat × Option Nat} {q : Mv} (hB : Below w.heap.size w W)
    (h : Below w.heap.size w W → Calls P f args W (RetME T F ea c q W))
    (k : ∀ x w1, ErrAt T F ea W.heap.size w1 x c → Below w.heap.size w w1 → W.heap.size ≤ w1.heap.size → (∀ b o, b < W.heap.size → w1.cell? ⟨b, o, none⟩ = W.cell? ⟨b, o, none⟩) →
      (∀ b o, b < W.heap.size → w1.frozen? ⟨b, o, none⟩ = W.frozen? ⟨b, o, none⟩) → Below W.heap.size W w1 → R (.returned (.tuple #[.agg #[.int .i64 q.A.n, .int .i64 q.A.d, .int .i64 q.B.n, .int .i64 q.B.d, .int .i64 q.C.n, .int .i64 q.C.d, .int .i64 q.D.n, .int .i64 q.D.d, .int .i64 q.E.n, .int .i64 q.E.d, .int .i64 q.F.n, .int .i64 q.F.d], x])) w1) : Calls P f args W R :=
  (h hB).mono fun en w1 ⟨x, he, hx, hb⟩ => by
    subst he
    exact k x w1 hx (hB.trans (hb.mono hB.size)) hb.size (bcell hb).1 (bcell hb).2 hb
end Lead
