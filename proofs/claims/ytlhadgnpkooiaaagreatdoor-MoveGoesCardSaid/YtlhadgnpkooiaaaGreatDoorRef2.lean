/-
  Walks over the document's answer: the error of a point.
-/
import Derived.Test.YtlhadgnpkooiaaaGreatDoorRef1
import Derived.Test.YtlhadgnpkooiaaaGreatDoorPa
namespace Go.Proofs.YtlhadgnpkooiaaaGreatDoor
open Go.RowKit Lead

theorem rfracerror_0 (n d : Int) (w : World) (h : chk n d = 0) (hn : I64 n) (hd : I64 d) :
    Calls Tryz.prog 18 #[.agg #[.int .i64 n, .int .i64 d]] w fun e w' => e = .returned (.int .i64 0) ∧ Below w.heap.size w w' :=
  (rfracerror_any n d w hn hd).mono fun e w' ⟨h1, h2⟩ => ⟨by rw [h1, h]; rfl, h2⟩
theorem rfracerror_c (n d : Int) (c : Int) (w : World) (h : (chk n d : Int) = c) (hn : I64 n) (hd : I64 d) :
    Calls Tryz.prog 18 #[.agg #[.int .i64 n, .int .i64 d]] w fun e w' => e = .returned (.int .i64 c) ∧ Below w.heap.size w w' :=
  (rfracerror_any n d w hn hd).mono fun e w' ⟨h1, h2⟩ => ⟨by rw [h1, h], h2⟩

end Go.Proofs.YtlhadgnpkooiaaaGreatDoor
