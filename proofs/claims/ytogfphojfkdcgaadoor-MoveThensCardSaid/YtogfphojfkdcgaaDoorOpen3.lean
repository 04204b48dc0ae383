/-
  How a move's six fractions read, as an argument.
-/
import Derived.Test.YtogfphojfkdcgaaDoorOpen2
import Derived.Test.YtogfphojfkdcgaaDoorMa
namespace Go.Proofs.YtogfphojfkdcgaaDoor
open Go.ChangeShapes Go.WideShapes Go.ChangeAt Go.RowKit Lead
set_option maxRecDepth 100000
theorem cellsSix : Tryd.prog.cellsOf 48 = 12 := by kernel_rfl
theorem open_six {H : Type} {enc : TypeId × Value → H} {w : World} {base : Nat} {spare : Nat → Bool} {held : Bool} {fuel : Nat} {cs : List Value} {x : DataW H × List MemPlace}
    (h : DataW.trod enc Tryd.prog w base spare held fuel 48 cs = some x) : ∃ m : Mv, cs = [.int .i64 m.A.n, .int .i64 m.A.d, .int .i64 m.B.n, .int .i64 m.B.d, .int .i64 m.C.n, .int .i64 m.C.d, .int .i64 m.D.n, .int .i64 m.D.d, .int .i64 m.E.n, .int .i64 m.E.d, .int .i64 m.F.n, .int .i64 m.F.d] ∧ m.I := by
  obtain ⟨xs, n, _, _, hl, hx, hi⟩ := DataW.trod_array Tryd.underlying48 h
  rw [cellsSix] at hl
  match cs, hl, xs, hx with
  | [c0, c1, c2, c3, c4, c5, c6, c7, c8, c9, c10, c11], _, [x0, x1, x2, x3, x4, x5], _ =>
    have h0 := hi 0 (by decide)
    have h1 := hi 1 (by decide)
    have h2 := hi 2 (by decide)
    have h3 := hi 3 (by decide)
    have h4 := hi 4 (by decide)
    have h5 := hi 5 (by decide)
    simp only [cellsFrac, Nat.reduceMul, List.drop_zero, List.take_succ_cons, List.take_zero, List.drop_succ_cons, List.getElem?_cons_zero, List.getElem?_cons_succ] at h0 h1 h2 h3 h4 h5
    obtain ⟨n0, d0, e0, w0, v0⟩ := open_frac h0
    obtain ⟨n1, d1, e1, w1, v1⟩ := open_frac h1
    obtain ⟨n2, d2, e2, w2, v2⟩ := open_frac h2
    obtain ⟨n3, d3, e3, w3, v3⟩ := open_frac h3
    obtain ⟨n4, d4, e4, w4, v4⟩ := open_frac h4
    obtain ⟨n5, d5, e5, w5, v5⟩ := open_frac h5
    simp at e0 e1 e2 e3 e4 e5
    obtain ⟨rfl, rfl⟩ := e0
    obtain ⟨rfl, rfl⟩ := e1
    obtain ⟨rfl, rfl⟩ := e2
    obtain ⟨rfl, rfl⟩ := e3
    obtain ⟨rfl, rfl⟩ := e4
    obtain ⟨rfl, rfl⟩ := e5
    exact ⟨⟨⟨n0, d0⟩, ⟨n1, d1⟩, ⟨n2, d2⟩, ⟨n3, d3⟩, ⟨n4, d4⟩, ⟨n5, d5⟩⟩, rfl, ⟨w0, v0⟩, ⟨w1, v1⟩, ⟨w2, v2⟩, ⟨w3, v3⟩, ⟨w4, v4⟩, ⟨w5, v5⟩⟩
theorem open_six_arg {H : Type} {enc : TypeId × Value → H} {W : World} {base : Nat} {v : Value} {d : DataW H} {p : List MemPlace} (hv : Value.okWide Tryd.prog W .any base 48 v)
    (h : DataW.Trod enc Tryd.prog W 0 (fun _ => true) true 48 v d p) : ∃ m : Mv, v = .agg #[.int .i64 m.A.n, .int .i64 m.A.d, .int .i64 m.B.n, .int .i64 m.B.d, .int .i64 m.C.n, .int .i64 m.C.d, .int .i64 m.D.n, .int .i64 m.D.d, .int .i64 m.E.n, .int .i64 m.E.d, .int .i64 m.F.n, .int .i64 m.F.d] ∧ m.I := by
  obtain ⟨cs, rfl⟩ : ∃ cs, v = .agg cs := by
    simp only [Value.okWide, Tryd.underlying48] at hv
    obtain ⟨cs, h1, _⟩ := hv
    exact ⟨cs, h1⟩
  obtain ⟨fuel, hf⟩ := h
  obtain ⟨m, hm, hI⟩ := open_six hf
  refine ⟨m, ?_, hI⟩
  congr 1
  cases cs
  simp [Value.cells] at hm
  rw [hm]
end Go.Proofs.YtogfphojfkdcgaaDoor
