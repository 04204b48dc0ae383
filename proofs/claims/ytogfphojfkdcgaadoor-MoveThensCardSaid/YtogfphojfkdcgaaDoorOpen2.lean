/-
  How a fraction reads, as an argument.
-/
import Derived.Test.YtogfphojfkdcgaaDoorOpen
import Derived.Test.YtogfphojfkdcgaaDoorPa
namespace Go.Proofs.YtogfphojfkdcgaaDoor
open Go.ChangeShapes Go.WideShapes Go.ChangeAt Go.RowKit Lead
set_option maxRecDepth 100000
theorem open_frac_arg {H : Type} {enc : TypeId × Value → H} {W : World} {base : Nat} {v : Value} {d : DataW H} {p : List MemPlace} (hv : Value.okWide Tryd.prog W .any base 24 v)
    (h : DataW.Trod enc Tryd.prog W 0 (fun _ => true) true 24 v d p) : ∃ q : Fr, v = .agg #[.int .i64 q.n, .int .i64 q.d] ∧ q.I := by
  obtain ⟨cs, rfl, _⟩ := okWide_struct Tryd.underlying24 hv
  obtain ⟨fuel, hf⟩ := h
  obtain ⟨n, d, hq, hn, hd⟩ := open_frac hf
  refine ⟨⟨n, d⟩, ?_, hn, hd⟩
  congr 1
  cases cs
  simp [Value.cells] at hq
  rw [hq]
end Go.Proofs.YtogfphojfkdcgaaDoor
