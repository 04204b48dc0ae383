/-
  How a fraction reads, as an argument.
-/
import Derived.Test.YthijgncjaophjaaDoorOpen
import Derived.Test.YthijgncjaophjaaDoorPl8
namespace Go.Proofs.YthijgncjaophjaaDoor
open Go.ChangeShapes Go.WideShapes Go.ChangeAt Go.RowKit Lead
set_option maxRecDepth 100000
theorem open_frac_arg {H : Type} {enc : TypeId × Value → H} {W : World} {base : Nat} {v : Value} {d : DataW H} {p : List MemPlace} (hv : Value.okWide Tryd.prog W .any base 90 v)
    (h : DataW.Trod enc Tryd.prog W 0 (fun _ => true) true 90 v d p) : ∃ q : Fr, v = .agg #[.int .i64 q.n, .int .i64 q.d] ∧ q.I := by
  obtain ⟨cs, rfl, _⟩ := okWide_struct Tryd.underlying90 hv
  obtain ⟨fuel, hf⟩ := h
  obtain ⟨n, d, hq, hn, hd⟩ := open_frac hf
  refine ⟨⟨n, d⟩, ?_, hn, hd⟩
  congr 1
  cases cs
  simp [Value.cells] at hq
  rw [hq]
end Go.Proofs.YthijgncjaophjaaDoor
