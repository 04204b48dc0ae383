/-
  A node as an argument: how it reads.
-/
import Derived.Test.YtnpieocpniakpaaDoorLaD
import Derived.Test.YtnpieocpniakpaaDoorDn
import Derived.Test.YtnpieocpniakpaaDoorChecked
import Derived.OpenShut
import Derived.Deep.Slices
namespace Go.Proofs.YtnpieocpniakpaaDoor
open Go.ChangeShapes Go.WideShapes Go.ChangeAt Go.RowKit Lead Lead.Dc
set_option maxRecDepth 100000
theorem nodeTys : NodeTys Tryd.prog 25 23 22 54 9 :=
  ⟨⟨_, _, _, Tryd.underlying25, rfl, rfl, rfl, rfl, rfl, rfl⟩, ⟨_, _, Tryd.underlying54, rfl, rfl, rfl, rfl⟩, Tryd.underlying23, Tryd.underlying22, Tryd.underlying9, by kernel_rfl, by kernel_rfl, by kernel_rfl, by kernel_rfl, by kernel_rfl⟩
theorem open_nodearg {H : Type} {enc : TypeId × Value → H} {W : World} {base : Nat} {v : Value} {d : DataW H} {p : List MemPlace} (hv : Value.okWide Tryd.prog W .any base 25 v)
    (h : DataW.Trod enc Tryd.prog W 0 (fun _ => true) true 25 v d p) : ∃ n : NT, v = .agg n.vals.toArray ∧ NodeOk W n := by
  obtain ⟨cs, rfl, _⟩ := okWide_struct Tryd.underlying25 hv
  obtain ⟨fuel, hf⟩ := h
  obtain ⟨n, hq, hn⟩ := open_node nodeTys _ _ _ hf
  refine ⟨n, ?_, hn⟩
  congr 1
  cases cs
  simp [Value.cells] at hq
  rw [hq]
end Go.Proofs.YtnpieocpniakpaaDoor
