/-
  A node as an argument: how it reads.
-/
import Derived.Test.YteaipondofbecaaGreatDoorLz
import Derived.Test.YteaipondofbecaaGreatDoorDn
import Derived.Test.YteaipondofbecaaGreatDoorChecked
import Derived.OpenShut
import Derived.Deep.Slices
namespace Go.Proofs.YteaipondofbecaaGreatDoor
open Go.ChangeShapes Go.WideShapes Go.ChangeAt Go.RowKit Lead Lead.Dc
set_option maxRecDepth 100000
theorem nodeTys : NodeTys Tryz.prog 25 23 22 59 9 :=
  ⟨⟨_, _, _, Tryz.underlying25, rfl, rfl, rfl, rfl, rfl, rfl⟩, ⟨_, _, Tryz.underlying59, rfl, rfl, rfl, rfl⟩, Tryz.underlying23, Tryz.underlying22, Tryz.underlying9, by kernel_rfl, by kernel_rfl, by kernel_rfl, by kernel_rfl, by kernel_rfl⟩
theorem open_nodearg {H : Type} {enc : TypeId × Value → H} {W : World} {base : Nat} {v : Value} {d : DataW H} {p : List MemPlace} (hv : Value.okWide Tryz.prog W .any base 25 v)
    (h : DataW.Trod enc Tryz.prog W 0 (fun _ => true) true 25 v d p) : ∃ n : NT, v = .agg n.vals.toArray ∧ NodeOk W n := by
  obtain ⟨cs, rfl, _⟩ := okWide_struct Tryz.underlying25 hv
  obtain ⟨fuel, hf⟩ := h
  obtain ⟨n, hq, hn⟩ := open_node nodeTys _ _ _ hf
  refine ⟨n, ?_, hn⟩
  congr 1
  cases cs
  simp [Value.cells] at hq
  rw [hq]
end Go.Proofs.YteaipondofbecaaGreatDoor
