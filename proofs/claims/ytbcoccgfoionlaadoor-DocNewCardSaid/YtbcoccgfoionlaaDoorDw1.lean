/-
  Plain, for DocNew: the flats' parents are the elements' parents, one by one.
-/
import Derived.Test.YtbcoccgfoionlaaDoorDm5
namespace Lead.Dc
mutual
theorem allF_par : ∀ (n : RT) (p : Int) (deep k : Nat), (allF n p deep k).map (·.parent) = (treeE n p k).map (·.2.parent)
  | .mk nm ats ks, p, deep, k => by
    simp only [allF, treeE, List.map_cons]
    rw [allFs_par ks k (deep + 1) (k + 1)]
theorem allFs_par : ∀ (ks : List RT) (p deep k : Nat), (allFs ks p deep k).map (·.parent) = (treesE ks p k).map (·.2.parent)
  | [], _, _, _ => rfl
  | x :: r, p, deep, k => by
    simp only [allFs, treesE, List.map_append]
    rw [allF_par x (p : Int) deep k, allFs_par r p deep (k + x.cnt)]
end
end Lead.Dc
