/-
  A node that came in, as a plain tree.
-/
import Derived.Test.YtbcoccgfoionlaaDoorNd1
import Derived.Test.YtbcoccgfoionlaaDoorDm5
namespace Lead.Dc
open Go Go.RowKit Lead
mutual
def NT.rt : NT → RT
  | .mk n _ _ _ ats _ _ _ ks => .mk n ats (NT.rtL ks)
def NT.rtL : List NT → List RT
  | [] => []
  | x :: r => x.rt :: NT.rtL r
end
theorem rtL_map (l : List NT) : NT.rtL l = l.map NT.rt := by
  induction l with
  | nil => rfl
  | cons x r ih => rw [NT.rtL, ih]; rfl
theorem rtL_take (l : List NT) (i : Nat) : NT.rtL (l.take i) = (NT.rtL l).take i := by rw [rtL_map, rtL_map, List.map_take]
theorem rt_eq (n : NT) : n.rt = .mk n.name n.attrs (NT.rtL n.kids) := by cases n; rfl
/-- A child is less than its node. -/
theorem kid_less {n k : NT} (h : k ∈ n.kids) : sizeOf k < sizeOf n := by
  cases n with
  | mk nm ao al ac ats ko kl kc ks =>
    have := List.sizeOf_lt_of_mem (show k ∈ ks from h)
    simp only [NT.mk.sizeOf_spec]
    omega
theorem NodeOk.attrsAt {w : World} {n : NT} (h : NodeOk w n) : ∃ ao al ac ko kl kc, n.vals = [.string n.name, .slice ao al ac, .slice ko kl kc] ∧ SlA EAt w ao al ac n.attrs ∧ SlA ENd w ko kl kc n.kids ∧ ∀ k ∈ n.kids, NodeOk w k := by
  cases h with
  | mk h1 h2 h3 => exact ⟨_, _, _, _, _, _, rfl, h1, h2, h3⟩
/-- How deep the children lie, one by one. -/
theorem cntL_app (a b : List RT) : RT.cntL (a ++ b) = RT.cntL a + RT.cntL b := by
  induction a with
  | nil => simp [RT.cntL]
  | cons x r ih => rw [List.cons_append, RT.cntL, RT.cntL, ih]; omega
/-- The check, child by child: where it stands behind the first ones. -/
theorem chkL_app : ∀ (a b : List RT) (i deep : Nat), chkL (a ++ b) i deep = if (chkL a i deep).2 ≠ 0 then chkL a i deep else chkL b (chkL a i deep).1 deep
  | [], b, i, deep => by simp [chkL]
  | x :: r, b, i, deep => by
    rw [List.cons_append, chkL, chkL, chkL_app r]
    by_cases h : (chkN x i deep).2 ≠ 0
    · rw [if_pos h, if_pos h, if_pos h]
    · rw [if_neg h, if_neg h]
theorem chkL_one (x : RT) (i deep : Nat) : chkL [x] i deep = chkN x i deep := by
  rw [chkL]
  split
  · rfl
  · next h => rw [chkL]; exact Prod.ext rfl (Decidable.not_not.1 h).symm
theorem chkL_next {a : List RT} {x : RT} {i deep : Nat} (h : (chkL a i deep).2 = 0) : chkL (a ++ [x]) i deep = chkN x (chkL a i deep).1 deep := by
  rw [chkL_app, if_neg (Decidable.not_not.2 h), chkL_one]
/-- The check stops at the first error. -/
theorem chkL_stop {a b : List RT} {i deep : Nat} (h : (chkL a i deep).2 ≠ 0) : chkL (a ++ b) i deep = chkL a i deep := by rw [chkL_app, if_pos h]
theorem flL_app : ∀ (a b : List RT) (k deep : Nat) (out : List FlatV), out.length ≤ 150 → flL (a ++ b) k deep out = if 150 < (flL a k deep out).length then flL a k deep out else flL b k deep (flL a k deep out)
  | [], b, k, deep, out, h => by rw [List.nil_append, if_neg (by rw [flL]; omega), flL]
  | x :: r, b, k, deep, out, h => by
    rw [List.cons_append, flL, flL]
    by_cases hc : 150 < (flN x (k : Int) deep out).length
    · rw [if_pos hc, if_pos hc, if_pos hc]
    · rw [if_neg hc, if_neg hc]; exact flL_app r b k deep _ (by omega)
end Lead.Dc
