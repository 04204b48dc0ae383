/-
  Plain: the reference's document of a whole node (for the laws that read one).
-/
import Derived.Test.YteaipondofbecaaGreatDoorRpc
import Derived.Test.YteaipondofbecaaGreatDoorDp
import Derived.Test.YteaipondofbecaaGreatDoorRp1
namespace Lead.Rc
open Go Go.RowKit Lead Lead.Dc Lead.Pk
/-- What a tree's elements are in the reference's document. -/
theorem rx_of {n : RT} {l : List ReX} (h : l.map ReX.re = docR (allF n (-1) 1 0)) {i : Nat} (hi : i < l.length) : ∃ e, elAt (treeE n (-1) 0) i = some e ∧ l[i].nm = e.name ∧ l[i].ats = e.attrs ∧ l[i].par = e.parent ∧ l[i].kids = e.kids ∧ l[i].inn = true := by
  rw [docR_tree] at h
  have hl := congrArg List.length h
  rw [List.length_map, List.length_map] at hl
  have hi' : i < (treeE n (-1) 0).length := by omega
  refine ⟨_, tree_elAt n hi', ?_⟩
  have h1 : (l.map ReX.re)[i]? = ((treeE n (-1) 0).map fullE)[i]? := by rw [h]
  rw [List.getElem?_map, List.getElem?_map, List.getElem?_eq_getElem hi, List.getElem?_eq_getElem hi'] at h1
  injection h1 with h1
  unfold ReX.re fullE at h1
  injection h1 with a b c d e
  exact ⟨a, b, c, d, e⟩
theorem rx_len {n : RT} {l : List ReX} (h : l.map ReX.re = docR (allF n (-1) 1 0)) : l.length = n.cnt := by
  rw [docR_tree] at h
  have hl := congrArg List.length h
  rw [List.length_map, List.length_map, tree_len] at hl
  exact hl
theorem tree_lt {n : RT} {p : Nat} {e : El} (h : elAt (treeE n (-1) 0) p = some e) : p < n.cnt := by
  have hm := elAt_mem h
  have hk := tree_keys n
  have : p ∈ (treeE n (-1) 0).map (·.1) := List.mem_map.2 ⟨_, hm, rfl⟩
  rw [hk, List.mem_range'] at this
  obtain ⟨i, hi, h⟩ := this
  omega
theorem fitK_all {E : Els} {ss : List St} (h : ss ≠ []) (n : Nat) : fitK E ss ss.length n = fitsL E ss n := by
  cases hl : ss.length with
  | zero => exact absurd (List.length_eq_zero_iff.1 hl) h
  | succ k =>
    show fitsR E (ss.take (k + 1)).reverse n = _
    rw [← hl, List.take_length]; rfl
theorem fl_par {n : RT} {xs : List FlX} (h : xs.map fv = allF n (-1) 1 0) {i : Nat} (hi : i < xs.length) : (xs[i]).par < (i : Int) := by
  have hl := congrArg List.length h
  rw [List.length_map, allF_len] at hl
  obtain ⟨e, h1, h2, h3, h4⟩ := tree_at n (i := i) (by omega)
  rw [← h, List.getElem?_map, List.getElem?_map, List.getElem?_eq_getElem hi] at h2
  injection h2 with h2
  have h2' : (xs[i]).par = e.parent := h2
  rw [h2']
  by_cases h0 : i = 0
  · rw [h3 h0]; omega
  · exact (h4 h0).2
theorem nodeE_al {nm : ByteArray} {ats : List At} {i deep : Nat} (h : nodeE nm ats i deep = 0) : ats.length ≤ 12 := by
  unfold nodeE at h
  split at h
  · exact absurd h (by decide)
  · split at h
    · exact absurd h (by decide)
    · split at h
      · exact absurd h (by decide)
      · unfold atE at h
        split at h
        · exact absurd h (by decide)
        · omega
mutual
theorem treeE_al : ∀ (n : RT) (i deep : Nat) (p : Int) (k : Nat), (chkN n i deep).2 = 0 → ∀ y ∈ treeE n p k, y.2.attrs.length ≤ 12
  | .mk nm ats ks, i, deep, p, k, h, y, hy => by
    simp only [chkN] at h
    split at h
    · next hc => exact absurd h hc
    · next hc =>
      simp only [treeE, List.mem_cons] at hy
      rcases hy with rfl | hy
      · exact nodeE_al (Decidable.not_not.1 hc)
      · exact treesE_al ks (i + 1) (deep + 1) k (k + 1) h y hy
theorem treesE_al : ∀ (ks : List RT) (i deep p k : Nat), (chkL ks i deep).2 = 0 → ∀ y ∈ treesE ks p k, y.2.attrs.length ≤ 12
  | [], _, _, _, _, _, y, hy => by simp only [treesE] at hy; cases hy
  | x :: r, i, deep, p, k, h, y, hy => by
    simp only [chkL] at h
    split at h
    · next hc => exact absurd h hc
    · next hc =>
      simp only [treesE, List.mem_append] at hy
      rcases hy with hy | hy
      · exact treeE_al x i deep (p : Int) k (Decidable.not_not.1 hc) y hy
      · exact treesE_al r (chkN x i deep).1 deep p (k + x.cnt) h y hy
end
theorem fl_ats {n : RT} {xs : List FlX} (h : xs.map fv = allF n (-1) 1 0) (hc : (chkN n 0 1).2 = 0) {x : FlX} (hx : x ∈ xs) : x.ats.length ≤ 1000 := by
  have h1 : k3 (fv x) ∈ (allF n (-1) 1 0).map k3 := by rw [← h]; exact List.mem_map.2 ⟨_, List.mem_map.2 ⟨x, hx, rfl⟩, rfl⟩
  rw [allF_k3] at h1
  obtain ⟨y, hy, he⟩ := List.mem_map.1 h1
  have h2 := treeE_al n 0 1 (-1) 0 hc y hy
  have h3 : y.2.attrs = x.ats := congrArg (fun z => z.2.1) he
  rw [← h3]; omega
end Lead.Rc
