/-
  Plain: what DocOf makes of a node's flats are the elements of the node's tree.
-/
import Derived.Test.YteaipondofbecaaGreatDoorRc3
import Derived.Test.YteaipondofbecaaGreatDoorDp
namespace Lead.Rc
open Lead Lead.Dc
/-- A flat and an element: name, attributes, parent. -/
def k3 (f : FlatV) : ByteArray × List At × Int := (f.name, f.attrs, f.parent)
def k3e (y : Nat × El) : ByteArray × List At × Int := (y.2.name, y.2.attrs, y.2.parent)
mutual
theorem allF_k3 : ∀ (n : RT) (p : Int) (deep k : Nat), (allF n p deep k).map k3 = (treeE n p k).map k3e
  | .mk nm ats ks, p, deep, k => by
    simp only [allF, treeE, List.map_cons]
    rw [allFs_k3 ks k (deep + 1) (k + 1)]; rfl
theorem allFs_k3 : ∀ (ks : List RT) (p deep k : Nat), (allFs ks p deep k).map k3 = (treesE ks p k).map k3e
  | [], _, _, _ => rfl
  | x :: r, p, deep, k => by
    simp only [allFs, treesE, List.map_append]
    rw [allF_k3 x (p : Int) deep k, allFs_k3 r p deep (k + x.cnt)]
end
theorem cnt_pos : ∀ n : RT, 1 ≤ n.cnt
  | .mk _ _ _ => by rw [RT.cnt]; omega
theorem ids_lo : ∀ (ks : List RT) (k : Nat), ∀ x ∈ idsL ks k, k ≤ x
  | [], _, x, h => by cases h
  | y :: r, k, x, h => by
    rw [idsL, List.mem_cons] at h
    rcases h with rfl | h
    · exact Nat.le_refl _
    · have := ids_lo r _ x h; omega
theorem ids_asc : ∀ (ks : List RT) (k : Nat), (idsL ks k).Pairwise (· < ·)
  | [], _ => List.Pairwise.nil
  | y :: r, k => by
    rw [idsL]
    refine List.Pairwise.cons (fun x hx => ?_) (ids_asc r _)
    have h1 := ids_lo r _ x hx
    have h2 := cnt_pos y
    omega
mutual
/-- A node's children ascend, and stand behind it. -/
theorem tree_asc : ∀ (n : RT) (p : Int) (k : Nat), ∀ y ∈ treeE n p k, y.2.kids.Pairwise (· < ·) ∧ ∀ x ∈ y.2.kids, y.1 < x
  | .mk nm ats ks, p, k, y, h => by
    simp only [treeE, List.mem_cons] at h
    rcases h with rfl | h
    · exact ⟨ids_asc ks _, fun x hx => by have := ids_lo ks _ x hx; show k < x; omega⟩
    · exact trees_asc ks k (k + 1) y h
theorem trees_asc : ∀ (ks : List RT) (p k : Nat), ∀ y ∈ treesE ks p k, y.2.kids.Pairwise (· < ·) ∧ ∀ x ∈ y.2.kids, y.1 < x
  | [], _, _, y, h => by simp only [treesE] at h; cases h
  | x :: r, p, k, y, h => by
    simp only [treesE, List.mem_append] at h
    rcases h with h | h
    · exact tree_asc x (p : Int) k y h
    · exact trees_asc r p (k + x.cnt) y h
end
theorem filter_asc {l : List Nat} (h : l.Pairwise (· < ·)) (m : Nat) : l.filter (fun x => decide (x < m + 1)) = l.filter (fun x => decide (x < m)) ++ (if m ∈ l then [m] else []) := by
  induction l with
  | nil => simp
  | cons a r ih =>
    have ih := ih h.of_cons
    have h1 : ∀ x ∈ r, a < x := fun x hx => List.rel_of_pairwise_cons h hx
    rcases Nat.lt_trichotomy a m with ha | ha | ha
    · rw [List.filter_cons_of_pos (by simp; omega), List.filter_cons_of_pos (by simp; omega), ih, List.cons_append]
      congr 2
      have : m ∈ a :: r ↔ m ∈ r := by rw [List.mem_cons]; exact ⟨fun h => h.resolve_left (by omega), .inr⟩
      simp only [this]
    · subst ha
      have hr : r.filter (fun x => decide (x < a + 1)) = [] := List.filter_eq_nil_iff.2 fun x hx => by have := h1 x hx; simp; omega
      have hr2 : r.filter (fun x => decide (x < a)) = [] := List.filter_eq_nil_iff.2 fun x hx => by have := h1 x hx; simp; omega
      rw [List.filter_cons_of_pos (by simp), List.filter_cons_of_neg (by simp), hr, hr2, if_pos List.mem_cons_self]; rfl
    · have hr : r.filter (fun x => decide (x < m + 1)) = [] := List.filter_eq_nil_iff.2 fun x hx => by have := h1 x hx; simp; omega
      have hr2 : r.filter (fun x => decide (x < m)) = [] := List.filter_eq_nil_iff.2 fun x hx => by have := h1 x hx; simp; omega
      rw [List.filter_cons_of_neg (by simp; omega), List.filter_cons_of_neg (by simp; omega), hr, hr2, if_neg]
      · rfl
      · intro hm
        rcases List.mem_cons.1 hm with hm | hm
        · omega
        · have := h1 _ hm; omega
/-- An element, its children below a number. -/
def cutE (m : Nat) (y : Nat × El) : RE := ⟨y.2.name, y.2.attrs, y.2.parent, y.2.kids.filter (fun x => decide (x < m)), true⟩
def fullE (y : Nat × El) : RE := ⟨y.2.name, y.2.attrs, y.2.parent, y.2.kids, true⟩
theorem tree_len (n : RT) : (treeE n (-1) 0).length = n.cnt := by
  have h := congrArg List.length (tree_keys n)
  simpa using h
theorem tree_key (n : RT) {i : Nat} (hi : i < (treeE n (-1) 0).length) : ((treeE n (-1) 0)[i]).1 = i := by
  have h : ((treeE n (-1) 0).map (·.1))[i]? = (List.range' 0 n.cnt)[i]? := by rw [tree_keys]
  rw [List.getElem?_map, List.getElem?_eq_getElem hi, List.getElem?_range' (by rw [tree_len] at hi; exact hi)] at h
  simpa using h
theorem tree_elAt (n : RT) {i : Nat} (hi : i < (treeE n (-1) 0).length) : elAt (treeE n (-1) 0) i = some ((treeE n (-1) 0)[i]).2 := by
  have hmem : (i, ((treeE n (-1) 0)[i]).2) ∈ treeE n (-1) 0 := by
    have h2 : (treeE n (-1) 0)[i] = (i, ((treeE n (-1) 0)[i]).2) := Prod.ext (tree_key n hi) rfl
    rw [← h2]; exact List.getElem_mem hi
  exact elAt_of_mem (by rw [tree_keys]; exact List.nodup_range') hmem
theorem docR_take_tree (n : RT) : ∀ m, m ≤ n.cnt → docR ((allF n (-1) 1 0).take m) = ((treeE n (-1) 0).take m).map (cutE m)
  | 0, _ => rfl
  | m + 1, hm => by
    have ih := docR_take_tree n m (by omega)
    obtain ⟨dep, t⟩ := treeE_ok n (-1) 0 1
    have hl := tree_len n
    have hfl : (allF n (-1) 1 0).length = n.cnt := allF_len n (-1) 1 0
    have hk3 := allF_k3 n (-1) 1 0
    have hmT : m < (treeE n (-1) 0).length := by omega
    have hmF : m < (allF n (-1) 1 0).length := by omega
    have hk : k3 (allF n (-1) 1 0)[m] = k3e (treeE n (-1) 0)[m] := by
      have h : ((allF n (-1) 1 0).map k3)[m]? = ((treeE n (-1) 0).map k3e)[m]? := by rw [hk3]
      rw [List.getElem?_map, List.getElem?_map, List.getElem?_eq_getElem hmF, List.getElem?_eq_getElem hmT] at h
      simpa using h
    have hasc := tree_asc n (-1) 0
    have hkey := fun (i : Nat) (hi : i < (treeE n (-1) 0).length) => tree_key n hi
    have hat := fun (i : Nat) (hi : i < (treeE n (-1) 0).length) => tree_elAt n hi
    rw [docR_take hmF, ih]
    generalize hfm : (allF n (-1) 1 0)[m] = f at hk
    generalize treeE n (-1) 0 = T at hl hmT hk hasc hkey hat t ⊢
    simp only [k3, k3e, Prod.mk.injEq] at hk
    obtain ⟨e1, e2, e3⟩ := hk
    -- who has m for a child
    have hpar : ∀ j (hj : j < T.length), m ∈ (T[j]).2.kids ↔ f.parent = (j : Int) := fun j hj => by
      constructor
      · intro hm'
        obtain ⟨e, he, hp⟩ := t.down j _ m (hat j hj) hm'
        rw [hat m hmT] at he
        injection he with he
        rw [e3, he, hp]
      · intro hp
        rcases t.up m _ (hat m hmT) with h | ⟨q, qe, h1, h2, h3⟩
        · obtain ⟨e, he, hp'⟩ := t.roots m h
          rw [hat m hmT] at he
          injection he with he
          rw [← he, ← e3, hp] at hp'
          omega
        · rw [← e3, hp] at h1
          obtain rfl : j = q := by omega
          rw [hat j hj] at h2
          injection h2 with h2
          rw [h2]; exact h3
    have hcut : ∀ j (hj : j < T.length), cutE (m + 1) T[j] = { cutE m T[j] with kids := (cutE m T[j]).kids ++ (if f.parent = (j : Int) then [m] else []) } := fun j hj => by
      unfold cutE
      rw [filter_asc (hasc _ (List.getElem_mem hj)).1 m]
      simp only [hpar j hj]
    have hnew : cutE m T[m] = ⟨f.name, f.attrs, f.parent, [], true⟩ := by
      unfold cutE
      rw [List.filter_eq_nil_iff.2 (fun x hx => by
        have := (hasc _ (List.getElem_mem hmT)).2 x hx
        rw [hkey m hmT] at this
        simp; omega), e1, e2, e3]
    have hL : (T.take (m + 1)).map (cutE m) = (T.take m).map (cutE m) ++ [⟨f.name, f.attrs, f.parent, [], true⟩] := by
      rw [List.take_succ_eq_append_getElem hmT, List.map_append, List.map_cons, List.map_nil, hnew]
    unfold addR
    rw [← hL]
    have hlen : ((T.take m).map (cutE m)).length = m := by rw [List.length_map, List.length_take]; omega
    rw [hlen]
    by_cases hp : 0 ≤ f.parent
    · rw [if_pos hp]
      refine List.ext_getElem (by simp) fun j h1 h2 => ?_
      have hjT : j < T.length := by
        rw [List.length_map, List.length_take] at h2; omega
      rw [List.getElem_modify, List.getElem_map, List.getElem_take, List.getElem_map, List.getElem_take, hcut j hjT]
      by_cases hj : f.parent.toNat = j
      · rw [if_pos hj, if_pos (by omega)]
      · rw [if_neg hj, if_neg (by omega), List.append_nil]
    · rw [if_neg hp]
      refine List.ext_getElem (by simp) fun j h1 h2 => ?_
      have hjT : j < T.length := by
        rw [List.length_map, List.length_take] at h2; omega
      rw [List.getElem_map, List.getElem_take, List.getElem_map, List.getElem_take, hcut j hjT, if_neg (by omega), List.append_nil]
/-- The reference's document of a node is the node's tree. -/
theorem docR_tree (n : RT) : docR (allF n (-1) 1 0) = (treeE n (-1) 0).map fullE := by
  have h := docR_take_tree n n.cnt (Nat.le_refl _)
  rw [List.take_of_length_le (by rw [allF_len]; exact Nat.le_refl _), List.take_of_length_le (by rw [tree_len]; exact Nat.le_refl _)] at h
  rw [h]
  refine List.map_congr_left fun y hy => ?_
  obtain ⟨dep, t⟩ := treeE_ok n (-1) 0 1
  unfold cutE fullE
  rw [List.filter_eq_self.2]
  intro x hx
  have hkn : elAt (treeE n (-1) 0) y.1 = some y.2 := elAt_of_mem (by rw [tree_keys]; exact List.nodup_range') hy
  obtain ⟨e, he, _⟩ := t.down y.1 y.2 x hkn hx
  have := (t.rng he).2
  simp; omega
end Lead.Rc
