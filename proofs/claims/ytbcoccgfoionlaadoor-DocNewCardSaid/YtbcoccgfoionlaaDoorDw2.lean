/-
  Plain, for DocNew: in a tree as it was laid a parent stands ahead of its children; what lies below an element, one by one; how many are left; no name is empty.
-/
import Derived.Test.YtbcoccgfoionlaaDoorDw1
import Derived.Test.YtbcoccgfoionlaaDoorDm6
namespace Lead.Dc
mutual
theorem treeE_lo : ∀ (n : RT) (p : Int) (k : Nat), ∀ y ∈ treeE n p k, (y.1 = k ∧ y.2.parent = p) ∨ ((k : Int) ≤ y.2.parent ∧ y.2.parent < (y.1 : Int))
  | .mk nm ats ks, p, k, y, hy => by
    simp only [treeE, List.mem_cons] at hy
    rcases hy with rfl | hy
    · exact .inl ⟨rfl, rfl⟩
    · rcases treesE_lo ks k (k + 1) y hy with ⟨h1, h2⟩ | ⟨h1, h2⟩
      · right; rw [h1]; omega
      · right; omega
theorem treesE_lo : ∀ (ks : List RT) (p k : Nat), ∀ y ∈ treesE ks p k, (y.2.parent = (p : Int) ∧ k ≤ y.1) ∨ ((k : Int) ≤ y.2.parent ∧ y.2.parent < (y.1 : Int))
  | [], _, _, y, hy => by simp only [treesE] at hy; cases hy
  | x :: r, p, k, y, hy => by
    simp only [treesE, List.mem_append] at hy
    rcases hy with hy | hy
    · rcases treeE_lo x (p : Int) k y hy with ⟨h1, h2⟩ | ⟨h1, h2⟩
      · left; exact ⟨h2, by omega⟩
      · right; omega
    · rcases treesE_lo r p (k + x.cnt) y hy with ⟨h1, h2⟩ | ⟨h1, h2⟩
      · left; exact ⟨h1, by omega⟩
      · right; omega
end
theorem tree_keys (n : RT) : (treeE n (-1) 0).map (·.1) = List.range' 0 n.cnt := by
  obtain ⟨_, t⟩ := treeE_ok n (-1) 0 1
  exact t.keys
/-- The i-th element and the i-th flat have one parent, and it stands ahead of them. -/
theorem tree_at (n : RT) {i : Nat} (hi : i < n.cnt) : ∃ e, elAt (treeE n (-1) 0) i = some e ∧ ((allF n (-1) 1 0).map (·.parent))[i]? = some e.parent ∧ (i = 0 → e.parent = -1) ∧ (i ≠ 0 → 0 ≤ e.parent ∧ e.parent < (i : Int)) := by
  have hk := tree_keys n
  have hl : (treeE n (-1) 0).length = n.cnt := by
    have h := congrArg List.length hk
    simpa using h
  have hil : i < (treeE n (-1) 0).length := by omega
  have h1 : ((treeE n (-1) 0)[i]).1 = i := by
    have h : ((treeE n (-1) 0).map (·.1))[i]? = (List.range' 0 n.cnt)[i]? := by rw [hk]
    rw [List.getElem?_map, List.getElem?_eq_getElem hil, List.getElem?_range' (by omega)] at h
    simpa using h
  have hmem : (i, ((treeE n (-1) 0)[i]).2) ∈ treeE n (-1) 0 := by
    have h := List.getElem_mem hil
    have h2 : (treeE n (-1) 0)[i] = (i, ((treeE n (-1) 0)[i]).2) := Prod.ext h1 rfl
    rw [← h2]; exact h
  refine ⟨((treeE n (-1) 0)[i]).2, elAt_of_mem (by rw [hk]; exact List.nodup_range') hmem, ?_, ?_, ?_⟩
  · rw [allF_par, List.getElem?_map, List.getElem?_eq_getElem hil]; rfl
  · intro h0
    rcases treeE_lo n (-1) 0 _ hmem with ⟨_, h⟩ | ⟨h2, h3⟩
    · exact h
    · have h4 : (((treeE n (-1) 0)[i]).2).parent < (i : Int) := h3
      have h5 : (0 : Int) ≤ (((treeE n (-1) 0)[i]).2).parent := h2
      omega
  · intro h0
    rcases treeE_lo n (-1) 0 _ hmem with ⟨h, _⟩ | ⟨h2, h3⟩
    · exact absurd h h0
    · exact ⟨h2, h3⟩
variable {E : Els} {next : Nat} {d : Nat → Nat}
theorem Good.d1' (g : Good E next d) {x : Nat} {e : El} (h : elAt E x = some e) : 1 ≤ d x := by
  by_cases h0 : x = 0
  · subst h0; have := g.d0; omega
  · obtain ⟨p, pe, _, _, h, _⟩ := g.par h h0; omega
/-- An element lies below another one if it is that one, or its parent lies below it. -/
theorem Good.gone_iff (g : Good E next d) {k a : Nat} {e ae : El} (he : elAt E k = some e) (ha : elAt E a = some ae) : k ∈ below E 10 a ↔ k = a ∨ (0 ≤ e.parent ∧ e.parent.toNat ∈ below E 10 a) := by
  by_cases h0 : k = 0
  · subst h0
    obtain ⟨e0, h1, h2⟩ := g.root
    rw [he] at h1
    cases h1
    constructor
    · intro h
      by_cases hka : 0 = a
      · exact .inl hka
      · have h3 := (g.below_d 10 a 0 h).2 hka
        have h4 := g.d1' ha
        have h5 := g.d0
        omega
    · rintro (rfl | ⟨h3, _⟩)
      · exact self_below _ _
      · omega
  · obtain ⟨p, pe, h1, h2, h3⟩ := g.up k e he h0
    have hk : k ∈ kidsAt E p := by rw [kidsAt_some h2]; exact h3
    rw [h1, Int.toNat_natCast]
    constructor
    · intro h
      by_cases hka : k = a
      · exact .inl hka
      · exact .inr ⟨Int.natCast_nonneg p, g.below_par 10 a p k (by omega) h hka hk⟩
    · rintro (rfl | ⟨_, h4⟩)
      · exact self_below _ _
      · exact g.below_kid 10 a p k (by omega) h4 hk
/-- How many of the first k lie below an element. -/
def goneN (E : Els) (a k : Nat) : Nat := (List.range k).countP fun j => (below E 10 a).contains j
theorem goneN_succ (E : Els) (a k : Nat) : goneN E a (k + 1) = goneN E a k + if (below E 10 a).contains k = true then 1 else 0 := by
  unfold goneN
  rw [List.range_succ, List.countP_append, List.countP_singleton]
theorem goneN_le (E : Els) (a k : Nat) : goneN E a k ≤ k := by
  unfold goneN
  have h := List.countP_le_length (p := fun j => (below E 10 a).contains j) (l := List.range k)
  simpa using h
theorem removeE_cnt {N a : Nat} (p : Nat) (hk : E.map (·.1) = List.range' 0 N) : (removeE E a p).length + goneN E a N = N := by
  have h1 : (removeE E a p).length = (List.range N).countP fun j => !(below E 10 a).contains j := by
    unfold removeE
    rw [← List.countP_eq_length_filter]
    have h : List.countP ((fun j => !(below E 10 a).contains j) ∘ (·.1)) (upd E p fun e => { e with kids := offK e.kids a }) = (List.range N).countP fun j => !(below E 10 a).contains j := by
      rw [← List.countP_map, upd_keys, hk, List.range_eq_range']
    exact h
  have h2 := List.length_eq_countP_add_countP (fun j => (below E 10 a).contains j) (l := List.range N)
  rw [List.length_range] at h2
  rw [h1]
  unfold goneN
  have h3 : (List.range N).countP (fun j => !(below E 10 a).contains j) = (List.range N).countP (fun j => decide ¬(below E 10 a).contains j = true) := by
    refine List.countP_congr fun x _ => ?_
    simp
  rw [h3]; omega
theorem nodeE_nm {nm : ByteArray} {ats : List (ByteArray × ByteArray)} {i deep : Nat} (h : nodeE nm ats i deep = 0) : nmOk nm = true := by
  unfold nodeE at h
  split at h
  · exact absurd h (by decide)
  · split at h
    · exact absurd h (by decide)
    · split at h
      · exact absurd h (by decide)
      · next h3 => simpa using h3
mutual
theorem treeE_nm : ∀ (n : RT) (i deep : Nat) (p : Int) (k : Nat), (chkN n i deep).2 = 0 → ∀ y ∈ treeE n p k, nmOk y.2.name = true
  | .mk nm ats ks, i, deep, p, k, h, y, hy => by
    simp only [chkN] at h
    split at h
    · next hc => exact absurd h hc
    · next hc =>
      simp only [treeE, List.mem_cons] at hy
      rcases hy with rfl | hy
      · exact nodeE_nm (Decidable.not_not.1 hc)
      · exact treesE_nm ks (i + 1) (deep + 1) k (k + 1) h y hy
theorem treesE_nm : ∀ (ks : List RT) (i deep p k : Nat), (chkL ks i deep).2 = 0 → ∀ y ∈ treesE ks p k, nmOk y.2.name = true
  | [], _, _, _, _, _, y, hy => by simp only [treesE] at hy; cases hy
  | x :: r, i, deep, p, k, h, y, hy => by
    simp only [chkL] at h
    split at h
    · next hc => exact absurd h hc
    · next hc =>
      simp only [treesE, List.mem_append] at hy
      rcases hy with hy | hy
      · exact treeE_nm x i deep (p : Int) k (Decidable.not_not.1 hc) y hy
      · exact treesE_nm r (chkN x i deep).1 deep p (k + x.cnt) h y hy
end
theorem nmOk_ne {s : ByteArray} (h : nmOk s = true) : s.data.toList ≠ [] := by
  intro h0
  unfold nmOk at h
  rw [h0] at h
  cases h
end Lead.Dc
