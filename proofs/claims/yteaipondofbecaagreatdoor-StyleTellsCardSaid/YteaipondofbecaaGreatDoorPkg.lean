/-
  Plain: what a selector weighs; how many steps it has, and wants; a document's attributes are small.
-/
import Derived.Test.YteaipondofbecaaGreatDoorPke
import Derived.Test.YteaipondofbecaaGreatDoorDp
namespace Lead.Dc
open Go Go.RowKit Lead
theorem atC_vl : ∀ (r l : List (ByteArray × ByteArray)), atC l r = 0 → ∀ a ∈ r, a.2.size ≤ 200
  | [], _, _, a, ha => by cases ha
  | x :: r, l, h, a, ha => by
    rw [atC] at h
    split at h
    · exact absurd h (by decide)
    · split at h
      · exact absurd h (by decide)
      · split at h
        · exact absurd h (by decide)
        · next hv =>
          rcases List.mem_cons.1 ha with rfl | ha
          · have hv' : vlOk a.2 = true := by simpa using hv
            unfold vlOk at hv'
            rw [Bool.and_eq_true] at hv'
            exact of_decide_eq_true hv'.1
          · exact atC_vl r _ h a ha
theorem nodeE_vl {nm : ByteArray} {ats : List (ByteArray × ByteArray)} {i deep : Nat} (h : nodeE nm ats i deep = 0) : ∀ a ∈ ats, a.2.size ≤ 200 := by
  unfold nodeE at h
  split at h
  · exact absurd h (by decide)
  · split at h
    · exact absurd h (by decide)
    · split at h
      · exact absurd h (by decide)
      · unfold atE at h
        split at h
        · exact absurd h (by decide)
        · exact atC_vl ats [] h
mutual
theorem treeE_vl : ∀ (n : RT) (i deep : Nat) (p : Int) (k : Nat), (chkN n i deep).2 = 0 → ∀ y ∈ treeE n p k, ∀ a ∈ y.2.attrs, a.2.size ≤ 200
  | .mk nm ats ks, i, deep, p, k, h, y, hy => by
    simp only [chkN] at h
    split at h
    · next hc => exact absurd h hc
    · next hc =>
      simp only [treeE, List.mem_cons] at hy
      rcases hy with rfl | hy
      · exact nodeE_vl (Decidable.not_not.1 hc)
      · exact treesE_vl ks (i + 1) (deep + 1) k (k + 1) h y hy
theorem treesE_vl : ∀ (ks : List RT) (i deep p k : Nat), (chkL ks i deep).2 = 0 → ∀ y ∈ treesE ks p k, ∀ a ∈ y.2.attrs, a.2.size ≤ 200
  | [], _, _, _, _, _, y, hy => by simp only [treesE] at hy; cases hy
  | x :: r, i, deep, p, k, h, y, hy => by
    simp only [chkL] at h
    split at h
    · next hc => exact absurd h hc
    · next hc =>
      simp only [treesE, List.mem_append] at hy
      rcases hy with hy | hy
      · exact treeE_vl x i deep (p : Int) k (Decidable.not_not.1 hc) y hy
      · exact treesE_vl r (chkN x i deep).1 deep p (k + x.cnt) h y hy
end
end Lead.Dc
namespace Lead.Pk
open Go Go.RowKit Lead Lead.Dc
theorem cutL_pos (y : UInt8) (l : By) : 1 ≤ (cutL y l).length := by unfold cutL; rw [List.length_append, List.length_cons]; omega
theorem stepP_le {s : By} {x : By × List Wn} (h : stepP s = some x) : x.2.length ≤ 8 := by
  unfold stepP at h
  split at h
  · cases h
  · split at h
    · cases h
    · split at h
      · next h8 => cases h; exact h8
      · cases h
theorem rdT_inv {l : List By} : ∀ (i : Nat) {st : Bool × List St}, rdT l i = some st → (∀ x ∈ st.2, x.ws.length ≤ 8) ∧ (0 < i → st.2 ≠ [])
  | 0, st, h => by rw [rdT] at h; cases h; exact ⟨(fun x hx => by cases hx), fun h => absurd h (by omega)⟩
  | i + 1, st, h => by
    rw [rdT] at h
    cases hi : rdT l i with
    | none => rw [hi] at h; cases h
    | some s0 =>
      have ⟨h1, h2⟩ := rdT_inv i hi
      rw [hi] at h
      dsimp only at h
      unfold rdStep at h
      split at h
      · next hc => cases h; exact ⟨h1, fun _ => h2 hc.2.1⟩
      · split at h
        · cases h
        · next x hx =>
          cases h
          refine ⟨fun y hy => ?_, fun _ => by simp⟩
          rcases List.mem_append.1 hy with hy | hy
          · exact h1 y hy
          · rw [List.mem_singleton.1 hy]; exact stepP_le hx
theorem readP_inv {s : By} {l : List St} (h : readP s = some l) : l ≠ [] ∧ l.length ≤ 5 ∧ ∀ x ∈ l, x.ws.length ≤ 8 := by
  unfold readP at h
  split at h
  · cases h
  · next st hst =>
    have ⟨h1, h2⟩ := rdT_inv _ hst
    split at h
    · cases h
    · next hc => cases h; exact ⟨h2 (cutL_pos 32 s), by omega, h1⟩
theorem wtW_le (x : Wn) : 10 ≤ wtW x ∧ wtW x ≤ 100 := by unfold wtW; split <;> omega
theorem wtWs_le (l : List Wn) : (l.map wtW).sum ≤ 100 * l.length := by
  induction l with
  | nil => exact Nat.le_refl _
  | cons x r ih => rw [List.map_cons, List.sum_cons, List.length_cons]; have := wtW_le x; omega
theorem wtN_le (nm : By) : wtN nm ≤ 1 := by unfold wtN; split <;> omega
theorem wtL_le (l : List St) (h : ∀ x ∈ l, x.ws.length ≤ 8) : wtL l ≤ 801 * l.length := by
  induction l with
  | nil => exact Nat.le_refl _
  | cons x r ih =>
    have h1 := ih (fun y hy => h y (List.mem_cons_of_mem _ hy))
    have h2 := h x List.mem_cons_self
    have h3 := wtWs_le x.ws
    have h4 := wtN_le x.nm
    unfold wtL at h1 ⊢
    rw [List.map_cons, List.sum_cons, List.length_cons]
    have e : wtS x = wtN x.nm + (x.ws.map wtW).sum := rfl
    omega
theorem readP_wt {s : By} {l : List St} (h : readP s = some l) : wtL l ≤ 100000 := by
  have ⟨_, h2, h3⟩ := readP_inv h
  have := wtL_le l h3
  omega
end Lead.Pk
