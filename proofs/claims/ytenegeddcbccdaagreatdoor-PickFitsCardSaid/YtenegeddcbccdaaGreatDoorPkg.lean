/-
  Plain: what a selector weighs; how many steps it has, and wants; a document's attributes are small.
-/
import Derived.Test.YtenegeddcbccdaaGreatDoorPke
import Derived.Test.YtenegeddcbccdaaGreatDoorDp
namespace Lead.Dc
open Go Go.RowKit Lead
theorem atC_vl : ∀ (r l : List (ByteArray × ByteArray)), atC l r = 0 → ∀ a ∈ r, a.2.size ≤ 200
  | [], _, _, a, ha => by cases ha
  | x :: r, l, h, a, ha => by
    rw [atC] at h
    split at h
    · exact absurd h (by decide)
    · split at h
      · exact absurd h (by decide)
      · split at h
        · exact absurd h (by decide)
        · next hv =>
          rcases List.mem_cons.1 ha with rfl | ha
          · have hv' : vlOk a.2 = true := by simpa using hv
            unfold vlOk at hv'
            rw [Bool.and_eq_true] at hv'
            exact of_decide_eq_true hv'.1
          · exact atC_vl r _ h a ha
theorem nodeE_vl {nm : ByteArray} {ats : List (ByteArray × ByteArray)} {i deep : Nat} (h : nodeE nm ats i deep = 0) : ∀ a ∈ ats, a.2.size ≤ 200 := by
  unfold nodeE at h
  split at h
  · exact absurd h (by decide)
  · split at h
    · exact absurd h (by decide)
    · split at h
      · exact absurd h (by decide)
      · unfold atE at h
        split at h
        · exact absurd h (by decide)
        · exact atC_vl ats [] h
mutual
theorem treeE_vl : ∀ (n : RT) (i deep : Nat) (p : Int) (k : Nat), (chkN n i deep).2 = 0 → ∀ y ∈ treeE n p k, ∀ a ∈ y.2.attrs, a.2.size ≤ 200
  | .mk nm ats ks, i, deep, p, k, h, y, hy => by
    simp only [chkN] at h
    split at h
    · next hc => exact absurd h hc
    · next hc =>
      simp only [treeE, List.mem_cons] at hy
      rcases hy with rfl | hy
      · exact nodeE_vl (Decidable.not_not.1 hc)
      · exact treesE_vl ks (i + 1) (deep + 1) k (k + 1) h y hy
theorem treesE_vl : ∀ (ks : List RT) (i deep p k : Nat), (chkL ks i deep).2 = 0 → ∀ y ∈ treesE ks p k, ∀ a ∈ y.2.attrs, a.2.size ≤ 200
  | [], _, _, _, _, _, y, hy => by simp only [treesE] at hy; cases hy
  | x :: r, i, deep, p, k, h, y, hy => by
    simp only [chkL] at h
    split at h
    · next hc => exact absurd h hc
    · next hc =>
      simp only [treesE, List.mem_append] at hy
      rcases hy with hy | hy
      · exact treeE_vl x i deep (p : Int) k (Decidable.not_not.1 hc) y hy
      · exact treesE_vl r (chkN x i deep).1 deep p (k + x.cnt) h y hy
end
end Lead.Dc
namespace Lead.Pk
open Go Go.RowKit Lead Lead.Dc
theorem cut_one {y : UInt8} {l : By} (h : (cutL y l).length ≤ 1) : y ∉ l := by
  unfold cutL at h
  rw [List.length_append, List.length_cons, List.length_nil] at h
  have h0 : (cutF y l).1.length = 0 := by omega
  refine snoc_ind (P := fun l => (cutF y l).1.length = 0 → y ∉ l) (fun _ => by simp) (fun l c ih h1 => ?_) l h0
  rw [cutF_snoc] at h1
  unfold cutStep at h1
  split at h1
  · rw [List.length_append, List.length_cons] at h1; omega
  · next hc =>
    intro hm
    rcases List.mem_append.1 hm with hm | hm
    · exact ih h1 hm
    · exact hc (List.mem_singleton.1 hm).symm
theorem cutL_pos (y : UInt8) (l : By) : 1 ≤ (cutL y l).length := by unfold cutL; rw [List.length_append, List.length_cons]; omega
theorem stepP_le {s : By} {x : By × List Wn} (h : stepP s = some x) : x.2.length ≤ 8 := by
  unfold stepP at h
  split at h
  · cases h
  · split at h
    · cases h
    · split at h
      · next h8 => cases h; exact h8
      · cases h
theorem rdT_inv {l : List By} : ∀ (i : Nat) {st : Bool × List St}, rdT l i = some st → (∀ x ∈ st.2, x.ws.length ≤ 8) ∧ (0 < i → st.2 ≠ [])
  | 0, st, h => by rw [rdT] at h; cases h; exact ⟨(fun x hx => by cases hx), fun h => absurd h (by omega)⟩
  | i + 1, st, h => by
    rw [rdT] at h
    cases hi : rdT l i with
    | none => rw [hi] at h; cases h
    | some s0 =>
      have ⟨h1, h2⟩ := rdT_inv i hi
      rw [hi] at h
      dsimp only at h
      unfold rdStep at h
      split at h
      · next hc => cases h; exact ⟨h1, fun _ => h2 hc.2.1⟩
      · split at h
        · cases h
        · next x hx =>
          cases h
          refine ⟨fun y hy => ?_, fun _ => by simp⟩
          rcases List.mem_append.1 hy with hy | hy
          · exact h1 y hy
          · rw [List.mem_singleton.1 hy]; exact stepP_le hx
theorem readP_inv {s : By} {l : List St} (h : readP s = some l) : l ≠ [] ∧ l.length ≤ 5 ∧ ∀ x ∈ l, x.ws.length ≤ 8 := by
  unfold readP at h
  split at h
  · cases h
  · next st hst =>
    have ⟨h1, h2⟩ := rdT_inv _ hst
    split at h
    · cases h
    · next hc => cases h; exact ⟨h2 (cutL_pos 32 s), by omega, h1⟩
theorem wtW_le (x : Wn) : 10 ≤ wtW x ∧ wtW x ≤ 100 := by unfold wtW; split <;> omega
theorem wtWs_le (l : List Wn) : (l.map wtW).sum ≤ 100 * l.length := by
  induction l with
  | nil => exact Nat.le_refl _
  | cons x r ih => rw [List.map_cons, List.sum_cons, List.length_cons]; have := wtW_le x; omega
theorem wtN_le (nm : By) : wtN nm ≤ 1 := by unfold wtN; split <;> omega
theorem wtL_le (l : List St) (h : ∀ x ∈ l, x.ws.length ≤ 8) : wtL l ≤ 801 * l.length := by
  induction l with
  | nil => exact Nat.le_refl _
  | cons x r ih =>
    have h1 := ih (fun y hy => h y (List.mem_cons_of_mem _ hy))
    have h2 := h x List.mem_cons_self
    have h3 := wtWs_le x.ws
    have h4 := wtN_le x.nm
    unfold wtL at h1 ⊢
    rw [List.map_cons, List.sum_cons, List.length_cons]
    have e : wtS x = wtN x.nm + (x.ws.map wtW).sum := rfl
    omega
theorem readP_wt {s : By} {l : List St} (h : readP s = some l) : wtL l ≤ 100000 := by
  have ⟨_, h2, h3⟩ := readP_inv h
  have := wtL_le l h3
  omega
theorem wt_more {s m : By} {A B : List St} (hm : hdOk m = true) (hne : m ≠ []) (h32 : 32 ∉ m) (h1 : readP s = some A) (h2 : readP (s ++ m) = some B) : wtL A < wtL B := by
  obtain ⟨pre, x, M, hM, _, rfl, rfl⟩ := readP_more hm hne h32 h1 h2
  unfold wtL
  rw [List.map_append, List.map_append, List.sum_append, List.sum_append]
  have e1 : ([x].map wtS).sum = wtS x := by simp
  have e2 : ([(⟨x.nm, x.ws ++ M, x.right⟩ : St)].map wtS).sum = wtS x + (M.map wtW).sum := by
    simp only [List.map_cons, List.map_nil, List.sum_cons, List.sum_nil, Nat.add_zero, wtS, List.map_append, List.sum_append]
    omega
  rw [e1, e2]
  cases M with
  | nil => exact absurd rfl hM
  | cons y r => rw [List.map_cons, List.sum_cons]; have := wtW_le y; omega
/-- The selector of the first lines: a > b.c -/
theorem read_abc : ∃ l, readP [97, 32, 62, 32, 98, 46, 99] = some l ∧ wtL l = 12 := by
  have c1 : cutL 32 [97, 32, 62, 32, 98, 46, 99] = [[97], [62], [98, 46, 99]] := by decide
  have w1 : wantsP [] = some [] := by rw [wantsP]
  have s1 : stepP [97] = some ([97], []) := by
    unfold stepP
    rw [if_neg (by decide), show tailW [97] = [] from by decide, w1]; rfl
  have o2 : oneP 46 [99] = some (⟨46, [99]⟩, []) := by
    unfold oneP
    rw [if_neg (by decide), if_pos (by decide)]; rfl
  have s2 : stepP [98, 46, 99] = some ([98], [⟨46, [99]⟩]) := by
    unfold stepP
    rw [if_neg (by decide), show tailW [98, 46, 99] = [46, 99] from by decide, wantsP_some o2, w1]; rfl
  refine ⟨[⟨[97], [], false⟩, ⟨[98], [⟨46, [99]⟩], true⟩], ?_, by decide⟩
  unfold readP
  rw [c1]
  have t1 : rdT [[97], [62], [98, 46, 99]] 1 = some (false, [⟨[97], [], false⟩]) := by
    rw [rdT, rdT]
    show rdStep 0 (false, []) [97] = _
    rw [rdStep_yes (by decide) s1]; rfl
  have t2 : rdT [[97], [62], [98, 46, 99]] 2 = some (true, [⟨[97], [], false⟩]) := by
    rw [rdT, t1]
    show rdStep 1 (false, [⟨[97], [], false⟩]) [62] = _
    rw [rdStep_gt ⟨rfl, by decide, rfl⟩]
  have t3 : rdT [[97], [62], [98, 46, 99]] 3 = some (false, [⟨[97], [], false⟩, ⟨[98], [⟨46, [99]⟩], true⟩]) := by
    rw [rdT, t2]
    show rdStep 2 (true, [⟨[97], [], false⟩]) [98, 46, 99] = _
    rw [rdStep_yes (by simp) s2]; rfl
  show (match rdT [[97], [62], [98, 46, 99]] 3 with | none => none | some st => if st.1 = true ∨ 5 < st.2.length then none else some st.2) = _
  rw [t3]
  dsimp only
  rw [if_neg (by simp)]
end Lead.Pk
