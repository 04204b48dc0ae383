/-
  Several texts as one: Pk4, Pk6.
-/
import Derived.Test.YteaipondofbecaaGreatDoorPp
import Derived.Test.YteaipondofbecaaGreatDoorDn
/-
  Plain: the state of the loop that reads a step's wants; how a want and a step lie in memory.
-/
namespace Lead.Pk
open Go Go.RowKit Lead Lead.Dc
def EWa : Enc Wn := ⟨fun x => [.int .u8 (x.sign.toNat : Int), .string (bs x.name)], 2, fun _ => rfl, fun x u h => by simp at h; rcases h with rfl | rfl <;> rfl, by decide⟩
/-- A step with its slice's address. -/
structure StX where
  nm : By
  wo : Option Addr
  wl : Nat
  wc : Nat
  ws : List Wn
  right : Bool
def ESt : Enc StX := ⟨fun x => [.string (bs x.nm), .slice x.wo x.wl x.wc, .bool x.right], 3, fun _ => rfl, fun x u h => by simp at h; rcases h with rfl | rfl | rfl <;> rfl, by decide⟩
def StX.st (x : StX) : St := ⟨x.nm, x.ws, x.right⟩
/-- What is left of a step's wants while they are read: those read, and the text behind. -/
theorem wants_go {s0 s : By} {A : List Wn} {w : Wn} {s' : By} {c : UInt8} {r : By} (h : wantsP s0 = (wantsP s).map (A ++ ·)) (hs : s = c :: r) (ho : oneP c r = some (w, s')) : wantsP s0 = (wantsP s').map ((A ++ [w]) ++ ·) := by
  rw [h, hs, wantsP_some ho]
  cases wantsP s' <;> simp
theorem wants_bad {s0 s : By} {A : List Wn} {c : UInt8} {r : By} (h : wantsP s0 = (wantsP s).map (A ++ ·)) (hs : s = c :: r) (ho : oneP c r = none) : wantsP s0 = none := by
  rw [h, hs, wantsP_none ho]; rfl
theorem wants_end {s0 : By} {A : List Wn} (h : wantsP s0 = (wantsP []).map (A ++ ·)) : wantsP s0 = some A := by
  rw [h, wantsP]; simp
theorem wants_many {s0 s : By} {A : List Wn} {c : UInt8} {r : By} (h : wantsP s0 = (wantsP s).map (A ++ ·)) (hs : s = c :: r) (hA : 8 ≤ A.length) : wantsP s0 = none ∨ ∃ W, wantsP s0 = some W ∧ 8 < W.length := by
  rw [h]
  cases hw : wantsP s with
  | none => exact .inl rfl
  | some W =>
    right
    refine ⟨A ++ W, rfl, ?_⟩
    cases W with
    | nil =>
      subst hs
      cases ho : oneP c r with
      | none => rw [wantsP_none ho] at hw; cases hw
      | some z =>
        obtain ⟨w, r'⟩ := z
        rw [wantsP_some ho] at hw
        cases hr : wantsP r' with
        | none => rw [hr] at hw; cases hw
        | some R => rw [hr] at hw; cases hw
    | cons x W => rw [List.length_append, List.length_cons]; omega
/-- What a step's text gives. -/
theorem stepP_bad {s : By} (h : s = [] ∨ (headW s ≠ [] ∧ headW s ≠ [42] ∧ nmL (headW s) = false)) : stepP s = none := by unfold stepP; rw [if_pos h]
theorem stepP_none {s : By} (h : wantsP (tailW s) = none ∨ ∃ W, wantsP (tailW s) = some W ∧ 8 < W.length) : stepP s = none := by
  unfold stepP
  split
  · rfl
  · rcases h with h | ⟨W, h, h8⟩
    · rw [h]
    · rw [h]; dsimp only; rw [if_neg (by omega)]
theorem stepP_good {s : By} {W : List Wn} (h : ¬ (s = [] ∨ (headW s ≠ [] ∧ headW s ≠ [42] ∧ nmL (headW s) = false))) (hw : wantsP (tailW s) = some W) (h8 : W.length ≤ 8) : stepP s = some (headW s, W) := by
  unfold stepP
  rw [if_neg h, hw]; dsimp only; rw [if_pos h8]
end Lead.Pk

/-
  Plain: the words of a selector, one by one.
-/
namespace Lead.Pk
open Go Go.RowKit Lead Lead.Dc
theorem rdT_stop {l : List By} : ∀ (n k : Nat), rdT l n = none → rdT l (n + k) = none
  | n, 0, h => h
  | n, k + 1, h => by
    have h1 := rdT_stop n k h
    show rdT l (n + k + 1) = none
    rw [rdT, h1]
theorem rdT_next {l : List By} {i : Nat} {st : Bool × List St} (h : rdT l i = some st) (hi : i < l.length) : rdT l (i + 1) = rdStep i st l[i] := by
  rw [rdT, h]
  show rdStep i st (l.getD i []) = _
  rw [List.getD_eq_getElem?_getD, List.getElem?_eq_getElem hi]; rfl
theorem readP_stop {s : By} {i : Nat} (h : rdT (cutL 32 s) i = none) (hi : i ≤ (cutL 32 s).length) : readP s = none := by
  have h1 := rdT_stop i ((cutL 32 s).length - i) h
  rw [Nat.add_sub_cancel' hi] at h1
  unfold readP
  rw [h1]
theorem readP_end {s : By} {st : Bool × List St} (h : rdT (cutL 32 s) (cutL 32 s).length = some st) : readP s = if st.1 = true ∨ 5 < st.2.length then none else some st.2 := by
  unfold readP
  rw [h]
theorem rdStep_gt {i : Nat} {st : Bool × List St} {w : By} (h : w = [62] ∧ 0 < i ∧ st.1 = false) : rdStep i st w = some (true, st.2) := by unfold rdStep; rw [if_pos h]
theorem rdStep_no {i : Nat} {st : Bool × List St} {w : By} (h : ¬ (w = [62] ∧ 0 < i ∧ st.1 = false)) (hs : stepP w = none) : rdStep i st w = none := by unfold rdStep; rw [if_neg h, hs]
theorem rdStep_yes {i : Nat} {st : Bool × List St} {w : By} {x : By × List Wn} (h : ¬ (w = [62] ∧ 0 < i ∧ st.1 = false)) (hs : stepP w = some x) : rdStep i st w = some (false, st.2 ++ [⟨x.1, x.2, st.1⟩]) := by unfold rdStep; rw [if_neg h, hs]
theorem rdT_len {l : List By} : ∀ (i : Nat) {st : Bool × List St}, rdT l i = some st → st.2.length ≤ i
  | 0, st, h => by rw [rdT] at h; cases h; exact Nat.le_refl _
  | i + 1, st, h => by
    rw [rdT] at h
    cases hi : rdT l i with
    | none => rw [hi] at h; cases h
    | some s0 =>
      have := rdT_len i hi
      rw [hi] at h
      dsimp only at h
      unfold rdStep at h
      split at h
      · cases h; show s0.2.length ≤ _; omega
      · split at h
        · cases h
        · cases h
          show (s0.2 ++ _).length ≤ _
          rw [List.length_append, List.length_cons, List.length_nil]; omega
theorem cutF_small (y : UInt8) (l : By) : (∀ x ∈ (cutF y l).1, x.length ≤ l.length) ∧ (cutF y l).2.length ≤ l.length := by
  refine snoc_ind (P := fun l => (∀ x ∈ (cutF y l).1, x.length ≤ l.length) ∧ (cutF y l).2.length ≤ l.length) ⟨(fun x hx => by cases hx), Nat.le_refl _⟩ (fun l c ih => ?_) l
  rw [cutF_snoc]
  unfold cutStep
  split
  · refine ⟨fun x hx => ?_, Nat.zero_le _⟩
    rw [List.length_append]
    rcases List.mem_append.1 hx with hx | hx
    · exact Nat.le_trans (ih.1 x hx) (Nat.le_add_right _ _)
    · rw [List.mem_singleton.1 hx]; exact Nat.le_trans ih.2 (Nat.le_add_right _ _)
  · refine ⟨fun x hx => ?_, ?_⟩
    · rw [List.length_append]; exact Nat.le_trans (ih.1 x hx) (Nat.le_add_right _ _)
    · show ((cutF y l).2 ++ [c]).length ≤ _
      rw [List.length_append, List.length_append]; exact Nat.add_le_add_right ih.2 _
theorem cutL_count (y : UInt8) (l : By) : (cutL y l).length ≤ l.length + 1 := by
  unfold cutL
  rw [List.length_append]
  exact Nat.add_le_add_right (cutF_len y l) 1
theorem cutL_small {y : UInt8} {l x : By} (h : x ∈ cutL y l) : x.length ≤ l.length := by
  unfold cutL at h
  rcases List.mem_append.1 h with h | h
  · exact (cutF_small y l).1 x h
  · rw [List.mem_singleton.1 h]; exact (cutF_small y l).2
end Lead.Pk
