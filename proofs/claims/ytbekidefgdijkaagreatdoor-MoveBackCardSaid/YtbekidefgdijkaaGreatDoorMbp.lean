/-
  Plain: the way back of a move, as the document's answer tells it.
-/
import Derived.Test.YtbekidefgdijkaaGreatDoorMa
namespace Lead
open Go Go.RowKit
theorem back_ref (m : Mv) (hm : m.c = (0, none)) :
    ((m.A.mulK m.D ≠ 0 ∨ m.B.mulK m.C ≠ 0) ∧ backC m = (2, none)) ∨
    (m.A.mulK m.D = 0 ∧ m.B.mulK m.C = 0 ∧ (m.A.mul m.D).subK (m.B.mul m.C) ≠ 0 ∧ backC m = (2, none)) ∨
    (m.A.mulK m.D = 0 ∧ m.B.mulK m.C = 0 ∧ (m.A.mul m.D).subK (m.B.mul m.C) = 0 ∧ ((m.A.mul m.D).sub (m.B.mul m.C)).n = 0 ∧ backC m = (11, none)) ∨
    (m.A.mulK m.D = 0 ∧ m.B.mulK m.C = 0 ∧ (m.A.mul m.D).subK (m.B.mul m.C) = 0 ∧ ((m.A.mul m.D).sub (m.B.mul m.C)).n ≠ 0 ∧ (backC m = (2, none) ∨ backC m = (0, none))) := by
  have e1 : bk1 m = m.A.mulK m.D := dE_0 rfl
  by_cases k1 : m.A.mulK m.D = 0
  · have ex : bkx m = m.A.mul m.D := if_pos ⟨rfl, k1⟩
    have e2 : bk2 m = m.B.mulK m.C := by unfold bk2; rw [e1]; exact dE_0 k1
    by_cases k2 : m.B.mulK m.C = 0
    · have ey : bky m = m.B.mul m.C := by unfold bky; rw [e1]; exact if_pos ⟨k1, k2⟩
      have e3 : bk3 m = (m.A.mul m.D).subK (m.B.mul m.C) := by unfold bk3; rw [e2, ex, ey]; exact dE_0 k2
      by_cases k3 : (m.A.mul m.D).subK (m.B.mul m.C) = 0
      · have ed : bkd m = (m.A.mul m.D).sub (m.B.mul m.C) := by unfold bkd; rw [e2, ex, ey]; exact if_pos ⟨k2, k3⟩
        rcases backC_cases m with ⟨h1, _⟩ | ⟨_, h1, _⟩ | ⟨_, _, h1, h2⟩ | ⟨_, _, h1, _, h2⟩ | ⟨_, _, h1, _, h2⟩
        · rw [hm] at h1; exact absurd rfl h1
        · rw [e3] at h1; exact absurd k3 h1
        · rw [ed] at h1; exact .inr (.inr (.inl ⟨k1, k2, k3, h1, h2⟩))
        · rw [ed] at h1; exact .inr (.inr (.inr ⟨k1, k2, k3, h1, .inl h2⟩))
        · rw [ed] at h1; exact .inr (.inr (.inr ⟨k1, k2, k3, h1, .inr h2⟩))
      · refine .inr (.inl ⟨k1, k2, k3, ?_⟩)
        unfold backC; rw [if_pos hm, if_pos (by rw [e3]; exact k3)]
    · refine .inl ⟨.inr k2, ?_⟩
      have : bk3 m ≠ 0 := by unfold bk3; rw [dE_n (by rw [e2]; exact k2), e2]; exact k2
      unfold backC; rw [if_pos hm, if_pos this]
  · refine .inl ⟨.inl k1, ?_⟩
    have h2 : bk2 m ≠ 0 := by unfold bk2; rw [dE_n (by rw [e1]; exact k1), e1]; exact k1
    have : bk3 m ≠ 0 := by unfold bk3; rw [dE_n h2]; exact h2
    unfold backC; rw [if_pos hm, if_pos this]
theorem backV_z {m : Mv} (h : ¬ backC m = (0, none)) : backV m = ⟨⟨0, 0⟩, ⟨0, 0⟩, ⟨0, 0⟩, ⟨0, 0⟩, ⟨0, 0⟩, ⟨0, 0⟩⟩ := if_neg h
theorem atI_c (o : Option Nat) : ∃ z : Int, (match o with | none => (-1 : Int) | some i => i) = z := ⟨_, rfl⟩
end Lead
