/-
  A copy of a slice (slices.Clone): a row of the call's own, whatever the slice.
-/
import Derived.Test.YtbcoccgfoionlaaDoorDs1
import Derived.Shelf.SlicesE.Clone
import Derived.WalkKit
namespace Lead.Dc
open Go Go.RowKit Lead Go.Proofs Go.Shelf Go.Lib
variable {α : Type} {P : Program} {ρ : Ren} {w : World}
set_option maxHeartbeats 2000000 in
set_option maxRecDepth 100000 in
theorem clone_zero (L : SlLaysE0.n41 P ρ) (i0 : TypeInfo) (z : Value) (size bytes : Nat) (hi : P.info? (ρ.t 23) = some i0) (hz0 : i0.zero = some z) (hz1 : i0.size = size) (hz2 : i0.bytes = bytes) (hzs : z.cells.size = size) (hsz : 0 < size)
    (z23 : ∀ w, (Go.sizeOf (ρ.t 23)).run P w = .ok size w) (a : Addr) (c : Nat) (w : World) :
    Calls P (ρ.f 41) #[.slice (some a) 0 c] w fun e w' => ∃ v', e = .returned v' ∧ w'.ownsRow w.heap.size (ρ.t 23) size v' 0 [] ∧ v' ≠ .slice none 0 0 ∧ Below w.heap.size w w' := by
  have mixed := L.mixed; have t4 := L.t4; have a4 := L.a4; have z4 := L.z4; have v4 := L.v4; have t22 := L.t22; have a22 := L.a22; have z22 := L.z22; have v22 := L.v22
  have q22 : ∀ (w : World) (a : Option Addr) (n c n' c' : Nat), (binOp .eql (ρ.t 22) (.slice a n c) (.slice none n' c')).run P w = .ok (.bool a.isNone) w := fun w a n c n' c' => Lib.run_eql_slice_nil w _ _ a n c n' c' L.t22
  have u22 : ∀ w, Sem.run P (underlying (ρ.t 22)) w = .ok (TypeDesc.slice (ρ.t 23)) w := run_underlying t22
  obtain ⟨_, _, FG⟩ := L.f41
  go_enter FG, SlBodyN.n41_ntmps ρ
  go_wp2_with (at_builtin; refine wpList_append_own _ rfl _ _ (ρ.t 22) rfl w.heap.size (ρ.t 23) i0 z size bytes t22 hi hz0 hz1 hz2 hzs hsz _ _ _ rfl (World.ownsRow_made w #[] 0 (Nat.le_refl _) (Nat.zero_le _) (by simp)) a 0 c [] rfl (by simp) (by intro j u hj; simp at hj) (by intro u hu; cases hu) (by unfold maxLen; omega) (by omega) (by simp) ?_)
  intro v' w1 hown hgrow hnil
  go_wp2
  go_ret
  refine ⟨v', rfl, by simpa using hown, ?_, ?_⟩
  · first | exact hnil | (intro e; exact absurd (hnil.1 e).1 (by simp))
  · exact ((Below.refl _ w).alloc (Nat.le_refl _) _).grown hgrow (by simp) (by intro k hk; simp [Value.ownBlock] at hk; omega)
theorem clone_any (En : Enc α) (L : SlLaysE0.n41 P ρ) (i0 : TypeInfo) (z : Value) (bytes : Nat) (hi : P.info? (ρ.t 23) = some i0) (hz0 : i0.zero = some z) (hz1 : i0.size = En.k) (hz2 : i0.bytes = bytes) (hzs : z.cells.size = En.k) (hby : bytes ≤ 1000)
    (z23 : ∀ w, (Go.sizeOf (ρ.t 23)).run P w = .ok En.k w) {oa : Option Addr} {len cap : Nat} {xs : List α} (hs : SlA En w oa len cap xs) (hlen : len ≤ 1000000) :
    Calls P (ρ.f 41) #[.slice oa len cap] w fun e w' => ∃ v', e = .returned v' ∧ OwnR En w' w.heap.size (ρ.t 23) v' xs ∧ Below w.heap.size w w' := by
  obtain ⟨h1, h2, h3, h4⟩ := hs
  by_cases hx : xs = []
  · subst hx
    obtain rfl : len = 0 := h1
    cases oa with
    | none =>
      refine (AnyE.slices_Clone_nil L 0 cap w).mono ?_
      rintro e w' ⟨rfl, rfl⟩
      exact ⟨_, rfl, OwnR.nil _ _ _ _, Below.refl _ _⟩
    | some a =>
      refine (clone_zero L i0 z En.k bytes hi hz0 hz1 hz2 hzs En.pos z23 a cap w).mono ?_
      rintro e w' ⟨v', rfl, ho, _, hb⟩
      exact ⟨_, rfl, ho, hb⟩
  · obtain ⟨b, off, rfl, hb, hr⟩ := h4.resolve_left hx
    refine (AnyE.slices_Clone L i0 z En.k bytes hi hz0 hz1 hz2 hzs En.pos z23 b off len cap (En.flat xs) w (by rw [En.flat_len, h1]) (by unfold maxLen at h3 ⊢; omega) (Nat.le_trans (Nat.mul_le_mul hlen hby) (by decide)) (fun j u hj => ?_) (En.flat_one xs)).mono ?_
    · have := hr.cells j u hj
      rw [add_cell] at this
      exact this
    · rintro e w' ⟨v', rfl, ho, _, hb'⟩
      refine ⟨_, rfl, ?_, hb'⟩
      unfold OwnR
      rw [← h1]; exact ho
end Lead.Dc
