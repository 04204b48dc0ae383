/-
  Plain: how a sheet lies in memory.
-/
import Derived.Test.YtnpieocpniakpaaDoorSy2
import Derived.Test.YtnpieocpniakpaaDoorPk7
namespace Lead.Sy
open Go Go.RowKit Lead Lead.Dc Lead.Pk
/-- A rule with its selector's slice. -/
structure RuX where
  so : Option Addr
  sl : Nat
  sc : Nat
  u : Ru
def RuX.sv (x : RuX) : Value := .slice x.so x.sl x.sc
def ERu : Enc RuX := ⟨fun x => [.slice x.so x.sl x.sc, .string (bs x.u.tx), .string (bs x.u.nm), .string (bs x.u.vl)], 4, fun _ => rfl, fun x u h => by simp at h; rcases h with rfl | rfl | rfl | rfl <;> rfl, by decide⟩
/-- A selector's steps, in blocks of Q. -/
def SelQ (TS TW : TypeId) (Q : Nat → Prop) (base : Nat) (W : World) (v : Value) (l : List St) : Prop := ∃ xs : List StX, (OwnR ESt W base TS v xs ∧ ∀ b, v.ownBlock = some b → Q b) ∧ (∀ x ∈ xs, OwnR EWa W base TW x.sl x.ws ∧ ∀ b, x.sl.ownBlock = some b → Q b) ∧ xs.map StX.st = l
variable {TS TW TR : TypeId} {Q Q' : Nat → Prop} {base base' : Nat} {w W W' : World} {v : Value} {l : List St}
theorem SelOk.q (h : SelOk TS TW base W v l) : SelQ TS TW (fun b => base ≤ b ∧ b < W.heap.size) base W v l := by
  obtain ⟨xs, h1, h2, h3⟩ := h
  exact ⟨xs, ⟨h1, h1.lt⟩, fun x hx => ⟨h2 x hx, (h2 x hx).lt⟩, h3⟩
theorem SelQ.ok (h : SelQ TS TW Q base W v l) : SelOk TS TW base W v l := by
  obtain ⟨xs, h1, h2, h3⟩ := h
  exact ⟨xs, h1.1, fun x hx => (h2 x hx).1, h3⟩
theorem SelQ.mono (h : SelQ TS TW Q base W v l) (hb : base' ≤ base) (hQ : ∀ b, base ≤ b → b < W.heap.size → Q b → Q' b) : SelQ TS TW Q' base' W v l := by
  obtain ⟨xs, h1, h2, h3⟩ := h
  exact ⟨xs, ⟨h1.1.base hb, fun b hv => hQ b (h1.1.lt b hv).1 (h1.1.lt b hv).2 (h1.2 b hv)⟩, fun x hx => ⟨(h2 x hx).1.base hb, fun b hv => hQ b ((h2 x hx).1.lt b hv).1 ((h2 x hx).1.lt b hv).2 ((h2 x hx).2 b hv)⟩, h3⟩
theorem SelQ.kept (h : SelQ TS TW Q base W v l) (hk : ∀ b, b < W.heap.size → Q b → W'.heap[b]? = W.heap[b]?) : SelQ TS TW Q base W' v l := by
  obtain ⟨xs, h1, h2, h3⟩ := h
  exact ⟨xs, ⟨own_kept h1.1 (fun b hv => hk b (h1.1.lt b hv).2 (h1.2 b hv)), h1.2⟩, fun x hx => ⟨own_kept (h2 x hx).1 (fun b hv => hk b ((h2 x hx).1.lt b hv).2 ((h2 x hx).2 b hv)), (h2 x hx).2⟩, h3⟩
/-- Rules that are in a call's own memory, while they are read. -/
structure ShW (TS TW TR : TypeId) (base : Nat) (W : World) (v : Value) (xs : List RuX) : Prop where
  own : OwnR ERu W base TR v xs
  sel : ∀ x ∈ xs, SelQ TS TW (fun b => v.ownBlock ≠ some b) base W x.sv x.u.st
theorem ShW.nil (TS TW TR : TypeId) (base : Nat) (W : World) : ShW TS TW TR base W (.slice none 0 0) [] := ⟨OwnR.nil _ _ _ _, fun x hx => by cases hx⟩
theorem ShW.step {xs : List RuX} (h : ShW TS TW TR base W v xs) (hb : Below W.heap.size W W') : ShW TS TW TR base W' v xs :=
  ⟨h.own.keep hb, fun x hx => (h.sel x hx).kept (fun b hl _ => hb.block b hl)⟩
theorem ShW.app {xs : List RuX} {x : RuX} {v' : Value} (h : ShW TS TW TR base W v xs) (hx : SelQ TS TW (fun b => v.ownBlock ≠ some b) base W x.sv x.u.st)
    (hv : OwnR ERu W' base TR v' (xs ++ [x])) (hg : W.grownBy W' v.ownBlock) (ho : v'.ownBlock = v.ownBlock ∨ v'.ownBlock = some W.heap.size) : ShW TS TW TR base W' v' (xs ++ [x]) := by
  have hkeep : ∀ y : RuX, SelQ TS TW (fun b => v.ownBlock ≠ some b) base W y.sv y.u.st → SelQ TS TW (fun b => v'.ownBlock ≠ some b) base W' y.sv y.u.st := fun y hy => by
    have h1 : SelQ TS TW (fun b => v.ownBlock ≠ some b ∧ v'.ownBlock ≠ some b) base W y.sv y.u.st := hy.mono (Nat.le_refl _) (fun b _ hl hb => ⟨hb, by
      rcases ho with ho | ho
      · rw [ho]; exact hb
      · rw [ho]; intro e; injection e with e; omega⟩)
    exact (h1.kept (W' := W') (fun b hl hb => hg.block b hl (fun e => hb.1 e.symm))).mono (Nat.le_refl _) (fun b _ _ hb => hb.2)
  refine ⟨hv, fun y hy => ?_⟩
  rcases List.mem_append.1 hy with hy | hy
  · exact hkeep y (h.sel y hy)
  · rw [List.mem_singleton.1 hy]; exact hkeep x hx
/-- A sheet, as it lies. -/
def ShOk (TS TW TR : TypeId) (base : Nat) (W : World) (v : Value) (us : List Ru) : Prop := ∃ xs : List RuX, OwnR ERu W base TR v xs ∧ (∀ x ∈ xs, SelOk TS TW base W x.sv x.u.st) ∧ xs.map RuX.u = us
theorem ShOk.keep {us : List Ru} (h : ShOk TS TW TR base W v us) (hb : Below W.heap.size W W') : ShOk TS TW TR base W' v us := by
  obtain ⟨xs, h1, h2, h3⟩ := h
  exact ⟨xs, h1.keep hb, fun x hx => (h2 x hx).keep hb, h3⟩
theorem ShW.done {xs : List RuX} (h : ShW TS TW TR base W v xs) : ShOk TS TW TR base W v (xs.map RuX.u) := ⟨xs, h.own, fun x hx => (h.sel x hx).ok, rfl⟩
end Lead.Sy
