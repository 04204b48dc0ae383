/-
  Small general laws that all walks of this family use. No program in sight.
-/
import Derived.WalkKit
import Derived.WalkSpells
import Derived.WalkLawsBesides
import Derived.Deep.QuietTactic
import Derived.Deep.Draws
import Derived.BigQuiet
import Derived.BigRegion
import Derived.RegionTactic
import Derived.ChangeAlike
import Derived.Handy
import Derived.Lib.Hide
import Derived.Deep.RegionHeld3
import Derived.Deep.RegionWith
namespace Lead
open Go Go.RowKit

/-- A 64-bit number. -/
def I64 (x : Int) : Prop := -9223372036854775808 ≤ x ∧ x ≤ 9223372036854775807

theorem I64.wf {x : Int} (h : (Lit.int .i64 x).wf = true) : I64 x := by
  simp [Lit.wf, IntKind.min, IntKind.max, IntKind.signed, IntKind.bits] at h
  unfold I64; omega

/-- A cell is known: so its block is there. -/
theorem zlt {w : World} {g : Nat} {v : Value} (h : w.cell? ⟨g, 0, none⟩ = some v) : g < w.heap.size := World.block_lt_of_cell? w _ h
theorem zlts {w : World} {g : Nat} {v : Value} (h : w.cell? ⟨g, 0, none⟩ = some v) : ∀ j, j ≤ g → j < w.heap.size := fun j hj => by have := zlt h; omega
theorem zne {w : World} {g : Nat} {v : Value} (h : w.cell? ⟨g, 0, none⟩ = some v) : ∀ j, j ≤ g → ¬ w.heap.size = j := fun j hj => by have := zlt h; omega
theorem galloc {w : World} {a : Addr} {v : Value} (h : w.cell? a = some v) (o : Obj) : (w.alloc o).cell? a = some v := by
  rw [World.cell?_alloc_lt _ _ _ (World.block_lt_of_cell? w _ h)]; exact h
theorem gkeep {w w1 : World} {a : Addr} {v : Value} {B : Nat} (hb : Below B w w1) (h : w.cell? a = some v) (hB : B = w.heap.size) : w1.cell? a = some v := by
  rw [hb.cell (by rw [hB]; exact World.block_lt_of_cell? w _ h)]; exact h

/-- Behind a call: what lay before it reads as it did. -/
theorem bcell {W w1 : World} (hb : Below W.heap.size W w1) : (∀ b o, b < W.heap.size → w1.cell? ⟨b, o, none⟩ = W.cell? ⟨b, o, none⟩) ∧ (∀ b o, b < W.heap.size → w1.frozen? ⟨b, o, none⟩ = W.frozen? ⟨b, o, none⟩) :=
  ⟨fun b o h => hb.cell (p := ⟨b, o, none⟩) h, fun b o h => hb.frozen (p := ⟨b, o, none⟩) h⟩

theorem bdn {B n : Nat} {a w : World} (h : Below B a w) : Below B a (w.drewN n) := h.trans ⟨rfl, rfl, rfl, Nat.le_refl _, fun _ _ => rfl⟩

/-- A call that only makes memory: behind it, what is known. -/
theorem call_below {P : Program} {f : FuncId} {args : Array Value} {w W : World} {v : Value} {R : Ending → World → Prop} (hB : Below w.heap.size w W)
    (h : Below w.heap.size w W → Calls P f args W fun e w' => e = .returned v ∧ Below W.heap.size W w')
    (k : ∀ w1, Below w.heap.size w w1 → W.heap.size ≤ w1.heap.size → (∀ b o, b < W.heap.size → w1.cell? ⟨b, o, none⟩ = W.cell? ⟨b, o, none⟩) →
      (∀ b o, b < W.heap.size → w1.frozen? ⟨b, o, none⟩ = W.frozen? ⟨b, o, none⟩) → R (.returned v) w1) : Calls P f args W R :=
  (h hB).mono fun e w1 ⟨he, hb⟩ => by
    subst he
    exact k w1 (hB.trans (hb.mono hB.size)) hb.size (bcell hb).1 (bcell hb).2


/-- Three boxes of the call's own, in whatever world it has come to. -/
abbrev Own3 (w : World) (A B C : Array Value) (W : World) : Prop :=
  Below w.heap.size w W ∧ w.heap.size + 1 + 1 < W.heap.size ∧ (∀ j, W.cell? ⟨w.heap.size, j, none⟩ = A[j]?) ∧ (∀ j, W.cell? ⟨w.heap.size + 1, j, none⟩ = B[j]?) ∧ (∀ j, W.cell? ⟨w.heap.size + 1 + 1, j, none⟩ = C[j]?)
theorem own3_start (w : World) (A B C : Array Value) (t : TypeId) : Own3 w A B C (((w.alloc (.cells A t)).alloc (.cells B t)).alloc (.cells C t)).drew := by
  refine ⟨(((((Below.refl _ _).alloc (Nat.le_refl _) _).alloc (by simp) _).alloc (by simp; omega) _).drew), by simp, fun j => ?_, fun j => ?_, fun j => ?_⟩
  · rw [World.cell?_drew, World.cell?_alloc_lt _ _ _ (by simp; omega), World.cell?_alloc_lt _ _ _ (by simp), World.cell?_alloc_new]
  · rw [World.cell?_drew, World.cell?_alloc_lt _ _ _ (by simp)]
    exact World.cell?_alloc_at _ _ _ _ (by simp)
  · rw [World.cell?_drew]
    exact World.cell?_alloc_at _ _ _ _ (by simp)
theorem own3_step {w W W' : World} {A B C : Array Value} (hb : Below W.heap.size W W') (h : Own3 w A B C W) : Own3 w A B C W' := by
  obtain ⟨h1, h2, h3, h4, h5⟩ := h
  refine ⟨h1.trans (hb.mono h1.size), Nat.lt_of_lt_of_le h2 hb.size, fun j => ?_, fun j => ?_, fun j => ?_⟩
  · rw [hb.cell (by simp; omega)]; exact h3 j
  · rw [hb.cell (by simp; omega)]; exact h4 j
  · rw [hb.cell (by simp; omega)]; exact h5 j

/-- In a region that draws its order: from one call to the next. -/
theorem held_step {N : Nat} {Wa W W' : World} {X : Prop} (hN : N = Wa.heap.size) (hb : Below W.heap.size W W') (h : Below N Wa W ∧ X) : Below N Wa W' :=
  h.1.trans (hb.mono (by rw [hN]; exact h.1.size))
end Lead
