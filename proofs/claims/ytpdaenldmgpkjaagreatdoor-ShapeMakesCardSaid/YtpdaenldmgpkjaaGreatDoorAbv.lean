/-
  Plain: a world that is as it was from a block on; an error's place in it.
-/
import Derived.Test.YtpdaenldmgpkjaaGreatDoorPa
namespace Lead
open Go Go.RowKit
/-- From block lo on all that was there is as it was. -/
def Above (lo : Nat) (w W : World) : Prop := ∀ k, lo ≤ k → k < w.heap.size → W.heap[k]? = w.heap[k]?
theorem Above.refl (lo : Nat) (w : World) : Above lo w w := fun _ _ _ => rfl
theorem Above.alloc {lo : Nat} {w W : World} (h : Above lo w W) (hs : w.heap.size ≤ W.heap.size) (o : Obj) : Above lo w (W.alloc o) := fun k h1 h2 => (Below.heap_alloc W o k (by omega)).trans (h k h1 h2)
theorem Above.drew {lo : Nat} {w W : World} (h : Above lo w W) : Above lo w W.drew := h
theorem Above.setCell {lo : Nat} {w W : World} {a : Addr} (h : Above lo w W) (ha : a.block < lo) (u : Value) : Above lo w (W.setCell a u) := fun k h1 h2 => (Below.heap_setCell W a u k (by omega)).trans (h k h1 h2)
theorem ErrAt.above {T F : Nat} {ea : Nat → Addr} {lo lo' : Nat} {w W : World} {v : Value} {c : Nat × Option Nat} (h : ErrAt T F ea lo w v c) (hl : lo' ≤ lo) (ha : Above lo w W) : ErrAt T F ea lo' W v c := by
  obtain ⟨c1, c2⟩ := c
  cases c2 with
  | none => exact h
  | some i =>
    obtain ⟨h0, b, h1, h2, h3, h4⟩ := h
    have hb : b < w.heap.size := zlt h3
    have hB := ha b h1 hb
    exact ⟨h0, b, by omega, h2, (World.cell?_of_block hB).trans h3, (World.cell?_of_block hB).trans h4⟩
end Lead
