/-
  Plain: a block of twelve cells, made before, between or behind calls that write the one cell of block s.
-/
import Derived.Test.YtlhadgnpkooiaaaGreatDoorSet
import Derived.Test.YtlhadgnpkooiaaaGreatDoorMa
namespace Lead
open Go Go.RowKit
/-- What a made block holds: twelve values. -/
def Made (s t : Nat) (v : Value) (w0 : World) (vs : Array Value) (p : Value) (W : World) : Prop :=
  ∃ g : Nat, p = .pointer (some ⟨g, 0, none⟩) ∧ (∀ j, W.cell? ⟨g, j, none⟩ = vs[j]?) ∧ (∀ j, W.frozen? ⟨g, j, none⟩ = false) ∧ w0.heap.size ≤ g ∧ g < W.heap.size ∧ But s t v w0 W
theorem But.undrew {s : Nat} {t : TypeId} {v : Value} {w W : World} (h : But s t v w.drew W) : But s t v w W := ⟨h.os, h.tape, h.output, h.size, h.block, h.lt, h.at'⟩
theorem made_last {s t T : Nat} {v : Value} {w0 W : World} (h : But s t v w0 W) (vs : Array Value) : Made s t v w0 vs (.pointer (some ⟨W.heap.size, 0, none⟩)) (W.alloc (.cells vs T)) :=
  ⟨W.heap.size, rfl, fun _ => World.cell?_alloc_new _ _ _ _, fun _ => World.frozen?_alloc_new _ _ _ _, h.size, by simp, h.alloc _⟩
theorem made_ahead {s t T : Nat} {u v : Value} {w0 X W : World} (h1 : But s t u w0 X) (h2 : But s t v (X.alloc (.cells #[.int .i64 0, .int .i64 0, .int .i64 0, .int .i64 0, .int .i64 0, .int .i64 0, .int .i64 0, .int .i64 0, .int .i64 0, .int .i64 0, .int .i64 0, .int .i64 0] T)) W) (v0 v1 v2 v3 v4 v5 v6 v7 v8 v9 v10 v11 : Value) :
    Made s t v w0 (#[v0, v1, v2, v3, v4, v5, v6, v7, v8, v9, v10, v11] : Array Value) (.pointer (some ⟨X.heap.size, 0, none⟩)) ((((((((((((W.setCell ⟨X.heap.size, 0, none⟩ v0).setCell ⟨X.heap.size, 1, none⟩ v1).setCell ⟨X.heap.size, 2, none⟩ v2).setCell ⟨X.heap.size, 3, none⟩ v3).setCell ⟨X.heap.size, 4, none⟩ v4).setCell ⟨X.heap.size, 5, none⟩ v5).setCell ⟨X.heap.size, 6, none⟩ v6).setCell ⟨X.heap.size, 7, none⟩ v7).setCell ⟨X.heap.size, 8, none⟩ v8).setCell ⟨X.heap.size, 9, none⟩ v9).setCell ⟨X.heap.size, 10, none⟩ v10).setCell ⟨X.heap.size, 11, none⟩ v11) := by
  have hs : s < X.heap.size := Nat.lt_of_lt_of_le h1.lt h1.size
  have hz := h2.size
  rw [World.size_alloc] at hz
  refine ⟨X.heap.size, rfl, set12 (fun j => (h2.cell _ j (by simp) (by omega)).trans (World.cell?_alloc_new _ _ _ _)) _ _ _ _ _ _ _ _ _ _ _ _, fun j => ?_, h1.size, ?_, ?_⟩
  · simp only [World.frozen?_setCell]
    exact (h2.frozen _ j (by simp) (by omega)).trans (World.frozen?_alloc_new _ _ _ _)
  · simp only [World.size_setCell]; omega
  · have h3 : But s t v w0 W := (h1.alloc _).trans h2
    have hle : w0.heap.size ≤ X.heap.size := h1.size
    exact ((((((((((((h3.setCell hle _).setCell hle _).setCell hle _).setCell hle _).setCell hle _).setCell hle _).setCell hle _).setCell hle _).setCell hle _).setCell hle _).setCell hle _).setCell hle _)
end Lead
