/-
  Plain: a block of several cells within a range over a function; moves one behind the other.
-/
import Derived.Test.YtlhadgnpkooiaaaGreatDoorBwd
import Derived.Test.YtlhadgnpkooiaaaGreatDoorMe
namespace Lead
open Go Go.RowKit
/-- A block holds these values, and may be written. -/
def Held (W : World) (b : Nat) (vs : Array Value) : Prop := ∀ (j : Nat) (v : Value), vs[j]? = some v → W.cell? ⟨b, j, none⟩ = some v ∧ W.frozen? ⟨b, j, none⟩ = false
theorem Held.kept {W W' : World} {row : Option Nat} {b : Nat} {vs : Array Value} (h : Held W b vs) (hg : W.grownBy W' row) (hr : ∀ r, row = some r → ∃ o : Obj, W.heap[r]? = some o ∧ o.isCells = false) : Held W' b vs :=
  fun j v hj => ⟨cell_kept (h j v hj).1 hg hr, (frozen_kept (h j v hj).1 hg hr).trans (h j v hj).2⟩
theorem Held.of {W W' : World} {b : Nat} {vs : Array Value} (h : Held W b vs) (hb : W'.heap[b]? = W.heap[b]?) : Held W' b vs :=
  fun j v hj => ⟨(World.cell?_of_block (a := ⟨b, j, none⟩) hb).trans (h j v hj).1, (World.frozen?_of_block (a := ⟨b, j, none⟩) hb).trans (h j v hj).2⟩
theorem Held.below {W W' : World} {b B : Nat} {vs : Array Value} (h : Held W b vs) (hB : Below B W W') (hb : b < B) : Held W' b vs := h.of (hB.block b hb)
theorem Held.alloc {W : World} {b : Nat} {vs : Array Value} (h : Held W b vs) (hb : b < W.heap.size) (o : Obj) : Held (W.alloc o) b vs := h.of (Below.heap_alloc W o b hb)
theorem Held.set {W : World} {b i : Nat} {vs : Array Value} (h : Held W b vs) (v : Value) (hi : i < vs.size) : Held (W.setCell ⟨b, i, none⟩ v) b (vs.set! i v) := by
  intro j u hj
  rw [World.frozen?_setCell]
  by_cases hij : i = j
  · subst hij
    have h1 := h i vs[i] (by simp [hi])
    simp [hi] at hj
    subst hj
    exact ⟨World.cell?_setCell_same' _ _ _ (by rw [h1.1]; rfl), h1.2⟩
  · have hj' : vs[j]? = some u := by rw [← hj]; simp [hij]
    have h1 := h j u hj'
    exact ⟨by rw [World.cell?_setCell_other _ _ _ _ (fun q => hij (by injection q))]; exact h1.1, h1.2⟩
theorem Held.other {W : World} {b c i : Nat} {vs : Array Value} (h : Held W b vs) (hne : b ≠ c) (v : Value) : Held (W.setCell ⟨c, i, none⟩ v) b vs := by
  intro j u hj
  rw [World.frozen?_setCell, World.cell?_setCell_other _ _ _ _ (fun q => hne (by injection q with q1; exact q1.symm))]
  exact h j u hj
theorem Held.s0 {W : World} {b : Nat} {o0 o1 o2 o3 o4 o5 o6 o7 o8 o9 o10 o11 : Value} (h : Held W b #[o0, o1, o2, o3, o4, o5, o6, o7, o8, o9, o10, o11]) (v0 : Value) : Held (W.setCell ⟨b, 0, none⟩ v0) b #[v0, o1, o2, o3, o4, o5, o6, o7, o8, o9, o10, o11] := h.set v0 (by simp)
theorem Held.s1 {W : World} {b : Nat} {v0 o1 o2 o3 o4 o5 o6 o7 o8 o9 o10 o11 : Value} (h : Held W b #[v0, o1, o2, o3, o4, o5, o6, o7, o8, o9, o10, o11]) (v1 : Value) : Held (W.setCell ⟨b, 1, none⟩ v1) b #[v0, v1, o2, o3, o4, o5, o6, o7, o8, o9, o10, o11] := h.set v1 (by simp)
theorem Held.s2 {W : World} {b : Nat} {v0 v1 o2 o3 o4 o5 o6 o7 o8 o9 o10 o11 : Value} (h : Held W b #[v0, v1, o2, o3, o4, o5, o6, o7, o8, o9, o10, o11]) (v2 : Value) : Held (W.setCell ⟨b, 2, none⟩ v2) b #[v0, v1, v2, o3, o4, o5, o6, o7, o8, o9, o10, o11] := h.set v2 (by simp)
theorem Held.s3 {W : World} {b : Nat} {v0 v1 v2 o3 o4 o5 o6 o7 o8 o9 o10 o11 : Value} (h : Held W b #[v0, v1, v2, o3, o4, o5, o6, o7, o8, o9, o10, o11]) (v3 : Value) : Held (W.setCell ⟨b, 3, none⟩ v3) b #[v0, v1, v2, v3, o4, o5, o6, o7, o8, o9, o10, o11] := h.set v3 (by simp)
theorem Held.s4 {W : World} {b : Nat} {v0 v1 v2 v3 o4 o5 o6 o7 o8 o9 o10 o11 : Value} (h : Held W b #[v0, v1, v2, v3, o4, o5, o6, o7, o8, o9, o10, o11]) (v4 : Value) : Held (W.setCell ⟨b, 4, none⟩ v4) b #[v0, v1, v2, v3, v4, o5, o6, o7, o8, o9, o10, o11] := h.set v4 (by simp)
theorem Held.s5 {W : World} {b : Nat} {v0 v1 v2 v3 v4 o5 o6 o7 o8 o9 o10 o11 : Value} (h : Held W b #[v0, v1, v2, v3, v4, o5, o6, o7, o8, o9, o10, o11]) (v5 : Value) : Held (W.setCell ⟨b, 5, none⟩ v5) b #[v0, v1, v2, v3, v4, v5, o6, o7, o8, o9, o10, o11] := h.set v5 (by simp)
theorem Held.s6 {W : World} {b : Nat} {v0 v1 v2 v3 v4 v5 o6 o7 o8 o9 o10 o11 : Value} (h : Held W b #[v0, v1, v2, v3, v4, v5, o6, o7, o8, o9, o10, o11]) (v6 : Value) : Held (W.setCell ⟨b, 6, none⟩ v6) b #[v0, v1, v2, v3, v4, v5, v6, o7, o8, o9, o10, o11] := h.set v6 (by simp)
theorem Held.s7 {W : World} {b : Nat} {v0 v1 v2 v3 v4 v5 v6 o7 o8 o9 o10 o11 : Value} (h : Held W b #[v0, v1, v2, v3, v4, v5, v6, o7, o8, o9, o10, o11]) (v7 : Value) : Held (W.setCell ⟨b, 7, none⟩ v7) b #[v0, v1, v2, v3, v4, v5, v6, v7, o8, o9, o10, o11] := h.set v7 (by simp)
theorem Held.s8 {W : World} {b : Nat} {v0 v1 v2 v3 v4 v5 v6 v7 o8 o9 o10 o11 : Value} (h : Held W b #[v0, v1, v2, v3, v4, v5, v6, v7, o8, o9, o10, o11]) (v8 : Value) : Held (W.setCell ⟨b, 8, none⟩ v8) b #[v0, v1, v2, v3, v4, v5, v6, v7, v8, o9, o10, o11] := h.set v8 (by simp)
theorem Held.s9 {W : World} {b : Nat} {v0 v1 v2 v3 v4 v5 v6 v7 v8 o9 o10 o11 : Value} (h : Held W b #[v0, v1, v2, v3, v4, v5, v6, v7, v8, o9, o10, o11]) (v9 : Value) : Held (W.setCell ⟨b, 9, none⟩ v9) b #[v0, v1, v2, v3, v4, v5, v6, v7, v8, v9, o10, o11] := h.set v9 (by simp)
theorem Held.s10 {W : World} {b : Nat} {v0 v1 v2 v3 v4 v5 v6 v7 v8 v9 o10 o11 : Value} (h : Held W b #[v0, v1, v2, v3, v4, v5, v6, v7, v8, v9, o10, o11]) (v10 : Value) : Held (W.setCell ⟨b, 10, none⟩ v10) b #[v0, v1, v2, v3, v4, v5, v6, v7, v8, v9, v10, o11] := h.set v10 (by simp)
theorem Held.s11 {W : World} {b : Nat} {v0 v1 v2 v3 v4 v5 v6 v7 v8 v9 v10 o11 : Value} (h : Held W b #[v0, v1, v2, v3, v4, v5, v6, v7, v8, v9, v10, o11]) (v11 : Value) : Held (W.setCell ⟨b, 11, none⟩ v11) b #[v0, v1, v2, v3, v4, v5, v6, v7, v8, v9, v10, v11] := h.set v11 (by simp)
theorem Held.set12 {W : World} {b : Nat} {o0 o1 o2 o3 o4 o5 o6 o7 o8 o9 o10 o11 : Value} (h : Held W b #[o0, o1, o2, o3, o4, o5, o6, o7, o8, o9, o10, o11]) (v0 v1 v2 v3 v4 v5 v6 v7 v8 v9 v10 v11 : Value) :
    Held ((((((((((((W.setCell ⟨b, 0, none⟩ v0).setCell ⟨b, 1, none⟩ v1).setCell ⟨b, 2, none⟩ v2).setCell ⟨b, 3, none⟩ v3).setCell ⟨b, 4, none⟩ v4).setCell ⟨b, 5, none⟩ v5).setCell ⟨b, 6, none⟩ v6).setCell ⟨b, 7, none⟩ v7).setCell ⟨b, 8, none⟩ v8).setCell ⟨b, 9, none⟩ v9).setCell ⟨b, 10, none⟩ v10).setCell ⟨b, 11, none⟩ v11) b #[v0, v1, v2, v3, v4, v5, v6, v7, v8, v9, v10, v11] := ((((((((((((h.s0 v0).s1 v1).s2 v2).s3 v3).s4 v4).s5 v5).s6 v6).s7 v7).s8 v8).s9 v9).s10 v10).s11 v11)
theorem Held.other12 {W : World} {b c : Nat} {vs : Array Value} (h : Held W b vs) (hne : b ≠ c) (v0 v1 v2 v3 v4 v5 v6 v7 v8 v9 v10 v11 : Value) :
    Held ((((((((((((W.setCell ⟨c, 0, none⟩ v0).setCell ⟨c, 1, none⟩ v1).setCell ⟨c, 2, none⟩ v2).setCell ⟨c, 3, none⟩ v3).setCell ⟨c, 4, none⟩ v4).setCell ⟨c, 5, none⟩ v5).setCell ⟨c, 6, none⟩ v6).setCell ⟨c, 7, none⟩ v7).setCell ⟨c, 8, none⟩ v8).setCell ⟨c, 9, none⟩ v9).setCell ⟨c, 10, none⟩ v10).setCell ⟨c, 11, none⟩ v11) b vs :=
  ((((((((((((h.other hne v0).other hne v1).other hne v2).other hne v3).other hne v4).other hne v5).other hne v6).other hne v7).other hne v8).other hne v9).other hne v10).other hne v11)
theorem held_new (W : World) (vs : Array Value) (t : TypeId) : Held (W.alloc (.cells vs t)) W.heap.size vs := fun _ _ hj => ⟨(World.cell?_alloc_new _ _ _ _).trans hj, World.frozen?_alloc_new _ _ _ _⟩
theorem held_of {W : World} {b : Nat} {vs : Array Value} (hc : ∀ j, W.cell? ⟨b, j, none⟩ = vs[j]?) (hf : ∀ j, W.frozen? ⟨b, j, none⟩ = false) : Held W b vs := fun j _ hj => ⟨(hc j).trans hj, hf j⟩
theorem Held.c12 {W : World} {b : Nat} {v0 v1 v2 v3 v4 v5 v6 v7 v8 v9 v10 v11 : Value} (h : Held W b #[v0, v1, v2, v3, v4, v5, v6, v7, v8, v9, v10, v11]) : W.cell? ⟨b, 0, none⟩ = some v0 ∧ W.cell? ⟨b, 1, none⟩ = some v1 ∧ W.cell? ⟨b, 2, none⟩ = some v2 ∧ W.cell? ⟨b, 3, none⟩ = some v3 ∧ W.cell? ⟨b, 4, none⟩ = some v4 ∧ W.cell? ⟨b, 5, none⟩ = some v5 ∧ W.cell? ⟨b, 6, none⟩ = some v6 ∧ W.cell? ⟨b, 7, none⟩ = some v7 ∧ W.cell? ⟨b, 8, none⟩ = some v8 ∧ W.cell? ⟨b, 9, none⟩ = some v9 ∧ W.cell? ⟨b, 10, none⟩ = some v10 ∧ W.cell? ⟨b, 11, none⟩ = some v11 :=
  ⟨(h 0 _ rfl).1, (h 1 _ rfl).1, (h 2 _ rfl).1, (h 3 _ rfl).1, (h 4 _ rfl).1, (h 5 _ rfl).1, (h 6 _ rfl).1, (h 7 _ rfl).1, (h 8 _ rfl).1, (h 9 _ rfl).1, (h 10 _ rfl).1, (h 11 _ rfl).1⟩
theorem Held.f12 {W : World} {b : Nat} {v0 v1 v2 v3 v4 v5 v6 v7 v8 v9 v10 v11 : Value} (h : Held W b #[v0, v1, v2, v3, v4, v5, v6, v7, v8, v9, v10, v11]) : W.frozen? ⟨b, 0, none⟩ = false ∧ W.frozen? ⟨b, 1, none⟩ = false ∧ W.frozen? ⟨b, 2, none⟩ = false ∧ W.frozen? ⟨b, 3, none⟩ = false ∧ W.frozen? ⟨b, 4, none⟩ = false ∧ W.frozen? ⟨b, 5, none⟩ = false ∧ W.frozen? ⟨b, 6, none⟩ = false ∧ W.frozen? ⟨b, 7, none⟩ = false ∧ W.frozen? ⟨b, 8, none⟩ = false ∧ W.frozen? ⟨b, 9, none⟩ = false ∧ W.frozen? ⟨b, 10, none⟩ = false ∧ W.frozen? ⟨b, 11, none⟩ = false :=
  ⟨(h 0 _ rfl).2, (h 1 _ rfl).2, (h 2 _ rfl).2, (h 3 _ rfl).2, (h 4 _ rfl).2, (h 5 _ rfl).2, (h 6 _ rfl).2, (h 7 _ rfl).2, (h 8 _ rfl).2, (h 9 _ rfl).2, (h 10 _ rfl).2, (h 11 _ rfl).2⟩
theorem Held.lt {W : World} {b : Nat} {v : Value} {vs : Array Value} (h : Held W b vs) (h0 : vs[0]? = some v) : b < W.heap.size := World.block_lt_of_cell? W _ (h 0 v h0).1
theorem kept_below {W W' : World} (h : Below W.heap.size W W') : KeepsOthers W W' := ⟨h.size, fun k o hk _ => by rw [h.block k (Array.getElem?_eq_some_iff.1 hk).1]; exact hk⟩
theorem kept_set12 (W : World) (b : Nat) (v0 v1 v2 v3 v4 v5 v6 v7 v8 v9 v10 v11 : Value) : KeepsOthers W ((((((((((((W.setCell ⟨b, 0, none⟩ v0).setCell ⟨b, 1, none⟩ v1).setCell ⟨b, 2, none⟩ v2).setCell ⟨b, 3, none⟩ v3).setCell ⟨b, 4, none⟩ v4).setCell ⟨b, 5, none⟩ v5).setCell ⟨b, 6, none⟩ v6).setCell ⟨b, 7, none⟩ v7).setCell ⟨b, 8, none⟩ v8).setCell ⟨b, 9, none⟩ v9).setCell ⟨b, 10, none⟩ v10).setCell ⟨b, 11, none⟩ v11) := ((((((((((((KeepsOthers.refl W).trans (KeepsOthers.setCell _ _ _)).trans (KeepsOthers.setCell _ _ _)).trans (KeepsOthers.setCell _ _ _)).trans (KeepsOthers.setCell _ _ _)).trans (KeepsOthers.setCell _ _ _)).trans (KeepsOthers.setCell _ _ _)).trans (KeepsOthers.setCell _ _ _)).trans (KeepsOthers.setCell _ _ _)).trans (KeepsOthers.setCell _ _ _)).trans (KeepsOthers.setCell _ _ _)).trans (KeepsOthers.setCell _ _ _)).trans (KeepsOthers.setCell _ _ _)
theorem heap_set12 {W : World} {b k : Nat} (hk : k ≠ b) (v0 v1 v2 v3 v4 v5 v6 v7 v8 v9 v10 v11 : Value) : ((((((((((((W.setCell ⟨b, 0, none⟩ v0).setCell ⟨b, 1, none⟩ v1).setCell ⟨b, 2, none⟩ v2).setCell ⟨b, 3, none⟩ v3).setCell ⟨b, 4, none⟩ v4).setCell ⟨b, 5, none⟩ v5).setCell ⟨b, 6, none⟩ v6).setCell ⟨b, 7, none⟩ v7).setCell ⟨b, 8, none⟩ v8).setCell ⟨b, 9, none⟩ v9).setCell ⟨b, 10, none⟩ v10).setCell ⟨b, 11, none⟩ v11).heap[k]? = W.heap[k]? := by
  rw [Below.heap_setCell _ _ _ _ hk, Below.heap_setCell _ _ _ _ hk, Below.heap_setCell _ _ _ _ hk, Below.heap_setCell _ _ _ _ hk, Below.heap_setCell _ _ _ _ hk, Below.heap_setCell _ _ _ _ hk, Below.heap_setCell _ _ _ _ hk, Below.heap_setCell _ _ _ _ hk, Below.heap_setCell _ _ _ _ hk, Below.heap_setCell _ _ _ _ hk, Below.heap_setCell _ _ _ _ hk, Below.heap_setCell _ _ _ _ hk]
theorem same2_below {W W' : World} {b c : Nat} (h : Below W.heap.size W W') (hb : b < W.heap.size) (hc : c < W.heap.size) : Same2 b c W W' := ⟨h.block b hb, h.block c hc⟩
theorem same2_set12 {W : World} {b c d : Nat} (hb : b ≠ d) (hc : c ≠ d) (v0 v1 v2 v3 v4 v5 v6 v7 v8 v9 v10 v11 : Value) : Same2 b c W ((((((((((((W.setCell ⟨d, 0, none⟩ v0).setCell ⟨d, 1, none⟩ v1).setCell ⟨d, 2, none⟩ v2).setCell ⟨d, 3, none⟩ v3).setCell ⟨d, 4, none⟩ v4).setCell ⟨d, 5, none⟩ v5).setCell ⟨d, 6, none⟩ v6).setCell ⟨d, 7, none⟩ v7).setCell ⟨d, 8, none⟩ v8).setCell ⟨d, 9, none⟩ v9).setCell ⟨d, 10, none⟩ v10).setCell ⟨d, 11, none⟩ v11) := ⟨heap_set12 hb v0 v1 v2 v3 v4 v5 v6 v7 v8 v9 v10 v11, heap_set12 hc v0 v1 v2 v3 v4 v5 v6 v7 v8 v9 v10 v11⟩
theorem below_set12 {B b : Nat} {w W : World} (h : Below B w W) (hb : B ≤ b) (v0 v1 v2 v3 v4 v5 v6 v7 v8 v9 v10 v11 : Value) : Below B w ((((((((((((W.setCell ⟨b, 0, none⟩ v0).setCell ⟨b, 1, none⟩ v1).setCell ⟨b, 2, none⟩ v2).setCell ⟨b, 3, none⟩ v3).setCell ⟨b, 4, none⟩ v4).setCell ⟨b, 5, none⟩ v5).setCell ⟨b, 6, none⟩ v6).setCell ⟨b, 7, none⟩ v7).setCell ⟨b, 8, none⟩ v8).setCell ⟨b, 9, none⟩ v9).setCell ⟨b, 10, none⟩ v10).setCell ⟨b, 11, none⟩ v11) := ((((((((((((h.setCell (p := ⟨b, 0, none⟩) hb _).setCell (p := ⟨b, 1, none⟩) hb _).setCell (p := ⟨b, 2, none⟩) hb _).setCell (p := ⟨b, 3, none⟩) hb _).setCell (p := ⟨b, 4, none⟩) hb _).setCell (p := ⟨b, 5, none⟩) hb _).setCell (p := ⟨b, 6, none⟩) hb _).setCell (p := ⟨b, 7, none⟩) hb _).setCell (p := ⟨b, 8, none⟩) hb _).setCell (p := ⟨b, 9, none⟩) hb _).setCell (p := ⟨b, 10, none⟩) hb _).setCell (p := ⟨b, 11, none⟩) hb _)
theorem size_set12 (W : World) (b : Nat) (v0 v1 v2 v3 v4 v5 v6 v7 v8 v9 v10 v11 : Value) : ((((((((((((W.setCell ⟨b, 0, none⟩ v0).setCell ⟨b, 1, none⟩ v1).setCell ⟨b, 2, none⟩ v2).setCell ⟨b, 3, none⟩ v3).setCell ⟨b, 4, none⟩ v4).setCell ⟨b, 5, none⟩ v5).setCell ⟨b, 6, none⟩ v6).setCell ⟨b, 7, none⟩ v7).setCell ⟨b, 8, none⟩ v8).setCell ⟨b, 9, none⟩ v9).setCell ⟨b, 10, none⟩ v10).setCell ⟨b, 11, none⟩ v11).heap.size = W.heap.size := by simp only [World.size_setCell]
/-- One more move behind others. -/
theorem foldM_snoc (m : Mv) : ∀ (l : List Mv) (o : Mv), foldM o (l ++ [m]) = if (foldM o l).1 = 0 then (if thenC (foldM o l).2 m = (0, none) then (0, thenV (foldM o l).2 m) else (2, zMv)) else foldM o l
  | [], o => by
    show (if thenC o m = (0, none) then foldM (thenV o m) [] else (2, zMv)) = _
    rw [show foldM o [] = (0, o) from rfl, if_pos rfl]; rfl
  | a :: r, o => by
    show (if thenC o a = (0, none) then foldM (thenV o a) (r ++ [m]) else (2, zMv)) = _
    rw [show foldM o (a :: r) = (if thenC o a = (0, none) then foldM (thenV o a) r else (2, zMv)) from rfl]
    by_cases h : thenC o a = (0, none)
    · rw [if_pos h, if_pos h]; exact foldM_snoc m r _
    · rw [if_neg h, if_neg h, if_neg (by decide)]
theorem foldM_stop (l : List Mv) : ∀ (r : List Mv) (o : Mv), (foldM o l).1 ≠ 0 → foldM o (l ++ r) = foldM o l
  | [], _, _ => by rw [List.append_nil]
  | m :: r, o, h => by
    have e : l ++ m :: r = (l ++ [m]) ++ r := by simp
    have k := foldM_snoc m l o
    rw [if_neg h] at k
    rw [e, foldM_stop (l ++ [m]) r o (by rw [k]; exact h), k]
end Lead
