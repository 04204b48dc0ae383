/-
  Plain: a block whose cells are written one by one.
-/
import Derived.Test.YtbekidefgdijkaaGreatDoorPa
namespace Lead
open Go Go.RowKit
theorem set1 {w : World} {g i : Nat} {z : Array Value} (hz : ∀ j, w.cell? ⟨g, j, none⟩ = z[j]?) (v : Value) (hi : i < z.size) : ∀ j, (w.setCell ⟨g, i, none⟩ v).cell? ⟨g, j, none⟩ = (z.set! i v)[j]? := by
  intro j
  by_cases h : i = j
  · subst h
    rw [World.cell?_setCell_same' _ _ _ (by rw [hz, Array.getElem?_eq_getElem hi]; rfl)]
    simp [hi]
  · rw [World.cell?_setCell_other _ _ _ _ (fun e => h (by injection e)), hz]
    simp [h]
theorem set4 {w : World} {g : Nat} (hz : ∀ j, w.cell? ⟨g, j, none⟩ = (#[.int .i64 0, .int .i64 0, .int .i64 0, .int .i64 0] : Array Value)[j]?) (v0 v1 v2 v3 : Value) :
    ∀ j, ((((w.setCell ⟨g, 0, none⟩ v0).setCell ⟨g, 1, none⟩ v1).setCell ⟨g, 2, none⟩ v2).setCell ⟨g, 3, none⟩ v3).cell? ⟨g, j, none⟩ = (#[v0, v1, v2, v3] : Array Value)[j]? := by
  have e0 := hz
  have e1 : ∀ j, (w.setCell ⟨g, 0, none⟩ v0).cell? ⟨g, j, none⟩ = (#[v0, .int .i64 0, .int .i64 0, .int .i64 0] : Array Value)[j]? := set1 (z := (#[.int .i64 0, .int .i64 0, .int .i64 0, .int .i64 0] : Array Value)) (i := 0) e0 v0 (by simp)
  have e2 : ∀ j, ((w.setCell ⟨g, 0, none⟩ v0).setCell ⟨g, 1, none⟩ v1).cell? ⟨g, j, none⟩ = (#[v0, v1, .int .i64 0, .int .i64 0] : Array Value)[j]? := set1 (z := (#[v0, .int .i64 0, .int .i64 0, .int .i64 0] : Array Value)) (i := 1) e1 v1 (by simp)
  have e3 : ∀ j, (((w.setCell ⟨g, 0, none⟩ v0).setCell ⟨g, 1, none⟩ v1).setCell ⟨g, 2, none⟩ v2).cell? ⟨g, j, none⟩ = (#[v0, v1, v2, .int .i64 0] : Array Value)[j]? := set1 (z := (#[v0, v1, .int .i64 0, .int .i64 0] : Array Value)) (i := 2) e2 v2 (by simp)
  have e4 : ∀ j, ((((w.setCell ⟨g, 0, none⟩ v0).setCell ⟨g, 1, none⟩ v1).setCell ⟨g, 2, none⟩ v2).setCell ⟨g, 3, none⟩ v3).cell? ⟨g, j, none⟩ = (#[v0, v1, v2, v3] : Array Value)[j]? := set1 (z := (#[v0, v1, v2, .int .i64 0] : Array Value)) (i := 3) e3 v3 (by simp)
  exact e4
theorem set4d {w : World} {g : Nat} (hz : ∀ j, w.cell? ⟨g, j, none⟩ = (#[.int .i64 0, .int .i64 0, .int .i64 0, .int .i64 0] : Array Value)[j]?) (v0 v1 v2 v3 : Value) :
    ∀ j, (((((w.setCell ⟨g, 0, none⟩ v0).setCell ⟨g, 1, none⟩ v1).setCell ⟨g, 2, none⟩ v2).setCell ⟨g, 3, none⟩ v3).drew).cell? ⟨g, j, none⟩ = (#[v0, v1, v2, v3] : Array Value)[j]? := by
  have h := set4 hz v0 v1 v2 v3
  intro j
  rw [World.cell?_drew]
  exact h j
theorem set4a {w : World} {g : Nat} {o : Obj} (hg : g < w.heap.size) (hz : ∀ j, w.cell? ⟨g, j, none⟩ = (#[.int .i64 0, .int .i64 0, .int .i64 0, .int .i64 0] : Array Value)[j]?) (v0 v1 v2 v3 : Value) :
    ∀ j, (((((w.setCell ⟨g, 0, none⟩ v0).setCell ⟨g, 1, none⟩ v1).setCell ⟨g, 2, none⟩ v2).setCell ⟨g, 3, none⟩ v3).alloc o).cell? ⟨g, j, none⟩ = (#[v0, v1, v2, v3] : Array Value)[j]? := by
  have h := set4 hz v0 v1 v2 v3
  intro j
  rw [World.cell?_alloc_past _ _ _ (by simp only [World.size_setCell]; exact hg)]
  exact h j
theorem set4ad {w : World} {g : Nat} {o : Obj} (hg : g < w.heap.size) (hz : ∀ j, w.cell? ⟨g, j, none⟩ = (#[.int .i64 0, .int .i64 0, .int .i64 0, .int .i64 0] : Array Value)[j]?) (v0 v1 v2 v3 : Value) :
    ∀ j, (((((w.setCell ⟨g, 0, none⟩ v0).setCell ⟨g, 1, none⟩ v1).setCell ⟨g, 2, none⟩ v2).setCell ⟨g, 3, none⟩ v3).alloc o).drew.cell? ⟨g, j, none⟩ = (#[v0, v1, v2, v3] : Array Value)[j]? := by
  have h := set4 hz v0 v1 v2 v3
  intro j
  rw [World.cell?_drew, World.cell?_alloc_past _ _ _ (by simp only [World.size_setCell]; exact hg)]
  exact h j
theorem set12 {w : World} {g : Nat} (hz : ∀ j, w.cell? ⟨g, j, none⟩ = (#[.int .i64 0, .int .i64 0, .int .i64 0, .int .i64 0, .int .i64 0, .int .i64 0, .int .i64 0, .int .i64 0, .int .i64 0, .int .i64 0, .int .i64 0, .int .i64 0] : Array Value)[j]?) (v0 v1 v2 v3 v4 v5 v6 v7 v8 v9 v10 v11 : Value) :
    ∀ j, ((((((((((((w.setCell ⟨g, 0, none⟩ v0).setCell ⟨g, 1, none⟩ v1).setCell ⟨g, 2, none⟩ v2).setCell ⟨g, 3, none⟩ v3).setCell ⟨g, 4, none⟩ v4).setCell ⟨g, 5, none⟩ v5).setCell ⟨g, 6, none⟩ v6).setCell ⟨g, 7, none⟩ v7).setCell ⟨g, 8, none⟩ v8).setCell ⟨g, 9, none⟩ v9).setCell ⟨g, 10, none⟩ v10).setCell ⟨g, 11, none⟩ v11).cell? ⟨g, j, none⟩ = (#[v0, v1, v2, v3, v4, v5, v6, v7, v8, v9, v10, v11] : Array Value)[j]? := by
  have e0 := hz
  have e1 : ∀ j, (w.setCell ⟨g, 0, none⟩ v0).cell? ⟨g, j, none⟩ = (#[v0, .int .i64 0, .int .i64 0, .int .i64 0, .int .i64 0, .int .i64 0, .int .i64 0, .int .i64 0, .int .i64 0, .int .i64 0, .int .i64 0, .int .i64 0] : Array Value)[j]? := set1 (z := (#[.int .i64 0, .int .i64 0, .int .i64 0, .int .i64 0, .int .i64 0, .int .i64 0, .int .i64 0, .int .i64 0, .int .i64 0, .int .i64 0, .int .i64 0, .int .i64 0] : Array Value)) (i := 0) e0 v0 (by simp)
  have e2 : ∀ j, ((w.setCell ⟨g, 0, none⟩ v0).setCell ⟨g, 1, none⟩ v1).cell? ⟨g, j, none⟩ = (#[v0, v1, .int .i64 0, .int .i64 0, .int .i64 0, .int .i64 0, .int .i64 0, .int .i64 0, .int .i64 0, .int .i64 0, .int .i64 0, .int .i64 0] : Array Value)[j]? := set1 (z := (#[v0, .int .i64 0, .int .i64 0, .int .i64 0, .int .i64 0, .int .i64 0, .int .i64 0, .int .i64 0, .int .i64 0, .int .i64 0, .int .i64 0, .int .i64 0] : Array Value)) (i := 1) e1 v1 (by simp)
  have e3 : ∀ j, (((w.setCell ⟨g, 0, none⟩ v0).setCell ⟨g, 1, none⟩ v1).setCell ⟨g, 2, none⟩ v2).cell? ⟨g, j, none⟩ = (#[v0, v1, v2, .int .i64 0, .int .i64 0, .int .i64 0, .int .i64 0, .int .i64 0, .int .i64 0, .int .i64 0, .int .i64 0, .int .i64 0] : Array Value)[j]? := set1 (z := (#[v0, v1, .int .i64 0, .int .i64 0, .int .i64 0, .int .i64 0, .int .i64 0, .int .i64 0, .int .i64 0, .int .i64 0, .int .i64 0, .int .i64 0] : Array Value)) (i := 2) e2 v2 (by simp)
  have e4 : ∀ j, ((((w.setCell ⟨g, 0, none⟩ v0).setCell ⟨g, 1, none⟩ v1).setCell ⟨g, 2, none⟩ v2).setCell ⟨g, 3, none⟩ v3).cell? ⟨g, j, none⟩ = (#[v0, v1, v2, v3, .int .i64 0, .int .i64 0, .int .i64 0, .int .i64 0, .int .i64 0, .int .i64 0, .int .i64 0, .int .i64 0] : Array Value)[j]? := set1 (z := (#[v0, v1, v2, .int .i64 0, .int .i64 0, .int .i64 0, .int .i64 0, .int .i64 0, .int .i64 0, .int .i64 0, .int .i64 0, .int .i64 0] : Array Value)) (i := 3) e3 v3 (by simp)
  have e5 : ∀ j, (((((w.setCell ⟨g, 0, none⟩ v0).setCell ⟨g, 1, none⟩ v1).setCell ⟨g, 2, none⟩ v2).setCell ⟨g, 3, none⟩ v3).setCell ⟨g, 4, none⟩ v4).cell? ⟨g, j, none⟩ = (#[v0, v1, v2, v3, v4, .int .i64 0, .int .i64 0, .int .i64 0, .int .i64 0, .int .i64 0, .int .i64 0, .int .i64 0] : Array Value)[j]? := set1 (z := (#[v0, v1, v2, v3, .int .i64 0, .int .i64 0, .int .i64 0, .int .i64 0, .int .i64 0, .int .i64 0, .int .i64 0, .int .i64 0] : Array Value)) (i := 4) e4 v4 (by simp)
  have e6 : ∀ j, ((((((w.setCell ⟨g, 0, none⟩ v0).setCell ⟨g, 1, none⟩ v1).setCell ⟨g, 2, none⟩ v2).setCell ⟨g, 3, none⟩ v3).setCell ⟨g, 4, none⟩ v4).setCell ⟨g, 5, none⟩ v5).cell? ⟨g, j, none⟩ = (#[v0, v1, v2, v3, v4, v5, .int .i64 0, .int .i64 0, .int .i64 0, .int .i64 0, .int .i64 0, .int .i64 0] : Array Value)[j]? := set1 (z := (#[v0, v1, v2, v3, v4, .int .i64 0, .int .i64 0, .int .i64 0, .int .i64 0, .int .i64 0, .int .i64 0, .int .i64 0] : Array Value)) (i := 5) e5 v5 (by simp)
  have e7 : ∀ j, (((((((w.setCell ⟨g, 0, none⟩ v0).setCell ⟨g, 1, none⟩ v1).setCell ⟨g, 2, none⟩ v2).setCell ⟨g, 3, none⟩ v3).setCell ⟨g, 4, none⟩ v4).setCell ⟨g, 5, none⟩ v5).setCell ⟨g, 6, none⟩ v6).cell? ⟨g, j, none⟩ = (#[v0, v1, v2, v3, v4, v5, v6, .int .i64 0, .int .i64 0, .int .i64 0, .int .i64 0, .int .i64 0] : Array Value)[j]? := set1 (z := (#[v0, v1, v2, v3, v4, v5, .int .i64 0, .int .i64 0, .int .i64 0, .int .i64 0, .int .i64 0, .int .i64 0] : Array Value)) (i := 6) e6 v6 (by simp)
  have e8 : ∀ j, ((((((((w.setCell ⟨g, 0, none⟩ v0).setCell ⟨g, 1, none⟩ v1).setCell ⟨g, 2, none⟩ v2).setCell ⟨g, 3, none⟩ v3).setCell ⟨g, 4, none⟩ v4).setCell ⟨g, 5, none⟩ v5).setCell ⟨g, 6, none⟩ v6).setCell ⟨g, 7, none⟩ v7).cell? ⟨g, j, none⟩ = (#[v0, v1, v2, v3, v4, v5, v6, v7, .int .i64 0, .int .i64 0, .int .i64 0, .int .i64 0] : Array Value)[j]? := set1 (z := (#[v0, v1, v2, v3, v4, v5, v6, .int .i64 0, .int .i64 0, .int .i64 0, .int .i64 0, .int .i64 0] : Array Value)) (i := 7) e7 v7 (by simp)
  have e9 : ∀ j, (((((((((w.setCell ⟨g, 0, none⟩ v0).setCell ⟨g, 1, none⟩ v1).setCell ⟨g, 2, none⟩ v2).setCell ⟨g, 3, none⟩ v3).setCell ⟨g, 4, none⟩ v4).setCell ⟨g, 5, none⟩ v5).setCell ⟨g, 6, none⟩ v6).setCell ⟨g, 7, none⟩ v7).setCell ⟨g, 8, none⟩ v8).cell? ⟨g, j, none⟩ = (#[v0, v1, v2, v3, v4, v5, v6, v7, v8, .int .i64 0, .int .i64 0, .int .i64 0] : Array Value)[j]? := set1 (z := (#[v0, v1, v2, v3, v4, v5, v6, v7, .int .i64 0, .int .i64 0, .int .i64 0, .int .i64 0] : Array Value)) (i := 8) e8 v8 (by simp)
  have e10 : ∀ j, ((((((((((w.setCell ⟨g, 0, none⟩ v0).setCell ⟨g, 1, none⟩ v1).setCell ⟨g, 2, none⟩ v2).setCell ⟨g, 3, none⟩ v3).setCell ⟨g, 4, none⟩ v4).setCell ⟨g, 5, none⟩ v5).setCell ⟨g, 6, none⟩ v6).setCell ⟨g, 7, none⟩ v7).setCell ⟨g, 8, none⟩ v8).setCell ⟨g, 9, none⟩ v9).cell? ⟨g, j, none⟩ = (#[v0, v1, v2, v3, v4, v5, v6, v7, v8, v9, .int .i64 0, .int .i64 0] : Array Value)[j]? := set1 (z := (#[v0, v1, v2, v3, v4, v5, v6, v7, v8, .int .i64 0, .int .i64 0, .int .i64 0] : Array Value)) (i := 9) e9 v9 (by simp)
  have e11 : ∀ j, (((((((((((w.setCell ⟨g, 0, none⟩ v0).setCell ⟨g, 1, none⟩ v1).setCell ⟨g, 2, none⟩ v2).setCell ⟨g, 3, none⟩ v3).setCell ⟨g, 4, none⟩ v4).setCell ⟨g, 5, none⟩ v5).setCell ⟨g, 6, none⟩ v6).setCell ⟨g, 7, none⟩ v7).setCell ⟨g, 8, none⟩ v8).setCell ⟨g, 9, none⟩ v9).setCell ⟨g, 10, none⟩ v10).cell? ⟨g, j, none⟩ = (#[v0, v1, v2, v3, v4, v5, v6, v7, v8, v9, v10, .int .i64 0] : Array Value)[j]? := set1 (z := (#[v0, v1, v2, v3, v4, v5, v6, v7, v8, v9, .int .i64 0, .int .i64 0] : Array Value)) (i := 10) e10 v10 (by simp)
  have e12 : ∀ j, ((((((((((((w.setCell ⟨g, 0, none⟩ v0).setCell ⟨g, 1, none⟩ v1).setCell ⟨g, 2, none⟩ v2).setCell ⟨g, 3, none⟩ v3).setCell ⟨g, 4, none⟩ v4).setCell ⟨g, 5, none⟩ v5).setCell ⟨g, 6, none⟩ v6).setCell ⟨g, 7, none⟩ v7).setCell ⟨g, 8, none⟩ v8).setCell ⟨g, 9, none⟩ v9).setCell ⟨g, 10, none⟩ v10).setCell ⟨g, 11, none⟩ v11).cell? ⟨g, j, none⟩ = (#[v0, v1, v2, v3, v4, v5, v6, v7, v8, v9, v10, v11] : Array Value)[j]? := set1 (z := (#[v0, v1, v2, v3, v4, v5, v6, v7, v8, v9, v10, .int .i64 0] : Array Value)) (i := 11) e11 v11 (by simp)
  exact e12
theorem set12d {w : World} {g : Nat} (hz : ∀ j, w.cell? ⟨g, j, none⟩ = (#[.int .i64 0, .int .i64 0, .int .i64 0, .int .i64 0, .int .i64 0, .int .i64 0, .int .i64 0, .int .i64 0, .int .i64 0, .int .i64 0, .int .i64 0, .int .i64 0] : Array Value)[j]?) (v0 v1 v2 v3 v4 v5 v6 v7 v8 v9 v10 v11 : Value) :
    ∀ j, (((((((((((((w.setCell ⟨g, 0, none⟩ v0).setCell ⟨g, 1, none⟩ v1).setCell ⟨g, 2, none⟩ v2).setCell ⟨g, 3, none⟩ v3).setCell ⟨g, 4, none⟩ v4).setCell ⟨g, 5, none⟩ v5).setCell ⟨g, 6, none⟩ v6).setCell ⟨g, 7, none⟩ v7).setCell ⟨g, 8, none⟩ v8).setCell ⟨g, 9, none⟩ v9).setCell ⟨g, 10, none⟩ v10).setCell ⟨g, 11, none⟩ v11).drew).cell? ⟨g, j, none⟩ = (#[v0, v1, v2, v3, v4, v5, v6, v7, v8, v9, v10, v11] : Array Value)[j]? := by
  have h := set12 hz v0 v1 v2 v3 v4 v5 v6 v7 v8 v9 v10 v11
  intro j
  rw [World.cell?_drew]
  exact h j
theorem set12a {w : World} {g : Nat} {o : Obj} (hg : g < w.heap.size) (hz : ∀ j, w.cell? ⟨g, j, none⟩ = (#[.int .i64 0, .int .i64 0, .int .i64 0, .int .i64 0, .int .i64 0, .int .i64 0, .int .i64 0, .int .i64 0, .int .i64 0, .int .i64 0, .int .i64 0, .int .i64 0] : Array Value)[j]?) (v0 v1 v2 v3 v4 v5 v6 v7 v8 v9 v10 v11 : Value) :
    ∀ j, (((((((((((((w.setCell ⟨g, 0, none⟩ v0).setCell ⟨g, 1, none⟩ v1).setCell ⟨g, 2, none⟩ v2).setCell ⟨g, 3, none⟩ v3).setCell ⟨g, 4, none⟩ v4).setCell ⟨g, 5, none⟩ v5).setCell ⟨g, 6, none⟩ v6).setCell ⟨g, 7, none⟩ v7).setCell ⟨g, 8, none⟩ v8).setCell ⟨g, 9, none⟩ v9).setCell ⟨g, 10, none⟩ v10).setCell ⟨g, 11, none⟩ v11).alloc o).cell? ⟨g, j, none⟩ = (#[v0, v1, v2, v3, v4, v5, v6, v7, v8, v9, v10, v11] : Array Value)[j]? := by
  have h := set12 hz v0 v1 v2 v3 v4 v5 v6 v7 v8 v9 v10 v11
  intro j
  rw [World.cell?_alloc_past _ _ _ (by simp only [World.size_setCell]; exact hg)]
  exact h j
theorem set12ad {w : World} {g : Nat} {o : Obj} (hg : g < w.heap.size) (hz : ∀ j, w.cell? ⟨g, j, none⟩ = (#[.int .i64 0, .int .i64 0, .int .i64 0, .int .i64 0, .int .i64 0, .int .i64 0, .int .i64 0, .int .i64 0, .int .i64 0, .int .i64 0, .int .i64 0, .int .i64 0] : Array Value)[j]?) (v0 v1 v2 v3 v4 v5 v6 v7 v8 v9 v10 v11 : Value) :
    ∀ j, (((((((((((((w.setCell ⟨g, 0, none⟩ v0).setCell ⟨g, 1, none⟩ v1).setCell ⟨g, 2, none⟩ v2).setCell ⟨g, 3, none⟩ v3).setCell ⟨g, 4, none⟩ v4).setCell ⟨g, 5, none⟩ v5).setCell ⟨g, 6, none⟩ v6).setCell ⟨g, 7, none⟩ v7).setCell ⟨g, 8, none⟩ v8).setCell ⟨g, 9, none⟩ v9).setCell ⟨g, 10, none⟩ v10).setCell ⟨g, 11, none⟩ v11).alloc o).drew.cell? ⟨g, j, none⟩ = (#[v0, v1, v2, v3, v4, v5, v6, v7, v8, v9, v10, v11] : Array Value)[j]? := by
  have h := set12 hz v0 v1 v2 v3 v4 v5 v6 v7 v8 v9 v10 v11
  intro j
  rw [World.cell?_drew, World.cell?_alloc_past _ _ _ (by simp only [World.size_setCell]; exact hg)]
  exact h j
theorem oth2 {w : World} {g r : Nat} (h : g ≠ r) {i0 i1 : Nat} {v0 v1 : Value} (j : Nat) : ((w.setCell ⟨g, i0, none⟩ v0).setCell ⟨g, i1, none⟩ v1).cell? ⟨r, j, none⟩ = w.cell? ⟨r, j, none⟩ := by
  rw [World.cell?_setCell_other _ _ _ _ (fun e => h (by injection e)), World.cell?_setCell_other _ _ _ _ (fun e => h (by injection e))]
theorem oth4 {w : World} {g r : Nat} (h : g ≠ r) {i0 i1 i2 i3 : Nat} {v0 v1 v2 v3 : Value} (j : Nat) : ((((w.setCell ⟨g, i0, none⟩ v0).setCell ⟨g, i1, none⟩ v1).setCell ⟨g, i2, none⟩ v2).setCell ⟨g, i3, none⟩ v3).cell? ⟨r, j, none⟩ = w.cell? ⟨r, j, none⟩ := by
  rw [World.cell?_setCell_other _ _ _ _ (fun e => h (by injection e)), World.cell?_setCell_other _ _ _ _ (fun e => h (by injection e)), World.cell?_setCell_other _ _ _ _ (fun e => h (by injection e)), World.cell?_setCell_other _ _ _ _ (fun e => h (by injection e))]
theorem st2at {w : World} {g i0 i1 t : Nat} {v0 v1 : Value} {c : Array Value} (j : Nat) : (((w.setCell ⟨g, i0, none⟩ v0).setCell ⟨g, i1, none⟩ v1).alloc (.cells c t)).cell? ⟨w.heap.size, j, none⟩ = c[j]? := World.cell?_alloc_at _ _ _ _ (by simp only [World.size_setCell])
theorem st4at {w : World} {g i0 i1 i2 i3 t : Nat} {v0 v1 v2 v3 : Value} {c : Array Value} (j : Nat) : (((((w.setCell ⟨g, i0, none⟩ v0).setCell ⟨g, i1, none⟩ v1).setCell ⟨g, i2, none⟩ v2).setCell ⟨g, i3, none⟩ v3).alloc (.cells c t)).cell? ⟨w.heap.size, j, none⟩ = c[j]? := World.cell?_alloc_at _ _ _ _ (by simp only [World.size_setCell])
end Lead
