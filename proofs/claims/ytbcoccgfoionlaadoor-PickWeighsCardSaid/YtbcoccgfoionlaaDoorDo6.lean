/-
  Walks over package doc: Move.
-/
import Derived.Test.YtbcoccgfoionlaaDoorDo5
namespace Lead.Dc
open Go Go.RowKit Lead
variable {E : Els} {next : Nat} {d : Nat → Nat}
theorem move_eq (E : Els) {a b p : Nat} (j : Nat) (hap : a ≠ p) (hab : a ≠ b) : upd (upd (offE E a p) a (fun e => { e with parent := (b : Int) })) b (fun e => { e with kids := insK e.kids j a }) = moveE E a b j p := by
  unfold offE upd moveE
  rw [List.map_map, List.map_map]
  refine List.map_congr_left fun x _ => ?_
  obtain ⟨k, e⟩ := x
  unfold mvEl
  simp only [Function.comp]
  by_cases h1 : k = p
  · subst h1
    have h2 : ¬ k = a := fun h => hap h.symm
    by_cases h3 : k = b
    · subst h3; simp [h2]
    · simp [h2, h3]
  · by_cases h2 : k = a
    · subst h2; simp [h1, hab]
    · by_cases h3 : k = b
      · subst h3; simp [h1, h2]
      · simp [h1, h2, h3]
theorem offK_len {l : List Nat} {n : Nat} (h : l.Nodup) (hn : n ∈ l) : (offK l n).length + 1 = l.length := (insK_offK h hn).2.2
def toI (l : List Nat) : List Int := l.map fun n : Nat => (n : Int)
theorem toI_contains (l : List Nat) (b : Nat) : (toI l).contains (b : Int) = decide (b ∈ l) := by
  rw [Bool.eq_iff_iff, List.contains_iff_mem, decide_eq_true_iff]
  unfold toI
  rw [List.mem_map]
  constructor
  · rintro ⟨x, hx, h⟩
    have : x = b := by omega
    exact this ▸ hx
  · intro h; exact ⟨b, h, rfl⟩
theorem toI_cells {w : World} {g : Nat} {l : List Nat} (h : RowIn EIn w g 0 l) : ∀ j, j < (toI l).length → w.cell? ⟨g, 0 + j, none⟩ = some (.int .i64 ((toI l).getD j 0)) := by
  intro j hj
  unfold toI at hj ⊢
  rw [List.length_map] at hj
  have h1 := h j hj 0 _ rfl
  rw [List.getD_eq_getElem?_getD, List.getElem?_map, List.getElem?_eq_getElem hj]
  simpa [EIn] using h1
end Lead.Dc
namespace Go.Proofs.YtbcoccgfoionlaaDoor
open Go.RowKit Go.WideMaps Go.Maps Lead Lead.Dc
end Go.Proofs.YtbcoccgfoionlaaDoor
