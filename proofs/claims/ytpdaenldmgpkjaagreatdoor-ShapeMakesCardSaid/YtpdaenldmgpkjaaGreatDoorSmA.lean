/-
  Several texts as one: Hpl, Ows, Sm0.
-/
import Derived.Test.YtpdaenldmgpkjaaGreatDoorPa
import Derived.Test.YtpdaenldmgpkjaaGreatDoorRw
import Derived.Test.YtpdaenldmgpkjaaGreatDoorCut1
import Derived.Test.YtpdaenldmgpkjaaGreatDoorMr2
import Derived.Test.YtpdaenldmgpkjaaGreatDoorRef2
import Derived.Test.YtpdaenldmgpkjaaGreatDoorRef4
import Derived.Test.YtpdaenldmgpkjaaGreatDoorShape8
import Derived.Test.YtpdaenldmgpkjaaGreatDoorMa
import Derived.Deep.RegionLaw
import Derived.Deep.DeepCutAuto
import Derived.Deep.RegionHeld3
import Derived.Deep.RegionHeld
/-
  Plain: the errors of points are small.
-/
namespace Lead
open Go Go.RowKit Go.WideShapes
theorem chk_le3 (n d : Int) : chk n d ≤ 3 := by
  rcases chk_cases n d with ⟨_, h⟩ | ⟨_, _, h⟩ | ⟨_, _, _, h⟩ | ⟨_, _, _, _, h⟩ | ⟨_, _, _, _, h⟩ <;> omega
theorem ptC_le (a b c d : Int) : ptC a b c d ≤ 11 := by
  have := chk_le3 a b; have := chk_le3 c d
  rcases ptC_cases a b c d with ⟨_, h⟩ | ⟨_, _, h⟩ | ⟨_, _, _, h⟩ | ⟨_, _, _, _, h⟩ | ⟨_, _, _, _, h⟩ <;> omega
theorem firstBad_le (ps : List Pt) : ∀ k, (firstBad ps k).1 ≤ 11 := by
  induction ps with
  | nil => intro k; exact Nat.zero_le _
  | cons p ps ih =>
    intro k
    unfold firstBad
    by_cases h0 : p.c = 0
    · rw [if_pos h0]; exact ih _
    · rw [if_neg h0]; exact ptC_le _ _ _ _
theorem shC_le (ps : List Pt) : (shC ps).1 ≤ 11 := by
  unfold shC
  split
  · decide
  · exact firstBad_le _ _
end Lead

/-
  Plain: own texts as a row; an own row laid open.
-/
namespace Lead.Ow
open Go Go.RowKit Lead
abbrev By := List UInt8
def ESs : Enc By := ⟨fun s => [.string ⟨s.toArray⟩], 1, fun _ => rfl, fun x u h => by simp at h; subst h; rfl, by decide⟩
theorem ESs_flat (l : List By) : ESs.flat l = l.map fun s => Value.string ⟨s.toArray⟩ := by
  induction l with
  | nil => rfl
  | cons x r ih =>
    have : ESs.flat (x :: r) = ESs.enc x ++ ESs.flat r := by simp [Enc.flat]
    rw [this, ih]; rfl
theorem ownS_row {w : World} {base : Nat} {e : TypeId} {v : Value} {ss : List By} (h : OwnS w base e v ss) : OwnR ESs w base e v ss := by
  unfold OwnR
  rw [ESs_flat]; exact h
theorem own_open {α : Type} {En : Enc α} {w : World} {base : Nat} {e : TypeId} {v : Value} {xs : List α} (h : OwnR En w base e v xs) :
    ∃ o c, v = .slice o xs.length c ∧ xs.length ≤ c ∧ (xs = [] ∨ ∃ b off, o = some ⟨b, off, none⟩ ∧ b < w.heap.size ∧ RowIn En w b off xs) := by
  rcases h.form with ⟨h1, h2⟩ | ⟨g, cap, h1, h2, h3, h4, h5, h6⟩
  · exact ⟨none, 0, by rw [h1, h2]; rfl, by rw [h2]; exact Nat.le_refl _, .inl h2⟩
  · exact ⟨_, _, h1, by first | exact h4 | exact h5 | omega, .inr ⟨g, 0, rfl, h3, h6⟩⟩
end Lead.Ow

/-
  Plain, for walks over the document's answer to chapter 7: a point as a row's value; a box that is made ahead of a call.
-/
namespace Lead
open Go Go.RowKit
def EPt : Enc Pt := ⟨Pt.vals, 4, fun _ => rfl, fun x u h => by simp [Pt.vals] at h; rcases h with rfl | rfl | rfl | rfl <;> rfl, by decide⟩
theorem ptin_row {w : World} {b off : Nat} {ps : List Pt} (h : PtsIn w b off ps) : RowIn EPt w b off ps := by
  intro i hi j u hu
  show w.cell? ⟨b, off + i * 4 + j, none⟩ = some u
  match j, hu with
  | 0, hu => cases hu; exact h.c0 i hi
  | 1, hu => cases hu; exact h.c1 i hi
  | 2, hu => cases hu; exact h.c2 i hi
  | 3, hu => cases hu; exact h.c3 i hi
/-- A block, made ahead of a call or behind it. -/
def MadeP (w0 : World) (vs : Array Value) (p : Value) (W : World) : Prop :=
  ∃ g : Nat, p = .pointer (some ⟨g, 0, none⟩) ∧ (∀ j, W.cell? ⟨g, j, none⟩ = vs[j]?) ∧ w0.heap.size ≤ g ∧ g < W.heap.size ∧ Below w0.heap.size w0 W
theorem undrew_p {w W : World} (h : Below w.drew.heap.size w.drew W) : Below w.heap.size w W := ⟨h.os, h.tape, h.output, h.size, h.block⟩
theorem madeP_last {w0 W : World} {T : Nat} (h : Below w0.heap.size w0 W) (vs : Array Value) : MadeP w0 vs (.pointer (some ⟨W.heap.size, 0, none⟩)) (W.alloc (.cells vs T)) :=
  ⟨W.heap.size, rfl, fun _ => World.cell?_alloc_new _ _ _ _, h.size, by simp, h.alloc h.size _⟩
/-- A call of the reference that answers own points, and a fault. -/
def RetPF (e : TypeId) (c : Nat × Option Nat) (ps : List Pt) (w : World) (en : Ending) (w' : World) : Prop :=
  ∃ v, en = .returned (.tuple #[v, .agg #[.int .i64 (c.1 : Int), .int .i64 (atI c.2)]]) ∧ OwnP w' w.heap.size e v ps ∧ Below w.heap.size w w'
theorem set2 {w : World} {g : Nat} {u0 u1 : Value} (h : ∀ j, w.cell? ⟨g, j, none⟩ = (#[u0, u1] : Array Value)[j]?) (v0 v1 : Value) :
    ∀ j, ((w.setCell ⟨g, 0, none⟩ v0).setCell ⟨g, 1, none⟩ v1).cell? ⟨g, j, none⟩ = (#[v0, v1] : Array Value)[j]? := by
  have n : ∀ {a b : Nat}, a ≠ b → (⟨g, a, none⟩ : Addr) ≠ ⟨g, b, none⟩ := fun h q => h (by injection q)
  intro j
  match j with
  | 0 =>
    rw [World.cell?_setCell_other _ _ _ _ (n (by decide))]
    exact World.cell?_setCell_same' _ _ _ (by rw [h 0]; rfl)
  | 1 => exact World.cell?_setCell_same' _ _ _ (by rw [World.cell?_setCell_other _ _ _ _ (n (by decide))]; rw [h 1]; rfl)
  | j + 2 =>
    rw [World.cell?_setCell_other _ _ _ _ (n (by omega)), World.cell?_setCell_other _ _ _ _ (n (by omega))]
    exact (h (j + 2)).trans (by simp)
theorem own_kept {α : Type} {En : Enc α} {w w' : World} {base : Nat} {e : TypeId} {v : Value} {xs : List α} (h : OwnR En w base e v xs) (hw : ∀ b, v.ownBlock = some b → w'.heap[b]? = w.heap[b]?) : OwnR En w' base e v xs := by
  obtain ⟨h1, ⟨rfl, h2⟩ | ⟨g, cap, cur, rfl, hg, hh, hl, hm, hs, ht⟩⟩ := h
  · exact ⟨h1, .inl ⟨rfl, h2⟩⟩
  · exact ⟨h1, .inr ⟨g, cap, cur, rfl, hg, (hw g rfl).trans hh, hl, hm, hs, ht⟩⟩
theorem set2d {w : World} {g : Nat} {u0 u1 : Value} (h : ∀ j, w.cell? ⟨g, j, none⟩ = (#[u0, u1] : Array Value)[j]?) (hg : g < w.heap.size) (v0 v1 : Value) (xs : Array Value) (T : Nat) :
    ∀ j, ((((w.setCell ⟨g, 0, none⟩ v0).setCell ⟨g, 1, none⟩ v1).alloc (.cells xs T)).drew).cell? ⟨g, j, none⟩ = (#[v0, v1] : Array Value)[j]? := fun j => by
  rw [World.cell?_drew, World.cell?_alloc_past _ _ _ (by rw [World.size_setCell, World.size_setCell]; exact hg)]
  exact set2 h v0 v1 j
theorem own_set2d {α : Type} {En : Enc α} {w : World} {g B : Nat} {e : TypeId} {v : Value} {xs : List α} (h : OwnR En w B e v xs) (hg : g < B) (v0 v1 : Value) (vs : Array Value) (T : Nat) :
    OwnR En ((((w.setCell ⟨g, 0, none⟩ v0).setCell ⟨g, 1, none⟩ v1).alloc (.cells vs T)).drew) B e v xs := by
  have h1 : OwnR En ((w.setCell ⟨g, 0, none⟩ v0).setCell ⟨g, 1, none⟩ v1) B e v xs := own_kept h (fun k hk => by
    have h2 := (h.lt k hk).1
    exact (heap_setCell_other _ ⟨g, 1, none⟩ k _ (by show k ≠ g; omega)).trans (heap_setCell_other _ ⟨g, 0, none⟩ k _ (by show k ≠ g; omega)))
  exact h1.keep (((Below.refl _ _).alloc (Nat.le_refl _) _).drew)
theorem set4 {w : World} {g : Nat} {u0 u1 u2 u3 : Value} (h : ∀ j, w.cell? ⟨g, j, none⟩ = (#[u0, u1, u2, u3] : Array Value)[j]?) (v0 v1 v2 v3 : Value) :
    ∀ j, ((((w.setCell ⟨g, 0, none⟩ v0).setCell ⟨g, 1, none⟩ v1).setCell ⟨g, 2, none⟩ v2).setCell ⟨g, 3, none⟩ v3).cell? ⟨g, j, none⟩ = (#[v0, v1, v2, v3] : Array Value)[j]? := by
  have n : ∀ {a b : Nat}, a ≠ b → (⟨g, a, none⟩ : Addr) ≠ ⟨g, b, none⟩ := fun h q => h (by injection q)
  intro j
  match j with
  | 0 =>
    rw [World.cell?_setCell_other _ _ _ _ (n (by decide)), World.cell?_setCell_other _ _ _ _ (n (by decide)), World.cell?_setCell_other _ _ _ _ (n (by decide))]
    exact World.cell?_setCell_same' _ _ _ (by rw [h 0]; rfl)
  | 1 =>
    rw [World.cell?_setCell_other _ _ _ _ (n (by decide)), World.cell?_setCell_other _ _ _ _ (n (by decide))]
    exact World.cell?_setCell_same' _ _ _ (by rw [World.cell?_setCell_other _ _ _ _ (n (by decide))]; rw [h 1]; rfl)
  | 2 =>
    rw [World.cell?_setCell_other _ _ _ _ (n (by decide))]
    exact World.cell?_setCell_same' _ _ _ (by rw [World.cell?_setCell_other _ _ _ _ (n (by decide)), World.cell?_setCell_other _ _ _ _ (n (by decide))]; rw [h 2]; rfl)
  | 3 =>
    exact World.cell?_setCell_same' _ _ _ (by rw [World.cell?_setCell_other _ _ _ _ (n (by decide)), World.cell?_setCell_other _ _ _ _ (n (by decide)), World.cell?_setCell_other _ _ _ _ (n (by decide))]; rw [h 3]; rfl)
  | j + 4 =>
    rw [World.cell?_setCell_other _ _ _ _ (n (by omega)), World.cell?_setCell_other _ _ _ _ (n (by omega)), World.cell?_setCell_other _ _ _ _ (n (by omega)), World.cell?_setCell_other _ _ _ _ (n (by omega))]
    exact (h (j + 4)).trans (by simp)
theorem made4_first {w0 X W : World} {T : Nat} {z0 z1 z2 z3 : Value} (h1 : Below w0.heap.size w0 X) (h2 : Below (X.alloc (.cells #[z0, z1, z2, z3] T)).heap.size (X.alloc (.cells #[z0, z1, z2, z3] T)) W) (v0 v1 v2 v3 : Value) :
    MadeP w0 #[v0, v1, v2, v3] (.pointer (some ⟨X.heap.size, 0, none⟩)) ((((W.setCell ⟨X.heap.size, 0, none⟩ v0).setCell ⟨X.heap.size, 1, none⟩ v1).setCell ⟨X.heap.size, 2, none⟩ v2).setCell ⟨X.heap.size, 3, none⟩ v3) := by
  have hz := h2.size
  rw [World.size_alloc] at hz
  have hle := h1.size
  refine ⟨X.heap.size, rfl, set4 (fun j => (h2.cell (p := ⟨X.heap.size, j, none⟩) (by simp)).trans (World.cell?_alloc_new _ _ _ _)) _ _ _ _, hle, ?_, ?_⟩
  · simp only [World.size_setCell]; omega
  · have h3 : Below w0.heap.size w0 W := (h1.alloc hle _).trans (h2.mono (by rw [World.size_alloc]; omega))
    exact (((h3.setCell (p := ⟨X.heap.size, 0, none⟩) hle _).setCell (p := ⟨X.heap.size, 1, none⟩) hle _).setCell (p := ⟨X.heap.size, 2, none⟩) hle _).setCell (p := ⟨X.heap.size, 3, none⟩) hle _
end Lead
