/-
  strings.Split at a blank: the pieces lie in a new block.
-/
import Derived.Test.YtlhadgnpkooiaaaGreatDoorSpl
import Derived.Test.YtlhadgnpkooiaaaGreatDoorRdV
import Derived.Test.YtlhadgnpkooiaaaGreatDoorShelf
namespace Go.Proofs.YtlhadgnpkooiaaaGreatDoor
open Go.RowKit Lead

theorem msplit_any (s : ByteArray) (w : World) (hs : s.size ≤ 100000) (hL : Libs w) :
    Calls Tryz.prog 28 #[.string s, .string ⟨#[32]⟩] w fun e w' =>
      ∃ g, e = .returned (.slice (some ⟨g, 0, none⟩) (cutL 32 s.data.toList).length (cutL 32 s.data.toList).length) ∧ w.heap.size ≤ g ∧ g < w'.heap.size ∧ StrIn w' g 0 (cutL 32 s.data.toList) ∧ Below w.heap.size w w' := by
  obtain ⟨m, hm⟩ := hL.len
  refine (Tryz.strings_Split s ⟨#[32]⟩ m w (by omega) hm (by decide)).mono ?_
  rintro e w' ⟨rfl, rfl⟩
  refine ⟨w.heap.size, by rw [cutL_len], Nat.le_refl _, by simp, fun i hi => ?_, (Below.refl _ _).alloc (Nat.le_refl _) _⟩
  rw [splitB_cells, Nat.zero_add, World.cell?_alloc_new]
  simp [hi]
end Go.Proofs.YtlhadgnpkooiaaaGreatDoor
