/-
  Walks over package frac: Make; Itoa of a number.
-/
import Derived.Test.YtlhadgnpkooiaaaGreatDoorFa
import Derived.Test.YtlhadgnpkooiaaaGreatDoorShelf
import Derived.Test.YtlhadgnpkooiaaaGreatDoorPa
import Derived.Lib.ItoaLen
namespace Lead
open Go Go.RowKit
theorem Below.grow {B : Nat} {a w : World} (h : Below B a w) (os : Array Obj) (hB : B ≤ w.heap.size) : Below B a (Go.Sort.grow w os) :=
  h.trans ⟨rfl, rfl, rfl, by simp [Go.Sort.grow], fun k hk => by simp only [Go.Sort.grow]; exact Array.getElem?_append_left (by omega)⟩
theorem tab_keep {P : Program} {w w' : World} {n : String} {k : IntKind} {zs : List Int} {B : Nat} (h : Lib.TabIs P w n k zs) (hb : Below B w w') (hB : B = w.heap.size) : Lib.TabIs P w' n k zs := by
  unfold Lib.TabIs World.var? at *
  cases hg : P.globalNamed n with
  | none => rw [hg] at h; cases h
  | some g =>
    rw [hg] at h
    simp only [Option.bind_some] at h ⊢
    have hlt : g < w.heap.size := by
      rcases Nat.lt_or_ge g w.heap.size with h1 | h1
      · exact h1
      · rw [Array.getElem?_eq_none h1] at h; cases h
    rw [hb.block g (by omega)]; exact h
end Lead
namespace Go.Proofs.YtlhadgnpkooiaaaGreatDoor
open Go.RowKit Lead

theorem itoa_any (n : Int) (w : World) (hn : I64 n) (htab : Lib.TabIs Tryz.prog w "internal/strconv.uint64pow10" .u64 Lib.pow10Tab) :
    Calls Tryz.prog 81 #[.int .i64 n] w fun e w' => e = .returned (.string ⟨(Lib.itoa n).toArray⟩) ∧ Below w.heap.size w w' :=
  (Tryz.strconv_Itoa n hn.1 hn.2 w htab).mono fun e w' ⟨h1, k, os, h2⟩ => ⟨h1, by rw [h2]; exact Below.grow (bdn (Below.refl _ _)) _ (Nat.le_refl _)⟩

end Go.Proofs.YtlhadgnpkooiaaaGreatDoor
