/-
  Walks over package frac: Make; Itoa of a number.
-/
import Derived.Test.YtpdaenldmgpkjaaGreatDoorFa
import Derived.Test.YtpdaenldmgpkjaaGreatDoorShelf
import Derived.Test.YtpdaenldmgpkjaaGreatDoorPa
import Derived.Lib.ItoaLen
namespace Lead
open Go Go.RowKit
theorem Below.grow {B : Nat} {a w : World} (h : Below B a w) (os : Array Obj) (hB : B ≤ w.heap.size) : Below B a (Go.Sort.grow w os) :=
  h.trans ⟨rfl, rfl, rfl, by simp [Go.Sort.grow], fun k hk => by simp only [Go.Sort.grow]; exact Array.getElem?_append_left (by omega)⟩
theorem tab_keep {P : Program} {w w' : World} {n : String} {k : IntKind} {zs : List Int} {B : Nat} (h : Lib.TabIs P w n k zs) (hb : Below B w w') (hB : B = w.heap.size) : Lib.TabIs P w' n k zs := by
  unfold Lib.TabIs World.var? at *
  cases hg : P.globalNamed n with
  | none => rw [hg] at h; cases h
  | some g =>
    rw [hg] at h
    simp only [Option.bind_some] at h ⊢
    have hlt : g < w.heap.size := by
      rcases Nat.lt_or_ge g w.heap.size with h1 | h1
      · exact h1
      · rw [Array.getElem?_eq_none h1] at h; cases h
    rw [hb.block g (by omega)]; exact h
theorem cat_slash (a b : List UInt8) : (⟨a.toArray⟩ : ByteArray) ++ ((⟨#[47]⟩ : ByteArray) ++ (⟨b.toArray⟩ : ByteArray)) = ⟨(a ++ 47 :: b).toArray⟩ := by
  apply ByteArray.ext; simp
theorem itoa_len {n : Int} (h : I64 n) : (Lib.itoa n).length ≤ 21 := by
  unfold I64 at h
  unfold Lib.itoa
  split
  · rw [List.length_cons, Lib.decDigits_length]; have := Lib.nDigits_le20 n.natAbs (by omega); omega
  · rw [Lib.decDigits_length]; have := Lib.nDigits_le20 n.toNat (by omega); omega
/-- Make's error. -/
def mkC (n d : Int) : Nat := if d = 0 then 11 else if sml n = true ∧ sml d = true then lowC n d else 2
theorem mkC_cases (n d : Int) : (d = 0 ∧ mkC n d = 11) ∨ (d ≠ 0 ∧ sml n = false ∧ mkC n d = 2) ∨ (d ≠ 0 ∧ sml n = true ∧ sml d = false ∧ mkC n d = 2) ∨ (d ≠ 0 ∧ sml n = true ∧ sml d = true ∧ mkC n d = lowC n d) := by
  unfold mkC
  by_cases h1 : d = 0 <;> cases h2 : sml n <;> cases h3 : sml d <;> simp [h1]
theorem sml_b62 {n : Int} (h : sml n = true) : B62 n := by have := sml_true.1 h; unfold B62; omega
end Lead
namespace Go.Proofs.YtpdaenldmgpkjaaGreatDoor
open Go.RowKit Lead

theorem itoa_any (n : Int) (w : World) (hn : I64 n) (htab : Lib.TabIs Tryz.prog w "internal/strconv.uint64pow10" .u64 Lib.pow10Tab) :
    Calls Tryz.prog 118 #[.int .i64 n] w fun e w' => e = .returned (.string ⟨(Lib.itoa n).toArray⟩) ∧ Below w.heap.size w w' :=
  (Tryz.strconv_Itoa n hn.1 hn.2 w htab).mono fun e w' ⟨h1, k, os, h2⟩ => ⟨h1, by rw [h2]; exact Below.grow (bdn (Below.refl _ _)) _ (Nat.le_refl _)⟩

/-- A fraction's text. -/
def txtF (n d : Int) : List UInt8 := if d = 1 then Lib.itoa n else Lib.itoa n ++ (47 :: Lib.itoa d)
end Go.Proofs.YtpdaenldmgpkjaaGreatDoor
