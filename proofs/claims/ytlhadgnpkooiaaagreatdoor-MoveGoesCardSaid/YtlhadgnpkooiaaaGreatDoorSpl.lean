/-
  Plain: what strings.Split gives at a separator of one byte: the pieces that the document's Cut gives.
-/
import Derived.Test.YtlhadgnpkooiaaaGreatDoorDa
import Derived.Lib.SplitLaws
namespace Lead
open Go Go.RowKit

theorem idx_y (y : UInt8) (l : List UInt8) : Lib.index l [y] = if (cut1 y l).2.2 = true then ((cut1 y l).1.length : Int) else -1 := by
  induction l with
  | nil => rfl
  | cons c l ih =>
    unfold Lib.index cut1
    by_cases h : c = y
    · subst h
      simp
    · have h' : ¬ y = c := fun e => h e.symm
      rw [if_neg h, ih]
      cases hb : (cut1 y l).2.2
      · simp [h']
      · have : ¬ ((cut1 y l).1.length : Int) = -1 := by omega
        simp [h', this]
theorem cut1_parts (y : UInt8) (l : List UInt8) (h : (cut1 y l).2.2 = true) : l.take (cut1 y l).1.length = (cut1 y l).1 ∧ l.drop ((cut1 y l).1.length + 1) = (cut1 y l).2.1 := by
  have e := cut1_yes y l h
  generalize (cut1 y l).1 = a at *
  generalize (cut1 y l).2.1 = b at *
  subst e
  constructor
  · simp
  · rw [List.drop_append]; simp
theorem split_cut (y : UInt8) : ∀ (n : Nat) (l : List UInt8), l.length ≤ n → Lib.splitK [y] 0 (Lib.count l [y]) l = cutL y l := by
  intro n
  induction n with
  | zero =>
    intro l hl
    obtain rfl := List.length_eq_zero_iff.1 (Nat.le_zero.1 hl)
    rfl
  | succ n ih =>
    intro l hl
    have hi := idx_y y l
    rw [cutL_R, cutR_1]
    cases hb : (cut1 y l).2.2
    · rw [hb, if_neg (by decide)] at hi
      rw [Lib.count_miss hi, if_neg (by decide), cut1_no y l hb]
      rfl
    · rw [hb, if_pos rfl] at hi
      obtain ⟨h1, h2⟩ := cut1_parts y l hb
      have hlen : (l.drop ((cut1 y l).1.length + 1)).length ≤ n := by
        rw [List.length_drop]; omega
      rw [Lib.count_hit (by simp) hi, if_pos rfl, Nat.add_comm 1]
      unfold Lib.splitK
      rw [hi]
      have hne : (((cut1 y l).1.length : Int) == -1) = false := by rw [beq_eq_false_iff_ne]; omega
      rw [hne, if_neg (by decide)]
      have e1 : ((cut1 y l).1.length : Int).toNat + 0 = (cut1 y l).1.length := by simp
      have e2 : ((cut1 y l).1.length : Int).toNat + [y].length = (cut1 y l).1.length + 1 := by simp
      have e3 : (cut1 y l).1.length + [y].length = (cut1 y l).1.length + 1 := rfl
      rw [e1, e2, e3, h1, ih _ hlen, h2, cutL_R]
/-- .. over byte arrays. -/
theorem splitB_cut (y : UInt8) (s : ByteArray) : (Lib.splitB ⟨#[y]⟩ 0 (Lib.countB s ⟨#[y]⟩) s).map (·.data.toList) = cutL y s.data.toList := by
  rw [Lib.splitB_data]
  exact split_cut y _ _ (Nat.le_refl _)
theorem splitB_len (y : UInt8) (s : ByteArray) : (Lib.splitB ⟨#[y]⟩ 0 (Lib.countB s ⟨#[y]⟩) s).length = Lib.countB s ⟨#[y]⟩ + 1 := Lib.splitB_all _ (show 1 ≤ (ByteArray.mk #[y]).size from Nat.le_refl _) 0 _ s rfl
/-- .. as the cells of the new block. -/
theorem splitB_cells (y : UInt8) (s : ByteArray) : (Lib.splitB ⟨#[y]⟩ 0 (Lib.countB s ⟨#[y]⟩) s).map Value.string = (cutL y s.data.toList).map fun l => Value.string ⟨l.toArray⟩ := by
  rw [← splitB_cut, List.map_map]
  refine List.map_congr_left fun b _ => ?_
  rfl
theorem cutL_len (y : UInt8) (s : ByteArray) : (cutL y s.data.toList).length = Lib.countB s ⟨#[y]⟩ + 1 := by rw [← splitB_cut, List.length_map, splitB_len]
end Lead
