/-
  Plain: a map that tells how often each text stands in a list.
-/
import Derived.Test.YtaidgecpglikpaaDoorPq2
import Derived.Test.YtaidgecpglikpaaDoorPn1
import Derived.Maps.Own
import Derived.Maps.Views
import Derived.Sort.KeysCollected
namespace Lead
open Go Go.RowKit
theorem slit_ne {a b : List UInt8} (h : a ≠ b) : (Lit.string a) ≠ Lit.string b := fun e => h (by injection e)
theorem ba_eq {a b : ByteArray} : a.data.toList = b.data.toList ↔ a = b := by
  constructor
  · intro h
    cases a; cases b
    simpa using h
  · intro h; rw [h]
/-- D tells how often each text stands in l. -/
structure Hist (D : DataW Unit) (l : List ByteArray) : Prop where
  tidy : Go.Maps.Tidy D
  has : ∀ s : ByteArray, Go.Maps.has D (.string s.data.toList) = true ↔ s ∈ l
  at_ : ∀ s : ByteArray, D.atKey (.string s.data.toList) (.lit (.int .i64 0)) = .lit (.int .i64 (howMany l s : Nat))
  size : Go.Maps.size D ≤ l.length
theorem howMany_0 {l : List ByteArray} {s : ByteArray} (h : s ∉ l) : howMany l s = 0 := by
  unfold howMany
  rw [List.length_eq_zero_iff, List.filter_eq_nil_iff]
  intro x hx he
  exact h (of_decide_eq_true he ▸ hx)
theorem Hist.step {D : DataW Unit} {l : List ByteArray} (h : Hist D l) (s : ByteArray) : Hist (D.put (.string s.data.toList) (.lit (.int .i64 ((howMany l s : Nat) + 1 : Int)))) (l ++ [s]) := by
  have hkl : WideAt.IsKeyLit (Lit.string s.data.toList) := trivial
  have hm := h.tidy.isMap
  refine ⟨h.tidy.put hkl _, fun t => ?_, fun t => ?_, ?_⟩
  · by_cases ht : t = s
    · subst ht
      rw [Go.Maps.has_put_same hm hkl]
      simp
    · rw [Go.Maps.has_put_other (slit_ne fun e => ht (ba_eq.1 e)), h.has t]
      simp [ht]
  · rw [howMany_snoc]
    by_cases ht : t = s
    · subst ht
      rw [Go.Maps.atKey_put_same hm hkl, if_pos rfl]
      simp
    · rw [Go.Maps.atKey_put_other (slit_ne fun e => ht (ba_eq.1 e)), h.at_ t, if_neg fun e => ht e.symm, Nat.add_zero]
  · rw [Go.Maps.size_put h.tidy, List.length_append]
    have := h.size
    split <;> simp <;> omega
end Lead
