/-
  Plain: how often a shape goes around a point.
-/
import Derived.Test.YthijgncjaophjaaDoorPl3
namespace Lead
open Go Go.RowKit

theorem call_le {P : Program} {f : FuncId} {args : Array Value} {w W : World} {R : Ending → World → Prop} {T F : Nat} {ea : Nat → Addr} {e : TypeId} {c : Nat × Option Nat} {l : List Int} (hB : Below w.heap.size w W)
    (h : Below w.heap.size w W → Calls P f args W (RetLE T F ea e c l W))
    (k : ∀ v x w1, ErrAt T F ea W.heap.size w1 x c → w1.ownsRow W.heap.size e 1 v l.length (l.map (Value.int .i64)) → Below w.heap.size w w1 → W.heap.size ≤ w1.heap.size → Below W.heap.size W w1 → R (.returned (.tuple #[v, x])) w1) : Calls P f args W R :=
  (h hB).mono fun en w1 ⟨v, x, he, hx, ho, hb⟩ => by
    subst he
    exact k v x w1 hx ho (hB.trans (hb.mono hB.size)) hb.size hb
theorem call_ne {P : Program} {f : FuncId} {args : Array Value} {w W : World} {R : Ending → World → Prop} {T F : Nat} {ea : Nat → Addr} {c : Nat × Option Nat} {n : Int} (hB : Below w.heap.size w W)
    (h : Below w.heap.size w W → Calls P f args W (RetNE T F ea c n W))
    (k : ∀ x w1, ErrAt T F ea W.heap.size w1 x c → Below w.heap.size w w1 → W.heap.size ≤ w1.heap.size → (∀ b o, b < W.heap.size → w1.cell? ⟨b, o, none⟩ = W.cell? ⟨b, o, none⟩) →
      (∀ b o, b < W.heap.size → w1.frozen? ⟨b, o, none⟩ = W.frozen? ⟨b, o, none⟩) → Below W.heap.size W w1 → R (.returned (.tuple #[.int .i64 n, x])) w1) : Calls P f args W R :=
  (h hB).mono fun en w1 ⟨x, he, hx, hb⟩ => by
    subst he
    exact k x w1 hx (hB.trans (hb.mono hB.size)) hb.size (bcell hb).1 (bcell hb).2 hb

theorem crossB_bound (l1 l2 : Bool) (s : Int) : -1 ≤ crossB l1 l2 s ∧ crossB l1 l2 s ≤ 1 := by
  unfold crossB
  split
  · omega
  · split <;> omega
theorem crsTo_bound (ps : List Pt) (p : Pt) (k : Nat) : ∀ c ∈ crsTo ps p k, -1 ≤ c ∧ c ≤ 1 := by
  intro c hc
  unfold crsTo at hc
  obtain ⟨hc, _⟩ := List.mem_filter.1 hc
  obtain ⟨i, _, rfl⟩ := List.mem_map.1 hc
  exact crossB_bound _ _ _
theorem crL_bound (ps : List Pt) (p : Pt) : (∀ c ∈ crL ps p, -1 ≤ c ∧ c ≤ 1) ∧ (crL ps p).length ≤ 30 := by
  unfold crL
  by_cases h : crC ps p = (0, none)
  · rw [if_pos h]
    refine ⟨crsTo_bound _ _ _, Nat.le_trans (crsTo_len _ _ _) ?_⟩
    rcases shC_some ps with h1 | h1
    · exact (shC_ok h1).1
    · exfalso
      unfold crC at h
      rw [if_neg (fun h2 => h1 (by rw [h2]))] at h
      exact h1 (by rw [h])
  · rw [if_neg h]; exact ⟨(fun c hc => by cases hc), by simp⟩
theorem sum_bound {l : List Int} (h : ∀ c ∈ l, -1 ≤ c ∧ c ≤ 1) : -(l.length : Int) ≤ l.sum ∧ l.sum ≤ l.length := by
  induction l with
  | nil => simp
  | cons a l ih =>
    have h1 := h a (by simp)
    have h2 := ih (fun c hc => h c (by simp [hc]))
    simp only [List.sum_cons, List.length_cons]
    omega
theorem sum_take_succ {l : List Int} {k : Nat} (h : k < l.length) : (l.take (k + 1)).sum = (l.take k).sum + l[k] := by
  rw [List.take_succ_eq_append_getElem h, List.sum_append]
  simp
end Lead
