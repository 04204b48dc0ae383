/-
  Plain: the reference's way with a move's text: the kinds of words, the moves one behind the other. (Written by wip/mkso.py.)
-/
import Derived.Test.YtlhadgnpkooiaaaGreatDoorRdX
import Derived.Test.YtlhadgnpkooiaaaGreatDoorRdK
import Derived.Test.YtlhadgnpkooiaaaGreatDoorMr3
import Derived.Test.YtlhadgnpkooiaaaGreatDoorSet
namespace Lead
open Go Go.RowKit
theorem kind_cases (s : ByteArray) :
    ((s.toList == [109, 111, 118, 101]) = true ∧ (s.toList == [115, 99, 97, 108, 101]) = false ∧ (s.toList == [116, 117, 114, 110]) = false ∧ (s.toList == [115, 107, 101, 119]) = false ∧ s.data.toList = kMove) ∨
    ((s.toList == [109, 111, 118, 101]) = false ∧ (s.toList == [115, 99, 97, 108, 101]) = true ∧ (s.toList == [116, 117, 114, 110]) = false ∧ (s.toList == [115, 107, 101, 119]) = false ∧ s.data.toList = kScale) ∨
    ((s.toList == [109, 111, 118, 101]) = false ∧ (s.toList == [115, 99, 97, 108, 101]) = false ∧ (s.toList == [116, 117, 114, 110]) = true ∧ (s.toList == [115, 107, 101, 119]) = false ∧ s.data.toList = kTurn) ∨
    ((s.toList == [109, 111, 118, 101]) = false ∧ (s.toList == [115, 99, 97, 108, 101]) = false ∧ (s.toList == [116, 117, 114, 110]) = false ∧ (s.toList == [115, 107, 101, 119]) = true ∧ s.data.toList = kSkew) ∨
    ((s.toList == [109, 111, 118, 101]) = false ∧ (s.toList == [115, 99, 97, 108, 101]) = false ∧ (s.toList == [116, 117, 114, 110]) = false ∧ (s.toList == [115, 107, 101, 119]) = false ∧ manyW s.data.toList = 0) := by
  unfold manyW kMove kScale kTurn kSkew
  rw [ByteArray.toList_eq]
  generalize s.data.toList = l
  by_cases h1 : l = [109, 111, 118, 101]
  · subst h1; exact .inl ⟨rfl, rfl, rfl, rfl, rfl⟩
  · by_cases h2 : l = [115, 99, 97, 108, 101]
    · subst h2; exact .inr (.inl ⟨rfl, rfl, rfl, rfl, rfl⟩)
    · by_cases h3 : l = [116, 117, 114, 110]
      · subst h3; exact .inr (.inr (.inl ⟨rfl, rfl, rfl, rfl, rfl⟩))
      · by_cases h4 : l = [115, 107, 101, 119]
        · subst h4; exact .inr (.inr (.inr (.inl ⟨rfl, rfl, rfl, rfl, rfl⟩)))
        · refine .inr (.inr (.inr (.inr ⟨beq_eq_false_iff_ne.2 h1, beq_eq_false_iff_ne.2 h2, beq_eq_false_iff_ne.2 h3, beq_eq_false_iff_ne.2 h4, ?_⟩)))
          rw [if_neg (not_or.2 ⟨h1, h2⟩), if_neg (not_or.2 ⟨h3, h4⟩)]
theorem one_move (b c : List UInt8) : oneC kMove b c = (if rdC b = 0 then rdC c else rdC b) ∧ oneV kMove b c = ⟨⟨1, 1⟩, ⟨0, 1⟩, ⟨0, 1⟩, ⟨1, 1⟩, rdF b, rdF c⟩ := ⟨if_neg (by decide), if_neg (by decide)⟩
theorem one_scale (b c : List UInt8) : oneC kScale b c = (if rdC b = 0 then rdC c else rdC b) ∧ oneV kScale b c = ⟨rdF b, ⟨0, 1⟩, ⟨0, 1⟩, rdF c, ⟨0, 1⟩, ⟨0, 1⟩⟩ := ⟨if_neg (by decide), if_neg (by decide)⟩
theorem one_skew (b c : List UInt8) : oneC kSkew b c = (if rdC b = 0 then rdC c else rdC b) ∧ oneV kSkew b c = ⟨⟨1, 1⟩, ⟨0, 1⟩, rdF b, ⟨1, 1⟩, ⟨0, 1⟩, ⟨0, 1⟩⟩ := ⟨if_neg (by decide), if_neg (by decide)⟩
theorem one_turn0 {b : List UInt8} (c : List UInt8) (h : qtr b = none) : oneC kTurn b c = 1 := by
  unfold oneC
  rw [if_pos rfl, h]
theorem one_turn1 {b : List UInt8} {q : Mv} (c : List UInt8) (h : qtr b = some q) : oneC kTurn b c = 0 ∧ oneV kTurn b c = q := by
  unfold oneC oneV
  rw [if_pos rfl, if_pos rfl, h]
  exact ⟨rfl, rfl⟩
theorem foldM_put (m : Mv) : ∀ (l : List Mv) (o : Mv), foldM o (l ++ [m]) = if (foldM o l).1 = 0 then (if thenC (foldM o l).2 m = (0, none) then (0, thenV (foldM o l).2 m) else (2, zMv)) else foldM o l
  | [], o => by
    show (if thenC o m = (0, none) then foldM (thenV o m) [] else (2, zMv)) = _
    rfl
  | a :: l, o => by
    show (if thenC o a = (0, none) then foldM (thenV o a) (l ++ [m]) else (2, zMv)) = if (foldM o (a :: l)).1 = 0 then _ else _
    have e : foldM o (a :: l) = if thenC o a = (0, none) then foldM (thenV o a) l else (2, zMv) := rfl
    by_cases h : thenC o a = (0, none)
    · rw [if_pos h] at e
      rw [if_pos h, e, foldM_put m l (thenV o a)]
    · rw [if_neg h] at e
      rw [if_neg h, e, if_neg (by decide)]
theorem foldM_more : ∀ (l r : List Mv) (o : Mv), (foldM o l).1 ≠ 0 → foldM o (l ++ r) = foldM o l
  | [], _, _, h => absurd rfl h
  | a :: l, r, o, h => by
    have e : foldM o (a :: l) = if thenC o a = (0, none) then foldM (thenV o a) l else (2, zMv) := rfl
    have e' : foldM o (a :: l ++ r) = if thenC o a = (0, none) then foldM (thenV o a) (l ++ r) else (2, zMv) := rfl
    rw [e] at h ⊢
    rw [e']
    by_cases k : thenC o a = (0, none)
    · rw [if_pos k] at h ⊢
      rw [if_pos k]
      exact foldM_more l r _ h
    · rw [if_neg k, if_neg k]
theorem tn_then {m n : Mv} (hm : m.R) (hn : n.R) : (tnB m n = true ∧ thenC m n = (0, none) ∧ tnV m n = thenV m n) ∨ (tnB m n = false ∧ thenC m n ≠ (0, none)) := by
  have e : thenC m n = if thE m n = 0 then (0, none) else (2, none) := by
    unfold thenC
    rw [if_pos hm.c, if_pos hn.c]
  by_cases h : thE m n = 0
  · rw [if_pos h] at e
    refine .inl ⟨decide_eq_true h, e, ?_⟩
    unfold tnV thenV
    rw [if_pos h, if_pos e]
  · rw [if_neg h] at e
    exact .inr ⟨decide_eq_false h, by rw [e]; decide⟩
/-- The state of the loop over the moves, from the last one on: j are done. -/
structure FoldAt (acc : List Mv) (j : Nat) (cur : Mv) : Prop where
  le : j ≤ acc.length
  at' : foldM oneM (acc.reverse.take j) = (0, cur)
  r : cur.R
theorem FoldAt.start (acc : List Mv) : FoldAt acc 0 ⟨⟨1, 1⟩, ⟨0, 1⟩, ⟨0, 1⟩, ⟨1, 1⟩, ⟨0, 1⟩, ⟨0, 1⟩⟩ := ⟨Nat.zero_le _, rfl, oneM_R⟩
theorem FoldAt.step {acc : List Mv} {j : Nat} {cur a : Mv} (h : FoldAt acc j cur) (hj : j < acc.length) (ha : acc[acc.length - 1 - j]? = some a) (hR : a.R) :
    (tnB cur a = true ∧ FoldAt acc (j + 1) (tnV cur a)) ∨ (tnB cur a = false ∧ foldM oneM acc.reverse = (2, zMv)) := by
  have e : acc.reverse.take (j + 1) = acc.reverse.take j ++ [a] := by
    have hj' : j < acc.reverse.length := by rw [List.length_reverse]; exact hj
    rw [List.take_succ_eq_append_getElem hj', List.getElem_reverse]
    congr 2
    exact (List.getElem?_eq_some_iff.1 ha).2
  have k : foldM oneM (acc.reverse.take (j + 1)) = if thenC cur a = (0, none) then (0, thenV cur a) else (2, zMv) := by
    rw [e, foldM_put, h.at', if_pos rfl]
  rcases tn_then h.r hR with ⟨h1, h2, h3⟩ | ⟨h1, h2⟩
  · rw [if_pos h2] at k
    exact .inl ⟨h1, by omega, by rw [k, h3], by rw [h3]; exact (then_is h2).r⟩
  · rw [if_neg h2] at k
    refine .inr ⟨h1, ?_⟩
    rw [← List.take_append_drop (j + 1) acc.reverse, foldM_more _ _ _ (by rw [k]; decide), k]
theorem FoldAt.done {acc : List Mv} {j : Nat} {cur : Mv} (h : FoldAt acc j cur) (hj : acc.length ≤ j) : foldM oneM acc.reverse = (0, cur) := by
  rw [← h.at', List.take_of_length_le (by rw [List.length_reverse]; exact hj)]
theorem set12z {w : World} {g : Nat} {z0 z1 z2 z3 z4 z5 z6 z7 z8 z9 z10 z11 : Value} (hz : ∀ j, w.cell? ⟨g, j, none⟩ = (#[z0, z1, z2, z3, z4, z5, z6, z7, z8, z9, z10, z11] : Array Value)[j]?) (v0 v1 v2 v3 v4 v5 v6 v7 v8 v9 v10 v11 : Value) :
    ∀ j, ((((((((((((w.setCell ⟨g, 0, none⟩ v0).setCell ⟨g, 1, none⟩ v1).setCell ⟨g, 2, none⟩ v2).setCell ⟨g, 3, none⟩ v3).setCell ⟨g, 4, none⟩ v4).setCell ⟨g, 5, none⟩ v5).setCell ⟨g, 6, none⟩ v6).setCell ⟨g, 7, none⟩ v7).setCell ⟨g, 8, none⟩ v8).setCell ⟨g, 9, none⟩ v9).setCell ⟨g, 10, none⟩ v10).setCell ⟨g, 11, none⟩ v11).cell? ⟨g, j, none⟩ = (#[v0, v1, v2, v3, v4, v5, v6, v7, v8, v9, v10, v11] : Array Value)[j]? := by
  have e0 := hz
  have e1 : ∀ j, (w.setCell ⟨g, 0, none⟩ v0).cell? ⟨g, j, none⟩ = (#[v0, z1, z2, z3, z4, z5, z6, z7, z8, z9, z10, z11] : Array Value)[j]? := set1 (z := (#[z0, z1, z2, z3, z4, z5, z6, z7, z8, z9, z10, z11] : Array Value)) (i := 0) e0 v0 (by simp)
  have e2 : ∀ j, ((w.setCell ⟨g, 0, none⟩ v0).setCell ⟨g, 1, none⟩ v1).cell? ⟨g, j, none⟩ = (#[v0, v1, z2, z3, z4, z5, z6, z7, z8, z9, z10, z11] : Array Value)[j]? := set1 (z := (#[v0, z1, z2, z3, z4, z5, z6, z7, z8, z9, z10, z11] : Array Value)) (i := 1) e1 v1 (by simp)
  have e3 : ∀ j, (((w.setCell ⟨g, 0, none⟩ v0).setCell ⟨g, 1, none⟩ v1).setCell ⟨g, 2, none⟩ v2).cell? ⟨g, j, none⟩ = (#[v0, v1, v2, z3, z4, z5, z6, z7, z8, z9, z10, z11] : Array Value)[j]? := set1 (z := (#[v0, v1, z2, z3, z4, z5, z6, z7, z8, z9, z10, z11] : Array Value)) (i := 2) e2 v2 (by simp)
  have e4 : ∀ j, ((((w.setCell ⟨g, 0, none⟩ v0).setCell ⟨g, 1, none⟩ v1).setCell ⟨g, 2, none⟩ v2).setCell ⟨g, 3, none⟩ v3).cell? ⟨g, j, none⟩ = (#[v0, v1, v2, v3, z4, z5, z6, z7, z8, z9, z10, z11] : Array Value)[j]? := set1 (z := (#[v0, v1, v2, z3, z4, z5, z6, z7, z8, z9, z10, z11] : Array Value)) (i := 3) e3 v3 (by simp)
  have e5 : ∀ j, (((((w.setCell ⟨g, 0, none⟩ v0).setCell ⟨g, 1, none⟩ v1).setCell ⟨g, 2, none⟩ v2).setCell ⟨g, 3, none⟩ v3).setCell ⟨g, 4, none⟩ v4).cell? ⟨g, j, none⟩ = (#[v0, v1, v2, v3, v4, z5, z6, z7, z8, z9, z10, z11] : Array Value)[j]? := set1 (z := (#[v0, v1, v2, v3, z4, z5, z6, z7, z8, z9, z10, z11] : Array Value)) (i := 4) e4 v4 (by simp)
  have e6 : ∀ j, ((((((w.setCell ⟨g, 0, none⟩ v0).setCell ⟨g, 1, none⟩ v1).setCell ⟨g, 2, none⟩ v2).setCell ⟨g, 3, none⟩ v3).setCell ⟨g, 4, none⟩ v4).setCell ⟨g, 5, none⟩ v5).cell? ⟨g, j, none⟩ = (#[v0, v1, v2, v3, v4, v5, z6, z7, z8, z9, z10, z11] : Array Value)[j]? := set1 (z := (#[v0, v1, v2, v3, v4, z5, z6, z7, z8, z9, z10, z11] : Array Value)) (i := 5) e5 v5 (by simp)
  have e7 : ∀ j, (((((((w.setCell ⟨g, 0, none⟩ v0).setCell ⟨g, 1, none⟩ v1).setCell ⟨g, 2, none⟩ v2).setCell ⟨g, 3, none⟩ v3).setCell ⟨g, 4, none⟩ v4).setCell ⟨g, 5, none⟩ v5).setCell ⟨g, 6, none⟩ v6).cell? ⟨g, j, none⟩ = (#[v0, v1, v2, v3, v4, v5, v6, z7, z8, z9, z10, z11] : Array Value)[j]? := set1 (z := (#[v0, v1, v2, v3, v4, v5, z6, z7, z8, z9, z10, z11] : Array Value)) (i := 6) e6 v6 (by simp)
  have e8 : ∀ j, ((((((((w.setCell ⟨g, 0, none⟩ v0).setCell ⟨g, 1, none⟩ v1).setCell ⟨g, 2, none⟩ v2).setCell ⟨g, 3, none⟩ v3).setCell ⟨g, 4, none⟩ v4).setCell ⟨g, 5, none⟩ v5).setCell ⟨g, 6, none⟩ v6).setCell ⟨g, 7, none⟩ v7).cell? ⟨g, j, none⟩ = (#[v0, v1, v2, v3, v4, v5, v6, v7, z8, z9, z10, z11] : Array Value)[j]? := set1 (z := (#[v0, v1, v2, v3, v4, v5, v6, z7, z8, z9, z10, z11] : Array Value)) (i := 7) e7 v7 (by simp)
  have e9 : ∀ j, (((((((((w.setCell ⟨g, 0, none⟩ v0).setCell ⟨g, 1, none⟩ v1).setCell ⟨g, 2, none⟩ v2).setCell ⟨g, 3, none⟩ v3).setCell ⟨g, 4, none⟩ v4).setCell ⟨g, 5, none⟩ v5).setCell ⟨g, 6, none⟩ v6).setCell ⟨g, 7, none⟩ v7).setCell ⟨g, 8, none⟩ v8).cell? ⟨g, j, none⟩ = (#[v0, v1, v2, v3, v4, v5, v6, v7, v8, z9, z10, z11] : Array Value)[j]? := set1 (z := (#[v0, v1, v2, v3, v4, v5, v6, v7, z8, z9, z10, z11] : Array Value)) (i := 8) e8 v8 (by simp)
  have e10 : ∀ j, ((((((((((w.setCell ⟨g, 0, none⟩ v0).setCell ⟨g, 1, none⟩ v1).setCell ⟨g, 2, none⟩ v2).setCell ⟨g, 3, none⟩ v3).setCell ⟨g, 4, none⟩ v4).setCell ⟨g, 5, none⟩ v5).setCell ⟨g, 6, none⟩ v6).setCell ⟨g, 7, none⟩ v7).setCell ⟨g, 8, none⟩ v8).setCell ⟨g, 9, none⟩ v9).cell? ⟨g, j, none⟩ = (#[v0, v1, v2, v3, v4, v5, v6, v7, v8, v9, z10, z11] : Array Value)[j]? := set1 (z := (#[v0, v1, v2, v3, v4, v5, v6, v7, v8, z9, z10, z11] : Array Value)) (i := 9) e9 v9 (by simp)
  have e11 : ∀ j, (((((((((((w.setCell ⟨g, 0, none⟩ v0).setCell ⟨g, 1, none⟩ v1).setCell ⟨g, 2, none⟩ v2).setCell ⟨g, 3, none⟩ v3).setCell ⟨g, 4, none⟩ v4).setCell ⟨g, 5, none⟩ v5).setCell ⟨g, 6, none⟩ v6).setCell ⟨g, 7, none⟩ v7).setCell ⟨g, 8, none⟩ v8).setCell ⟨g, 9, none⟩ v9).setCell ⟨g, 10, none⟩ v10).cell? ⟨g, j, none⟩ = (#[v0, v1, v2, v3, v4, v5, v6, v7, v8, v9, v10, z11] : Array Value)[j]? := set1 (z := (#[v0, v1, v2, v3, v4, v5, v6, v7, v8, v9, z10, z11] : Array Value)) (i := 10) e10 v10 (by simp)
  have e12 : ∀ j, ((((((((((((w.setCell ⟨g, 0, none⟩ v0).setCell ⟨g, 1, none⟩ v1).setCell ⟨g, 2, none⟩ v2).setCell ⟨g, 3, none⟩ v3).setCell ⟨g, 4, none⟩ v4).setCell ⟨g, 5, none⟩ v5).setCell ⟨g, 6, none⟩ v6).setCell ⟨g, 7, none⟩ v7).setCell ⟨g, 8, none⟩ v8).setCell ⟨g, 9, none⟩ v9).setCell ⟨g, 10, none⟩ v10).setCell ⟨g, 11, none⟩ v11).cell? ⟨g, j, none⟩ = (#[v0, v1, v2, v3, v4, v5, v6, v7, v8, v9, v10, v11] : Array Value)[j]? := set1 (z := (#[v0, v1, v2, v3, v4, v5, v6, v7, v8, v9, v10, z11] : Array Value)) (i := 11) e11 v11 (by simp)
  exact e12
theorem setMove {w : World} {g : Nat} {z0 z1 z2 z3 z4 z5 z6 z7 z8 z9 z10 z11 : Value} (hz : ∀ j, w.cell? ⟨g, j, none⟩ = (#[z0, z1, z2, z3, z4, z5, z6, z7, z8, z9, z10, z11] : Array Value)[j]?) (u0 u1 u2 u3 : Value) :
    ∀ j, ((((w.setCell ⟨g, 8, none⟩ u0).setCell ⟨g, 9, none⟩ u1).setCell ⟨g, 10, none⟩ u2).setCell ⟨g, 11, none⟩ u3).cell? ⟨g, j, none⟩ = (#[z0, z1, z2, z3, z4, z5, z6, z7, u0, u1, u2, u3] : Array Value)[j]? := by
  have e0 := hz
  have e1 : ∀ j, (w.setCell ⟨g, 8, none⟩ u0).cell? ⟨g, j, none⟩ = (#[z0, z1, z2, z3, z4, z5, z6, z7, u0, z9, z10, z11] : Array Value)[j]? := set1 (z := (#[z0, z1, z2, z3, z4, z5, z6, z7, z8, z9, z10, z11] : Array Value)) (i := 8) e0 u0 (by simp)
  have e2 : ∀ j, ((w.setCell ⟨g, 8, none⟩ u0).setCell ⟨g, 9, none⟩ u1).cell? ⟨g, j, none⟩ = (#[z0, z1, z2, z3, z4, z5, z6, z7, u0, u1, z10, z11] : Array Value)[j]? := set1 (z := (#[z0, z1, z2, z3, z4, z5, z6, z7, u0, z9, z10, z11] : Array Value)) (i := 9) e1 u1 (by simp)
  have e3 : ∀ j, (((w.setCell ⟨g, 8, none⟩ u0).setCell ⟨g, 9, none⟩ u1).setCell ⟨g, 10, none⟩ u2).cell? ⟨g, j, none⟩ = (#[z0, z1, z2, z3, z4, z5, z6, z7, u0, u1, u2, z11] : Array Value)[j]? := set1 (z := (#[z0, z1, z2, z3, z4, z5, z6, z7, u0, u1, z10, z11] : Array Value)) (i := 10) e2 u2 (by simp)
  have e4 : ∀ j, ((((w.setCell ⟨g, 8, none⟩ u0).setCell ⟨g, 9, none⟩ u1).setCell ⟨g, 10, none⟩ u2).setCell ⟨g, 11, none⟩ u3).cell? ⟨g, j, none⟩ = (#[z0, z1, z2, z3, z4, z5, z6, z7, u0, u1, u2, u3] : Array Value)[j]? := set1 (z := (#[z0, z1, z2, z3, z4, z5, z6, z7, u0, u1, u2, z11] : Array Value)) (i := 11) e3 u3 (by simp)
  exact e4
theorem setScale {w : World} {g : Nat} {z0 z1 z2 z3 z4 z5 z6 z7 z8 z9 z10 z11 : Value} (hz : ∀ j, w.cell? ⟨g, j, none⟩ = (#[z0, z1, z2, z3, z4, z5, z6, z7, z8, z9, z10, z11] : Array Value)[j]?) (u0 u1 u2 u3 : Value) :
    ∀ j, ((((w.setCell ⟨g, 0, none⟩ u0).setCell ⟨g, 1, none⟩ u1).setCell ⟨g, 6, none⟩ u2).setCell ⟨g, 7, none⟩ u3).cell? ⟨g, j, none⟩ = (#[u0, u1, z2, z3, z4, z5, u2, u3, z8, z9, z10, z11] : Array Value)[j]? := by
  have e0 := hz
  have e1 : ∀ j, (w.setCell ⟨g, 0, none⟩ u0).cell? ⟨g, j, none⟩ = (#[u0, z1, z2, z3, z4, z5, z6, z7, z8, z9, z10, z11] : Array Value)[j]? := set1 (z := (#[z0, z1, z2, z3, z4, z5, z6, z7, z8, z9, z10, z11] : Array Value)) (i := 0) e0 u0 (by simp)
  have e2 : ∀ j, ((w.setCell ⟨g, 0, none⟩ u0).setCell ⟨g, 1, none⟩ u1).cell? ⟨g, j, none⟩ = (#[u0, u1, z2, z3, z4, z5, z6, z7, z8, z9, z10, z11] : Array Value)[j]? := set1 (z := (#[u0, z1, z2, z3, z4, z5, z6, z7, z8, z9, z10, z11] : Array Value)) (i := 1) e1 u1 (by simp)
  have e3 : ∀ j, (((w.setCell ⟨g, 0, none⟩ u0).setCell ⟨g, 1, none⟩ u1).setCell ⟨g, 6, none⟩ u2).cell? ⟨g, j, none⟩ = (#[u0, u1, z2, z3, z4, z5, u2, z7, z8, z9, z10, z11] : Array Value)[j]? := set1 (z := (#[u0, u1, z2, z3, z4, z5, z6, z7, z8, z9, z10, z11] : Array Value)) (i := 6) e2 u2 (by simp)
  have e4 : ∀ j, ((((w.setCell ⟨g, 0, none⟩ u0).setCell ⟨g, 1, none⟩ u1).setCell ⟨g, 6, none⟩ u2).setCell ⟨g, 7, none⟩ u3).cell? ⟨g, j, none⟩ = (#[u0, u1, z2, z3, z4, z5, u2, u3, z8, z9, z10, z11] : Array Value)[j]? := set1 (z := (#[u0, u1, z2, z3, z4, z5, u2, z7, z8, z9, z10, z11] : Array Value)) (i := 7) e3 u3 (by simp)
  exact e4
theorem setSkew {w : World} {g : Nat} {z0 z1 z2 z3 z4 z5 z6 z7 z8 z9 z10 z11 : Value} (hz : ∀ j, w.cell? ⟨g, j, none⟩ = (#[z0, z1, z2, z3, z4, z5, z6, z7, z8, z9, z10, z11] : Array Value)[j]?) (u0 u1 : Value) :
    ∀ j, ((w.setCell ⟨g, 4, none⟩ u0).setCell ⟨g, 5, none⟩ u1).cell? ⟨g, j, none⟩ = (#[z0, z1, z2, z3, u0, u1, z6, z7, z8, z9, z10, z11] : Array Value)[j]? := by
  have e0 := hz
  have e1 : ∀ j, (w.setCell ⟨g, 4, none⟩ u0).cell? ⟨g, j, none⟩ = (#[z0, z1, z2, z3, u0, z5, z6, z7, z8, z9, z10, z11] : Array Value)[j]? := set1 (z := (#[z0, z1, z2, z3, z4, z5, z6, z7, z8, z9, z10, z11] : Array Value)) (i := 4) e0 u0 (by simp)
  have e2 : ∀ j, ((w.setCell ⟨g, 4, none⟩ u0).setCell ⟨g, 5, none⟩ u1).cell? ⟨g, j, none⟩ = (#[z0, z1, z2, z3, u0, u1, z6, z7, z8, z9, z10, z11] : Array Value)[j]? := set1 (z := (#[z0, z1, z2, z3, u0, z5, z6, z7, z8, z9, z10, z11] : Array Value)) (i := 5) e1 u1 (by simp)
  exact e2
end Lead
