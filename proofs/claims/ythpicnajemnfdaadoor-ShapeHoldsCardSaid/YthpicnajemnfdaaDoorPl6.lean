/-
  Plain: JORDAN: winding numbers of lists of points: begun elsewhere, turned around, there and back.
-/
import Derived.Test.YthpicnajemnfdaaDoorPl5
namespace Lead
open Go Go.RowKit

theorem sideI_swap (a b p : Pt) : sideI b a p = - sideI a b p := by
  unfold sideI; grind
theorem crossB_swap (l1 l2 : Bool) (s : Int) : crossB l2 l1 (-s) = - crossB l1 l2 s := by
  unfold crossB
  cases l1 <;> cases l2 <;> simp <;> split <;> omega
theorem cross_swap (a b p : Pt) : crossPt b a p = - crossPt a b p := by
  unfold crossPt; rw [sideI_swap, crossB_swap]
theorem cross_self (a p : Pt) : crossPt a a p = 0 := by
  have := cross_swap a a p; omega

/-- Along a path. -/
def psum (p : Pt) : List Pt → Int
  | [] => 0
  | [_] => 0
  | a :: b :: l => crossPt a b p + psum p (b :: l)
theorem psum_cut (p : Pt) (x : Pt) : ∀ (l1 l2 : List Pt), psum p (l1 ++ x :: l2) = psum p (l1 ++ [x]) + psum p (x :: l2)
  | [], l2 => by simp [psum]
  | [a], l2 => by simp [psum]
  | a :: b :: l1, l2 => by
    have ih := psum_cut p x (b :: l1) l2
    simp only [List.cons_append] at ih ⊢
    simp only [psum]
    rw [ih]; omega
theorem psum_snoc (p : Pt) (l : List Pt) (a b : Pt) : psum p (l ++ [a, b]) = psum p (l ++ [a]) + crossPt a b p := by
  rw [psum_cut p a l [b]]; simp [psum]
theorem psum_rev (p : Pt) : ∀ l : List Pt, psum p l.reverse = - psum p l
  | [] => rfl
  | [a] => rfl
  | a :: b :: l => by
    have ih := psum_rev p (b :: l)
    simp only [List.reverse_cons] at ih ⊢
    rw [List.append_assoc]
    show psum p (l.reverse ++ [b, a]) = _
    rw [psum_snoc, ih, cross_swap]
    simp only [psum]; omega

/-- Around: from the last one to the first one, too. -/
def cyc (p : Pt) : List Pt → Int
  | [] => 0
  | a :: l => psum p (a :: (l ++ [a]))
theorem cyc_app (p a b : Pt) (l1 l2 : List Pt) : cyc p (a :: l1 ++ b :: l2) = psum p (a :: l1 ++ [b]) + psum p (b :: l2 ++ [a]) := by
  have := psum_cut p b (a :: l1) (l2 ++ [a])
  simp only [cyc, List.cons_append, List.append_assoc] at this ⊢
  exact this
theorem cyc_rot (p : Pt) (l1 l2 : List Pt) : cyc p (l2 ++ l1) = cyc p (l1 ++ l2) := by
  cases l1 with
  | nil => simp
  | cons a l1 =>
    cases l2 with
    | nil => simp
    | cons b l2 => rw [cyc_app, cyc_app]; omega
theorem cyc_rev (p : Pt) (l : List Pt) : cyc p l.reverse = - cyc p l := by
  cases l with
  | nil => rfl
  | cons a l =>
    rw [List.reverse_cons, cyc_rot]
    show psum p (a :: (l.reverse ++ [a])) = - psum p (a :: (l ++ [a]))
    rw [← psum_rev]
    congr 1
    simp
theorem cyc_both (p a : Pt) (l : List Pt) : cyc p (a :: l ++ [a] ++ [a] ++ l.reverse) = 0 := by
  have h1 := psum_cut p a (a :: l) (a :: (l.reverse ++ [a]))
  have h2 := cyc_rev p (a :: l)
  rw [List.reverse_cons, cyc_rot] at h2
  simp only [cyc, List.cons_append, List.append_assoc, List.nil_append, List.singleton_append] at h1 h2 ⊢
  rw [h1]
  simp only [psum, cross_self]
  omega

/-- The sum over the edges, one by one, is the sum around. -/
theorem psum_range (p : Pt) : ∀ (l : List Pt), psum p l = ((List.range (l.length - 1)).map fun i => crossPt (l.getD i zpt) (l.getD (i + 1) zpt) p).sum
  | [] => rfl
  | [a] => rfl
  | a :: b :: l => by
    have ih := psum_range p (b :: l)
    simp only [psum, List.length_cons, Nat.add_sub_cancel] at ih ⊢
    rw [ih, List.range_succ_eq_map, List.map_cons, List.sum_cons, List.map_map]
    rfl
theorem crs_sum_map (ps : List Pt) (p : Pt) (k : Nat) : (crsTo ps p k).sum = ((List.range k).map fun i => crossPt (ps.getD i zpt) (ps.getD ((i + 1) % ps.length) zpt) p).sum := by
  unfold crsTo
  generalize (List.range k).map (fun i => crossPt (ps.getD i zpt) (ps.getD ((i + 1) % ps.length) zpt) p) = l
  induction l with
  | nil => rfl
  | cons a l ih =>
    rw [List.filter_cons]
    by_cases h : a = 0
    · simp [h, ih]
    · simp [h, ih]
theorem crs_cyc (ps : List Pt) (p : Pt) : (crsTo ps p ps.length).sum = cyc p ps := by
  rw [crs_sum_map]
  cases ps with
  | nil => rfl
  | cons a l =>
    show _ = psum p (a :: (l ++ [a]))
    rw [psum_range]
    congr 1
    have hl : (a :: (l ++ [a])).length - 1 = (a :: l).length := by simp
    rw [hl]
    apply List.map_congr_left
    intro i hi
    have hi := List.mem_range.1 hi
    have e1 : (a :: (l ++ [a])).getD i zpt = (a :: l).getD i zpt := by
      rw [List.getD_eq_getElem?_getD, List.getD_eq_getElem?_getD, ← List.cons_append, List.getElem?_append_left hi]
    have e2 : (a :: (l ++ [a])).getD (i + 1) zpt = (a :: l).getD ((i + 1) % (a :: l).length) zpt := by
      rw [List.getD_eq_getElem?_getD, List.getD_eq_getElem?_getD, ← List.cons_append]
      by_cases h : i + 1 < (a :: l).length
      · rw [Nat.mod_eq_of_lt h, List.getElem?_append_left h]
      · have he : i + 1 = (a :: l).length := by omega
        rw [he, Nat.mod_self, List.getElem?_append_right (Nat.le_refl _)]
        simp
    rw [e1, e2]

/-- How often, and how many: both odd or both even; not more often than there are edges. -/
theorem sum_len (l : List Int) (h : ∀ c ∈ l, -1 ≤ c ∧ c ≤ 1) (h0 : ∀ c ∈ l, c ≠ 0) : (l.sum - l.length) % 2 = 0 ∧ -(l.length : Int) ≤ l.sum ∧ l.sum ≤ l.length := by
  refine ⟨?_, sum_bound h⟩
  induction l with
  | nil => rfl
  | cons a l ih =>
    have h1 := h a (by simp)
    have h2 := h0 a (by simp)
    have h3 := ih (fun c hc => h c (by simp [hc])) (fun c hc => h0 c (by simp [hc]))
    simp only [List.sum_cons, List.length_cons]
    omega
theorem crL_len (ps : List Pt) (p : Pt) : ((crL ps p).sum - (crL ps p).length) % 2 = 0 ∧ -((crL ps p).length : Int) ≤ (crL ps p).sum ∧ (crL ps p).sum ≤ (crL ps p).length := by
  apply sum_len _ (crL_bound ps p).1
  intro c hc
  unfold crL at hc
  by_cases h : crC ps p = (0, none)
  · rw [if_pos h] at hc
    have := (List.mem_filter.1 hc).2
    simpa using this
  · rw [if_neg h] at hc; cases hc

/-- A shape of right points, not too many, and a right point: no error. -/
theorem firstBad_ok {ps : List Pt} (h : ∀ q ∈ ps, PtOk q) : ∀ k, firstBad ps k = (0, none) := by
  induction ps with
  | nil => intro k; rfl
  | cons q ps ih =>
    intro k
    unfold firstBad
    rw [if_pos (h q (by simp)).c0]
    exact ih (fun x hx => h x (by simp [hx])) _
theorem crC_ok {ps : List Pt} {p : Pt} (h : ∀ q ∈ ps, PtOk q) (hp : PtOk p) (hl : ps.length ≤ 30) : crC ps p = (0, none) := by
  unfold crC shC
  rw [if_neg (by omega : ¬ 30 < ps.length), firstBad_ok h, if_pos rfl, if_pos hp.c0]
theorem crC_inv {ps : List Pt} {p : Pt} (h : crC ps p = (0, none)) : (∀ q ∈ ps, PtOk q) ∧ PtOk p ∧ ps.length ≤ 30 := by
  unfold crC at h
  by_cases h1 : shC ps = (0, none)
  · rw [if_pos h1] at h
    by_cases h2 : p.c = 0
    · exact ⟨(shC_ok h1).2.2, pt_ok h2, (shC_ok h1).1⟩
    · rw [if_neg h2] at h; exact absurd (congrArg Prod.fst h) h2
  · rw [if_neg h1] at h; exact absurd h h1
theorem wind_ok {ps : List Pt} {p : Pt} (h : ∀ q ∈ ps, PtOk q) (hp : PtOk p) (hl : ps.length ≤ 30) : (crL ps p).sum = cyc p ps := by
  unfold crL; rw [if_pos (crC_ok h hp hl), crs_cyc]
theorem crC_some (ps : List Pt) (p : Pt) : crC ps p = (0, none) ∨ ((crC ps p).1 ≠ 0 ∧ crL ps p = []) := by
  by_cases h : crC ps p = (0, none)
  · exact .inl h
  · refine .inr ⟨?_, by unfold crL; rw [if_neg h]⟩
    unfold crC at h ⊢
    rcases shC_some ps with h1 | h1
    · rw [if_pos h1] at h ⊢
      by_cases h2 : p.c = 0
      · rw [if_pos h2] at h; exact absurd rfl h
      · rw [if_neg h2]; exact h2
    · rw [if_neg (fun h2 => h1 (by rw [h2]))]; exact h1
theorem mem_rot {α : Type} {l : List α} {k : Nat} {q : α} (h : q ∈ l.drop k ++ l.take k) : q ∈ l := by
  rcases List.mem_append.1 h with h | h
  · exact List.mem_of_mem_drop h
  · exact List.mem_of_mem_take h
theorem drop_rev {α : Type} {l : List α} {k : Nat} (h : k < l.length) : (l.drop k).reverse = (l.drop (k + 1)).reverse ++ [l[k]] := by
  rw [List.drop_eq_getElem_cons h, List.reverse_cons]
theorem mem_both {ps ls : List Pt} {a q : Pt} (h : ps = a :: ls) (hq : q ∈ a :: ls ++ [a] ++ [a] ++ ls.reverse) : q ∈ ps := by
  subst h
  have h2 : q = a ∨ q ∈ ls := by
    simp at hq
    grind
  rcases h2 with h2 | h2 <;> simp [h2]
theorem pts_none {w : World} (b off : Nat) (ps : List Pt) (h : ps.length = 0) : PtsIn w b off ps :=
  ⟨(fun i hi => by omega), (fun i hi => by omega), (fun i hi => by omega), (fun i hi => by omega)⟩
end Lead
