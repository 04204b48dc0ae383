/-
  Plain: fractions as texts: what is read.
-/
import Derived.Test.YthijgncjaophjaaDoorDec1
import Derived.Test.YthijgncjaophjaaDoorPl11
namespace Lead
open Go Go.RowKit

def cutR (y : UInt8) : List UInt8 → List (List UInt8)
  | [] => [[]]
  | c :: l => if c = y then [] :: cutR y l else (c :: (cutR y l).headD []) :: (cutR y l).tail
theorem cutR_ne (y : UInt8) (l : List UInt8) : cutR y l ≠ [] := by
  cases l with
  | nil => simp [cutR]
  | cons c l => unfold cutR; split <;> simp
theorem cutR_eta (y : UInt8) (l : List UInt8) : (cutR y l).headD [] :: (cutR y l).tail = cutR y l := by
  cases h : cutR y l with
  | nil => exact absurd h (cutR_ne y l)
  | cons a r => rfl
theorem cut_fold (y : UInt8) (l : List UInt8) : ∀ (L : List (List UInt8)) (cur : List UInt8), (l.foldl (cutStep y) (L, cur)).1 ++ [(l.foldl (cutStep y) (L, cur)).2] = L ++ ((cur ++ (cutR y l).headD []) :: (cutR y l).tail) := by
  induction l with
  | nil => intro L cur; simp [cutR]
  | cons c l ih =>
    intro L cur
    rw [List.foldl_cons]
    by_cases h : c = y
    · rw [show cutStep y (L, cur) c = (L ++ [cur], []) from if_pos h]
      have := ih (L ++ [cur]) []
      rw [this]
      have e := cutR_eta y l
      simp only [cutR, if_pos h, List.nil_append, List.headD_cons, List.append_nil, List.tail_cons, e]
      simp
    · rw [show cutStep y (L, cur) c = (L, cur ++ [c]) from if_neg h]
      have := ih L (cur ++ [c])
      rw [this]
      simp only [cutR, if_neg h, List.headD_cons, List.tail_cons]
      simp
theorem cutL_R (y : UInt8) (l : List UInt8) : cutL y l = cutR y l := by
  have := cut_fold y l [] []
  rw [List.nil_append, List.nil_append, cutR_eta] at this
  exact this
theorem cutR_1 (y : UInt8) (l : List UInt8) : cutR y l = if (cut1 y l).2.2 = true then (cut1 y l).1 :: cutR y (cut1 y l).2.1 else [(cut1 y l).1] := by
  induction l with
  | nil => simp [cutR, cut1]
  | cons c l ih =>
    by_cases h : c = y
    · simp [cutR, cut1, h]
    · simp only [cutR, cut1, if_neg h]
      rw [ih]
      split <;> rfl
theorem cut1_no (y : UInt8) (l : List UInt8) (h : (cut1 y l).2.2 = false) : (cut1 y l).1 = l := by
  induction l with
  | nil => rfl
  | cons c l ih =>
    by_cases h1 : c = y
    · simp [cut1, h1] at h
    · simp only [cut1, if_neg h1] at h ⊢
      rw [ih h]
theorem cut1_yes (y : UInt8) (l : List UInt8) (h : (cut1 y l).2.2 = true) : l = (cut1 y l).1 ++ y :: (cut1 y l).2.1 := by
  induction l with
  | nil => simp [cut1] at h
  | cons c l ih =>
    by_cases h1 : c = y
    · simp [cut1, h1]
    · simp only [cut1, if_neg h1] at h ⊢
      rw [List.cons_append, ← ih h]
/-- What is no number of digits. -/
theorem numOf_bad {l : List UInt8} {most : Nat} {c : UInt8} (h : c ∈ l) (hc : isDig c = false) : numOf l most = -1 := by
  unfold numOf
  split
  · rfl
  · rw [if_neg]
    intro ha
    rw [List.all_eq_true] at ha
    rw [ha c h] at hc; cases hc

/-- A number with a sign, of ten digits at most. -/
def numS (l : List UInt8) : Option Int :=
  if l.head? = some 45 then (if 1 ≤ numOf (l.drop 1) 10 then some (-(numOf (l.drop 1) 10)) else none)
  else if 0 ≤ numOf l 10 then some (numOf l 10) else none
/-- A fraction's parts, out of its text. -/
def rdP (l : List UInt8) : Option (Int × Int) :=
  match numS (cut1 47 l).1 with
  | none => none
  | some n => if (cut1 47 l).2.2 = true then (if numOf (cut1 47 l).2.1 10 < 0 ∨ numOf (cut1 47 l).2.1 10 = 1 then none else some (n, numOf (cut1 47 l).2.1 10)) else some (n, 1)
def rdC (l : List UInt8) : Nat := match rdP l with
  | none => 1
  | some x => chk x.1 x.2
def rdN (l : List UInt8) : Int := match rdP l with
  | none => 0
  | some x => x.1
def rdD (l : List UInt8) : Int := match rdP l with
  | none => 0
  | some x => x.2
theorem rd_none {l : List UInt8} (h : rdP l = none) : rdC l = 1 := by unfold rdC; rw [h]
theorem rd_some {l : List UInt8} {n d : Int} (h : rdP l = some (n, d)) : rdC l = chk n d ∧ rdN l = n ∧ rdD l = d := by unfold rdC rdN rdD; rw [h]; exact ⟨rfl, rfl, rfl⟩
theorem numOf_lt {l : List UInt8} {most : Nat} (hm : most ≤ 10) : -1 ≤ numOf l most ∧ numOf l most < 10000000000 := by
  unfold numOf
  split
  · omega
  · split
    · rename_i h1 h2
      have h3 := numF_lt h2
      have h4 : l.length ≤ 10 := by omega
      have h5 : (10 : Nat) ^ l.length ≤ 10 ^ 10 := Nat.pow_le_pow_right (by decide) h4
      have h6 : (10 : Nat) ^ 10 = 10000000000 := by decide
      omega
    · omega
theorem head_cut {l : List UInt8} : (cut1 47 l).1.head? = some 45 ↔ l.head? = some 45 := by
  cases l with
  | nil => simp [cut1]
  | cons c l =>
    by_cases h : c = 47
    · subst h; simp [cut1]
    · simp [cut1, h]

/-- The ways of the reference's reading: w: what the text is cut into; D: the digits ahead. -/
theorem rd_cases (l : List UInt8) :
    (2 < (cutL 47 l).length ∧ rdP l = none) ∨
    (∃ h, cutL 47 l = [h] ∧ (h.head? = some 45 ↔ l.head? = some 45) ∧ rdP l = (numS h).map fun n => (n, 1)) ∨
    (∃ h t, cutL 47 l = [h, t] ∧ (h.head? = some 45 ↔ l.head? = some 45) ∧ rdP l = (numS h).bind fun n => if numOf t 10 < 0 ∨ numOf t 10 = 1 then none else some (n, numOf t 10)) := by
  rw [cutL_R, cutR_1]
  by_cases h1 : (cut1 47 l).2.2 = true
  · rw [if_pos h1]
    rw [cutR_1]
    by_cases h2 : (cut1 47 (cut1 47 l).2.1).2.2 = true
    · left
      rw [if_pos h2]
      have hne := cutR_ne 47 (cut1 47 (cut1 47 l).2.1).2.1
      have hlen : 1 ≤ (cutR 47 (cut1 47 (cut1 47 l).2.1).2.1).length := by
        cases h : cutR 47 (cut1 47 (cut1 47 l).2.1).2.1 with
        | nil => exact absurd h hne
        | cons a r => simp
      refine ⟨by simp only [List.length_cons]; omega, ?_⟩
      have hb : numOf (cut1 47 l).2.1 10 = -1 := by
        have e := cut1_yes 47 (cut1 47 l).2.1 h2
        exact numOf_bad (c := 47) (by rw [e]; simp) (by decide)
      unfold rdP
      cases numS (cut1 47 l).1 with
      | none => rfl
      | some n => simp only [if_pos h1]; rw [hb]; rfl
    · right; right
      rw [if_neg h2]
      have e := cut1_no 47 (cut1 47 l).2.1 (Bool.eq_false_iff.2 h2)
      rw [e]
      refine ⟨_, _, rfl, head_cut, ?_⟩
      unfold rdP
      cases numS (cut1 47 l).1 with
      | none => rfl
      | some n => simp only [if_pos h1, Option.bind_some]
  · right; left
    rw [if_neg h1]
    refine ⟨_, rfl, head_cut, ?_⟩
    unfold rdP
    cases numS (cut1 47 l).1 with
    | none => rfl
    | some n => simp only [if_neg h1, Option.map_some]
end Lead
