/-
  Plain: a move out of a text.
-/
import Derived.Test.YtlhadgnpkooiaaaGreatDoorMa
import Derived.Test.YtlhadgnpkooiaaaGreatDoorDec9
namespace Lead
open Go Go.RowKit

def kMove : List UInt8 := [109, 111, 118, 101]
def kScale : List UInt8 := [115, 99, 97, 108, 101]
def kTurn : List UInt8 := [116, 117, 114, 110]
def kSkew : List UInt8 := [115, 107, 101, 119]
/-- How many words a kind has. -/
def manyW (k : List UInt8) : Nat := if k = kMove ∨ k = kScale then 2 else if k = kTurn ∨ k = kSkew then 1 else 0
/-- Quarters of a turn. -/
def qtr (l : List UInt8) : Option Mv :=
  if l = [48] then some oneM else if l = [49] then some ⟨Fr.w 0, Fr.w 1, Fr.w (-1), Fr.w 0, Fr.w 0, Fr.w 0⟩ else if l = [50] then some ⟨Fr.w (-1), Fr.w 0, Fr.w 0, Fr.w (-1), Fr.w 0, Fr.w 0⟩
  else if l = [51] then some ⟨Fr.w 0, Fr.w (-1), Fr.w 1, Fr.w 0, Fr.w 0, Fr.w 0⟩ else none
def rdF (l : List UInt8) : Fr := ⟨rdN l, rdD l⟩
/-- What is made of two fractions. -/
def mkW (k : List UInt8) (a b : Fr) : Mv :=
  if k = kMove then ⟨Fr.w 1, Fr.w 0, Fr.w 0, Fr.w 1, a, b⟩ else if k = kScale then ⟨a, Fr.w 0, Fr.w 0, b, Fr.w 0, Fr.w 0⟩ else ⟨Fr.w 1, Fr.w 0, a, Fr.w 1, Fr.w 0, Fr.w 0⟩
/-- One word's move: the error's number, and the move. -/
def oneC (k a b : List UInt8) : Nat := if k = kTurn then (match qtr a with
  | some _ => 0
  | none => 1) else if rdC a = 0 then rdC b else rdC a
def oneV (k a b : List UInt8) : Mv := if k = kTurn then (qtr a).getD zMv else mkW k (rdF a) (rdF b)
/-- All words' moves. -/
def rdW : Nat → List (List UInt8) → Nat × List Mv
  | 0, _ => (0, [])
  | _ + 1, [] => (0, [])
  | f + 1, k :: r =>
    if manyW k = 0 ∨ r.length < manyW k then (1, []) else
    if oneC k (r.getD 0 []) (r.getD (manyW k - 1) []) ≠ 0 then (oneC k (r.getD 0 []) (r.getD (manyW k - 1) []), []) else
    ((rdW f (r.drop (manyW k))).1, oneV k (r.getD 0 []) (r.getD (manyW k - 1) []) :: (rdW f (r.drop (manyW k))).2)
theorem rdW_fuel : ∀ (f g : Nat) (l : List (List UInt8)), l.length ≤ f → l.length ≤ g → rdW f l = rdW g l
  | 0, 0, _, _, _ => rfl
  | 0, g + 1, l, h, _ => by
    obtain rfl := List.length_eq_zero_iff.1 (Nat.le_zero.1 h)
    rfl
  | f + 1, 0, l, _, h => by
    obtain rfl := List.length_eq_zero_iff.1 (Nat.le_zero.1 h)
    rfl
  | f + 1, g + 1, [], _, _ => rfl
  | f + 1, g + 1, k :: r, h, h' => by
    have h1 : r.length ≤ f := by simpa using h
    have h2 : r.length ≤ g := by simpa using h'
    have e := rdW_fuel f g (r.drop (manyW k)) (by rw [List.length_drop]; omega) (by rw [List.length_drop]; omega)
    unfold rdW
    rw [e]
/-- From the last one on, one behind the other. -/
def foldM : Mv → List Mv → Nat × Mv
  | o, [] => (0, o)
  | o, m :: r => if thenC o m = (0, none) then foldM (thenV o m) r else (2, zMv)
def moveC (l : List UInt8) : Nat := if l = [] then 0 else if (rdW (cutL 32 l).length (cutL 32 l)).1 ≠ 0 then (rdW (cutL 32 l).length (cutL 32 l)).1 else (foldM oneM (rdW (cutL 32 l).length (cutL 32 l)).2.reverse).1
def moveV (l : List UInt8) : Mv := if l = [] then oneM else if (rdW (cutL 32 l).length (cutL 32 l)).1 ≠ 0 then zMv else (foldM oneM (rdW (cutL 32 l).length (cutL 32 l)).2.reverse).2
theorem qtr_R {l : List UInt8} {m : Mv} (h : qtr l = some m) : m.R := by
  have r0 : (Fr.w 0).R := w_R (by omega)
  have r1 : (Fr.w 1).R := w_R (by omega)
  have r2 : (Fr.w (-1)).R := w_R (by omega)
  unfold qtr at h
  split at h
  · cases h; exact oneM_R
  · split at h
    · cases h; exact ⟨r0, r1, r2, r0, r0, r0⟩
    · split at h
      · cases h; exact ⟨r2, r0, r0, r2, r0, r0⟩
      · split at h
        · cases h; exact ⟨r0, r2, r1, r0, r0, r0⟩
        · cases h
theorem rdF_R {l : List UInt8} (h : rdC l = 0) : (rdF l).R := by
  cases hP : rdP l with
  | none => rw [rd_none hP] at h; cases h
  | some x =>
    obtain ⟨n, d⟩ := x
    obtain ⟨h1, h2, h3⟩ := rd_some hP
    unfold rdF
    rw [h2, h3]
    exact chk_0 (h1.symm.trans h)
theorem mkW_R {k : List UInt8} {a b : Fr} (ha : a.R) (hb : b.R) : (mkW k a b).R := by
  have r0 : (Fr.w 0).R := w_R (by omega)
  have r1 : (Fr.w 1).R := w_R (by omega)
  unfold mkW
  split
  · exact ⟨r1, r0, r0, r1, ha, hb⟩
  · split
    · exact ⟨ha, r0, r0, hb, r0, r0⟩
    · exact ⟨r1, r0, ha, r1, r0, r0⟩
theorem oneV_R {k a b : List UInt8} (h : oneC k a b = 0) : (oneV k a b).R := by
  unfold oneC at h
  unfold oneV
  split at h
  · rename_i hk
    rw [if_pos hk]
    cases hq : qtr a with
    | none => rw [hq] at h; cases h
    | some m => exact qtr_R hq
  · rename_i hk
    rw [if_neg hk]
    by_cases ha : rdC a = 0
    · rw [if_pos ha] at h
      exact mkW_R (rdF_R ha) (rdF_R h)
    · rw [if_neg ha] at h; exact absurd h ha
theorem rdW_R : ∀ (f : Nat) (l : List (List UInt8)), ∀ m ∈ (rdW f l).2, m.R
  | 0, _, m, h => by simp [rdW] at h
  | f + 1, [], m, h => by simp [rdW] at h
  | f + 1, k :: r, m, h => by
    unfold rdW at h
    split at h
    · simp at h
    · split at h
      · simp at h
      · rename_i _ h0
        rcases List.mem_cons.1 h with rfl | h
        · exact oneV_R (by omega)
        · exact rdW_R f _ m h
theorem foldM_R : ∀ (l : List Mv) (o : Mv), o.R → (∀ m ∈ l, m.R) → ((foldM o l).1 = 0 ∧ (foldM o l).2.R) ∨ ((foldM o l).1 = 2 ∧ (foldM o l).2 = zMv)
  | [], o, h, _ => .inl ⟨rfl, h⟩
  | m :: r, o, h, hl => by
    unfold foldM
    by_cases hc : thenC o m = (0, none)
    · rw [if_pos hc]
      exact foldM_R r _ (then_is hc).r (fun x hx => hl x (by simp [hx]))
    · rw [if_neg hc]; exact .inr ⟨rfl, rfl⟩
theorem then_two {m n : Mv} (hm : m.R) (hn : n.R) (h : thenC m n ≠ (0, none)) : thenC m n = (2, none) ∧ thE m n ≠ 0 ∧ thenV m n = zMv := by
  rcases thenC_cases m n with ⟨h1, _⟩ | ⟨_, h1, _⟩ | ⟨_, _, h1, h2⟩ | ⟨_, _, _, h2⟩
  · exact absurd (congrArg Prod.fst hm.c) h1
  · exact absurd (congrArg Prod.fst hn.c) h1
  · exact ⟨h2, h1, if_neg h⟩
  · exact absurd h2 h
end Lead
