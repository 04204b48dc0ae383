/-
  Plain: does an element have what is wanted; does a step fit it; do steps; what the statement PickWeighs says.
-/
import Derived.Test.YtenegeddcbccdaaGreatDoorPq
import Derived.Test.YtenegeddcbccdaaGreatDoorPk8
import Derived.Test.YtenegeddcbccdaaGreatDoorDp
namespace Lead.Pk
open Go Go.RowKit Lead Lead.Dc
def kId : ByteArray := ⟨#[105, 100]⟩
def kClass : ByteArray := ⟨#[99, 108, 97, 115, 115]⟩
/-- An element that has what is wanted. -/
def hasV (at' : List (ByteArray × ByteArray)) (x : Wn) : Bool :=
  if x.sign = 35 then decide (attrV kId at' = some (bs x.name))
  else if x.sign = 46 then decide (x.name ∈ cutL 32 (((attrV kClass at').getD ⟨#[]⟩).data.toList))
  else (attrV (bs x.name) at').isSome
def stF (e : El) (x : St) : Bool := (decide (x.nm = []) || decide (x.nm = [42]) || decide (bs x.nm = e.name)) && x.ws.all (hasV e.attrs)
/-- The numbers above an element, from its parent on. -/
def ups (E : Els) : Nat → Nat → List Nat
  | 0, _ => []
  | f + 1, n => match elAt E n with
    | none => []
    | some e => if 0 ≤ e.parent then e.parent.toNat :: ups E f e.parent.toNat else []
/-- Steps, the last one first: do they fit an element? -/
def fitsR (E : Els) : List St → Nat → Bool
  | [], _ => false
  | x :: r, n => match elAt E n with
    | none => false
    | some e => stF e x && (r.isEmpty || (if x.right then (ups E 10 n).take 1 else ups E 10 n).any (fitsR E r))
def fitsL (E : Els) (l : List St) (n : Nat) : Bool := fitsR E l.reverse n
/-- A last step that asks more. -/
theorem stF_more (e : El) (x : St) (M : List Wn) : stF e ⟨x.nm, x.ws ++ M, x.right⟩ = (stF e x && M.all (hasV e.attrs)) := by
  unfold stF
  rw [List.all_append, Bool.and_assoc]
theorem fitsR_more (E : Els) (x : St) (M : List Wn) (r : List St) (n : Nat) : fitsR E (⟨x.nm, x.ws ++ M, x.right⟩ :: r) n = (fitsR E (x :: r) n && match elAt E n with | none => false | some e => M.all (hasV e.attrs)) := by
  rw [fitsR, fitsR]
  cases elAt E n with
  | none => rfl
  | some e =>
    dsimp only
    rw [stF_more]
    cases stF e x <;> cases M.all (hasV e.attrs) <;> simp
/-- The statement's last step, plain: more asked fits no more; asked twice, the same. -/
theorem weighs_fits {s m : By} {A B C : List St} (hm : hdOk m = true) (hne : m ≠ []) (h32 : 32 ∉ m) (h1 : readP s = some A) (h2 : readP (s ++ m) = some B) (h3 : readP (s ++ m ++ m) = some C) (E : Els) (n : Nat) :
    (fitsL E B n = true → fitsL E A n = true) ∧ fitsL E B n = fitsL E C n := by
  obtain ⟨pre, x, M, hM, hW, rfl, rfl⟩ := readP_more hm hne h32 h1 h2
  obtain ⟨pre', x', M', _, hW', hB, rfl⟩ := readP_more hm hne h32 h2 h3
  have hl := List.append_inj' hB rfl
  obtain ⟨rfl, hx⟩ := hl
  have hx' : x' = ⟨x.nm, x.ws ++ M, x.right⟩ := by injection hx with hx _; exact hx.symm
  subst hx'
  rw [hW] at hW'
  injection hW' with hW'
  subst hW'
  unfold fitsL
  simp only [List.reverse_append, List.reverse_cons, List.reverse_nil, List.nil_append, List.singleton_append]
  have e1 := fitsR_more E x M pre.reverse n
  have e2 := fitsR_more E ⟨x.nm, x.ws ++ M, x.right⟩ M pre.reverse n
  dsimp only at e2
  rw [e2, e1]
  constructor
  · intro h; exact (Bool.and_eq_true _ _ ▸ h).1
  · generalize fitsR E (x :: pre.reverse) n = p
    generalize (match elAt E n with | none => false | some e => M.all (hasV e.attrs)) = q
    cases p <;> cases q <;> rfl
end Lead.Pk
