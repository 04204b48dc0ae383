/-
  Several texts as one: Sy1, Sy2, Sy3.
-/
import Derived.Test.YteaipondofbecaaGreatDoorPkg
import Derived.Lib.IndexMore
import Derived.Test.YteaipondofbecaaGreatDoorPke
import Derived.Test.YteaipondofbecaaGreatDoorPk7
/-
  Plain: a sheet out of a text: its rules.
-/
namespace Lead.Sy
open Go Lead Lead.Dc Lead.Pk
/-- A rule: its selector's steps and text, the attribute's name, the value. -/
structure Ru where
  st : List St
  tx : By
  nm : By
  vl : By
def sOpen : By := [32, 123, 32]
def sEnd : By := [32, 125]
def sCol : By := [58, 32]
def nFill : By := [102, 105, 108, 108]
def nRule : By := [114, 117, 108, 101]
def nShow : By := [115, 104, 111, 119]
def nLevel : By := [108, 101, 118, 101, 108]
/-- A name's first value; is it inherited? -/
def firstP (s : By) : Option (By × Bool) :=
  if s = nFill then some ([110, 111, 110, 101], true) else if s = nRule then some ([119, 105, 110, 100], true)
  else if s = nShow then some ([121, 101, 115], false) else if s = nLevel then some ([48], false) else none
def wdL (s : By) : Bool := decide (s ≠ []) && decide (s.length ≤ 12) && s.all nmC
def hdP (s : By) : By := (Lib.cut s sOpen).1
def beP (s : By) : By := (Lib.cut s sOpen).2.1
def reP (s : By) : By := Lib.trimSuffix (beP s) sEnd
def naP (s : By) : By := (Lib.cut (reP s) sCol).1
def vaP (s : By) : By := (Lib.cut (reP s) sCol).2.1
/-- Has a line the form of a rule, its selector aside? -/
def lineOk (s : By) : Bool := (Lib.cut s sOpen).2.2 && Lib.hasSuffix (beP s) sEnd && (Lib.cut (reP s) sCol).2.2 && (firstP (naP s)).isSome && wdL (vaP s)
def lineP (s : By) : Option Ru := if lineOk s = true then (readP (hdP s)).map fun l => ⟨l, hdP s, naP s, vaP s⟩ else none
theorem lineP_some {s : By} {u : Ru} (h : lineP s = some u) : lineOk s = true ∧ readP (hdP s) = some u.st ∧ u.tx = hdP s ∧ u.nm = naP s ∧ u.vl = vaP s := by
  unfold lineP at h
  split at h
  · next h1 =>
    cases h2 : readP (hdP s) with
    | none => rw [h2] at h; cases h
    | some l => rw [h2] at h; cases h; exact ⟨h1, rfl, rfl, rfl, rfl⟩
  · cases h
theorem lineP_no {s : By} (h : lineOk s = false) : lineP s = none := by unfold lineP; rw [if_neg (by rw [h]; decide)]
theorem lineP_none {s : By} (h : readP (hdP s) = none) : lineP s = none := by unfold lineP; rw [h]; split <;> rfl
theorem lineP_yes {s : By} {l : List St} (h : lineOk s = true) (hr : readP (hdP s) = some l) : lineP s = some ⟨l, hdP s, naP s, vaP s⟩ := by unfold lineP; rw [if_pos h, hr]; rfl
/-- The rules of the first lines. -/
def shT (l : List By) : Nat → Option (List Ru)
  | 0 => some []
  | i + 1 => match shT l i with
    | none => none
    | some us => match lineP (l.getD i []) with
      | none => none
      | some u => some (us ++ [u])
/-- The first line that is none. -/
def bad : List By → Nat
  | [] => 0
  | x :: r => match lineP x with
    | none => 0
    | some _ => bad r + 1
theorem bad_le : ∀ l : List By, bad l ≤ l.length
  | [] => Nat.le_refl _
  | x :: r => by
    unfold bad
    split
    · exact Nat.zero_le _
    · have := bad_le r; rw [List.length_cons]; omega
theorem bad_take : ∀ (l : List By) (i : Nat), (∀ j, j < i → j < l.length ∧ lineP (l.getD j []) ≠ none) → i ≤ bad l
  | _, 0, _ => Nat.zero_le _
  | [], i + 1, h => absurd (h 0 (Nat.succ_pos _)).1 (by simp)
  | x :: r, i + 1, h => by
    unfold bad
    have h0 := (h 0 (Nat.succ_pos _)).2
    split
    · next hx => exact absurd hx h0
    · have := bad_take r i (fun j hj => by
        have := h (j + 1) (by omega)
        rw [List.length_cons] at this
        exact ⟨by omega, this.2⟩)
      omega
theorem bad_at : ∀ (l : List By) (i : Nat), i < l.length → lineP (l.getD i []) = none → bad l ≤ i
  | [], _, h, _ => absurd h (by simp)
  | x :: r, 0, _, h => by unfold bad; rw [show lineP x = none from h]; exact Nat.le_refl _
  | x :: r, i + 1, hl, h => by
    unfold bad
    split
    · exact Nat.zero_le _
    · have := bad_at r i (by rw [List.length_cons] at hl; omega) h; omega
theorem shT_next {l : List By} {i : Nat} {us : List Ru} {u : Ru} (h : shT l i = some us) (hu : lineP (l.getD i []) = some u) : shT l (i + 1) = some (us ++ [u]) := by rw [shT, h]; dsimp only; rw [hu]
theorem shT_all {l : List By} : ∀ {i : Nat} {us : List Ru}, shT l i = some us → us.length = i ∧ ∀ j, j < i → lineP (l.getD j []) ≠ none
  | 0, us, h => by rw [shT] at h; cases h; exact ⟨rfl, fun j hj => absurd hj (Nat.not_lt_zero _)⟩
  | i + 1, us, h => by
    rw [shT] at h
    cases hi : shT l i with
    | none => rw [hi] at h; cases h
    | some vs =>
      rw [hi] at h
      dsimp only at h
      have ⟨h1, h2⟩ := shT_all hi
      cases hu : lineP (l.getD i []) with
      | none => rw [hu] at h; cases h
      | some u =>
        rw [hu] at h; cases h
        refine ⟨by simp [h1], fun j hj => ?_⟩
        rcases Nat.lt_or_ge j i with hj' | hj'
        · exact h2 j hj'
        · obtain rfl : j = i := by omega
          rw [hu]; exact fun e => by cases e
/-- What style.Read answers: its error's number and place. -/
def shC (s : By) : Nat × Option Nat :=
  if 10000 < s.length then (2, none)
  else if bad (cutF 10 s).1 < (cutF 10 s).1.length ∨ (cutF 10 s).2 ≠ [] then (1, some (bad (cutF 10 s).1))
  else if 40 < (cutF 10 s).1.length then (7, none) else (0, none)
/-- .. and its rules. -/
def shU (s : By) : List Ru := (shT (cutF 10 s).1 (cutF 10 s).1.length).getD []
theorem cutL_get_lt {s : By} {i : Nat} (h : i < (cutF 10 s).1.length) : (cutL 10 s).getD i [] = (cutF 10 s).1.getD i [] := by
  unfold cutL; simp [List.getD, List.getElem?_append_left h]
theorem cutL_get_last (s : By) : (cutL 10 s).getD (cutF 10 s).1.length [] = (cutF 10 s).2 := by unfold cutL; simp [List.getD]
theorem cutL_length (s : By) : (cutL 10 s).length = (cutF 10 s).1.length + 1 := by unfold cutL; simp
/-- A line that is none. -/
theorem shC_bad {s : By} {i : Nat} {us : List Ru} (hl : s.length ≤ 10000) (h : shT (cutF 10 s).1 i = some us) (hi : i < (cutF 10 s).1.length) (hn : lineP ((cutF 10 s).1.getD i []) = none) : shC s = (1, some i) := by
  have h1 := bad_at _ i hi hn
  have h2 := bad_take (cutF 10 s).1 i (fun j hj => ⟨by omega, (shT_all h).2 j hj⟩)
  unfold shC
  rw [if_neg (by omega), if_pos (.inl (by omega)), show bad (cutF 10 s).1 = i by omega]
theorem shC_last {s : By} {us : List Ru} (hl : s.length ≤ 10000) (h : shT (cutF 10 s).1 (cutF 10 s).1.length = some us) (hn : (cutF 10 s).2 ≠ []) : shC s = (1, some (cutF 10 s).1.length) := by
  have h1 := bad_le (cutF 10 s).1
  have h2 := bad_take (cutF 10 s).1 (cutF 10 s).1.length (fun j hj => ⟨hj, (shT_all h).2 j hj⟩)
  unfold shC
  rw [if_neg (by omega), if_pos (.inr hn), show bad (cutF 10 s).1 = (cutF 10 s).1.length by omega]
theorem shC_end {s : By} {us : List Ru} (hl : s.length ≤ 10000) (h : shT (cutF 10 s).1 (cutF 10 s).1.length = some us) (hn : (cutF 10 s).2 = []) : shC s = (if 40 < us.length then (7, none) else (0, none)) ∧ shU s = us := by
  have h1 := bad_le (cutF 10 s).1
  have h2 := bad_take (cutF 10 s).1 (cutF 10 s).1.length (fun j hj => ⟨hj, (shT_all h).2 j hj⟩)
  refine ⟨?_, by unfold shU; rw [h]; rfl⟩
  unfold shC
  rw [if_neg (by omega), if_neg (fun h => by rcases h with h | h; · omega
                                             · exact h hn), (shT_all h).1]
theorem shC_long {s : By} (hl : 10000 < s.length) : shC s = (2, none) := by unfold shC; rw [if_pos hl]
/-- A sheet that is right. -/
theorem shC_ok {s : By} (h : (shC s).1 = 0) : (cutF 10 s).2 = [] ∧ shT (cutF 10 s).1 (cutF 10 s).1.length = some (shU s) ∧ (shU s).length = (cutF 10 s).1.length ∧ (shU s).length ≤ 40 ∧ s.length ≤ 10000 := by
  unfold shC at h
  split at h
  · exact absurd h (by decide)
  · next h0 =>
    split at h
    · exact absurd (show (1 : Nat) = 0 from h) (by decide)
    · next h1 =>
      split at h
      · exact absurd h (by decide)
      · next h2 =>
        rw [not_or] at h1
        have hb : (cutF 10 s).1.length ≤ bad (cutF 10 s).1 := by omega
        have hall : ∀ (l : List By) (i : Nat), i ≤ bad l → ∃ us, shT l i = some us := fun l i => by
          induction i with
          | zero => exact fun _ => ⟨_, rfl⟩
          | succ i ih =>
            intro hi
            obtain ⟨us, hus⟩ := ih (by omega)
            have hll := bad_le l
            cases hu : lineP (l.getD i []) with
            | none => have := bad_at l i (by omega) hu; omega
            | some u => exact ⟨_, shT_next hus hu⟩
        obtain ⟨us, hus⟩ := hall (cutF 10 s).1 _ hb
        have hU : shU s = us := by unfold shU; rw [hus]; rfl
        rw [hU]
        exact ⟨Decidable.not_not.1 h1.2, hus, (shT_all hus).1, by have := (shT_all hus).1; omega, by omega⟩
end Lead.Sy

/-
  Plain: a sheet that goes on by two rules of one selector (the law StyleNone); what rules tell; an element's style.
-/
namespace Lead.Sy
open Go Lead Lead.Dc Lead.Pk
theorem suf_spec {s p : By} (h : Lib.hasSuffix s p = true) : s = Lib.trimSuffix s p ++ p := by
  have h' := h
  unfold Lib.hasSuffix at h'
  obtain ⟨t, ht⟩ := List.isSuffixOf_iff_suffix.1 h'
  unfold Lib.trimSuffix
  rw [if_pos h, ← ht]
  simp
/-! ### lines -/
/-! ### what rules tell -/
def rulS (E : Els) (n : Nat) (nm : By) (st : By × Int) (u : Ru) : By × Int :=
  if u.nm = nm ∧ fitsL E u.st n = true then (if st.2 ≤ (wtL u.st : Int) then (u.vl, (wtL u.st : Int)) else st) else st
def ruledP (E : Els) (us : List Ru) (n : Nat) (nm : By) : By × Int := us.foldl (rulS E n nm) ([], -1)
theorem ruledP_snoc (E : Els) (us : List Ru) (u : Ru) (n : Nat) (nm : By) : ruledP E (us ++ [u]) n nm = rulS E n nm (ruledP E us n nm) u := by unfold ruledP; rw [List.foldl_append]; rfl
theorem rulS_other {E : Els} {n : Nat} {nm : By} {st : By × Int} {u : Ru} (h : u.nm ≠ nm) : rulS E n nm st u = st := by unfold rulS; rw [if_neg (fun e => h e.1)]
theorem rulS_not {E : Els} {n : Nat} {nm : By} {st : By × Int} {u : Ru} (h : fitsL E u.st n = false) : rulS E n nm st u = st := by unfold rulS; rw [if_neg (fun e => by rw [h] at e; exact absurd e.2 (by decide))]
/-- What an element's own attribute, or a rule, tells. -/
def tellP (E : Els) (us : List Ru) (n : Nat) (nm : By) : Option ByteArray :=
  match (elAt E n).bind (fun e => attrV (bs nm) e.attrs) with
  | some v => some v
  | none => if 0 ≤ (ruledP E us n nm).2 then some (bs (ruledP E us n nm).1) else none
def ofL (E : Els) (us : List Ru) (nm value : By) (heir : Bool) : List Nat → ByteArray
  | [] => bs value
  | p :: r => match tellP E us p nm with
    | some v => v
    | none => if heir = true then ofL E us nm value heir r else bs value
/-- An element's style. -/
def ofP (E : Els) (us : List Ru) (n : Nat) (nm : By) : ByteArray := match firstP nm with
  | none => bs []
  | some (v, h) => ofL E us nm v h (upZ E (n : Int))
end Lead.Sy

/-
  Plain: how a sheet lies in memory.
-/
namespace Lead.Sy
open Go Go.RowKit Lead Lead.Dc Lead.Pk
/-- A rule with its selector's slice. -/
structure RuX where
  so : Option Addr
  sl : Nat
  sc : Nat
  u : Ru
def RuX.sv (x : RuX) : Value := .slice x.so x.sl x.sc
def ERu : Enc RuX := ⟨fun x => [.slice x.so x.sl x.sc, .string (bs x.u.tx), .string (bs x.u.nm), .string (bs x.u.vl)], 4, fun _ => rfl, fun x u h => by simp at h; rcases h with rfl | rfl | rfl | rfl <;> rfl, by decide⟩
/-- A selector's steps, in blocks of Q. -/
def SelQ (TS TW : TypeId) (Q : Nat → Prop) (base : Nat) (W : World) (v : Value) (l : List St) : Prop := ∃ xs : List StX, (OwnR ESt W base TS v xs ∧ ∀ b, v.ownBlock = some b → Q b) ∧ (∀ x ∈ xs, OwnR EWa W base TW x.sl x.ws ∧ ∀ b, x.sl.ownBlock = some b → Q b) ∧ xs.map StX.st = l
variable {TS TW TR : TypeId} {Q Q' : Nat → Prop} {base base' : Nat} {w W W' : World} {v : Value} {l : List St}
theorem SelOk.q (h : SelOk TS TW base W v l) : SelQ TS TW (fun b => base ≤ b ∧ b < W.heap.size) base W v l := by
  obtain ⟨xs, h1, h2, h3⟩ := h
  exact ⟨xs, ⟨h1, h1.lt⟩, fun x hx => ⟨h2 x hx, (h2 x hx).lt⟩, h3⟩
theorem SelQ.ok (h : SelQ TS TW Q base W v l) : SelOk TS TW base W v l := by
  obtain ⟨xs, h1, h2, h3⟩ := h
  exact ⟨xs, h1.1, fun x hx => (h2 x hx).1, h3⟩
theorem SelQ.mono (h : SelQ TS TW Q base W v l) (hb : base' ≤ base) (hQ : ∀ b, base ≤ b → b < W.heap.size → Q b → Q' b) : SelQ TS TW Q' base' W v l := by
  obtain ⟨xs, h1, h2, h3⟩ := h
  exact ⟨xs, ⟨h1.1.base hb, fun b hv => hQ b (h1.1.lt b hv).1 (h1.1.lt b hv).2 (h1.2 b hv)⟩, fun x hx => ⟨(h2 x hx).1.base hb, fun b hv => hQ b ((h2 x hx).1.lt b hv).1 ((h2 x hx).1.lt b hv).2 ((h2 x hx).2 b hv)⟩, h3⟩
theorem SelQ.kept (h : SelQ TS TW Q base W v l) (hk : ∀ b, b < W.heap.size → Q b → W'.heap[b]? = W.heap[b]?) : SelQ TS TW Q base W' v l := by
  obtain ⟨xs, h1, h2, h3⟩ := h
  exact ⟨xs, ⟨own_kept h1.1 (fun b hv => hk b (h1.1.lt b hv).2 (h1.2 b hv)), h1.2⟩, fun x hx => ⟨own_kept (h2 x hx).1 (fun b hv => hk b ((h2 x hx).1.lt b hv).2 ((h2 x hx).2 b hv)), (h2 x hx).2⟩, h3⟩
/-- Rules that are in a call's own memory, while they are read. -/
structure ShW (TS TW TR : TypeId) (base : Nat) (W : World) (v : Value) (xs : List RuX) : Prop where
  own : OwnR ERu W base TR v xs
  sel : ∀ x ∈ xs, SelQ TS TW (fun b => v.ownBlock ≠ some b) base W x.sv x.u.st
theorem ShW.nil (TS TW TR : TypeId) (base : Nat) (W : World) : ShW TS TW TR base W (.slice none 0 0) [] := ⟨OwnR.nil _ _ _ _, fun x hx => by cases hx⟩
theorem ShW.step {xs : List RuX} (h : ShW TS TW TR base W v xs) (hb : Below W.heap.size W W') : ShW TS TW TR base W' v xs :=
  ⟨h.own.keep hb, fun x hx => (h.sel x hx).kept (fun b hl _ => hb.block b hl)⟩
theorem ShW.app {xs : List RuX} {x : RuX} {v' : Value} (h : ShW TS TW TR base W v xs) (hx : SelQ TS TW (fun b => v.ownBlock ≠ some b) base W x.sv x.u.st)
    (hv : OwnR ERu W' base TR v' (xs ++ [x])) (hg : W.grownBy W' v.ownBlock) (ho : v'.ownBlock = v.ownBlock ∨ v'.ownBlock = some W.heap.size) : ShW TS TW TR base W' v' (xs ++ [x]) := by
  have hkeep : ∀ y : RuX, SelQ TS TW (fun b => v.ownBlock ≠ some b) base W y.sv y.u.st → SelQ TS TW (fun b => v'.ownBlock ≠ some b) base W' y.sv y.u.st := fun y hy => by
    have h1 : SelQ TS TW (fun b => v.ownBlock ≠ some b ∧ v'.ownBlock ≠ some b) base W y.sv y.u.st := hy.mono (Nat.le_refl _) (fun b _ hl hb => ⟨hb, by
      rcases ho with ho | ho
      · rw [ho]; exact hb
      · rw [ho]; intro e; injection e with e; omega⟩)
    exact (h1.kept (W' := W') (fun b hl hb => hg.block b hl (fun e => hb.1 e.symm))).mono (Nat.le_refl _) (fun b _ _ hb => hb.2)
  refine ⟨hv, fun y hy => ?_⟩
  rcases List.mem_append.1 hy with hy | hy
  · exact hkeep y (h.sel y hy)
  · rw [List.mem_singleton.1 hy]; exact hkeep x hx
/-- A sheet, as it lies. -/
def ShOk (TS TW TR : TypeId) (base : Nat) (W : World) (v : Value) (us : List Ru) : Prop := ∃ xs : List RuX, OwnR ERu W base TR v xs ∧ (∀ x ∈ xs, SelOk TS TW base W x.sv x.u.st) ∧ xs.map RuX.u = us
theorem ShOk.keep {us : List Ru} (h : ShOk TS TW TR base W v us) (hb : Below W.heap.size W W') : ShOk TS TW TR base W' v us := by
  obtain ⟨xs, h1, h2, h3⟩ := h
  exact ⟨xs, h1.keep hb, fun x hx => (h2 x hx).keep hb, h3⟩
theorem ShW.done {xs : List RuX} (h : ShW TS TW TR base W v xs) : ShOk TS TW TR base W v (xs.map RuX.u) := ⟨xs, h.own, fun x hx => (h.sel x hx).ok, rfl⟩
end Lead.Sy
