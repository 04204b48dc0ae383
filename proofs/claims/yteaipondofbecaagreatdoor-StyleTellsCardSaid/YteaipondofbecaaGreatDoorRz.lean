/-
  Several texts as one: Rp5, Rp6, Rp8, Rq0.
-/
import Derived.Test.YteaipondofbecaaGreatDoorPp
import Derived.Test.YteaipondofbecaaGreatDoorPq
/-
  Plain: the reference's reading of a want is pick's.
-/
namespace Lead.Pk
open Lead Lead.Dc
/-- Where the reference's name ends: # . [ ] -/
def isTr (c : UInt8) : Bool := isSg c || decide (c = 93)
def headT (s : By) : By := s.takeWhile fun c => !isTr c
def tailT (s : By) : By := s.dropWhile fun c => !isTr c
def closT (r : By) : Bool := decide ((tailT r).head? = some 93)
def restT (r : By) : By := if closT r = true then (tailT r).drop 1 else tailT r
/-- One want, as the reference reads it. -/
def oneR (c : UInt8) (r : By) : Option (Wn × By) :=
  if nmL (headT r) = true ∧ closT r = decide (c = 91) ∧ hdOk (restT r) = true then some (⟨c, headT r⟩, restT r) else none
theorem nmL_all {L : By} (h : nmL L = true) : ∀ c ∈ L, nmC c = true := by
  cases L with
  | nil => intro c hc; cases hc
  | cons a r =>
    simp only [nmL, Bool.and_eq_true] at h
    exact List.all_eq_true.1 h.2
theorem tw_split {q : UInt8 → Bool} {A t : By} {a : UInt8} (hA : ∀ c ∈ A, q c = true) (ha : q a = false) : (A ++ a :: t).takeWhile q = A ∧ (A ++ a :: t).dropWhile q = a :: t := by
  rw [List.takeWhile_append_of_pos hA, List.dropWhile_append_of_pos hA, List.takeWhile_cons, List.dropWhile_cons, ha]
  simp
theorem tw_all {q : UInt8 → Bool} {A : By} (hA : ∀ c ∈ A, q c = true) : A.takeWhile q = A ∧ A.dropWhile q = [] := by
  have h := List.takeWhile_append_of_pos (l₂ := []) hA
  have h2 := List.dropWhile_append_of_pos (l₂ := []) hA
  simp only [List.append_nil, List.takeWhile_nil, List.dropWhile_nil] at h h2
  exact ⟨h, h2⟩
theorem dw_head {p : UInt8 → Bool} : ∀ {r : By} {a : UInt8} {t : By}, r.dropWhile p = a :: t → p a = false
  | [], _, _, h => by cases h
  | b :: r, a, t, h => by
    rw [List.dropWhile_cons] at h
    by_cases hb : p b = true
    · rw [if_pos hb] at h; exact dw_head h
    · rw [if_neg hb] at h; injection h with h _; rw [← h]; simpa using hb
theorem mem_tw {p : UInt8 → Bool} : ∀ {r : By} {c : UInt8}, c ∈ r.takeWhile p → p c = true
  | [], _, h => by cases h
  | b :: r, c, h => by
    rw [List.takeWhile_cons] at h
    by_cases hb : p b = true
    · rw [if_pos hb] at h
      rcases List.mem_cons.1 h with rfl | h
      · exact hb
      · exact mem_tw h
    · rw [if_neg hb] at h; cases h
theorem bad_mem {q : UInt8 → Bool} {A t : By} {a : UInt8} (hA : ∀ c ∈ A, q c = true) (ha : q a = true) (hn : nmC a = false) : nmL ((A ++ a :: t).takeWhile q) = false := by
  cases h : nmL ((A ++ a :: t).takeWhile q) with
  | false => rfl
  | true =>
    have h1 := nmL_all h a (by
      rw [List.takeWhile_append_of_pos hA, List.takeWhile_cons, if_pos ha]
      simp)
    rw [hn] at h1; cases h1
theorem oneR_eq (c : UInt8) (r : By) : oneR c r = oneP c r := by
  have hr : headT r ++ tailT r = r := List.takeWhile_append_dropWhile
  have hA : ∀ x ∈ headT r, isTr x = false := fun x hx => by have := mem_tw hx; simpa using this
  have hW : ∀ x ∈ headT r, (!isSg x) = true := fun x hx => by have := hA x hx; unfold isTr at this; simp at this; simp [this.1]
  have hB : ∀ x ∈ headT r, (!decide (x = 93)) = true := fun x hx => by have := hA x hx; unfold isTr at this; simp at this; simp [this.2]
  cases ht : tailT r with
  | nil =>
    have hc : closT r = false := by unfold closT; rw [ht]; rfl
    have hre : restT r = [] := by unfold restT; rw [hc, ht]; rfl
    have hrA : r = headT r := by rw [ht, List.append_nil] at hr; exact hr.symm
    unfold oneR oneP
    rw [hc, hre]
    by_cases h91 : c = 91
    · have h93 : 93 ∉ r := fun h => by rw [hrA] at h; have := hB _ h; simp at this
      rw [if_neg (by rw [decide_eq_true h91]; simp), if_pos h91, if_neg (fun h => h93 h.1.1)]
    · have e1 : headW r = headT r := by
        have h := (tw_all hW).1
        rw [← hrA] at h; unfold headW; rw [h]; exact hrA
      have e2 : tailW r = [] := by
        have h := (tw_all hW).2
        rw [← hrA] at h; exact h
      rw [if_neg h91, e1, e2, decide_eq_false h91]
      simp [hdOk]
  | cons a t =>
    have ha : isTr a = true := by have := dw_head ht; simpa using this
    rw [ht] at hr
    by_cases h93 : a = 93
    · subst h93
      have hc : closT r = true := by unfold closT; rw [ht]; rfl
      have hre : restT r = t := by unfold restT; rw [hc, ht]; rfl
      unfold oneR oneP
      rw [hc, hre]
      by_cases h91 : c = 91
      · have hs := tw_split (t := t) hB (by decide : (!decide ((93 : UInt8) = 93)) = false)
        rw [hr] at hs
        have e1 : headB r = headT r := hs.1
        have e2 : tailB r = 93 :: t := hs.2
        have hm : 93 ∈ r := by rw [← hr]; simp
        rw [if_pos h91, e1, e2, decide_eq_true h91]
        simp [hm]
      · have hb := bad_mem (t := t) hW (by decide : (!isSg 93) = true) (by decide : nmC 93 = false)
        rw [hr] at hb
        have hb' : nmL (headW r) = false := hb
        rw [if_neg h91, hb', decide_eq_false h91]
        simp
    · have hsg : isSg a = true := by unfold isTr at ha; simp [h93] at ha; exact ha
      have hc : closT r = false := by unfold closT; rw [ht]; simp [h93]
      have hre : restT r = a :: t := by unfold restT; rw [hc, ht]; rfl
      unfold oneR oneP
      rw [hc, hre]
      by_cases h91 : c = 91
      · have hna : nmC a = false := by
          unfold isSg at hsg
          simp only [Bool.or_eq_true, decide_eq_true_eq] at hsg
          rcases hsg with (rfl | rfl) | rfl <;> decide
        have hb := bad_mem (t := t) hB (by simp [h93] : (!decide (a = 93)) = true) hna
        rw [hr] at hb
        have hb' : nmL (headB r) = false := hb
        rw [if_pos h91, hb', decide_eq_true h91]
        simp
      · have hs := tw_split (t := t) hW (by rw [hsg]; rfl : (!isSg a) = false)
        rw [hr] at hs
        have e1 : headW r = headT r := hs.1
        have e2 : tailW r = a :: t := hs.2
        rw [if_neg h91, e1, e2, decide_eq_false h91]
        simp [hdOk, hsg]
end Lead.Pk

/-
  Plain: the reference's reading of a step and of the steps is pick's: what the loops hold.
-/
namespace Lead.Pk
open Lead Lead.Dc
/-- Behind some wants of a step. -/
def WTo (s : By) (acc : List Wn) (rest : By) : Prop := wantsP (tailW s) = (wantsP rest).map (acc ++ ·)
theorem WTo.start (s : By) : WTo s [] (tailW s) := by
  unfold WTo
  cases wantsP (tailW s) <;> simp
theorem WTo.next {s : By} {acc : List Wn} {c : UInt8} {r r' : By} {w : Wn} (h : WTo s acc (c :: r)) (h1 : oneR c r = some (w, r')) : WTo s (acc ++ [w]) r' := by
  unfold WTo at h ⊢
  rw [oneR_eq] at h1
  rw [h, wantsP_some h1, Option.map_map]
  congr 1
  funext l
  simp
/-- The head of a step is none. -/
def badH (s : By) : Prop := s = [] ∨ (headW s ≠ [] ∧ headW s ≠ [42] ∧ nmL (headW s) = false)
theorem stepP_badH {s : By} (h : badH s) : stepP s = none := if_pos h
theorem WTo.stop {s : By} {acc : List Wn} {c : UInt8} {r : By} (h : WTo s acc (c :: r)) (h1 : oneR c r = none) : stepP s = none := by
  unfold WTo at h
  rw [oneR_eq] at h1
  rw [wantsP_none h1] at h
  unfold stepP
  rw [h]
  simp
theorem wantsP_len {c : UInt8} {r : By} {l : List Wn} (h : wantsP (c :: r) = some l) : 0 < l.length := by
  cases h1 : oneP c r with
  | none => rw [wantsP_none h1] at h; cases h
  | some x =>
    obtain ⟨w, r'⟩ := x
    rw [wantsP_some h1] at h
    cases h2 : wantsP r' with
    | none => rw [h2] at h; cases h
    | some l' => rw [h2] at h; injection h with h; rw [← h]; simp
theorem WTo.full {s : By} {acc : List Wn} {c : UInt8} {r : By} (h : WTo s acc (c :: r)) (h8 : 8 ≤ acc.length) : stepP s = none := by
  unfold WTo at h
  unfold stepP
  split
  · rfl
  · rw [h]
    cases h1 : wantsP (c :: r) with
    | none => rfl
    | some l =>
      have := wantsP_len h1
      show (if (acc ++ l).length ≤ 8 then some (headW s, acc ++ l) else none) = none
      rw [if_neg (by rw [List.length_append]; omega)]
theorem WTo.done {s : By} {acc : List Wn} (h : WTo s acc []) (h8 : acc.length ≤ 8) (hb : ¬ badH s) : stepP s = some (headW s, acc) := by
  unfold WTo at h
  unfold stepP
  rw [if_neg (show ¬ (s = [] ∨ (headW s ≠ [] ∧ headW s ≠ [42] ∧ nmL (headW s) = false)) from hb), h]
  have h0 : wantsP [] = some [] := by rw [wantsP]
  rw [h0]
  show (if (acc ++ []).length ≤ 8 then some (headW s, acc ++ []) else none) = _
  rw [List.append_nil, if_pos h8]
theorem stepP_gt : stepP [62] = none := stepP_badH (.inr ⟨by decide, by decide, by decide⟩)
theorem rd_word {L : List By} {i : Nat} {b : Bool} {out : List St} (h : rdT L i = some (b, out)) (hn : ¬ (L.getD i [] = [62] ∧ 0 < i ∧ b = false)) : rdT L (i + 1) = (stepP (L.getD i [])).map fun x => (false, out ++ [⟨x.1, x.2, b⟩]) := by
  show (match rdT L i with | none => none | some st => rdStep i st (L.getD i [])) = _
  rw [h]
  show rdStep i (b, out) (L.getD i []) = _
  unfold rdStep
  rw [if_neg hn]
  cases stepP (L.getD i []) <;> rfl
theorem rd_gt {L : List By} {i : Nat} {out : List St} (h : rdT L i = some (false, out)) (h1 : L.getD i [] = [62]) (h0 : 0 < i) : rdT L (i + 1) = some (true, out) := by
  show (match rdT L i with | none => none | some st => rdStep i st (L.getD i [])) = _
  rw [h]
  show rdStep i (false, out) (L.getD i []) = _
  unfold rdStep
  rw [if_pos ⟨h1, h0, rfl⟩]
/-- A round of the reference, at a word. -/
theorem rs_word {L : List By} {i : Nat} {out : List St} (h : rdT L i = some (false, out)) (h1 : L.getD i [] ≠ [62]) : rdT L (i + 1) = (stepP (L.getD i [])).map fun x => (false, out ++ [⟨x.1, x.2, false⟩]) :=
  rd_word h fun h => h1 h.1
/-- A round of the reference, at a > that is neither first nor last. -/
theorem rs_gt {L : List By} {i : Nat} {out : List St} (h : rdT L i = some (false, out)) (h1 : L.getD i [] = [62]) (h0 : 0 < i) : rdT L (i + 2) = (stepP (L.getD (i + 1) [])).map fun x => (false, out ++ [⟨x.1, x.2, true⟩]) :=
  rd_word (rd_gt h h1 h0) fun h => by cases h.2.2
/-- The first word is >: no selector. -/
theorem rs_first {s : By} (h1 : (cutL 32 s).getD 0 [] = [62]) (hl : 0 < (cutL 32 s).length) : readP s = none := by
  have h : rdT (cutL 32 s) 1 = none := by
    have h2 := rd_word (L := cutL 32 s) (i := 0) (b := false) (out := []) rfl (fun h => by have := h.2.1; omega)
    rw [h1, stepP_gt] at h2; exact h2
  exact readP_stop h hl
/-- The last word is >: no selector. -/
theorem rs_last {s : By} {i : Nat} {out : List St} (h : rdT (cutL 32 s) i = some (false, out)) (h1 : (cutL 32 s).getD i [] = [62]) (h0 : 0 < i) (hl : i + 1 = (cutL 32 s).length) : readP s = none := by
  have h2 := rd_gt h h1 h0
  rw [hl] at h2
  rw [readP_end h2, if_pos (.inl rfl)]
theorem rs_none {s : By} {i : Nat} {out : List St} (h : rdT (cutL 32 s) i = some (false, out)) (h1 : (cutL 32 s).getD i [] ≠ [62]) (hi : i < (cutL 32 s).length) (h2 : stepP ((cutL 32 s).getD i []) = none) : readP s = none :=
  readP_stop (i := i + 1) (by rw [rs_word h h1, h2]; rfl) hi
theorem rs_none2 {s : By} {i : Nat} {out : List St} (h : rdT (cutL 32 s) i = some (false, out)) (h1 : (cutL 32 s).getD i [] = [62]) (h0 : 0 < i) (hi : i + 1 < (cutL 32 s).length) (h2 : stepP ((cutL 32 s).getD (i + 1) []) = none) : readP s = none :=
  readP_stop (i := i + 2) (by rw [rs_gt h h1 h0, h2]; rfl) hi
theorem rs_done {s : By} {out : List St} (h : rdT (cutL 32 s) (cutL 32 s).length = some (false, out)) : readP s = if 5 < out.length then none else some out := by
  rw [readP_end h]
  by_cases h5 : 5 < out.length
  · rw [if_pos (.inr h5), if_pos h5]
  · rw [if_neg (fun h => h.elim (fun h => by cases h) h5), if_neg h5]
end Lead.Pk

/-
  Plain: a scan along a text: what it has read when it stops.
-/
namespace Lead.Pk
open Lead Lead.Dc
/-- From i to k every byte answers. -/
def ScanTo (p : UInt8 → Bool) (L : By) (i k : Nat) : Prop := ∀ j (hj : j < L.length), i ≤ j → j < k → p L[j] = true
theorem ScanTo.start (p : UInt8 → Bool) (L : By) (i : Nat) : ScanTo p L i i := fun _ _ h1 h2 => by omega
theorem ScanTo.next {p : UInt8 → Bool} {L : By} {i k : Nat} (h : ScanTo p L i k) {c : UInt8} (hk : k < L.length) (hc : L[k] = c) (hp : p c = true) : ScanTo p L i (k + 1) := fun j hj h1 h2 => by
  by_cases e : j = k
  · subst e; rw [hc]; exact hp
  · exact h j hj h1 (by omega)
theorem ScanTo.stop {p : UInt8 → Bool} {L : By} {i k : Nat} (h : ScanTo p L i k) (hik : i ≤ k) (hk : k ≤ L.length) (hs : ∀ hk : k < L.length, p L[k] = false) :
    (L.drop i).takeWhile p = (L.take k).drop i ∧ (L.drop i).dropWhile p = L.drop k := by
  have hd : L.drop i = (L.take k).drop i ++ L.drop k := by
    have h1 := List.drop_append_of_le_length (l₂ := L.drop k) (show i ≤ (L.take k).length by rw [List.length_take]; omega)
    rw [List.take_append_drop] at h1
    exact h1
  have hA : ∀ c ∈ (L.take k).drop i, p c = true := fun c hc => by
    obtain ⟨j, hj, rfl⟩ := List.mem_iff_getElem.1 hc
    rw [List.length_drop, List.length_take] at hj
    rw [List.getElem_drop, List.getElem_take]
    exact h (i + j) (by omega) (by omega) (by omega)
  rcases Nat.lt_or_ge k L.length with hlt | hge
  · have hdk : L.drop k = L[k] :: L.drop (k + 1) := List.drop_eq_getElem_cons hlt
    rw [hd, hdk]
    exact tw_split hA (hs hlt)
  · have h0 : L.drop k = [] := List.drop_eq_nil_of_le hge
    rw [hd, h0, List.append_nil]
    exact tw_all hA
/-- The head of a step, scanned. -/
theorem scan_head {L : By} {k : Nat} (h : ScanTo (fun c => !isSg c) L 0 k) (hk : k ≤ L.length) (hs : ∀ hk : k < L.length, isSg L[k] = true) : headW L = L.take k ∧ tailW L = L.drop k := by
  have h1 := h.stop (Nat.zero_le _) hk (fun hl => by rw [hs hl]; rfl)
  simp only [List.drop_zero] at h1
  exact h1
/-- The name of a want, scanned. -/
theorem scan_want {L : By} {i k : Nat} (h : ScanTo (fun c => !isTr c) L (i + 1) k) (hik : i + 1 ≤ k) (hk : k ≤ L.length) (hs : ∀ hk : k < L.length, isTr L[k] = true) : headT (L.drop (i + 1)) = (L.take k).drop (i + 1) ∧ tailT (L.drop (i + 1)) = L.drop k :=
  h.stop hik hk (fun hl => by rw [hs hl]; rfl)
/-- Where the want's name ends: closed or not. -/
theorem scan_clos {L : By} {i k : Nat} (ht : tailT (L.drop (i + 1)) = L.drop k) : closT (L.drop (i + 1)) = decide (L[k]? = some 93) ∧ restT (L.drop (i + 1)) = if L[k]? = some 93 then L.drop (k + 1) else L.drop k := by
  have hc : closT (L.drop (i + 1)) = decide (L[k]? = some 93) := by unfold closT; rw [ht, List.head?_drop]
  refine ⟨hc, ?_⟩
  unfold restT
  rw [hc, ht, List.drop_drop]
  by_cases h : L[k]? = some 93
  · rw [if_pos h, decide_eq_true h, if_pos rfl]
  · rw [if_neg h, decide_eq_false h]; rfl
/-- The text of a want. -/
theorem scan_text {L : By} {i k : Nat} {c : UInt8} (hi : i < L.length) (hc : L[i] = c) (hik : i + 1 ≤ k) : (L.take k).drop i = c :: (L.take k).drop (i + 1) := by
  have hl : i < (L.take k).length := by rw [List.length_take]; omega
  rw [List.drop_eq_getElem_cons hl, List.getElem_take, hc]
end Lead.Pk

/-
  Plain: what a selector asks for is behind a sign and has a name; the reference's next want in a text.
-/
namespace Lead.Pk
open Lead Lead.Dc
theorem nmL_ne {L : By} (h : nmL L = true) : L ≠ [] := by rintro rfl; exact absurd h (by decide)
theorem oneP_ok {c : UInt8} {r : By} {w : Wn} {r' : By} (hc : isSg c = true) (h : oneP c r = some (w, r')) : (isSg w.sign = true ∧ w.name ≠ []) ∧ hdOk r' = true := by
  unfold oneP at h
  split at h
  · split at h
    · next h2 =>
      injection h with h; injection h with h1 h; subst h1 h
      exact ⟨⟨hc, nmL_ne h2.1.2⟩, h2.2⟩
    · cases h
  · split at h
    · next h2 =>
      injection h with h; injection h with h1 h; subst h1 h
      refine ⟨⟨hc, nmL_ne h2⟩, ?_⟩
      cases ht : tailW r with
      | nil => rfl
      | cons a t =>
        have := dw_head ht
        show isSg a = true
        simpa using this
    · cases h
theorem wantsP_ok : ∀ (n : Nat) (L : By) (l : List Wn), L.length ≤ n → hdOk L = true → wantsP L = some l → ∀ u ∈ l, isSg u.sign = true ∧ u.name ≠ []
  | _, [], l, _, _, h, u, hu => by rw [wantsP] at h; cases h; cases hu
  | 0, c :: r, l, hn, _, _, _, _ => by simp at hn
  | n + 1, c :: r, l, hn, hd, h, u, hu => by
    cases ho : oneP c r with
    | none => rw [wantsP_none ho] at h; cases h
    | some x =>
      obtain ⟨w, r'⟩ := x
      rw [wantsP_some ho] at h
      obtain ⟨h1, h2⟩ := oneP_ok hd ho
      have hl := oneP_len ho
      rw [List.length_cons] at hn
      cases hr : wantsP r' with
      | none => rw [hr] at h; cases h
      | some l' =>
        rw [hr] at h
        injection h with h
        subst h
        rcases List.mem_cons.1 hu with rfl | hu
        · exact h1
        · exact wantsP_ok n r' l' (by omega) h2 hr u hu
theorem stepP_ok {s : By} {x : By × List Wn} (h : stepP s = some x) : ∀ u ∈ x.2, isSg u.sign = true ∧ u.name ≠ [] := by
  unfold stepP at h
  split at h
  · cases h
  · split at h
    · cases h
    · next ws hw =>
      split at h
      · injection h with h
        subst h
        exact wantsP_ok _ _ _ (Nat.le_refl _) (hdOk_tailW s) hw
      · cases h
theorem rdT_ok {l : List By} : ∀ (i : Nat) {st : Bool × List St}, rdT l i = some st → ∀ x ∈ st.2, ∀ u ∈ x.ws, isSg u.sign = true ∧ u.name ≠ []
  | 0, st, h, x, hx => by rw [rdT] at h; cases h; cases hx
  | i + 1, st, h, x, hx => by
    rw [rdT] at h
    cases hi : rdT l i with
    | none => rw [hi] at h; cases h
    | some s0 =>
      have ih := rdT_ok i hi
      rw [hi] at h
      dsimp only at h
      unfold rdStep at h
      split at h
      · cases h; exact ih x hx
      · split at h
        · cases h
        · next y hy =>
          cases h
          rcases List.mem_append.1 hx with hx | hx
          · exact ih x hx
          · rw [List.mem_singleton.1 hx]; exact stepP_ok hy
theorem readP_ok {s : By} {l : List St} (h : readP s = some l) : ∀ x ∈ l, ∀ u ∈ x.ws, isSg u.sign = true ∧ u.name ≠ [] := by
  unfold readP at h
  split at h
  · cases h
  · next st hs =>
    split at h
    · cases h
    · injection h with h
      subst h
      exact rdT_ok _ hs
theorem oneR_name {c : UInt8} {r : By} (h : nmL (headT r) = false) : oneR c r = none := by
  unfold oneR; rw [if_neg (fun h' => by rw [h] at h'; exact absurd h'.1 (by decide))]
theorem oneR_clos {c : UInt8} {r : By} (h : closT r = !decide (c = 91)) : oneR c r = none := by
  unfold oneR; rw [if_neg (fun h' => by rw [h] at h'; cases hd : decide (c = 91) <;> rw [hd] at h' <;> exact absurd h'.2.1 (by decide))]
theorem oneR_rest {c : UInt8} {r : By} (h : hdOk (restT r) = false) : oneR c r = none := by
  unfold oneR; rw [if_neg (fun h' => by rw [h] at h'; exact absurd h'.2.2 (by decide))]
theorem oneR_some {c : UInt8} {r : By} (h1 : nmL (headT r) = true) (h2 : closT r = decide (c = 91)) (h3 : hdOk (restT r) = true) : oneR c r = some (⟨c, headT r⟩, restT r) := by
  unfold oneR; rw [if_pos ⟨h1, h2, h3⟩]
theorem hdOk_drop {L : By} {k : Nat} (h : k < L.length) : hdOk (L.drop k) = isSg L[k] := by rw [List.drop_eq_getElem_cons h]; rfl
theorem hdOk_end {L : By} {k : Nat} (h : L.length ≤ k) : hdOk (L.drop k) = true := by rw [List.drop_eq_nil_of_le h]; rfl
end Lead.Pk
