/-
  Several texts as one: Spl, Pk1, Pk2.
-/
import Derived.Test.YtpdaenldmgpkjaaGreatDoorDa
import Derived.Lib.SplitLaws
import Derived.Test.YtpdaenldmgpkjaaGreatDoorDp
import Derived.Lib.IndexAny
import Derived.Lib.Bytealg
/-
  Plain: what strings.Split gives at a separator of one byte: the pieces that the document's Cut gives.
-/
namespace Lead
open Go Go.RowKit

theorem idx_y (y : UInt8) (l : List UInt8) : Lib.index l [y] = if (cut1 y l).2.2 = true then ((cut1 y l).1.length : Int) else -1 := by
  induction l with
  | nil => rfl
  | cons c l ih =>
    unfold Lib.index cut1
    by_cases h : c = y
    · subst h
      simp
    · have h' : ¬ y = c := fun e => h e.symm
      rw [if_neg h, ih]
      cases hb : (cut1 y l).2.2
      · simp [h']
      · have : ¬ ((cut1 y l).1.length : Int) = -1 := by omega
        simp [h', this]
theorem cut1_parts (y : UInt8) (l : List UInt8) (h : (cut1 y l).2.2 = true) : l.take (cut1 y l).1.length = (cut1 y l).1 ∧ l.drop ((cut1 y l).1.length + 1) = (cut1 y l).2.1 := by
  have e := cut1_yes y l h
  generalize (cut1 y l).1 = a at *
  generalize (cut1 y l).2.1 = b at *
  subst e
  constructor
  · simp
  · rw [List.drop_append]; simp
theorem split_cut (y : UInt8) : ∀ (n : Nat) (l : List UInt8), l.length ≤ n → Lib.splitK [y] 0 (Lib.count l [y]) l = cutL y l := by
  intro n
  induction n with
  | zero =>
    intro l hl
    obtain rfl := List.length_eq_zero_iff.1 (Nat.le_zero.1 hl)
    rfl
  | succ n ih =>
    intro l hl
    have hi := idx_y y l
    rw [cutL_R, cutR_1]
    cases hb : (cut1 y l).2.2
    · rw [hb, if_neg (by decide)] at hi
      rw [Lib.count_miss hi, if_neg (by decide), cut1_no y l hb]
      rfl
    · rw [hb, if_pos rfl] at hi
      obtain ⟨h1, h2⟩ := cut1_parts y l hb
      have hlen : (l.drop ((cut1 y l).1.length + 1)).length ≤ n := by
        rw [List.length_drop]; omega
      rw [Lib.count_hit (by simp) hi, if_pos rfl, Nat.add_comm 1]
      unfold Lib.splitK
      rw [hi]
      have hne : (((cut1 y l).1.length : Int) == -1) = false := by rw [beq_eq_false_iff_ne]; omega
      rw [hne, if_neg (by decide)]
      have e1 : ((cut1 y l).1.length : Int).toNat + 0 = (cut1 y l).1.length := by simp
      have e2 : ((cut1 y l).1.length : Int).toNat + [y].length = (cut1 y l).1.length + 1 := by simp
      have e3 : (cut1 y l).1.length + [y].length = (cut1 y l).1.length + 1 := rfl
      rw [e1, e2, e3, h1, ih _ hlen, h2, cutL_R]
/-- .. over byte arrays. -/
theorem splitB_cut (y : UInt8) (s : ByteArray) : (Lib.splitB ⟨#[y]⟩ 0 (Lib.countB s ⟨#[y]⟩) s).map (·.data.toList) = cutL y s.data.toList := by
  rw [Lib.splitB_data]
  exact split_cut y _ _ (Nat.le_refl _)
theorem splitB_len (y : UInt8) (s : ByteArray) : (Lib.splitB ⟨#[y]⟩ 0 (Lib.countB s ⟨#[y]⟩) s).length = Lib.countB s ⟨#[y]⟩ + 1 := Lib.splitB_all _ (show 1 ≤ (ByteArray.mk #[y]).size from Nat.le_refl _) 0 _ s rfl
/-- .. as the cells of the new block. -/
theorem splitB_cells (y : UInt8) (s : ByteArray) : (Lib.splitB ⟨#[y]⟩ 0 (Lib.countB s ⟨#[y]⟩) s).map Value.string = (cutL y s.data.toList).map fun l => Value.string ⟨l.toArray⟩ := by
  rw [← splitB_cut, List.map_map]
  refine List.map_congr_left fun b _ => ?_
  rfl
theorem cutL_len (y : UInt8) (s : ByteArray) : (cutL y s.data.toList).length = Lib.countB s ⟨#[y]⟩ + 1 := by rw [← splitB_cut, List.length_map, splitB_len]
end Lead

/-
  Plain: a selector out of a text: its steps and what they want.
-/
namespace Lead.Pk
open Lead Lead.Dc
abbrev By := List UInt8
/-- The head of a want: # . [ -/
def isSg (c : UInt8) : Bool := decide (c = 35) || decide (c = 46) || decide (c = 91)
structure Wn where
  sign : UInt8
  name : By
structure St where
  nm : By
  ws : List Wn
  right : Bool
def hdOk : By → Bool
  | [] => true
  | c :: _ => isSg c
def headW (s : By) : By := s.takeWhile fun c => !isSg c
def tailW (s : By) : By := s.dropWhile fun c => !isSg c
def headB (s : By) : By := s.takeWhile fun c => !decide (c = 93)
def tailB (s : By) : By := s.dropWhile fun c => !decide (c = 93)
/-- One want, behind its sign: it, and what is left. -/
def oneP (c : UInt8) (r : By) : Option (Wn × By) :=
  if c = 91 then (if (93 ∈ r ∧ nmL (headB r) = true) ∧ hdOk ((tailB r).drop 1) = true then some (⟨c, headB r⟩, (tailB r).drop 1) else none)
  else if nmL (headW r) = true then some (⟨c, headW r⟩, tailW r) else none
theorem drop_len (p : UInt8 → Bool) (s : By) : (s.dropWhile p).length ≤ s.length := (List.dropWhile_sublist p).length_le
theorem oneP_len {c : UInt8} {r : By} {w : Wn} {r' : By} (h : oneP c r = some (w, r')) : r'.length ≤ r.length := by
  unfold oneP at h
  split at h
  · split at h
    · injection h with h; injection h with _ h; subst h
      have := drop_len (fun c => !decide (c = 93)) r
      rw [List.length_drop]
      show (List.dropWhile _ r).length - 1 ≤ _
      omega
    · cases h
  · split at h
    · injection h with h; injection h with _ h; subst h
      exact drop_len _ r
    · cases h
def wantsP : By → Option (List Wn)
  | [] => some []
  | c :: r => match _h : oneP c r with
    | none => none
    | some (w, r') => (wantsP r').map (w :: ·)
termination_by s => s.length
decreasing_by
  have := oneP_len _h
  simp only [List.length_cons]
  omega
theorem wantsP_none {c : UInt8} {r : By} (h : oneP c r = none) : wantsP (c :: r) = none := by
  rw [wantsP]
  split
  · rfl
  · next h2 => rw [h] at h2; cases h2
theorem wantsP_some {c : UInt8} {r : By} {w : Wn} {r' : By} (h : oneP c r = some (w, r')) : wantsP (c :: r) = (wantsP r').map (w :: ·) := by
  rw [wantsP]
  split
  · next h2 => rw [h] at h2; cases h2
  · next h2 => rw [h] at h2; cases h2; rfl
def stepP (s : By) : Option (By × List Wn) :=
  if s = [] ∨ (headW s ≠ [] ∧ headW s ≠ [42] ∧ nmL (headW s) = false) then none
  else match wantsP (tailW s) with
    | none => none
    | some ws => if ws.length ≤ 8 then some (headW s, ws) else none
/-- One word more. -/
def rdStep (i : Nat) (st : Bool × List St) (w : By) : Option (Bool × List St) :=
  if w = [62] ∧ 0 < i ∧ st.1 = false then some (true, st.2)
  else match stepP w with
    | none => none
    | some x => some (false, st.2 ++ [⟨x.1, x.2, st.1⟩])
/-- The first words. -/
def rdT (l : List By) : Nat → Option (Bool × List St)
  | 0 => some (false, [])
  | i + 1 => match rdT l i with
    | none => none
    | some st => rdStep i st (l.getD i [])
def readP (s : By) : Option (List St) := match rdT (cutL 32 s) (cutL 32 s).length with
  | none => none
  | some st => if st.1 = true ∨ 5 < st.2.length then none else some st.2
/-! ### what is behind -/
theorem takeW_app {p : UInt8 → Bool} {a m : By} (hm : ∀ c t, m = c :: t → p c = false) : (a ++ m).takeWhile p = a.takeWhile p ∧ (a ++ m).dropWhile p = a.dropWhile p ++ m := by
  induction a with
  | nil =>
    cases m with
    | nil => exact ⟨rfl, rfl⟩
    | cons c t => simp [hm c t rfl]
  | cons x a ih =>
    rw [List.cons_append, List.takeWhile_cons, List.takeWhile_cons, List.dropWhile_cons, List.dropWhile_cons]
    cases p x
    · exact ⟨rfl, rfl⟩
    · simp only [if_true]; exact ⟨by rw [ih.1], ih.2⟩
theorem takeB_app {a m : By} (h : 93 ∈ a) : headB (a ++ m) = headB a ∧ (tailB (a ++ m)).drop 1 = (tailB a).drop 1 ++ m := by
  unfold headB tailB
  induction a with
  | nil => cases h
  | cons x a ih =>
    rw [List.cons_append, List.takeWhile_cons, List.takeWhile_cons, List.dropWhile_cons, List.dropWhile_cons]
    by_cases hx : x = 93
    · simp [hx]
    · have ha : 93 ∈ a := by
        rcases List.mem_cons.1 h with h | h
        · exact absurd h.symm hx
        · exact h
      simp only [decide_eq_false hx, Bool.not_false, if_true]
      exact ⟨by rw [(ih ha).1], (ih ha).2⟩
theorem hdOk_app {a m : By} (h : hdOk a = true) (hm : hdOk m = true) : hdOk (a ++ m) = true := by
  cases a with
  | nil => exact hm
  | cons c a => exact h
theorem hdOk_sg {m : By} (hm : hdOk m = true) : ∀ c t, m = c :: t → (!isSg c) = false := by
  rintro c t rfl
  have : isSg c = true := hm
  rw [this]; rfl
theorem oneP_app {c : UInt8} {r m : By} {w : Wn} {r' : By} (h : oneP c r = some (w, r')) (hm : hdOk m = true) : oneP c (r ++ m) = some (w, r' ++ m) := by
  unfold oneP at h ⊢
  by_cases hc : c = 91
  · rw [if_pos hc] at h ⊢
    split at h
    · next hcond =>
      obtain ⟨⟨h1, h2⟩, h3⟩ := hcond
      injection h with h; injection h with hw hr; subst hw hr
      obtain ⟨e1, e2⟩ := takeB_app (m := m) h1
      rw [e1, e2, if_pos ⟨⟨List.mem_append.2 (.inl h1), h2⟩, hdOk_app h3 hm⟩]
    · cases h
  · rw [if_neg hc] at h ⊢
    obtain ⟨e1, e2⟩ := takeW_app (p := fun c => !isSg c) (a := r) (m := m) (hdOk_sg hm)
    have e1' : headW (r ++ m) = headW r := e1
    have e2' : tailW (r ++ m) = tailW r ++ m := e2
    rw [e1', e2']
    split at h
    · next h2 => injection h with h; injection h with hw hr; subst hw hr; rw [if_pos h2]
    · cases h
theorem wantsP_app {m : By} (hm : hdOk m = true) : ∀ (n : Nat) (a : By) (A : List Wn), a.length ≤ n → wantsP a = some A → wantsP (a ++ m) = (wantsP m).map (A ++ ·) := by
  intro n
  induction n with
  | zero =>
    intro a A hn h
    obtain rfl := List.length_eq_zero_iff.1 (Nat.le_zero.1 hn)
    rw [wantsP] at h
    injection h with h
    subst h
    cases hw : wantsP m <;> simp [hw]
  | succ n ih =>
    intro a A hn h
    cases a with
    | nil =>
      rw [wantsP] at h
      injection h with h
      subst h
      cases hw : wantsP m <;> simp [hw]
    | cons c r =>
      cases ho : oneP c r with
      | none => rw [wantsP_none ho] at h; cases h
      | some x =>
        obtain ⟨w, r'⟩ := x
        rw [wantsP_some ho] at h
        cases hr : wantsP r' with
        | none => rw [hr] at h; cases h
        | some R =>
          rw [hr] at h
          injection h with h
          subst h
          have hl := oneP_len ho
          rw [List.length_cons] at hn
          rw [List.cons_append, wantsP_some (oneP_app ho hm), ih r' R (by omega) hr]
          cases wantsP m <;> rfl
/-- A step with more wants behind. -/
theorem stepP_app {l m : By} {x y : By × List Wn} (hm : hdOk m = true) (hne : m ≠ []) (h1 : stepP l = some x) (h2 : stepP (l ++ m) = some y) : ∃ M, M ≠ [] ∧ wantsP m = some M ∧ y = (x.1, x.2 ++ M) := by
  obtain ⟨e1, e2⟩ := takeW_app (p := fun c => !isSg c) (a := l) (m := m) (hdOk_sg hm)
  have e1' : headW (l ++ m) = headW l := e1
  have e2' : tailW (l ++ m) = tailW l ++ m := e2
  unfold stepP at h1 h2
  rw [e1', e2'] at h2
  split at h1
  · cases h1
  · split at h2
    · cases h2
    · cases hw : wantsP (tailW l) with
      | none => rw [hw] at h1; cases h1
      | some A =>
        rw [hw] at h1
        rw [wantsP_app hm _ _ A (Nat.le_refl _) hw] at h2
        dsimp only at h1
        split at h1
        · injection h1 with h1
          subst h1
          cases hM : wantsP m with
          | none => rw [hM] at h2; cases h2
          | some M =>
            rw [hM] at h2
            dsimp only [Option.map] at h2
            split at h2
            · injection h2 with h2
              refine ⟨M, ?_, rfl, h2.symm⟩
              rintro rfl
              cases m with
              | nil => exact hne rfl
              | cons c r =>
                cases ho : oneP c r with
                | none => rw [wantsP_none ho] at hM; cases hM
                | some z =>
                  obtain ⟨w, r'⟩ := z
                  rw [wantsP_some ho] at hM
                  cases hr : wantsP r' with
                  | none => rw [hr] at hM; cases hM
                  | some R => rw [hr] at hM; cases hM
            · cases h2
        · cases h1
theorem rdT_congr {a b : List By} : ∀ (n : Nat), (∀ i, i < n → a.getD i [] = b.getD i []) → rdT a n = rdT b n
  | 0, _ => rfl
  | n + 1, h => by
    simp only [rdT]
    rw [rdT_congr n (fun i hi => h i (by omega)), h n (Nat.lt_succ_self _)]
theorem cutF_app (y : UInt8) (l m : By) (hm : y ∉ m) : cutF y (l ++ m) = ((cutF y l).1, (cutF y l).2 ++ m) := by
  unfold cutF
  rw [List.foldl_append]
  generalize l.foldl (cutStep y) ([], []) = st
  induction m generalizing st with
  | nil => simp
  | cons c r ih =>
    rw [List.mem_cons, not_or] at hm
    rw [List.foldl_cons, ih hm.2]
    unfold cutStep
    rw [if_neg (fun e => hm.1 e.symm), List.append_assoc]; rfl
/-- A selector whose text goes on: its last step wants more. -/
theorem readP_more {s m : By} {A C : List St} (hm : hdOk m = true) (hne : m ≠ []) (h32 : 32 ∉ m) (h1 : readP s = some A) (h2 : readP (s ++ m) = some C) :
    ∃ (pre : List St) (x : St) (M : List Wn), M ≠ [] ∧ wantsP m = some M ∧ A = pre ++ [x] ∧ C = pre ++ [⟨x.nm, x.ws ++ M, x.right⟩] := by
  obtain ⟨W, l, hW⟩ : ∃ W l, cutF 32 s = (W, l) := ⟨_, _, rfl⟩
  have hcs : cutL 32 s = W ++ [l] := by unfold cutL; rw [hW]
  have hcm : cutL 32 (s ++ m) = W ++ [l ++ m] := by unfold cutL; rw [cutF_app 32 s m h32, hW]
  unfold readP at h1 h2
  rw [hcs] at h1
  rw [hcm] at h2
  have hlen : ∀ z : By, (W ++ [z]).length = W.length + 1 := fun z => by simp
  rw [hlen] at h1 h2
  have hget : ∀ z : By, (W ++ [z]).getD W.length [] = z := fun z => by simp [List.getD]
  have hc := rdT_congr (a := W ++ [l]) (b := W ++ [l ++ m]) W.length (fun i hi => by simp [List.getD, List.getElem?_append_left hi])
  simp only [rdT, hget] at h1 h2
  rw [← hc] at h2
  cases hst : rdT (W ++ [l]) W.length with
  | none => rw [hst] at h1; cases h1
  | some st =>
    rw [hst] at h1 h2
    dsimp only at h1 h2
    unfold rdStep at h1 h2
    have hlm : l ++ m ≠ [62] := by
      intro h
      cases l with
      | nil =>
        have hm' : m = [62] := h
        rw [hm'] at hm; exact absurd hm (by decide)
      | cons c r =>
        injection h with _ h
        exact hne (List.append_eq_nil_iff.1 h).2
    rw [if_neg (fun h => hlm h.1)] at h2
    by_cases hgt : l = [62] ∧ 0 < W.length ∧ st.1 = false
    · rw [if_pos hgt] at h1
      dsimp only at h1
      rw [if_pos (.inl rfl)] at h1; cases h1
    · rw [if_neg hgt] at h1
      cases hx : stepP l with
      | none => rw [hx] at h1; cases h1
      | some x =>
        rw [hx] at h1
        cases hy : stepP (l ++ m) with
        | none => rw [hy] at h2; cases h2
        | some y =>
          rw [hy] at h2
          dsimp only at h1 h2
          split at h1
          · cases h1
          · split at h2
            · cases h2
            · injection h1 with h1
              injection h2 with h2
              obtain ⟨M, hM1, hM2, rfl⟩ := stepP_app hm hne hx hy
              exact ⟨st.2, _, M, hM1, hM2, h1.symm, h2.symm⟩
end Lead.Pk

/-
  Plain: where a want's name ends; pieces of a text as byte arrays.
-/
namespace Lead.Pk
open Go Lead Lead.Dc
def bs (l : By) : ByteArray := ⟨l.toArray⟩
theorem bs_list (l : By) : (bs l).data.toList = l := rfl
theorem bs_size (l : By) : (bs l).size = l.length := rfl
theorem bs_of (s : ByteArray) : bs s.data.toList = s := rfl
theorem head_tailW (l : By) : headW l ++ tailW l = l := List.takeWhile_append_dropWhile
theorem head_tailB (l : By) : headB l ++ tailB l = l := List.takeWhile_append_dropWhile
theorem take_headW (l : By) : l.take (headW l).length = headW l := by
  have h := head_tailW l
  generalize headW l = a at h ⊢
  generalize tailW l = b at h
  subst h
  simp
theorem drop_headW (l : By) : l.drop (headW l).length = tailW l := by
  have h := head_tailW l
  generalize headW l = a at h ⊢
  generalize tailW l = b at h ⊢
  subst h
  simp
theorem take_headB (l : By) : l.take (headB l).length = headB l := by
  have h := head_tailB l
  generalize headB l = a at h ⊢
  generalize tailB l = b at h
  subst h
  simp
theorem drop_headB (l : By) : l.drop (headB l).length = tailB l := by
  have h := head_tailB l
  generalize headB l = a at h ⊢
  generalize tailB l = b at h ⊢
  subst h
  simp
theorem sg_in (c : UInt8) : ([35, 46, 91] : By).contains c = isSg c := by
  unfold isSg
  rw [Bool.eq_iff_iff]
  simp [or_assoc]
theorem idxAny_sg (l : By) : (Lib.indexAny l [35, 46, 91] = -1 ∧ headW l = l ∧ tailW l = []) ∨ (Lib.indexAny l [35, 46, 91] = ((headW l).length : Int) ∧ (headW l).length < l.length) := by
  unfold headW tailW
  induction l with
  | nil => exact .inl ⟨rfl, rfl, rfl⟩
  | cons c r ih =>
    rw [Lib.indexAny, List.takeWhile_cons, List.dropWhile_cons, sg_in]
    cases hc : isSg c
    · simp only [Bool.not_false, if_true]
      rcases ih with ⟨h1, h2, h3⟩ | ⟨h1, h2⟩
      · left
        rw [h1]
        exact ⟨rfl, by rw [h2], h3⟩
      · right
        have hb : (((List.takeWhile (fun c => !isSg c) r).length : Int) == -1) = false := by rw [beq_eq_false_iff_ne]; omega
        rw [h1, hb]
        simp only [List.length_cons]
        exact ⟨by simp, by omega⟩
    · right
      simp
theorem idxB_93 (l : By) : (93 ∉ l ∧ Lib.indexByte l 93 = -1) ∨ (93 ∈ l ∧ Lib.indexByte l 93 = ((headB l).length : Int) ∧ (headB l).length < l.length) := by
  unfold headB
  induction l with
  | nil => exact .inl ⟨by simp, rfl⟩
  | cons c r ih =>
    rw [Lib.indexByte, List.takeWhile_cons]
    by_cases hc : c = 93
    · right; subst hc; simp
    · have hb : (c == 93) = false := by simp [hc]
      rw [hb, decide_eq_false hc]
      simp only [Bool.not_false, if_true, List.mem_cons, List.length_cons]
      rcases ih with ⟨h1, h2⟩ | ⟨h1, h2, h3⟩
      · left
        rw [h2]
        exact ⟨fun h => h.elim (fun h => hc h.symm) h1, rfl⟩
      · right
        have hb2 : (((List.takeWhile (fun c => !decide (c = 93)) r).length : Int) == -1) = false := by rw [beq_eq_false_iff_ne]; omega
        rw [h2, hb2]
        exact ⟨.inr h1, by simp, by omega⟩
theorem ext_from (s : ByteArray) (k : Nat) : s.extract k s.size = bs (s.data.toList.drop k) := by
  apply ByteArray.ext
  rw [ByteArray.data_extract]
  apply Array.ext'
  rw [Array.toList_extract, List.extract_eq_take_drop]
  show List.take (s.data.size - k) (List.drop k s.data.toList) = List.drop k s.data.toList
  rw [List.take_of_length_le]
  simp
theorem ext_upto (s : ByteArray) (k : Nat) : s.extract 0 k = bs (s.data.toList.take k) := by
  apply ByteArray.ext
  rw [ByteArray.data_extract]
  apply Array.ext'
  rw [Array.toList_extract, List.extract_eq_take_drop]
  simp [bs]
theorem hdOk_tailW (l : By) : hdOk (tailW l) = true := by
  unfold tailW
  induction l with
  | nil => rfl
  | cons c r ih =>
    rw [List.dropWhile_cons]
    cases hc : isSg c
    · exact ih
    · exact hc
theorem nmOk_bs (l : By) : nmOk (bs l) = nmL l := rfl
end Lead.Pk
