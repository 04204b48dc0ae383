/-
  Plain: two selectors, one behind the other: what the statement PickLast says.
-/
import Derived.Test.YtbcoccgfoionlaaDoorPkg
namespace Lead.Pk
open Go Go.RowKit Lead Lead.Dc
/-- The words, from a state on. -/
def rdGo : Nat → Bool × List St → List By → Option (Bool × List St)
  | _, st, [] => some st
  | i, st, w :: r => match rdStep i st w with
    | none => none
    | some st' => rdGo (i + 1) st' r
theorem rdT_go : ∀ (b a : List By) {st : Bool × List St}, rdT (a ++ b) a.length = some st → rdT (a ++ b) (a ++ b).length = rdGo a.length st b
  | [], a, st, h => by rw [List.append_nil] at h ⊢; exact h
  | x :: r, a, st, h => by
    have hn := rdT_next h (by rw [List.length_append, List.length_cons]; omega)
    rw [List.getElem_append_right (Nat.le_refl _)] at hn
    simp only [Nat.sub_self, List.getElem_cons_zero] at hn
    rw [rdGo]
    cases hs : rdStep a.length st x with
    | none =>
      rw [hs] at hn
      have h1 := rdT_stop (a.length + 1) r.length hn
      rw [show (a ++ x :: r).length = a.length + 1 + r.length by rw [List.length_append, List.length_cons]; omega]
      exact h1
    | some st' =>
      rw [hs] at hn
      dsimp only
      have e : a ++ x :: r = (a ++ [x]) ++ r := by simp
      rw [e] at hn ⊢
      have h1 := rdT_go r (a ++ [x]) (st := st') (by rw [List.length_append]; exact hn)
      rw [h1, List.length_append]; rfl
theorem readP_go {s : By} {l : List St} (h : readP s = some l) : rdGo 0 (false, []) (cutL 32 s) = some (false, l) := by
  have h0 := rdT_go (cutL 32 s) [] (st := (false, [])) rfl
  rw [List.nil_append] at h0
  unfold readP at h
  rw [h0] at h
  change (match rdGo 0 (false, []) (cutL 32 s) with | none => none | some st => if st.1 = true ∨ 5 < st.2.length then none else some st.2) = some l at h
  split at h
  · cases h
  · next st hst =>
    rw [hst]
    split at h
    · cases h
    · next hc =>
      cases h
      have : st.1 = false := by
        cases h1 : st.1
        · rfl
        · exact absurd (.inl h1) hc
      rw [← this]
theorem rdGo_app : ∀ (a b : List By) (i : Nat) (st : Bool × List St), rdGo i st (a ++ b) = match rdGo i st a with | none => none | some s' => rdGo (i + a.length) s' b
  | [], b, i, st => rfl
  | x :: r, b, i, st => by
    rw [List.cons_append, rdGo, rdGo]
    cases hs : rdStep i st x with
    | none => rfl
    | some st' =>
      dsimp only
      rw [rdGo_app r b (i + 1) st', List.length_cons, show i + 1 + r.length = i + (r.length + 1) by omega]
theorem rdStep_pos {i j : Nat} (hi : 0 < i) (hj : 0 < j) (st : Bool × List St) (w : By) : rdStep i st w = rdStep j st w := by
  unfold rdStep
  have e : (w = [62] ∧ 0 < i ∧ st.1 = false) ↔ (w = [62] ∧ 0 < j ∧ st.1 = false) := ⟨fun ⟨a, _, c⟩ => ⟨a, hj, c⟩, fun ⟨a, _, c⟩ => ⟨a, hi, c⟩⟩
  by_cases h : w = [62] ∧ 0 < i ∧ st.1 = false
  · rw [if_pos h, if_pos (e.1 h)]
  · rw [if_neg h, if_neg (fun h' => h (e.2 h'))]
theorem rdGo_pos : ∀ (l : List By) {i j : Nat} (_ : 0 < i) (_ : 0 < j) (st : Bool × List St), rdGo i st l = rdGo j st l
  | [], _, _, _, _, _ => rfl
  | x :: r, i, j, hi, hj, st => by
    rw [rdGo, rdGo, rdStep_pos hi hj]
    cases rdStep j st x with
    | none => rfl
    | some st' => exact rdGo_pos r (Nat.succ_pos _) (Nat.succ_pos _) st'
theorem rdStep_pre (i : Nat) (f : Bool) (A B : List St) (w : By) : rdStep i (f, A ++ B) w = (rdStep i (f, B) w).map fun s => (s.1, A ++ s.2) := by
  unfold rdStep
  dsimp only
  split
  · rfl
  · cases stepP w with
    | none => rfl
    | some x => simp
theorem rdGo_pre : ∀ (l : List By) (i : Nat) (f : Bool) (A B : List St), rdGo i (f, A ++ B) l = (rdGo i (f, B) l).map fun s => (s.1, A ++ s.2)
  | [], _, _, _, _ => rfl
  | x :: r, i, f, A, B => by
    rw [rdGo, rdGo, rdStep_pre]
    cases rdStep i (f, B) x with
    | none => rfl
    | some st' =>
      obtain ⟨f', B'⟩ := st'
      exact rdGo_pre r (i + 1) f' A B'
theorem cut_pre (y : UInt8) (b : By) (A : List By) (st : List By × By) : b.foldl (cutStep y) (A ++ st.1, st.2) = (A ++ (b.foldl (cutStep y) st).1, (b.foldl (cutStep y) st).2) := by
  induction b generalizing st with
  | nil => rfl
  | cons c r ih =>
    rw [List.foldl_cons, List.foldl_cons]
    have e : cutStep y (A ++ st.1, st.2) c = (A ++ (cutStep y st c).1, (cutStep y st c).2) := by
      unfold cutStep
      split
      · simp
      · rfl
    rw [e]
    exact ih _
theorem cutL_app (a b : By) : cutL 32 (a ++ 32 :: b) = cutL 32 a ++ cutL 32 b := by
  unfold cutL cutF
  rw [List.foldl_append, List.foldl_cons]
  obtain ⟨W, l⟩ := a.foldl (cutStep 32) ([], [])
  have e : cutStep 32 (W, l) 32 = ((W ++ [l]) ++ (([], []) : List By × By).1, (([], []) : List By × By).2) := by unfold cutStep; rw [if_pos rfl]; simp
  rw [e, cut_pre 32 b (W ++ [l]) ([], [])]
  simp
theorem step_gt : stepP [62] = none := by
  unfold stepP
  rw [if_pos (.inr ⟨by decide, by decide, by decide⟩)]
/-- Two selectors that stand one behind the other, by > or by a blank; and the last of the two alone. -/
theorem readP_two {a b : By} {P Q R0 : List St} (hp : readP (a ++ 32 :: 62 :: 32 :: b) = some P) (hq : readP (a ++ 32 :: b) = some Q) (hr : readP b = some R0) :
    ∃ (A : List St) (x : St) (R : List St), P = A ++ ⟨x.nm, x.ws, true⟩ :: R ∧ Q = A ++ ⟨x.nm, x.ws, false⟩ :: R ∧ R0 = ⟨x.nm, x.ws, false⟩ :: R := by
  have gp := readP_go hp
  have gq := readP_go hq
  have gr := readP_go hr
  rw [show (32 :: 62 :: 32 :: b : By) = 32 :: ([62] ++ 32 :: b) from rfl, cutL_app, cutL_app, show cutL 32 [62] = [[62]] from by decide] at gp
  rw [cutL_app] at gq
  have hla := cutL_pos 32 a
  have hlb := cutL_pos 32 b
  cases hb : cutL 32 b with
  | nil => rw [hb] at hlb; exact absurd hlb (by decide)
  | cons b0 bs =>
    rw [hb] at gp gq gr
    rw [rdGo] at gr
    rw [rdGo_app] at gp gq
    cases ha : rdGo 0 (false, []) (cutL 32 a) with
    | none => rw [ha] at gp; cases gp
    | some sa =>
      obtain ⟨fa, A⟩ := sa
      rw [ha] at gp gq
      dsimp only at gp gq
      rw [Nat.zero_add] at gp gq
      rw [List.singleton_append, rdGo] at gp
      have hfa : fa = false := by
        cases fa with
        | false => rfl
        | true =>
          rw [rdStep_no (by simp) step_gt] at gp
          cases gp
      subst hfa
      rw [rdStep_gt ⟨rfl, by omega, rfl⟩] at gp
      dsimp only at gp
      rw [rdGo] at gp gq
      cases hs : stepP b0 with
      | none => rw [rdStep_no (by simp) hs] at gr; cases gr
      | some x0 =>
        have hb0 : b0 ≠ [62] := by
          intro h
          rw [h, step_gt] at hs; cases hs
        rw [rdStep_yes (by simp) hs] at gr gp
        rw [rdStep_yes (fun h => hb0 h.1) hs] at gq
        dsimp only at gp gq gr
        have e0 := rdGo_pre bs (0 + 1) false [⟨x0.1, x0.2, false⟩] []
        have e1 := rdGo_pre bs ((cutL 32 a).length + 1 + 1) false (A ++ [⟨x0.1, x0.2, true⟩]) []
        have e2 := rdGo_pre bs ((cutL 32 a).length + 1) false (A ++ [⟨x0.1, x0.2, false⟩]) []
        rw [List.append_nil] at e0 e1 e2
        rw [List.nil_append, e0] at gr
        rw [e1, rdGo_pos bs (Nat.succ_pos _) (Nat.succ_pos 0)] at gp
        rw [e2, rdGo_pos bs (Nat.succ_pos _) (Nat.succ_pos 0)] at gq
        rw [Nat.zero_add] at gr
        rw [Nat.succ_eq_add_one, Nat.zero_add] at gp gq
        cases hR : rdGo 1 (false, []) bs with
        | none => rw [hR] at gr; cases gr
        | some sr =>
          obtain ⟨fr, R⟩ := sr
          rw [hR] at gp gq gr
          simp only [Option.map_some, Option.some.injEq, Prod.mk.injEq] at gp gq gr
          exact ⟨A, ⟨x0.1, x0.2, false⟩, R, by rw [← gp.2]; simp, by rw [← gq.2]; simp, by rw [← gr.2]; rfl⟩
theorem upF_mono {r : Bool} {l : List Nat} {G G' : Nat → Bool} (h : ∀ n, G n = true → G' n = true) (hu : upF r l G = true) : upF r l G' = true := by
  unfold upF at hu ⊢
  rw [List.any_eq_true] at hu ⊢
  obtain ⟨x, hx, hg⟩ := hu
  exact ⟨x, hx, h x hg⟩
theorem upF_wide {l : List Nat} {G : Nat → Bool} (hu : upF true l G = true) : upF false l G = true := by
  unfold upF at hu ⊢
  rw [if_pos rfl] at hu
  rw [if_neg (by decide)]
  rw [List.any_eq_true] at hu ⊢
  obtain ⟨x, hx, hg⟩ := hu
  exact ⟨x, List.mem_of_mem_take hx, hg⟩
theorem fitsR_ups {E : Els} {x : St} {R : List St} {n : Nat} : fitsR E (x :: R) n = match elAt E n with | none => false | some e => stF e x && (R.isEmpty || upF x.right (ups E 10 n) (fitsR E R)) := rfl
/-- What fits below fits where less is asked above. -/
theorem fitsR_mono {E : Els} (L L' : List St) (hn : L.isEmpty = L'.isEmpty) (h : ∀ n, fitsR E L n = true → fitsR E L' n = true) : ∀ (R : List St) (n : Nat), fitsR E (R ++ L) n = true → fitsR E (R ++ L') n = true
  | [], n, hf => h n hf
  | y :: r, n, hf => by
    rw [List.cons_append, fitsR_ups] at hf ⊢
    cases he : elAt E n with
    | none => rw [he] at hf; cases hf
    | some e =>
      rw [he] at hf
      dsimp only at hf ⊢
      have hi : (r ++ L).isEmpty = (r ++ L').isEmpty := by cases r <;> simp [hn]
      rw [← hi]
      rw [Bool.and_eq_true, Bool.or_eq_true] at hf ⊢
      exact ⟨hf.1, hf.2.imp id fun hu => upF_mono (fun k hk => fitsR_mono L L' hn h r k hk) hu⟩
/-- The statement's three selectors, plain. -/
theorem last_fits (A : List St) (x : St) (R : List St) (E : Els) (n : Nat) :
    (fitsL E (A ++ ⟨x.nm, x.ws, true⟩ :: R) n = true → fitsL E (A ++ ⟨x.nm, x.ws, false⟩ :: R) n = true) ∧ (fitsL E (A ++ ⟨x.nm, x.ws, false⟩ :: R) n = true → fitsL E (⟨x.nm, x.ws, false⟩ :: R) n = true) := by
  unfold fitsL
  simp only [List.reverse_append, List.reverse_cons, List.append_assoc]
  constructor
  · refine fitsR_mono (E := E) ([⟨x.nm, x.ws, true⟩] ++ A.reverse) ([⟨x.nm, x.ws, false⟩] ++ A.reverse) rfl (fun k hk => ?_) R.reverse n
    rw [List.singleton_append, fitsR_ups] at hk ⊢
    cases he : elAt E k with
    | none => rw [he] at hk; cases hk
    | some e =>
      rw [he] at hk
      dsimp only at hk ⊢
      rw [Bool.and_eq_true, Bool.or_eq_true] at hk ⊢
      exact ⟨hk.1, hk.2.imp id upF_wide⟩
  · refine fitsR_mono (E := E) ([⟨x.nm, x.ws, false⟩] ++ A.reverse) [⟨x.nm, x.ws, false⟩] rfl (fun k hk => ?_) R.reverse n
    rw [List.singleton_append, fitsR_ups] at hk
    rw [fitsR_ups]
    cases he : elAt E k with
    | none => rw [he] at hk; cases hk
    | some e =>
      rw [he] at hk
      dsimp only at hk ⊢
      rw [Bool.and_eq_true] at hk ⊢
      exact ⟨hk.1, rfl⟩
theorem last_weighs (A : List St) (x : St) (R : List St) : wtL (A ++ ⟨x.nm, x.ws, true⟩ :: R) = wtL (A ++ ⟨x.nm, x.ws, false⟩ :: R) ∧ wtL (⟨x.nm, x.ws, false⟩ :: R) ≤ wtL (A ++ ⟨x.nm, x.ws, false⟩ :: R) := by
  unfold wtL
  simp only [List.map_append, List.map_cons, List.sum_append, List.sum_cons]
  exact ⟨rfl, by omega⟩
/-- The selector * -/
theorem read_star : readP [42] = some [⟨[42], [], false⟩] := by
  have c1 : cutL 32 [42] = [[42]] := by decide
  have w1 : wantsP [] = some [] := by rw [wantsP]
  have s1 : stepP [42] = some ([42], []) := by
    unfold stepP
    rw [if_neg (by decide), show tailW [42] = [] from by decide, w1]; rfl
  have t1 : rdT [[42]] 1 = some (false, [⟨[42], [], false⟩]) := by
    rw [rdT, rdT]
    show rdStep 0 (false, []) [42] = _
    rw [rdStep_yes (by decide) s1]; rfl
  unfold readP
  rw [c1]
  show (match rdT [[42]] 1 with | none => none | some st => if st.1 = true ∨ 5 < st.2.length then none else some st.2) = _
  rw [t1]
  dsimp only
  rw [if_neg (by simp)]
theorem fits_star {E : Els} {n : Nat} {e : El} (he : elAt E n = some e) : fitsL E [⟨[42], [], false⟩] n = true := by
  unfold fitsL
  rw [List.reverse_singleton, fitsR, he]
  simp [stF]
end Lead.Pk
