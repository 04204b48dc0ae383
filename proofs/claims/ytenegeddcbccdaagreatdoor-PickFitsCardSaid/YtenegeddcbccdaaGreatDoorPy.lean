/-
  Several texts as one: Pkf, Pkh, Pw1, Pw2, Dlf, Pfn.
-/
import Derived.Test.YtenegeddcbccdaaGreatDoorPke
import Derived.Test.YtenegeddcbccdaaGreatDoorPkg
import Derived.Lib.SlKept
import Derived.Lib.SliceRun
/-
  Walks over package pick: Fits.
-/
namespace Go.Proofs.YtenegeddcbccdaaGreatDoor
open Go.RowKit Go.WideMaps Go.Maps Lead Lead.Dc Lead.Pk
set_option maxHeartbeats 4000000 in
set_option maxRecDepth 100000 in
theorem selfits_any (m : Int) (bd next : Nat) (F : Nat → Prop) (E : Els) (d : Nat → Nat) (TS TW : TypeId) (base : Nat) (v : Value) (S : ByteArray) (l : List St) (n : Nat) (e : El) (w : World) (hD : DokG Tryz.prog TT w bd F E next d) (hat : ∀ n e, elAt E n = some e → ∀ a ∈ e.attrs, a.2.size ≤ 100000) (hm : w.cell? ⟨12, 0, none⟩ = some (.int .i64 m))
    (hv : SelOk TS TW base w v l) (hl : l ≠ []) (he : elAt E n = some e) (hn : e.name ≠ ⟨#[]⟩) :
    Calls Tryz.prog 31 #[.agg #[v, .string S], .pointer (some ⟨bd, 0, none⟩), .int .i64 (n : Int)] w fun en w' => en = .returned (.bool (fitsL E l n)) ∧ Below w.heap.size w w' := by
  obtain ⟨xs, h1, h2, rfl⟩ := hv
  rcases h1.form with ⟨_, rfl⟩ | ⟨g, cap, rfl, _, hg, hc, hl', hr⟩
  · exact absurd rfl hl
  · have hpos : 0 < xs.length := by
      cases xs with
      | nil => exact absurd rfl hl
      | cons x r => simp
    have hS := sla_of h1
    have hcm : cap ≤ maxLen := hS.2.2.1
    have hn64 : I64 (n : Int) := i64_nat (by have := hD.good.lt n e he; have := hD.big; omega)
    have cN := fun (W : World) (hb : Below w.heap.size w W) => name_any bd next (n : Int) F E d W (hD.keep hb) hn64
    rw [nameZ_nat he] at cN
    have cF := fun (W : World) (hb : Below w.heap.size w W) => pfits_any m bd next F E d base TW g cap xs w hD hat hm hr hg h2 hc hcm (xs.length - 1) (by omega) n e W hb he
    rw [show xs.length - 1 + 1 = xs.length by omega, List.take_length] at cF
    obtain ⟨ans, hans⟩ : ∃ u, fitsR E (xs.map StX.st).reverse n = u := ⟨_, rfl⟩
    have hans' : fitsL E (xs.map StX.st) n = ans := hans
    rw [hans] at cF
    rw [hans']
    obtain ⟨k, hk⟩ : ∃ u, xs.length = u := ⟨_, rfl⟩
    rw [hk] at cF hpos ⊢
    have gk : (0 : Int) < (k : Int) := by omega
    have hnm : (e.name.toList == []) = false := by
      rw [beq_eq_false_iff_ne]
      intro h
      rw [ByteArray.toList_eq] at h
      exact hn (ByteArray.ext (Array.ext' h))
    obtain ⟨N, hN⟩ : ∃ u, e.name = u := ⟨_, rfl⟩
    rw [hN] at cN hnm
    have H_cN := Lib.hid cN
    clear cN
    have H_cF := Lib.hid cF
    clear cF
    have H_hans := Lib.hid hans
    clear hans
    have H_hans' := Lib.hid hans'
    clear hans'
    have H_hN := Lib.hid hN
    clear hN
    have H_hk := Lib.hid hk
    clear hk
    have H_hD := Lib.hid hD
    clear hD
    have H_hat := Lib.hid hat
    clear hat
    have H_hm := Lib.hid hm
    clear hm
    have H_hr := Lib.hid hr
    clear hr
    have H_h1 := Lib.hid h1
    clear h1
    have H_h2 := Lib.hid h2
    clear h2
    have H_hS := Lib.hid hS
    clear hS
    have H_hcm := Lib.hid hcm
    clear hcm
    have H_he := Lib.hid he
    clear he
    have H_hn64 := Lib.hid hn64
    clear hn64
    have H_hn := Lib.hid hn
    clear hn
    go_enter Tryz.func31, Tryz.ntmps31
    go_wp2_with fail
    refine (H_cN.out _ (by repeat' (first | (with_reducible first | exact bwR _ _ | assumption | refine bdn ?_ | refine bwA ?_ ?_ _ | refine bwD ?_ | refine bwS ?_ ?_ _) | omega | (simp <;> omega)))).mono ?_
    rintro _ w1 ⟨rfl, hb1⟩
    have hB1 : Below w.heap.size w w1 := below_via (by repeat' (first | (with_reducible first | exact bwR _ _ | assumption | refine bdn ?_ | refine bwA ?_ ?_ _ | refine bwD ?_ | refine bwS ?_ ?_ _) | omega | (simp <;> omega))) hb1
    have b0 : w1.cell? ⟨w.heap.size, 0, none⟩ = some (.slice (some ⟨g, 0, none⟩) k cap) := gkeep hb1 (World.cell?_alloc_new _ _ _ _) (by simp)
    clear hb1
    go_wp2_with fail
    refine (H_cF.out _ (by repeat' (first | (with_reducible first | exact bwR _ _ | assumption | refine bdn ?_ | refine bwA ?_ ?_ _ | refine bwD ?_ | refine bwS ?_ ?_ _) | omega | (simp <;> omega)))).mono ?_
    rintro _ w2 ⟨rfl, hb2⟩
    have hB2 : Below w.heap.size w w2 := below_via (by repeat' (first | (with_reducible first | exact bwR _ _ | assumption | refine bdn ?_ | refine bwA ?_ ?_ _ | refine bwD ?_ | refine bwS ?_ ?_ _) | omega | (simp <;> omega))) hb2
    clear hb2
    go_wp2_with fail
    go_returns
    exact ⟨by simp, hB2⟩
end Go.Proofs.YtenegeddcbccdaaGreatDoor

/-
  Walks over package pick: Text; the law's first lines: picked.
-/
namespace Go.Proofs.YtenegeddcbccdaaGreatDoor
open Go.RowKit Go.WideMaps Go.Maps Lead Lead.Dc Lead.Pk
theorem text_any (x : Value) (S : ByteArray) (w : World) :
    Calls Tryz.prog 29 #[.agg #[x, .string S], ] w fun en w' => en = .returned (.string S) ∧ Below w.heap.size w w' := by
  go_enter Tryz.func29, Tryz.ntmps29
  go_wp2_with fail
  go_returns
  exact ⟨rfl, by repeat' (first | (with_reducible first | exact bwR _ _ | assumption | refine bdn ?_ | refine bwA ?_ ?_ _ | refine bwD ?_ | refine bwS ?_ ?_ _) | omega | (simp <;> omega))⟩
set_option maxHeartbeats 4000000 in
theorem picked_any (ea : Nat → Addr) (m : Int) (w : World) (hE : w.cell? ⟨8, 0, none⟩ = some (.iface 240 (.pointer (some (ea 1))))) (hm : w.cell? ⟨12, 0, none⟩ = some (.int .i64 m)) :
    Calls Tryz.prog 26 #[] w fun en w' => en = .returned (.bool true) ∧ Below w.heap.size w w' := by
  obtain ⟨l, hl, hw⟩ := read_abc
  have cR := pread_any ea m [97, 32, 62, 32, 98, 46, 99] w (by decide) hE hm
  rw [hl] at cR
  have hbs : bs [97, 32, 62, 32, 98, 46, 99] = ⟨#[97, 32, 62, 32, 98, 46, 99]⟩ := rfl
  have H_cR := Lib.hid cR
  clear cR
  have H_hl := Lib.hid hl
  clear hl
  have H_hw := Lib.hid hw
  clear hw
  have H_hbs := Lib.hid hbs
  clear hbs
  go_enter Tryz.func26, Tryz.ntmps26
  go_wp2_with fail
  refine (H_cR.out).mono ?_
  rintro en w1 ⟨hB1, v, rfl, hv⟩
  rw [H_hbs.out]
  have cW := fun (W : World) (hb : Below w1.heap.size w1 W) => weight_any 130 139 w.heap.size v ⟨#[97, 32, 62, 32, 98, 46, 99]⟩ l W (hv.keep hb) (by rw [H_hw.out]; decide)
  rw [H_hw.out] at cW
  obtain ⟨o, c, q, rfl⟩ : ∃ o c q, v = .slice o q c := by
    obtain ⟨xs, h1, _, _⟩ := hv
    obtain ⟨o, c, h⟩ := ow_form h1
    exact ⟨o, c, _, h⟩
  have H_cW := Lib.hid cW
  clear cW
  have H_hv := Lib.hid hv
  clear hv
  go_wp2_with fail
  refine (text_any _ _ _).mono ?_
  rintro _ w2 ⟨rfl, hb2⟩
  have hB2 : Below w1.heap.size w1 w2 := below_via (by repeat' (first | (with_reducible first | exact bwR _ _ | assumption | refine bdn ?_ | refine bwA ?_ ?_ _ | refine bwD ?_ | refine bwS ?_ ?_ _) | omega | (simp <;> omega))) hb2
  have b0 : w2.cell? ⟨w1.heap.size, 0, none⟩ = some (.slice o q c) := gkeep hb2 (World.cell?_alloc_new _ _ _ _) (by simp)
  have b1 : w2.cell? ⟨w1.heap.size, 1, none⟩ = some (.string ⟨#[97, 32, 62, 32, 98, 46, 99]⟩) := gkeep hb2 (World.cell?_alloc_new _ _ _ _) (by simp)
  clear hb2
  go_wp2_with fail
  refine (H_cW.out _ hB2).mono ?_
  rintro _ w3 ⟨rfl, hb3⟩
  have hB3 : Below w.heap.size w w3 := below_via (below_via hB1 hB2) hb3
  clear hb3 b0 b1
  go_wp2_with fail
  go_returns
  exact ⟨rfl, hB3⟩
end Go.Proofs.YtenegeddcbccdaaGreatDoor

/-
  Plain: two selectors, one behind the other: what the statement PickLast says.
-/
namespace Lead.Pk
open Go Go.RowKit Lead Lead.Dc
/-- The words, from a state on. -/
def rdGo : Nat → Bool × List St → List By → Option (Bool × List St)
  | _, st, [] => some st
  | i, st, w :: r => match rdStep i st w with
    | none => none
    | some st' => rdGo (i + 1) st' r
theorem rdT_go : ∀ (b a : List By) {st : Bool × List St}, rdT (a ++ b) a.length = some st → rdT (a ++ b) (a ++ b).length = rdGo a.length st b
  | [], a, st, h => by rw [List.append_nil] at h ⊢; exact h
  | x :: r, a, st, h => by
    have hn := rdT_next h (by rw [List.length_append, List.length_cons]; omega)
    rw [List.getElem_append_right (Nat.le_refl _)] at hn
    simp only [Nat.sub_self, List.getElem_cons_zero] at hn
    rw [rdGo]
    cases hs : rdStep a.length st x with
    | none =>
      rw [hs] at hn
      have h1 := rdT_stop (a.length + 1) r.length hn
      rw [show (a ++ x :: r).length = a.length + 1 + r.length by rw [List.length_append, List.length_cons]; omega]
      exact h1
    | some st' =>
      rw [hs] at hn
      dsimp only
      have e : a ++ x :: r = (a ++ [x]) ++ r := by simp
      rw [e] at hn ⊢
      have h1 := rdT_go r (a ++ [x]) (st := st') (by rw [List.length_append]; exact hn)
      rw [h1, List.length_append]; rfl
theorem readP_go {s : By} {l : List St} (h : readP s = some l) : rdGo 0 (false, []) (cutL 32 s) = some (false, l) := by
  have h0 := rdT_go (cutL 32 s) [] (st := (false, [])) rfl
  rw [List.nil_append] at h0
  unfold readP at h
  rw [h0] at h
  change (match rdGo 0 (false, []) (cutL 32 s) with | none => none | some st => if st.1 = true ∨ 5 < st.2.length then none else some st.2) = some l at h
  split at h
  · cases h
  · next st hst =>
    rw [hst]
    split at h
    · cases h
    · next hc =>
      cases h
      have : st.1 = false := by
        cases h1 : st.1
        · rfl
        · exact absurd (.inl h1) hc
      rw [← this]
theorem rdGo_app : ∀ (a b : List By) (i : Nat) (st : Bool × List St), rdGo i st (a ++ b) = match rdGo i st a with | none => none | some s' => rdGo (i + a.length) s' b
  | [], b, i, st => rfl
  | x :: r, b, i, st => by
    rw [List.cons_append, rdGo, rdGo]
    cases hs : rdStep i st x with
    | none => rfl
    | some st' =>
      dsimp only
      rw [rdGo_app r b (i + 1) st', List.length_cons, show i + 1 + r.length = i + (r.length + 1) by omega]
theorem rdStep_pos {i j : Nat} (hi : 0 < i) (hj : 0 < j) (st : Bool × List St) (w : By) : rdStep i st w = rdStep j st w := by
  unfold rdStep
  have e : (w = [62] ∧ 0 < i ∧ st.1 = false) ↔ (w = [62] ∧ 0 < j ∧ st.1 = false) := ⟨fun ⟨a, _, c⟩ => ⟨a, hj, c⟩, fun ⟨a, _, c⟩ => ⟨a, hi, c⟩⟩
  by_cases h : w = [62] ∧ 0 < i ∧ st.1 = false
  · rw [if_pos h, if_pos (e.1 h)]
  · rw [if_neg h, if_neg (fun h' => h (e.2 h'))]
theorem rdGo_pos : ∀ (l : List By) {i j : Nat} (_ : 0 < i) (_ : 0 < j) (st : Bool × List St), rdGo i st l = rdGo j st l
  | [], _, _, _, _, _ => rfl
  | x :: r, i, j, hi, hj, st => by
    rw [rdGo, rdGo, rdStep_pos hi hj]
    cases rdStep j st x with
    | none => rfl
    | some st' => exact rdGo_pos r (Nat.succ_pos _) (Nat.succ_pos _) st'
theorem rdStep_pre (i : Nat) (f : Bool) (A B : List St) (w : By) : rdStep i (f, A ++ B) w = (rdStep i (f, B) w).map fun s => (s.1, A ++ s.2) := by
  unfold rdStep
  dsimp only
  split
  · rfl
  · cases stepP w with
    | none => rfl
    | some x => simp
theorem rdGo_pre : ∀ (l : List By) (i : Nat) (f : Bool) (A B : List St), rdGo i (f, A ++ B) l = (rdGo i (f, B) l).map fun s => (s.1, A ++ s.2)
  | [], _, _, _, _ => rfl
  | x :: r, i, f, A, B => by
    rw [rdGo, rdGo, rdStep_pre]
    cases rdStep i (f, B) x with
    | none => rfl
    | some st' =>
      obtain ⟨f', B'⟩ := st'
      exact rdGo_pre r (i + 1) f' A B'
theorem cut_pre (y : UInt8) (b : By) (A : List By) (st : List By × By) : b.foldl (cutStep y) (A ++ st.1, st.2) = (A ++ (b.foldl (cutStep y) st).1, (b.foldl (cutStep y) st).2) := by
  induction b generalizing st with
  | nil => rfl
  | cons c r ih =>
    rw [List.foldl_cons, List.foldl_cons]
    have e : cutStep y (A ++ st.1, st.2) c = (A ++ (cutStep y st c).1, (cutStep y st c).2) := by
      unfold cutStep
      split
      · simp
      · rfl
    rw [e]
    exact ih _
theorem cutL_app (a b : By) : cutL 32 (a ++ 32 :: b) = cutL 32 a ++ cutL 32 b := by
  unfold cutL cutF
  rw [List.foldl_append, List.foldl_cons]
  obtain ⟨W, l⟩ := a.foldl (cutStep 32) ([], [])
  have e : cutStep 32 (W, l) 32 = ((W ++ [l]) ++ (([], []) : List By × By).1, (([], []) : List By × By).2) := by unfold cutStep; rw [if_pos rfl]; simp
  rw [e, cut_pre 32 b (W ++ [l]) ([], [])]
  simp
theorem step_gt : stepP [62] = none := by
  unfold stepP
  rw [if_pos (.inr ⟨by decide, by decide, by decide⟩)]
/-- Two selectors that stand one behind the other, by > or by a blank; and the last of the two alone. -/
theorem readP_two {a b : By} {P Q R0 : List St} (hp : readP (a ++ 32 :: 62 :: 32 :: b) = some P) (hq : readP (a ++ 32 :: b) = some Q) (hr : readP b = some R0) :
    ∃ (A : List St) (x : St) (R : List St), P = A ++ ⟨x.nm, x.ws, true⟩ :: R ∧ Q = A ++ ⟨x.nm, x.ws, false⟩ :: R ∧ R0 = ⟨x.nm, x.ws, false⟩ :: R := by
  have gp := readP_go hp
  have gq := readP_go hq
  have gr := readP_go hr
  rw [show (32 :: 62 :: 32 :: b : By) = 32 :: ([62] ++ 32 :: b) from rfl, cutL_app, cutL_app, show cutL 32 [62] = [[62]] from by decide] at gp
  rw [cutL_app] at gq
  have hla := cutL_pos 32 a
  have hlb := cutL_pos 32 b
  cases hb : cutL 32 b with
  | nil => rw [hb] at hlb; exact absurd hlb (by decide)
  | cons b0 bs =>
    rw [hb] at gp gq gr
    rw [rdGo] at gr
    rw [rdGo_app] at gp gq
    cases ha : rdGo 0 (false, []) (cutL 32 a) with
    | none => rw [ha] at gp; cases gp
    | some sa =>
      obtain ⟨fa, A⟩ := sa
      rw [ha] at gp gq
      dsimp only at gp gq
      rw [Nat.zero_add] at gp gq
      rw [List.singleton_append, rdGo] at gp
      have hfa : fa = false := by
        cases fa with
        | false => rfl
        | true =>
          rw [rdStep_no (by simp) step_gt] at gp
          cases gp
      subst hfa
      rw [rdStep_gt ⟨rfl, by omega, rfl⟩] at gp
      dsimp only at gp
      rw [rdGo] at gp gq
      cases hs : stepP b0 with
      | none => rw [rdStep_no (by simp) hs] at gr; cases gr
      | some x0 =>
        have hb0 : b0 ≠ [62] := by
          intro h
          rw [h, step_gt] at hs; cases hs
        rw [rdStep_yes (by simp) hs] at gr gp
        rw [rdStep_yes (fun h => hb0 h.1) hs] at gq
        dsimp only at gp gq gr
        have e0 := rdGo_pre bs (0 + 1) false [⟨x0.1, x0.2, false⟩] []
        have e1 := rdGo_pre bs ((cutL 32 a).length + 1 + 1) false (A ++ [⟨x0.1, x0.2, true⟩]) []
        have e2 := rdGo_pre bs ((cutL 32 a).length + 1) false (A ++ [⟨x0.1, x0.2, false⟩]) []
        rw [List.append_nil] at e0 e1 e2
        rw [List.nil_append, e0] at gr
        rw [e1, rdGo_pos bs (Nat.succ_pos _) (Nat.succ_pos 0)] at gp
        rw [e2, rdGo_pos bs (Nat.succ_pos _) (Nat.succ_pos 0)] at gq
        rw [Nat.zero_add] at gr
        rw [Nat.succ_eq_add_one, Nat.zero_add] at gp gq
        cases hR : rdGo 1 (false, []) bs with
        | none => rw [hR] at gr; cases gr
        | some sr =>
          obtain ⟨fr, R⟩ := sr
          rw [hR] at gp gq gr
          simp only [Option.map_some, Option.some.injEq, Prod.mk.injEq] at gp gq gr
          exact ⟨A, ⟨x0.1, x0.2, false⟩, R, by rw [← gp.2]; simp, by rw [← gq.2]; simp, by rw [← gr.2]; rfl⟩
theorem upF_mono {r : Bool} {l : List Nat} {G G' : Nat → Bool} (h : ∀ n, G n = true → G' n = true) (hu : upF r l G = true) : upF r l G' = true := by
  unfold upF at hu ⊢
  rw [List.any_eq_true] at hu ⊢
  obtain ⟨x, hx, hg⟩ := hu
  exact ⟨x, hx, h x hg⟩
theorem upF_wide {l : List Nat} {G : Nat → Bool} (hu : upF true l G = true) : upF false l G = true := by
  unfold upF at hu ⊢
  rw [if_pos rfl] at hu
  rw [if_neg (by decide)]
  rw [List.any_eq_true] at hu ⊢
  obtain ⟨x, hx, hg⟩ := hu
  exact ⟨x, List.mem_of_mem_take hx, hg⟩
theorem fitsR_ups {E : Els} {x : St} {R : List St} {n : Nat} : fitsR E (x :: R) n = match elAt E n with | none => false | some e => stF e x && (R.isEmpty || upF x.right (ups E 10 n) (fitsR E R)) := rfl
/-- What fits below fits where less is asked above. -/
theorem fitsR_mono {E : Els} (L L' : List St) (hn : L.isEmpty = L'.isEmpty) (h : ∀ n, fitsR E L n = true → fitsR E L' n = true) : ∀ (R : List St) (n : Nat), fitsR E (R ++ L) n = true → fitsR E (R ++ L') n = true
  | [], n, hf => h n hf
  | y :: r, n, hf => by
    rw [List.cons_append, fitsR_ups] at hf ⊢
    cases he : elAt E n with
    | none => rw [he] at hf; cases hf
    | some e =>
      rw [he] at hf
      dsimp only at hf ⊢
      have hi : (r ++ L).isEmpty = (r ++ L').isEmpty := by cases r <;> simp [hn]
      rw [← hi]
      rw [Bool.and_eq_true, Bool.or_eq_true] at hf ⊢
      exact ⟨hf.1, hf.2.imp id fun hu => upF_mono (fun k hk => fitsR_mono L L' hn h r k hk) hu⟩
/-- The statement's three selectors, plain. -/
theorem last_fits (A : List St) (x : St) (R : List St) (E : Els) (n : Nat) :
    (fitsL E (A ++ ⟨x.nm, x.ws, true⟩ :: R) n = true → fitsL E (A ++ ⟨x.nm, x.ws, false⟩ :: R) n = true) ∧ (fitsL E (A ++ ⟨x.nm, x.ws, false⟩ :: R) n = true → fitsL E (⟨x.nm, x.ws, false⟩ :: R) n = true) := by
  unfold fitsL
  simp only [List.reverse_append, List.reverse_cons, List.append_assoc]
  constructor
  · refine fitsR_mono (E := E) ([⟨x.nm, x.ws, true⟩] ++ A.reverse) ([⟨x.nm, x.ws, false⟩] ++ A.reverse) rfl (fun k hk => ?_) R.reverse n
    rw [List.singleton_append, fitsR_ups] at hk ⊢
    cases he : elAt E k with
    | none => rw [he] at hk; cases hk
    | some e =>
      rw [he] at hk
      dsimp only at hk ⊢
      rw [Bool.and_eq_true, Bool.or_eq_true] at hk ⊢
      exact ⟨hk.1, hk.2.imp id upF_wide⟩
  · refine fitsR_mono (E := E) ([⟨x.nm, x.ws, false⟩] ++ A.reverse) [⟨x.nm, x.ws, false⟩] rfl (fun k hk => ?_) R.reverse n
    rw [List.singleton_append, fitsR_ups] at hk
    rw [fitsR_ups]
    cases he : elAt E k with
    | none => rw [he] at hk; cases hk
    | some e =>
      rw [he] at hk
      dsimp only at hk ⊢
      rw [Bool.and_eq_true] at hk ⊢
      exact ⟨hk.1, rfl⟩
theorem last_weighs (A : List St) (x : St) (R : List St) : wtL (A ++ ⟨x.nm, x.ws, true⟩ :: R) = wtL (A ++ ⟨x.nm, x.ws, false⟩ :: R) ∧ wtL (⟨x.nm, x.ws, false⟩ :: R) ≤ wtL (A ++ ⟨x.nm, x.ws, false⟩ :: R) := by
  unfold wtL
  simp only [List.map_append, List.map_cons, List.sum_append, List.sum_cons]
  exact ⟨rfl, by omega⟩
/-- The selector * -/
theorem read_star : readP [42] = some [⟨[42], [], false⟩] := by
  have c1 : cutL 32 [42] = [[42]] := by decide
  have w1 : wantsP [] = some [] := by rw [wantsP]
  have s1 : stepP [42] = some ([42], []) := by
    unfold stepP
    rw [if_neg (by decide), show tailW [42] = [] from by decide, w1]; rfl
  have t1 : rdT [[42]] 1 = some (false, [⟨[42], [], false⟩]) := by
    rw [rdT, rdT]
    show rdStep 0 (false, []) [42] = _
    rw [rdStep_yes (by decide) s1]; rfl
  unfold readP
  rw [c1]
  show (match rdT [[42]] 1 with | none => none | some st => if st.1 = true ∨ 5 < st.2.length then none else some st.2) = _
  rw [t1]
  dsimp only
  rw [if_neg (by simp)]
theorem fits_star {E : Els} {n : Nat} {e : El} (he : elAt E n = some e) : fitsL E [⟨[42], [], false⟩] n = true := by
  unfold fitsL
  rw [List.reverse_singleton, fitsR, he]
  simp [stF]
end Lead.Pk

/-
  Walks over package pick: All, where all fit.
-/
namespace Go.Proofs.YtenegeddcbccdaaGreatDoor
open Go.RowKit Go.WideMaps Go.Maps Lead Lead.Dc Lead.Pk
set_option maxHeartbeats 1000000 in
theorem allc_any (m : Int) (bd next : Nat) (F : Nat → Prop) (E : Els) (d : Nat → Nat) (TS TW : TypeId) (base B1 B2 : Nat) (o : Option Addr) (q c : Nat) (S : ByteArray) (l : List St) (n : Nat) (e : El) (w : World) (hD : DokG Tryz.prog TT w bd F E next d) (hat : ∀ n e, elAt E n = some e → ∀ a ∈ e.attrs, a.2.size ≤ 100000) (hm : w.cell? ⟨12, 0, none⟩ = some (.int .i64 m))
    (hv : SelOk TS TW base w (.slice o q c) l) (hl : l ≠ []) (he : elAt E n = some e) (hn : e.name ≠ ⟨#[]⟩)
    (h1 : w.cell? ⟨B1, 0, none⟩ = some (.slice o q c)) (h2 : w.cell? ⟨B1, 1, none⟩ = some (.string S)) (h3 : w.cell? ⟨B2, 0, none⟩ = some (.pointer (some ⟨bd, 0, none⟩))) :
    Calls Tryz.prog 83 #[.int .i64 (n : Int), .pointer (some ⟨B1, 0, none⟩), .pointer (some ⟨B2, 0, none⟩)] w fun en w' => en = .returned (.bool (!fitsL E l n)) ∧ Below w.heap.size w w' := by
  have cF := selfits_any m bd next F E d TS TW base (.slice o q c) S l n e w hD hat hm hv hl he hn
  obtain ⟨r, hr⟩ : ∃ u, fitsL E l n = u := ⟨_, rfl⟩
  rw [hr] at cF ⊢
  clear hD hm hv hat
  have H_cF := Lib.hid cF
  clear cF
  have H_hr := Lib.hid hr
  clear hr
  have H_hl := Lib.hid hl
  clear hl
  have H_he := Lib.hid he
  clear he
  have H_hn := Lib.hid hn
  clear hn
  go_enter Tryz.func83, Tryz.ntmps83
  go_wp2_with fail
  refine (H_cF.out).mono ?_
  rintro _ w1 ⟨rfl, hb1⟩
  go_wp2_with fail
  go_returns
  exact ⟨rfl, hb1⟩
set_option maxHeartbeats 1000000 in
theorem ixf_none (B1 B2 : Nat) (o : Option Addr) (n c : Nat) (L : List Nat) (w : World) (hS : SlA EIn w o n c L)
    (hp : ∀ W, Below w.heap.size w W → ∀ x ∈ L, Calls Tryz.prog 83 #[.int .i64 (x : Int), .pointer (some ⟨B1, 0, none⟩), .pointer (some ⟨B2, 0, none⟩)] W fun en w' => en = .returned (.bool false) ∧ Below W.heap.size W w') :
    Calls Tryz.prog 109 #[.slice o n c, .func (.func 83) #[] #[.pointer (some ⟨B1, 0, none⟩), .pointer (some ⟨B2, 0, none⟩)]] w fun en w' => en = .returned (.int .i64 (-1)) ∧ Below w.heap.size w w' := by
  have hmx : n ≤ 9223372036854775807 := by have h := hS.2.2.1; have h' := hS.2.1; unfold maxLen at h; omega
  have H_hS := Lib.hid hS
  clear hS
  have H_hp := Lib.hid hp
  clear hp
  go_enter Tryz.func109, Tryz.ntmps109
  go_wp2_with fail
  go_loopw [8] (fun t8 wr => ∃ k : Nat, k ≤ n ∧ t8 = .int .i64 k ∧ Below w.heap.size w wr) (fun t8 _ => n - (intOf t8).toNat)
  case atStart => exact ⟨0, Nat.zero_le _, rfl, Below.refl _ _⟩
  case round =>
    obtain ⟨k, hk, rfl, hB⟩ := hrel
    by_cases hlt : k < n
    · have hk' : k < L.length := by rw [← H_hS.out.1]; exact hlt
      obtain ⟨g, off, rfl, hgx, hrow⟩ := H_hS.out.2.2.2.resolve_left (by intro h; rw [h] at hk'; simp at hk')
      have q0 : wr.cell? ⟨g, off + k, none⟩ = some (.int .i64 (L[k] : Int)) := by
        have h := (hrow.keep hB hgx) k hk' 0 _ rfl
        simpa [EIn] using h
      have cP := H_hp.out wr hB _ (List.getElem_mem hk')
      obtain ⟨x, hx⟩ : ∃ u, L[k] = u := ⟨_, rfl⟩
      rw [hx] at q0 cP
      have gk : IntKind.i64.wrap ((k : Int) + 1) = ((k + 1 : Nat) : Int) := IntWalk.i64_in _ (by omega)
      clear hrow
      have H_cP := Lib.hid cP
      clear cP
      have H_hx := Lib.hid hx
      clear hx
      go_wp2_with fail
      refine (H_cP.out).mono ?_
      rintro _ w1 ⟨rfl, hb1⟩
      have hB1 : Below w.heap.size w w1 := below_via hB hb1
      clear hb1
      go_wp2_with fail
      go_roundw
      case rel => exact ⟨k + 1, by omega, by go_num, hB1⟩
      case measure => simp [intOf]; omega
    · obtain rfl : n = k := by omega
      go_wp2_with fail
      go_returns
      exact ⟨rfl, hB⟩
set_option maxHeartbeats 1000000 in
theorem dlf_none (B1 B2 : Nat) (o : Option Addr) (n c : Nat) (L : List Nat) (w : World) (hS : SlA EIn w o n c L)
    (hp : ∀ W, Below w.heap.size w W → ∀ x ∈ L, Calls Tryz.prog 83 #[.int .i64 (x : Int), .pointer (some ⟨B1, 0, none⟩), .pointer (some ⟨B2, 0, none⟩)] W fun en w' => en = .returned (.bool false) ∧ Below W.heap.size W w') :
    Calls Tryz.prog 82 #[.slice o n c, .func (.func 83) #[] #[.pointer (some ⟨B1, 0, none⟩), .pointer (some ⟨B2, 0, none⟩)]] w fun en w' => en = .returned (.slice o n c) ∧ Below w.heap.size w w' := by
  have cI := ixf_none B1 B2 o n c L w hS hp
  have H_cI := Lib.hid cI
  clear cI
  have H_hS := Lib.hid hS
  clear hS
  have H_hp := Lib.hid hp
  clear hp
  go_enter Tryz.func82, Tryz.ntmps82
  go_wp2_with fail
  refine (H_cI.out).mono ?_
  rintro _ w1 ⟨rfl, hb1⟩
  go_wp2_with fail
  go_returns
  exact ⟨rfl, hb1⟩
set_option maxHeartbeats 1000000 in
/-- All, where each element fits. -/
theorem pall_all (m : Int) (bd next : Nat) (F : Nat → Prop) (E : Els) (d : Nat → Nat) (TS TW : TypeId) (base : Nat) (o : Option Addr) (q c : Nat) (S : ByteArray) (l : List St) (w : World) (hD : DokG Tryz.prog TT w bd F E next d) (hat : ∀ n e, elAt E n = some e → ∀ a ∈ e.attrs, a.2.size ≤ 100000) (hm : w.cell? ⟨12, 0, none⟩ = some (.int .i64 m))
    (hv : SelOk TS TW base w (.slice o q c) l) (hl : l ≠ []) (hn : ∀ n e, elAt E n = some e → e.name ≠ ⟨#[]⟩) (hf : ∀ n e, elAt E n = some e → fitsL E l n = true) :
    Calls Tryz.prog 33 #[.pointer (some ⟨bd, 0, none⟩), .agg #[.slice o q c, .string S]] w fun en w' => (∃ o' c', en = .returned (.slice o' E.length c')) ∧ Below w.heap.size w w' := by
  have cA := fun (W : World) (hb : Below w.heap.size w W) => all_any bd next F E d W (hD.keep hb)
  have hel : ∀ x ∈ below E 10 0, ∃ e, elAt E x = some e := fun x hx => (hD.good.all_mem x).2 hx
  have hlen := hD.good.all_len
  have cP := fun (x : Nat) (hx : x ∈ below E 10 0) (B1 B2 : Nat) (W : World) (hb : Below w.heap.size w W) h1 h2 h3 => (hel x hx).elim fun e he => by
    have h := allc_any m bd next F E d TS TW base B1 B2 o q c S l x e W (hD.keep hb) hat (gkeep hb hm rfl) (hv.keep hb) hl he (hn x e he) h1 h2 h3
    rw [hf x e he] at h
    exact h
  have H_cA := Lib.hid cA
  clear cA
  have H_cP := Lib.hid cP
  clear cP
  have H_hel := Lib.hid hel
  clear hel
  have H_hlen := Lib.hid hlen
  clear hlen
  have H_hD := Lib.hid hD
  clear hD
  have H_hat := Lib.hid hat
  clear hat
  have H_hm := Lib.hid hm
  clear hm
  have H_hv := Lib.hid hv
  clear hv
  have H_hl := Lib.hid hl
  clear hl
  have H_hn := Lib.hid hn
  clear hn
  have H_hf := Lib.hid hf
  clear hf
  go_enter Tryz.func33, Tryz.ntmps33
  go_wp2_with fail
  refine (H_cA.out _ (by repeat' (first | (with_reducible first | exact bwR _ _ | assumption | refine bdn ?_ | refine bwA ?_ ?_ _ | refine bwD ?_ | refine bwS ?_ ?_ _) | omega | (simp <;> omega)))).mono ?_
  rintro _ w1 ⟨v, rfl, hv1, hb1⟩
  have hB1 : Below w.heap.size w w1 := below_via (by repeat' (first | (with_reducible first | exact bwR _ _ | assumption | refine bdn ?_ | refine bwA ?_ ?_ _ | refine bwD ?_ | refine bwS ?_ ?_ _) | omega | (simp <;> omega))) hb1
  have z1 : w.heap.size + 1 < w1.heap.size := Nat.lt_of_lt_of_le (by simp) hb1.size
  have b1 : w1.cell? ⟨w.heap.size + 1, 0, none⟩ = some (.slice o q c) := by
    have h := World.cell?_alloc_new (w.alloc (.cells #[.pointer (some ⟨bd, 0, none⟩)] 30)) #[.slice o q c, .string S] 70 0
    rw [World.size_alloc] at h
    exact gkeep hb1 h (by simp)
  have b2 : w1.cell? ⟨w.heap.size + 1, 1, none⟩ = some (.string S) := by
    have h := World.cell?_alloc_new (w.alloc (.cells #[.pointer (some ⟨bd, 0, none⟩)] 30)) #[.slice o q c, .string S] 70 1
    rw [World.size_alloc] at h
    exact gkeep hb1 h (by simp)
  have b3 : w1.cell? ⟨w.heap.size, 0, none⟩ = some (.pointer (some ⟨bd, 0, none⟩)) := by
    refine gkeep hb1 ?_ (by simp)
    exact (((Below.refl (w.heap.size + 1) (w.alloc (.cells #[.pointer (some ⟨bd, 0, none⟩)] 30))).alloc (by simp) _).cell (p := ⟨w.heap.size, 0, none⟩) (by simp)).trans (World.cell?_alloc_new _ _ _ _)
  obtain ⟨o', c', rfl⟩ := ow_form hv1
  have hS1 := sla_of hv1
  obtain ⟨L, hL⟩ : ∃ u, below E 10 0 = u := ⟨_, rfl⟩
  have hlen' := H_hlen.out
  have cP' := H_cP.out
  rw [hL] at hS1 hlen' cP' ⊢
  rw [hlen'] at hS1 ⊢
  have cD := dlf_none (w.heap.size + 1) w.heap.size o' E.length c' L w1 hS1 (fun W hb x hx => cP' x hx _ _ W (below_via hB1 hb) (gkeep hb b1 rfl) (gkeep hb b2 rfl) (gkeep hb b3 rfl))
  clear hb1 hv1 cP' hlen' b1 b2 H_cP H_cA
  have H_cD := Lib.hid cD
  clear cD
  have H_hS1 := Lib.hid hS1
  clear hS1
  have H_hL := Lib.hid hL
  clear hL
  go_wp2_with fail
  refine (H_cD.out).mono ?_
  rintro _ w2 ⟨rfl, hb2⟩
  have hB2 : Below w.heap.size w w2 := below_via hB1 hb2
  clear hb2
  go_wp2_with fail
  go_returns
  exact ⟨⟨_, _, rfl⟩, hB2⟩
end Go.Proofs.YtenegeddcbccdaaGreatDoor

/-
  Walks over package pick: All, in general: slices.DeleteFunc over a row of numbers of the call's own, where the predicate may make memory.
-/
namespace Lead.Dc
open Go Go.RowKit Lead
/-- A block of one-cell values of which the first n are known. -/
structure RowC (W : World) (g : Nat) (e : TypeId) (cap n : Nat) (f : Nat → Value) : Prop where
  blk : ∃ cur, W.heap[g]? = some (.cells cur e (0, 0)) ∧ cur.size = cap
  cell : ∀ j, j < n → W.cell? ⟨g, j, none⟩ = some (f j)
variable {W W' : World} {g cap n : Nat} {e : TypeId} {f f' : Nat → Value}
theorem RowC.free (h : RowC W g e cap n f) (j : Nat) : W.frozen? ⟨g, j, none⟩ = false := by
  obtain ⟨cur, h1, _⟩ := h.blk
  exact Dc.hfree h1
theorem RowC.lt (h : RowC W g e cap n f) : g < W.heap.size := by
  obtain ⟨cur, h1, _⟩ := h.blk
  exact (Array.getElem?_eq_some_iff.1 h1).1
theorem RowC.keep (h : RowC W g e cap n f) (hb : Below W.heap.size W W') : RowC W' g e cap n f := by
  have hl := h.lt
  obtain ⟨cur, h1, h2⟩ := h.blk
  exact ⟨⟨cur, (hb.block g hl).trans h1, h2⟩, fun j hj => (hb.cell (p := ⟨g, j, none⟩) hl).trans (h.cell j hj)⟩
theorem RowC.set (h : RowC W g e cap n f) {i : Nat} (hi : i < n) (v : Value) : RowC (W.setCell ⟨g, i, none⟩ v) g e cap n (fun j => if j = i then v else f j) := by
  obtain ⟨cur, h1, h2⟩ := h.blk
  refine ⟨⟨_, heap_setCell_same W g i cur e v h1, by simp [h2]⟩, fun j hj => ?_⟩
  by_cases hji : j = i
  · subst hji
    rw [if_pos rfl]
    exact World.cell?_setCell_same _ _ _ (h.cell j hi)
  · rw [if_neg hji, World.cell?_setCell_other _ _ _ _ (fun e => hji (by injection e with _ e _; exact e.symm))]
    exact h.cell j hj
theorem RowC.congr (h : RowC W g e cap n f) (hf : ∀ j, j < n → f j = f' j) : RowC W g e cap n f' := ⟨h.blk, fun j hj => by rw [← hf j hj]; exact h.cell j hj⟩
theorem setCells_blk (g : Nat) (e : TypeId) (cap : Nat) : ∀ (vs : List Value) (i : Nat) (W : World), (∃ cur, W.heap[g]? = some (.cells cur e (0, 0)) ∧ cur.size = cap) → ∃ cur, (W.setCells g i vs).heap[g]? = some (.cells cur e (0, 0)) ∧ cur.size = cap
  | [], _, _, h => h
  | v :: r, i, W, ⟨cur, h1, h2⟩ => setCells_blk g e cap r (i + 1) _ ⟨_, heap_setCell_same W g i cur e v h1, by simp [h2]⟩
theorem setCells_below {B : Nat} {w : World} {g : Nat} (hg : B ≤ g) : ∀ (vs : List Value) (i : Nat) (W : World), Below B w W → Below B w (W.setCells g i vs)
  | [], _, _, h => h
  | v :: r, i, _, h => setCells_below hg r (i + 1) _ (h.setCell (p := ⟨g, i, none⟩) hg v)
theorem RowC.cut (h : RowC W g e cap n f) {i : Nat} (hi : i ≤ n) (vs : List Value) : RowC (W.setCells g i vs) g e cap i f :=
  ⟨setCells_blk g e cap vs i W h.blk, fun j hj => by rw [World.cell?_setCells_out g vs i W _ (fun _ _ => Or.inl hj)]; exact h.cell j (by omega)⟩
theorem RowC.own {base : Nat} {l : List Nat} (h : RowC W g e cap n f) (hg : base ≤ g) (hl : l.length ≤ n) (hn : n ≤ cap) (hm : cap ≤ maxLen) (hf : ∀ j (hj : j < l.length), f j = .int .i64 (l[j] : Int)) : OwnR EIn W base e (.slice (some ⟨g, 0, none⟩) l.length cap) l := by
  obtain ⟨cur, h1, h2⟩ := h.blk
  refine own_cells h1 hg (by rw [h2]; exact (Nat.mul_one _).symm) (by omega) hm (fun j u hu => ?_)
  rw [flatI, List.getElem?_map] at hu
  have hj : j < l.length := by
    rcases Nat.lt_or_ge j l.length with hj | hj
    · exact hj
    · rw [List.getElem?_eq_none hj] at hu; cases hu
  rw [List.getElem?_eq_getElem hj] at hu
  injection hu with hu
  have hu' : Value.int .i64 (l[j] : Int) = u := hu
  rw [← hu', ← hf j hj]
  exact h.cell j (by omega)
theorem RowC.of_own {base : Nat} {L : List Nat} (h : OwnR EIn W base e (.slice (some ⟨g, 0, none⟩) L.length cap) L) : RowC W g e cap L.length (fun j => .int .i64 (L.toArray[j]! : Int)) ∧ base ≤ g ∧ L.length ≤ cap ∧ cap ≤ maxLen := by
  have hr : RowIn EIn W g 0 L := by
    rcases h.form with ⟨h, _⟩ | ⟨g', cap', h, _, _, _, _, hr⟩
    · cases h
    · injection h with h1 h2 h3
      injection h1 with h1
      injection h1 with h1 _ _
      subst h1
      exact hr
  obtain ⟨_, ⟨h2, _⟩ | ⟨g', cap', cur, h3, h4, h5, h6, h7, h8, _⟩⟩ := h
  · cases h2
  · injection h3 with h1 h2 h3
    injection h1 with h1
    injection h1 with h1 _ _
    subst h1 h3
    refine ⟨⟨⟨cur, h5, by rw [h8]; exact Nat.mul_one _⟩, fun j hj => ?_⟩, h4, h6, h7⟩
    have h := hr j hj 0 _ rfl
    rw [getElem!_pos L.toArray j (by simpa using hj)]
    simpa [EIn] using h
end Lead.Dc
namespace Go.Proofs.YtenegeddcbccdaaGreatDoor
open Go.RowKit Go.WideMaps Go.Maps Lead Lead.Dc Lead.Pk Go.Lib
set_option maxHeartbeats 1000000 in
theorem ixf_gen (q : Nat → Bool) (B1 B2 : Nat) (o : Option Addr) (n c : Nat) (L : List Nat) (w : World) (hS : SlA EIn w o n c L)
    (hp : ∀ W, Below w.heap.size w W → ∀ x ∈ L, Calls Tryz.prog 83 #[.int .i64 (x : Int), .pointer (some ⟨B1, 0, none⟩), .pointer (some ⟨B2, 0, none⟩)] W fun en w' => en = .returned (.bool (q x)) ∧ Below W.heap.size W w') :
    Calls Tryz.prog 109 #[.slice o n c, .func (.func 83) #[] #[.pointer (some ⟨B1, 0, none⟩), .pointer (some ⟨B2, 0, none⟩)]] w fun en w' => ∃ r : Int, en = .returned (.int .i64 r) ∧ ((r = -1 ∧ ∀ x ∈ L, q x = false) ∨ ∃ k : Nat, r = (k : Int) ∧ ∃ hk : k < L.length, q L[k] = true ∧ ∀ j (hj : j < k), q (L[j]'(by omega)) = false) ∧ Below w.heap.size w w' := by
  have hmx : n ≤ 9223372036854775807 := by have h := hS.2.2.1; have h' := hS.2.1; unfold maxLen at h; omega
  have H_hS := Lib.hid hS
  clear hS
  have H_hp := Lib.hid hp
  clear hp
  go_enter Tryz.func109, Tryz.ntmps109
  go_wp2_with fail
  go_loopw [8] (fun t8 wr => ∃ k : Nat, k ≤ n ∧ t8 = .int .i64 k ∧ Below w.heap.size w wr ∧ RowKit.Hid (∀ j (hj : j < L.length), j < k → q L[j] = false)) (fun t8 _ => n - (intOf t8).toNat)
  case atStart => exact ⟨0, Nat.zero_le _, rfl, Below.refl _ _, Lib.hid (fun _ _ h => by omega)⟩
  case round =>
    obtain ⟨k, hk, rfl, hB, H_no⟩ := hrel
    by_cases hlt : k < n
    · have hk' : k < L.length := by rw [← H_hS.out.1]; exact hlt
      obtain ⟨g, off, rfl, hgx, hrow⟩ := H_hS.out.2.2.2.resolve_left (by intro h; rw [h] at hk'; simp at hk')
      have q0 : wr.cell? ⟨g, off + k, none⟩ = some (.int .i64 (L[k] : Int)) := by
        have h := (hrow.keep hB hgx) k hk' 0 _ rfl
        simpa [EIn] using h
      have cP := H_hp.out wr hB _ (List.getElem_mem hk')
      have hkx : RowKit.Hid (∀ b, q L[k] = b → q L[k] = b) := Lib.hid (fun _ h => h)
      obtain ⟨x, hx⟩ : ∃ u, L[k] = u := ⟨_, rfl⟩
      rw [hx] at q0 cP
      have gk : IntKind.i64.wrap ((k : Int) + 1) = ((k + 1 : Nat) : Int) := IntWalk.i64_in _ (by omega)
      clear hrow hkx
      obtain ⟨b, hb⟩ : ∃ u, q x = u := ⟨_, rfl⟩
      rw [hb] at cP
      have H_cP := Lib.hid cP
      clear cP
      have H_hx := Lib.hid hx
      clear hx
      have H_hb := Lib.hid hb
      clear hb
      go_wp2_with fail
      refine (H_cP.out).mono ?_
      rintro _ w1 ⟨rfl, hb1⟩
      have hB1 : Below w.heap.size w w1 := below_via hB hb1
      clear hb1
      cases b with
      | false =>
        have hno : ∀ j (hj : j < L.length), j < k + 1 → q L[j] = false := fun j hj hjk => by
          by_cases e : j = k
          · subst e; rw [H_hx.out]; exact H_hb.out
          · exact H_no.out j hj (by omega)
        have H_hno := Lib.hid hno
        clear hno
        go_wp2_with fail
        go_roundw
        case rel => exact ⟨k + 1, by omega, by go_num, hB1, H_hno⟩
        case measure => simp [intOf]; omega
      | true =>
        go_wp2_with fail
        go_returns
        exact ⟨_, rfl, .inr ⟨k, rfl, hk', by rw [H_hx.out]; exact H_hb.out, fun j hj => H_no.out j _ hj⟩, hB1⟩
    · obtain rfl : n = k := by omega
      go_wp2_with fail
      go_returns
      refine ⟨_, rfl, .inl ⟨rfl, fun x hx => ?_⟩, hB⟩
      obtain ⟨j, hj, rfl⟩ := List.mem_iff_getElem.1 hx
      exact H_no.out j hj (by rw [H_hS.out.1]; exact hj)
theorem zIntP (w : World) : (zeroValue 3).run Tryz.prog w = .ok (.int .i64 0) w := by kernel_rfl
set_option maxHeartbeats 2000000 in
theorem dlf_gen (q : Nat → Bool) (B1 B2 base : Nat) (v : Value) (L : List Nat) (w : World) (hown : OwnR EIn w base 3 v L) (hbase : base ≤ w.heap.size)
    (hp : ∀ W, Below base w W → ∀ x ∈ L, Calls Tryz.prog 83 #[.int .i64 (x : Int), .pointer (some ⟨B1, 0, none⟩), .pointer (some ⟨B2, 0, none⟩)] W fun en w' => en = .returned (.bool (q x)) ∧ Below W.heap.size W w') :
    Calls Tryz.prog 82 #[v, .func (.func 83) #[] #[.pointer (some ⟨B1, 0, none⟩), .pointer (some ⟨B2, 0, none⟩)]] w fun en w' => ∃ v', en = .returned v' ∧ OwnR EIn w' base 3 v' (L.filter fun x => !q x) ∧ Below base w w' := by
  obtain ⟨o, c, rfl⟩ := ow_form hown
  have hS := sla_of hown
  obtain ⟨FL, hFL⟩ : ∃ u, (L.filter fun x => !q x) = u := ⟨_, rfl⟩
  rw [hFL]
  have cI := ixf_gen q B1 B2 o L.length c L w hS (fun W hb x hx => hp W (hb.mono hbase) x hx)
  have H_cI := Lib.hid cI
  clear cI
  have H_hS := Lib.hid hS
  clear hS
  have H_hp := Lib.hid hp
  clear hp
  have H_hown := Lib.hid hown
  clear hown
  have H_hFL := Lib.hid hFL
  clear hFL
  go_enter Tryz.func82, Tryz.ntmps82
  go_wp2_with fail
  refine (H_cI.out).mono ?_
  rintro _ w1 ⟨r, rfl, hr, hb1⟩
  have hB1 : Below base w w1 := hb1.mono hbase
  have hown1 := H_hown.out.keep hb1
  clear hb1
  rcases hr with ⟨rfl, hall⟩ | ⟨k0, rfl, hk0, hk1, hk2⟩
  · have hfl : FL = L := by rw [← H_hFL.out]; exact List.filter_eq_self.2 fun x hx => by rw [hall x hx]; rfl
    have H_hown1 := Lib.hid hown1
    clear hown1
    have H_hall := Lib.hid hall
    clear hall
    have H_hfl := Lib.hid hfl
    clear hfl
    go_wp2_with fail
    go_returns
    exact ⟨_, rfl, by rw [H_hfl.out]; exact H_hown1.out, hB1⟩
  · rcases hown1.form with ⟨h, h'⟩ | ⟨g, cap, h, _⟩
    · rw [h'] at hk0; simp at hk0
    · injection h with h1 _ h2
      subst h1 h2
      obtain ⟨hC, hbg, hlc, hcm⟩ := RowC.of_own hown1
      obtain ⟨D, hD⟩ : ∃ u, L.toArray = u := ⟨_, rfl⟩
      have hDs : D.size = L.length := by rw [← hD]; simp
      have hDL : D.toList = L := by rw [← hD]
      have hDg : ∀ j (hj : j < L.length), D[j]! = L[j] := fun j hj => by rw [← hD, getElem!_pos L.toArray j (by simpa using hj)]; simp
      rw [hD] at hC
      obtain ⟨kp, hkp⟩ : ∃ kp : Nat → Bool, kp = fun j => !q D[j]! := ⟨_, rfl⟩
      have hfil : FL = keptUpTo kp D D.size := by rw [← H_hFL.out, hkp, ← hDL]; exact (keptUpTo_filter (fun x => !q x) D).symm
      have hI0 : KeptInv kp D (k0 + 1) k0 D := KeptInv.start (fun j hj => by rw [hkp]; show (!q D[j]!) = true; rw [hDg j (by omega), hk2 j hj]; rfl) (by rw [hkp]; show (!q D[k0]!) = false; rw [hDg k0 hk0, hk1]; rfl)
      obtain ⟨N, hN⟩ : ∃ u, L.length = u := ⟨_, rfl⟩
      rw [hN] at hDs hk0 hC hlc ⊢
      have hNm : N ≤ 9223372036854775807 := by unfold maxLen at hcm; omega
      have hne : ((k0 : Int) == -1) = false := beq_eq_false_iff_ne.2 (by omega)
      have hpx : ∀ W, Below base w W → ∀ j, j < N → Calls Tryz.prog 83 #[.int .i64 (D[j]! : Int), .pointer (some ⟨B1, 0, none⟩), .pointer (some ⟨B2, 0, none⟩)] W fun en w' => en = .returned (.bool (q D[j]!)) ∧ Below W.heap.size W w' := fun W hb j hj => by
        rw [← hN] at hj
        rw [hDg j hj]; exact H_hp.out W hb _ (List.getElem_mem hj)
      have hkq : ∀ j, kp j = !q D[j]! := fun j => by rw [hkp]
      clear H_hp H_hS H_hown hown1 hk1 hk2 hD hDL hDg hkp
      have H_hC := Lib.hid hC
      clear hC
      have H_hfil := Lib.hid hfil
      clear hfil
      have H_hI0 := Lib.hid hI0
      clear hI0
      have H_hpx := Lib.hid hpx
      clear hpx
      have H_hN := Lib.hid hN
      clear hN
      have H_hDs := Lib.hid hDs
      clear hDs
      have H_hkq := Lib.hid hkq
      clear hkq
      go_wp2_with fail
      go_loopw [5, 6, 7] (fun t5 t6 _ wr => ∃ (i j : Nat) (dk : Array Nat), t5 = .int .i64 i ∧ t6 = .int .i64 j ∧ i < j ∧ j ≤ N ∧ RowKit.Hid (KeptInv kp D j i dk) ∧ RowKit.Hid (RowC wr g 3 c N (fun j => .int .i64 (dk[j]! : Int))) ∧ Below base w wr) (fun _ t6 _ _ => N - (intOf t6).toNat)
      case atStart => exact ⟨k0, k0 + 1, D, rfl, by go_num, by omega, by omega, H_hI0, H_hC, hB1⟩
      case round =>
        obtain ⟨i, j, dk, rfl, rfl, hij, hjN, H_I, H_C, hB⟩ := hrel
        by_cases hlt : j < N
        · have hltz : (j : Int) < (N : Int) := by omega
          have hds := H_I.out.size
          have cj : wr.cell? ⟨g, j, none⟩ = some (.int .i64 (D[j]! : Int)) := by
            have h := H_C.out.cell j hlt
            rw [H_I.out.high j (by omega)] at h; exact h
          have ci := H_C.out.cell i (by omega)
          have fi := H_C.out.free i
          have cP := H_hpx.out wr hB j hlt
          have gj : IntKind.i64.wrap ((j : Int) + 1) = ((j + 1 : Nat) : Int) := IntWalk.i64_in _ (by omega)
          have gi : IntKind.i64.wrap ((i : Int) + 1) = ((i + 1 : Nat) : Int) := IntWalk.i64_in _ (by omega)
          obtain ⟨u, hu⟩ : ∃ u, D[j]! = u := ⟨_, rfl⟩
          rw [hu] at cj cP
          obtain ⟨old, hold⟩ : ∃ u, dk[i]! = u := ⟨_, rfl⟩
          rw [hold] at ci
          obtain ⟨b, hb⟩ : ∃ b, q u = b := ⟨_, rfl⟩
          rw [hb] at cP
          have H_cP := Lib.hid cP
          clear cP
          have H_hu := Lib.hid hu
          clear hu
          have H_hb := Lib.hid hb
          clear hb
          have H_hds := Lib.hid hds
          clear hds
          have H_hold := Lib.hid hold
          clear hold
          go_wp2_with fail
          refine (H_cP.out).mono ?_
          rintro _ w2 ⟨rfl, hb2⟩
          have hB2 : Below base w w2 := hB.trans (hb2.mono (Nat.le_trans hbase hB.size))
          have hC2 := H_C.out.keep hb2
          have ci2 := hC2.cell i (by omega)
          rw [H_hold.out] at ci2
          have fi2 := hC2.free i
          clear hb2 cj ci fi
          cases b with
          | true =>
            have hn := H_I.out.skip (by rw [H_hkq.out, H_hu.out, H_hb.out]; rfl)
            have H_hn := Lib.hid hn
            clear hn
            have H_hC2 := Lib.hid hC2
            clear hC2
            go_wp2_with fail
            go_roundw
            case rel => exact ⟨i, j + 1, dk, rfl, by go_num, by omega, by omega, H_hn, H_hC2, hB2⟩
            case measure => simp [intOf]; omega
          | false =>
            have hn := H_I.out.keep (by rw [H_hDs.out]; exact hlt) (by rw [H_hkq.out, H_hu.out, H_hb.out]; rfl)
            rw [H_hu.out] at hn
            have hC3 := (hC2.set (i := i) (by omega) (.int .i64 (u : Int))).congr (f' := fun k => .int .i64 ((dk.setIfInBounds i u)[k]! : Int)) (fun k hk => by
              by_cases e : k = i
              · subst e; rw [if_pos rfl, Go.Sort.getElem!_set_same dk k u (by rw [H_hds.out, H_hDs.out]; exact hk)]
              · rw [if_neg e, Go.Sort.getElem!_set_other dk i k u e])
            have H_hn := Lib.hid hn
            clear hn
            have H_hC2 := Lib.hid hC2
            clear hC2
            have H_hC3 := Lib.hid hC3
            clear hC3
            go_wp2_with fail
            go_roundw
            case rel => exact ⟨i + 1, j + 1, _, by go_num, by go_num, by omega, by omega, H_hn, H_hC3, hB2.setCell (p := ⟨g, i, none⟩) hbg _⟩
            case measure => simp [intOf]; omega
        · obtain rfl : j = N := by omega
          have hltz : ¬ (j : Int) < (j : Int) := by omega
          have hcl : ∀ ty, (Builtin.clear_ #[60] ty #[.slice (some ⟨g, i, none⟩) (j - i) (c - i)]).run Tryz.prog wr = .ok (.tuple #[]) (wr.setCells g i (List.replicate (j - i) (.int .i64 0))) :=
            fun ty => Lib.run_clear_slice wr _ _ ty _ Tryz.underlying60 zIntP rfl rfl g i _ _ (by omega) (fun t ht => by rw [H_C.out.cell (i + t) (by omega)]; rfl) (fun t ht => H_C.out.free (i + t))
          have hlen := H_I.out.len
          have hlow := H_I.out.low
          rw [← H_hDs.out] at hlen hlow
          have hfin : OwnR EIn (wr.setCells g i (List.replicate (j - i) (.int .i64 0))) base 3 (.slice (some ⟨g, 0, none⟩) i c) (keptUpTo kp D D.size) := by
            have h := RowC.own (base := base) (l := keptUpTo kp D D.size) (H_C.out.cut (by omega : i ≤ j) (List.replicate (j - i) (.int .i64 0))) hbg (by rw [hlen]; exact Nat.le_refl _) (by omega) hcm (fun k hk => by
              have h1 := hlow k (by omega)
              rw [List.getElem?_eq_getElem hk] at h1
              injection h1 with h1
              rw [h1])
            rw [hlen] at h; exact h
          have hBf : Below base w (wr.setCells g i (List.replicate (j - i) (.int .i64 0))) := setCells_below hbg _ _ _ hB
          have H_hfin := Lib.hid hfin
          clear hfin
          have H_hlen := Lib.hid hlen
          clear hlen
          have H_hlow := Lib.hid hlow
          clear hlow
          go_wp2_with fail
          go_returns
          exact ⟨_, rfl, by rw [H_hfil.out]; exact H_hfin.out, hBf⟩
set_option maxHeartbeats 1000000 in
/-- All: the elements that fit, in order. -/
theorem pall_any (m : Int) (bd next : Nat) (F : Nat → Prop) (E : Els) (d : Nat → Nat) (TS TW : TypeId) (base : Nat) (o : Option Addr) (q c : Nat) (S : ByteArray) (l : List St) (w : World) (hD : DokG Tryz.prog TT w bd F E next d) (hat : ∀ n e, elAt E n = some e → ∀ a ∈ e.attrs, a.2.size ≤ 100000) (hm : w.cell? ⟨12, 0, none⟩ = some (.int .i64 m))
    (hv : SelOk TS TW base w (.slice o q c) l) (hl : l ≠ []) (hn : ∀ n e, elAt E n = some e → e.name ≠ ⟨#[]⟩) :
    Calls Tryz.prog 33 #[.pointer (some ⟨bd, 0, none⟩), .agg #[.slice o q c, .string S]] w (RetR EIn 3 ((below E 10 0).filter (fitsL E l)) w) := by
  have cA := fun (W : World) (hb : Below w.heap.size w W) => all_any bd next F E d W (hD.keep hb)
  have hel : ∀ x ∈ below E 10 0, ∃ e, elAt E x = some e := fun x hx => (hD.good.all_mem x).2 hx
  have cP := fun (x : Nat) (hx : x ∈ below E 10 0) (B1 B2 : Nat) (W : World) (hb : Below w.heap.size w W) h1 h2 h3 => (hel x hx).elim fun e he =>
    allc_any m bd next F E d TS TW base B1 B2 o q c S l x e W (hD.keep hb) hat (gkeep hb hm rfl) (hv.keep hb) hl he (hn x e he) h1 h2 h3
  have H_cA := Lib.hid cA
  clear cA
  have H_cP := Lib.hid cP
  clear cP
  have H_hel := Lib.hid hel
  clear hel
  have H_hD := Lib.hid hD
  clear hD
  have H_hat := Lib.hid hat
  clear hat
  have H_hm := Lib.hid hm
  clear hm
  have H_hv := Lib.hid hv
  clear hv
  have H_hl := Lib.hid hl
  clear hl
  have H_hn := Lib.hid hn
  clear hn
  go_enter Tryz.func33, Tryz.ntmps33
  go_wp2_with fail
  refine (H_cA.out _ (by repeat' (first | (with_reducible first | exact bwR _ _ | assumption | refine bdn ?_ | refine bwA ?_ ?_ _ | refine bwD ?_ | refine bwS ?_ ?_ _) | omega | (simp <;> omega)))).mono ?_
  rintro _ w1 ⟨v, rfl, hv1, hb1⟩
  have hB1 : Below w.heap.size w w1 := below_via (by repeat' (first | (with_reducible first | exact bwR _ _ | assumption | refine bdn ?_ | refine bwA ?_ ?_ _ | refine bwD ?_ | refine bwS ?_ ?_ _) | omega | (simp <;> omega))) hb1
  have z1 : w.heap.size + 1 < w1.heap.size := Nat.lt_of_lt_of_le (by simp) hb1.size
  have b1 : w1.cell? ⟨w.heap.size + 1, 0, none⟩ = some (.slice o q c) := by
    have h := World.cell?_alloc_new (w.alloc (.cells #[.pointer (some ⟨bd, 0, none⟩)] 30)) #[.slice o q c, .string S] 70 0
    rw [World.size_alloc] at h
    exact gkeep hb1 h (by simp)
  have b2 : w1.cell? ⟨w.heap.size + 1, 1, none⟩ = some (.string S) := by
    have h := World.cell?_alloc_new (w.alloc (.cells #[.pointer (some ⟨bd, 0, none⟩)] 30)) #[.slice o q c, .string S] 70 1
    rw [World.size_alloc] at h
    exact gkeep hb1 h (by simp)
  have b3 : w1.cell? ⟨w.heap.size, 0, none⟩ = some (.pointer (some ⟨bd, 0, none⟩)) := by
    refine gkeep hb1 ?_ (by simp)
    exact (((Below.refl (w.heap.size + 1) (w.alloc (.cells #[.pointer (some ⟨bd, 0, none⟩)] 30))).alloc (by simp) _).cell (p := ⟨w.heap.size, 0, none⟩) (by simp)).trans (World.cell?_alloc_new _ _ _ _)
  have hv2 : OwnR EIn w1 (w.heap.size + 2) 3 v (below E 10 0) := hv1.base (by simp)
  obtain ⟨o', c', rfl⟩ := ow_form hv2
  obtain ⟨L, hL⟩ : ∃ u, below E 10 0 = u := ⟨_, rfl⟩
  have cP' := H_cP.out
  rw [hL] at hv2 cP' ⊢
  have cD := dlf_gen (fun n => !fitsL E l n) (w.heap.size + 1) w.heap.size (w.heap.size + 2) _ L w1 hv2 (by omega) (fun W hb x hx => cP' x hx _ _ W (hB1.trans (hb.mono (by omega))) ((hb.cell (p := ⟨w.heap.size + 1, 0, none⟩) (by simp)).trans b1) ((hb.cell (p := ⟨w.heap.size + 1, 1, none⟩) (by simp)).trans b2) ((hb.cell (p := ⟨w.heap.size, 0, none⟩) (by simp)).trans b3))
  rw [show (L.filter fun x => !(fun n => !fitsL E l n) x) = L.filter (fitsL E l) from List.filter_congr fun x _ => by simp] at cD
  clear hb1 hv1 cP' b1 b2 b3 H_cP H_cA
  have H_cD := Lib.hid cD
  clear cD
  have H_hv2 := Lib.hid hv2
  clear hv2
  have H_hL := Lib.hid hL
  clear hL
  go_wp2_with fail
  refine (H_cD.out).mono ?_
  rintro _ w2 ⟨v2, rfl, ho2, hb2⟩
  have hB2 : Below w.heap.size w w2 := hB1.trans (hb2.mono (by omega))
  have ho3 := ho2.base (show w.heap.size ≤ w.heap.size + 2 by omega)
  clear hb2 ho2
  have H_ho3 := Lib.hid ho3
  clear ho3
  go_wp2_with fail
  go_returns
  exact ⟨_, rfl, by rw [H_hL.out]; exact H_ho3.out, hB2⟩
end Go.Proofs.YtenegeddcbccdaaGreatDoor

/-
  Walks over package pick: Fits at a number that is not there, or at no document; All of no document.
-/
namespace Go.Proofs.YtenegeddcbccdaaGreatDoor
open Go.RowKit Go.WideMaps Go.Maps Lead Lead.Dc Lead.Pk
set_option maxHeartbeats 1000000 in
theorem selfits_none (bd next : Nat) (F : Nat → Prop) (E : Els) (d : Nat → Nat) (v : Value) (S : ByteArray) (z : Int) (w : World) (hD : DokG Tryz.prog TT w bd F E next d) (hz : I64 z) (h0 : nameZ E z = ⟨#[]⟩) :
    Calls Tryz.prog 31 #[.agg #[v, .string S], .pointer (some ⟨bd, 0, none⟩), .int .i64 z] w fun en w' => en = .returned (.bool false) ∧ Below w.heap.size w w' := by
  have cN := fun (W : World) (hb : Below w.heap.size w W) => name_any bd next z F E d W (hD.keep hb) hz
  rw [h0] at cN
  have H_cN := Lib.hid cN
  clear cN
  have H_hD := Lib.hid hD
  clear hD
  go_enter Tryz.func31, Tryz.ntmps31
  go_wp2_with fail
  refine (H_cN.out _ (by repeat' (first | (with_reducible first | exact bwR _ _ | assumption | refine bdn ?_ | refine bwA ?_ ?_ _ | refine bwD ?_ | refine bwS ?_ ?_ _) | omega | (simp <;> omega)))).mono ?_
  rintro _ w1 ⟨rfl, hb1⟩
  have hB1 : Below w.heap.size w w1 := below_via (by repeat' (first | (with_reducible first | exact bwR _ _ | assumption | refine bdn ?_ | refine bwA ?_ ?_ _ | refine bwD ?_ | refine bwS ?_ ?_ _) | omega | (simp <;> omega))) hb1
  clear hb1
  go_wp2_with fail
  go_returns
  exact ⟨rfl, hB1⟩
set_option maxHeartbeats 1000000 in
theorem fits_nil (v : Value) (S : ByteArray) (z : Int) (w : World) :
    Calls Tryz.prog 31 #[.agg #[v, .string S], .pointer none, .int .i64 z] w fun en w' => en = .returned (.bool false) ∧ Below w.heap.size w w' := by
  go_enter Tryz.func31, Tryz.ntmps31
  go_wp2_with fail
  go_returns
  exact ⟨rfl, by repeat' (first | (with_reducible first | exact bwR _ _ | assumption | refine bdn ?_ | refine bwA ?_ ?_ _ | refine bwD ?_ | refine bwS ?_ ?_ _) | omega | (simp <;> omega))⟩
set_option maxHeartbeats 1000000 in
theorem all_nil (v : Value) (S : ByteArray) (w : World) :
    Calls Tryz.prog 33 #[.pointer none, .agg #[v, .string S]] w fun en w' => en = .returned (.slice none 0 0) ∧ Below w.heap.size w w' := by
  go_enter Tryz.func33, Tryz.ntmps33
  go_wp2_with fail
  go_returns
  exact ⟨rfl, by repeat' (first | (with_reducible first | exact bwR _ _ | assumption | refine bdn ?_ | refine bwA ?_ ?_ _ | refine bwD ?_ | refine bwS ?_ ?_ _) | omega | (simp <;> omega))⟩
end Go.Proofs.YtenegeddcbccdaaGreatDoor
