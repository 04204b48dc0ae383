/-
  Plain: a sheet that goes on by two rules of one selector (the law StyleNone); what rules tell; an element's style.
-/
import Derived.Test.YtnpieocpniakpaaDoorSy1
import Derived.Test.YtnpieocpniakpaaDoorPke
namespace Lead.Sy
open Go Lead Lead.Dc Lead.Pk
theorem cut_spec {s sep : By} (h : (Lib.cut s sep).2.2 = true) : ∃ i : Nat, Lib.index s sep = i ∧ (Lib.cut s sep).1 = s.take i ∧ (Lib.cut s sep).2.1 = s.drop (i + sep.length) ∧ s.drop i = sep ++ s.drop (i + sep.length) ∧ Lib.NoOcc s sep i := by
  rcases Lib.index_spec s sep with ⟨h1, _⟩ | ⟨i, h1, h2, h3, h4⟩
  · unfold Lib.cut at h
    rw [h1, if_neg (by decide)] at h
    cases h
  · have e : Lib.cut s sep = (s.take i, s.drop (i + sep.length), true) := by
      unfold Lib.cut
      rw [h1, if_pos (by omega)]
      simp
    refine ⟨i, h1, by rw [e], by rw [e], ?_, h4⟩
    unfold Lib.occAt at h3
    obtain ⟨t, ht⟩ := List.isPrefixOf_iff_prefix.1 h3
    rw [← List.drop_drop, ← ht]
    simp
theorem suf_spec {s p : By} (h : Lib.hasSuffix s p = true) : s = Lib.trimSuffix s p ++ p := by
  have h' := h
  unfold Lib.hasSuffix at h'
  obtain ⟨t, ht⟩ := List.isSuffixOf_iff_suffix.1 h'
  unfold Lib.trimSuffix
  rw [if_pos h, ← ht]
  simp
theorem known_32 {s : By} (h : (firstP s).isSome = true) : s.count 32 = 0 := by
  unfold firstP at h
  split at h
  · next e => rw [e]; decide
  · split at h
    · next e => rw [e]; decide
    · split at h
      · next e => rw [e]; decide
      · split at h
        · next e => rw [e]; decide
        · cases h
theorem wdL_32 {s : By} (h : wdL s = true) : s.count 32 = 0 := by
  unfold wdL at h
  rw [Bool.and_eq_true] at h
  have ha := List.all_eq_true.1 h.2
  exact List.count_eq_zero.2 fun hm => absurd (ha _ hm) (by decide)
def midL : By := [32, 123, 32, 102, 105, 108, 108, 58, 32]
def finL : By := [32, 125]
/-- A line whose end is ` { fill: a }`. -/
theorem line_form {W a : By} {u : Ru} (h : lineP (W ++ midL ++ a ++ finL) = some u) : readP W = some u.st ∧ u.nm = nFill := by
  obtain ⟨hok, hr, _, hn, _⟩ := lineP_some h
  unfold lineOk at hok
  rw [Bool.and_eq_true, Bool.and_eq_true, Bool.and_eq_true, Bool.and_eq_true] at hok
  obtain ⟨⟨⟨⟨h1, h2⟩, h3⟩, h4⟩, h5⟩ := hok
  obtain ⟨i, hi, e1, e2, e3, e4⟩ := cut_spec h1
  obtain ⟨j, hj, f1, f2, f3, f4⟩ := cut_spec h3
  have hsf := suf_spec h2
  have hbe : beP (W ++ midL ++ a ++ finL) = (W ++ midL ++ a ++ finL).drop (i + 3) := e2
  have hc4 := known_32 h4
  have hc5 := wdL_32 h5
  have hre : reP (W ++ midL ++ a ++ finL) = naP (W ++ midL ++ a ++ finL) ++ (sCol ++ vaP (W ++ midL ++ a ++ finL)) := by
    have h0 := (List.take_append_drop j (reP (W ++ midL ++ a ++ finL))).symm
    rw [f3] at h0
    show _ = (Lib.cut (reP (W ++ midL ++ a ++ finL)) sCol).1 ++ (sCol ++ (Lib.cut (reP (W ++ midL ++ a ++ finL)) sCol).2.1)
    rw [f1, f2]; exact h0
  have hcnt : (beP (W ++ midL ++ a ++ finL)).count 32 = 2 := by
    have h0 : beP (W ++ midL ++ a ++ finL) = reP (W ++ midL ++ a ++ finL) ++ sEnd := hsf
    rw [h0, hre, List.count_append, List.count_append, List.count_append, hc4, hc5]; decide
  -- the place is W's end
  have hle : i ≤ W.length := by
    rcases Nat.lt_or_ge W.length i with hlt | hge
    · have := e4 W.length hlt
      unfold Lib.occAt at this
      rw [List.append_assoc, List.append_assoc, List.drop_append_of_le_length (Nat.le_refl _), List.drop_length] at this
      exact absurd this (by simp [midL, sOpen, List.isPrefixOf])
    · exact hge
  have hiW : i = W.length := by
    rcases Nat.lt_or_eq_of_le hle with hlt | he
    · exfalso
      have hsplit : W ++ midL ++ a ++ finL = (W ++ [32]) ++ ([123, 32, 102, 105, 108, 108, 58, 32] ++ a ++ finL) := by simp [midL]
      by_cases h1' : i + 1 = W.length
      · have h0 : (W ++ midL ++ a ++ finL)[i + 1]? = some 123 := by
          have := congrArg (fun l => l[1]?) e3
          simpa [List.getElem?_drop, sOpen] using this
        rw [hsplit, h1', List.append_assoc, List.getElem?_append_right (Nat.le_refl _), Nat.sub_self] at h0
        simp at h0
      · rw [hbe, hsplit, List.drop_append_of_le_length (by rw [List.length_append]; simp; omega), List.count_append] at hcnt
        have : 3 ≤ ([123, 32, 102, 105, 108, 108, 58, 32] ++ a ++ finL : By).count 32 := by
          rw [List.count_append, List.count_append]
          have h8 : ([123, 32, 102, 105, 108, 108, 58, 32] : By).count 32 = 2 := by decide
          have h9 : finL.count 32 = 1 := by decide
          omega
        omega
    · exact he
  have hhd : hdP (W ++ midL ++ a ++ finL) = W := by
    show (Lib.cut (W ++ midL ++ a ++ finL) sOpen).1 = W
    rw [e1, hiW, List.append_assoc, List.append_assoc, List.take_append_of_le_length (Nat.le_refl _), List.take_length]
  rw [hhd] at hr
  refine ⟨hr, ?_⟩
  -- the name
  have hbe2 : beP (W ++ midL ++ a ++ finL) = [102, 105, 108, 108, 58, 32] ++ a ++ finL := by
    rw [hbe, hiW, List.append_assoc, List.append_assoc, ← List.drop_drop, List.drop_append_of_le_length (Nat.le_refl _), List.drop_length]; simp [midL]
  have hre2 : reP (W ++ midL ++ a ++ finL) = [102, 105, 108, 108, 58, 32] ++ a := by
    have h0 : beP (W ++ midL ++ a ++ finL) = reP (W ++ midL ++ a ++ finL) ++ sEnd := hsf
    rw [hbe2] at h0
    exact (List.append_cancel_right (show [102, 105, 108, 108, 58, 32] ++ a ++ sEnd = _ from h0)).symm
  rw [hn]
  show (Lib.cut (reP (W ++ midL ++ a ++ finL)) sCol).1 = nFill
  have hix : Lib.index (reP (W ++ midL ++ a ++ finL)) sCol = (4 : Nat) := by
    rw [hre2]
    refine Lib.index_first (by simp) (by simp [Lib.occAt, sCol, List.isPrefixOf]) (fun k hk => ?_)
    match k, hk with
    | 0, _ => simp [Lib.occAt, sCol, List.isPrefixOf]
    | 1, _ => simp [Lib.occAt, sCol, List.isPrefixOf]
    | 2, _ => simp [Lib.occAt, sCol, List.isPrefixOf]
    | 3, _ => simp [Lib.occAt, sCol, List.isPrefixOf]
  rw [hix] at hj
  obtain rfl : j = 4 := by omega
  rw [f1, hre2]; rfl
/-! ### lines -/
theorem cutF_join {y : UInt8} {s : By} (h : (cutF y s).2 = []) (m : By) : cutF y (s ++ m) = ((cutF y s).1 ++ (cutF y m).1, (cutF y m).2) := by
  refine snoc_ind (P := fun m => cutF y (s ++ m) = ((cutF y s).1 ++ (cutF y m).1, (cutF y m).2)) ?_ (fun m c ih => ?_) m
  · rw [List.append_nil]
    show cutF y s = ((cutF y s).1 ++ [], [])
    rw [List.append_nil, ← h]
  · rw [← List.append_assoc, cutF_snoc, cutF_snoc, ih]
    unfold cutStep
    split
    · rw [List.append_assoc]
    · rfl
theorem cutF_count (y : UInt8) (m : By) : (cutF y m).1.length = m.count y := by
  refine snoc_ind (P := fun m => (cutF y m).1.length = m.count y) rfl (fun m c ih => ?_) m
  rw [cutF_snoc, List.count_append, ← ih]
  unfold cutStep
  split
  · next e => rw [e]; simp
  · next e => simp [List.count_cons, e]
theorem cutF_line {y : UInt8} {l : By} (h : y ∉ l) : cutF y (l ++ [y]) = ([l], []) := by
  have h0 := cutF_app y [] l h
  rw [List.nil_append] at h0
  rw [cutF_snoc, h0]
  unfold cutStep
  rw [if_pos rfl]; rfl
theorem shT_app {l m : List By} {us : List Ru} (h : shT l l.length = some us) : shT (l ++ m) l.length = some us := by
  rw [← h]
  exact shT_congr _ fun i hi => by simp [List.getD, List.getElem?_append_left hi]
def lnE : By := [32, 125, 10]
/-- A sheet with one rule more, and with two of one selector. -/
theorem more_rules {s W a b : By} (h1 : (shC s).1 = 0) (h2 : (shC (s ++ W ++ midL ++ a ++ lnE ++ W ++ midL ++ b ++ lnE)).1 = 0) (h3 : (shC (s ++ W ++ midL ++ b ++ lnE)).1 = 0)
    (hl : (shU (s ++ W ++ midL ++ a ++ lnE ++ W ++ midL ++ b ++ lnE)).length = (shU s).length + 2) :
    ∃ r1 r2, shU (s ++ W ++ midL ++ a ++ lnE ++ W ++ midL ++ b ++ lnE) = shU s ++ [r1, r2] ∧ shU (s ++ W ++ midL ++ b ++ lnE) = shU s ++ [r2] ∧ r1.st = r2.st ∧ r1.nm = nFill ∧ r2.nm = nFill := by
  obtain ⟨a1, a2, a3, _⟩ := shC_ok h1
  obtain ⟨b1, b2, b3, _⟩ := shC_ok h2
  obtain ⟨c1, c2, c3, _⟩ := shC_ok h3
  have ex : s ++ W ++ midL ++ a ++ lnE ++ W ++ midL ++ b ++ lnE = s ++ ((W ++ midL ++ a ++ finL) ++ [10] ++ ((W ++ midL ++ b ++ finL) ++ [10])) := by simp [lnE, finL]
  have ey : s ++ W ++ midL ++ b ++ lnE = s ++ ((W ++ midL ++ b ++ finL) ++ [10]) := by simp [lnE, finL]
  rw [ex] at b2 b3 hl ⊢
  rw [ey] at c2 c3 ⊢
  have hcl := cutF_join a1 ((W ++ midL ++ a ++ finL) ++ [10] ++ ((W ++ midL ++ b ++ finL) ++ [10]))
  have hcnt := cutF_count 10 ((W ++ midL ++ a ++ finL) ++ [10] ++ ((W ++ midL ++ b ++ finL) ++ [10]))
  rw [hcl, List.length_append, hcnt] at b3
  have hm0 : midL.count 10 = 0 := by decide
  have hf0 : finL.count 10 = 0 := by decide
  have h10 : ([10] : By).count 10 = 1 := by decide
  simp only [List.count_append, hm0, hf0, h10] at b3
  have w0 : (10 : UInt8) ∉ W ++ midL ++ a ++ finL := List.count_eq_zero.1 (by simp only [List.count_append, hm0, hf0]; omega)
  have w1 : (10 : UInt8) ∉ W ++ midL ++ b ++ finL := List.count_eq_zero.1 (by simp only [List.count_append, hm0, hf0]; omega)
  have k0 := cutF_line w0
  have k1 := cutF_line w1
  have k2 := cutF_join (y := 10) (s := (W ++ midL ++ a ++ finL) ++ [10]) (by rw [k0]) ((W ++ midL ++ b ++ finL) ++ [10])
  rw [k0, k1] at k2
  rw [k2] at hcl
  have hcy := cutF_join a1 ((W ++ midL ++ b ++ finL) ++ [10])
  rw [k1] at hcy
  rw [hcl] at b2
  rw [hcy] at c2
  dsimp only at b2 c2
  obtain ⟨Ls, hLs⟩ : ∃ u, (cutF 10 s).1 = u := ⟨_, rfl⟩
  rw [hLs] at a2 b2 c2
  have p0 := shT_app (m := [W ++ midL ++ a ++ finL] ++ [W ++ midL ++ b ++ finL]) a2
  have p1 := shT_app (m := [W ++ midL ++ b ++ finL]) a2
  have g0 : (Ls ++ ([W ++ midL ++ a ++ finL] ++ [W ++ midL ++ b ++ finL])).getD Ls.length [] = W ++ midL ++ a ++ finL := by simp [List.getD]
  have g1 : (Ls ++ ([W ++ midL ++ a ++ finL] ++ [W ++ midL ++ b ++ finL])).getD (Ls.length + 1) [] = W ++ midL ++ b ++ finL := by simp [List.getD, List.getElem?_append_right]
  have g2 : (Ls ++ [W ++ midL ++ b ++ finL]).getD Ls.length [] = W ++ midL ++ b ++ finL := by simp [List.getD]
  rw [show (Ls ++ ([W ++ midL ++ a ++ finL] ++ [W ++ midL ++ b ++ finL])).length = Ls.length + 1 + 1 by simp, shT, shT, p0] at b2
  rw [show (Ls ++ [W ++ midL ++ b ++ finL]).length = Ls.length + 1 by simp, shT, p1] at c2
  dsimp only at b2 c2
  rw [g0] at b2
  rw [g2] at c2
  cases q1 : lineP (W ++ midL ++ a ++ finL) with
  | none => rw [q1] at b2; cases b2
  | some r1 =>
    rw [q1] at b2
    dsimp only at b2
    rw [g1] at b2
    cases q2 : lineP (W ++ midL ++ b ++ finL) with
    | none => rw [q2] at b2; cases b2
    | some r2 =>
      rw [q2] at b2 c2
      injection b2 with b2
      injection c2 with c2
      have f1 := line_form q1
      have f2 := line_form q2
      refine ⟨r1, r2, ?_, c2.symm, ?_, f1.2, f2.2⟩
      · rw [← b2, List.append_assoc]; rfl
      · have := f1.1.symm.trans f2.1
        injection this
/-! ### what rules tell -/
def rulS (E : Els) (n : Nat) (nm : By) (st : By × Int) (u : Ru) : By × Int :=
  if u.nm = nm ∧ fitsL E u.st n = true then (if st.2 ≤ (wtL u.st : Int) then (u.vl, (wtL u.st : Int)) else st) else st
def ruledP (E : Els) (us : List Ru) (n : Nat) (nm : By) : By × Int := us.foldl (rulS E n nm) ([], -1)
theorem ruledP_snoc (E : Els) (us : List Ru) (u : Ru) (n : Nat) (nm : By) : ruledP E (us ++ [u]) n nm = rulS E n nm (ruledP E us n nm) u := by unfold ruledP; rw [List.foldl_append]; rfl
theorem rulS_other {E : Els} {n : Nat} {nm : By} {st : By × Int} {u : Ru} (h : u.nm ≠ nm) : rulS E n nm st u = st := by unfold rulS; rw [if_neg (fun e => h e.1)]
theorem rulS_not {E : Els} {n : Nat} {nm : By} {st : By × Int} {u : Ru} (h : fitsL E u.st n = false) : rulS E n nm st u = st := by unfold rulS; rw [if_neg (fun e => by rw [h] at e; exact absurd e.2 (by decide))]
theorem rulS_two {E : Els} {n : Nat} {nm : By} {st : By × Int} {u v : Ru} (h : u.st = v.st) (hn : u.nm = v.nm) : rulS E n nm (rulS E n nm st u) v = rulS E n nm st v := by
  unfold rulS
  rw [h, hn]
  split
  · by_cases h1 : st.2 ≤ (wtL v.st : Int)
    · rw [if_pos h1, if_pos h1, if_pos (Int.le_refl _)]
    · rw [if_neg h1, if_neg h1]
  · rfl
theorem ruledP_two (E : Els) (us : List Ru) {u v : Ru} (h : u.st = v.st) (hn : u.nm = v.nm) (n : Nat) (nm : By) : ruledP E (us ++ [u, v]) n nm = ruledP E (us ++ [v]) n nm := by
  rw [show us ++ [u, v] = us ++ [u] ++ [v] by simp, ruledP_snoc, ruledP_snoc, ruledP_snoc, rulS_two h hn]
theorem ruledP_other (E : Els) (us : List Ru) {u v : Ru} {nm : By} (hu : u.nm ≠ nm) (hv : v.nm ≠ nm) (n : Nat) : ruledP E (us ++ [u, v]) n nm = ruledP E us n nm := by
  rw [show us ++ [u, v] = us ++ [u] ++ [v] by simp, ruledP_snoc, ruledP_snoc, rulS_other hv, rulS_other hu]
theorem ruledP_not (E : Els) (us : List Ru) {u v : Ru} (nm : By) {n : Nat} (hu : fitsL E u.st n = false) (hv : fitsL E v.st n = false) : ruledP E (us ++ [u, v]) n nm = ruledP E us n nm := by
  rw [show us ++ [u, v] = us ++ [u] ++ [v] by simp, ruledP_snoc, ruledP_snoc, rulS_not hv, rulS_not hu]
/-- What an element's own attribute, or a rule, tells. -/
def tellP (E : Els) (us : List Ru) (n : Nat) (nm : By) : Option ByteArray :=
  match (elAt E n).bind (fun e => attrV (bs nm) e.attrs) with
  | some v => some v
  | none => if 0 ≤ (ruledP E us n nm).2 then some (bs (ruledP E us n nm).1) else none
def ofL (E : Els) (us : List Ru) (nm value : By) (heir : Bool) : List Nat → ByteArray
  | [] => bs value
  | p :: r => match tellP E us p nm with
    | some v => v
    | none => if heir = true then ofL E us nm value heir r else bs value
theorem tellP_congr {E : Els} {us vs : List Ru} {n : Nat} {nm : By} (h : ruledP E us n nm = ruledP E vs n nm) : tellP E us n nm = tellP E vs n nm := by unfold tellP; rw [h]
theorem ofL_congr {E : Els} {us vs : List Ru} {nm value : By} {heir : Bool} : ∀ {l : List Nat}, (∀ p ∈ l, ruledP E us p nm = ruledP E vs p nm) → ofL E us nm value heir l = ofL E vs nm value heir l
  | [], _ => rfl
  | p :: r, h => by
    unfold ofL
    rw [tellP_congr (h p List.mem_cons_self), ofL_congr (fun q hq => h q (List.mem_cons_of_mem _ hq))]
/-- An element's style. -/
def ofP (E : Els) (us : List Ru) (n : Nat) (nm : By) : ByteArray := match firstP nm with
  | none => bs []
  | some (v, h) => ofL E us nm v h (upZ E (n : Int))
theorem ofP_congr {E : Els} {us vs : List Ru} {nm : By} {n : Nat} (h : ∀ p ∈ upZ E (n : Int), ruledP E us p nm = ruledP E vs p nm) : ofP E us n nm = ofP E vs n nm := by
  unfold ofP
  cases firstP nm with
  | none => rfl
  | some x => exact ofL_congr h
end Lead.Sy
