/-
  Several texts as one: St6, St7, St8.
-/
import Derived.Test.YteaipondofbecaaGreatDoorSx
import Derived.Test.YteaipondofbecaaGreatDoorSy6
import Derived.Test.YteaipondofbecaaGreatDoorRc7
import Derived.Test.YteaipondofbecaaGreatDoorRp4
import Derived.Test.YteaipondofbecaaGreatDoorPfq
import Derived.Test.YteaipondofbecaaGreatDoorPy
/-
  Plain: rules that the reference has read; an element's style, by its parents.
-/
namespace Lead.Sy
open Go Go.RowKit Lead Lead.Dc Lead.Pk Lead.Rc
/-- Rules that are read, in memory. -/
structure RuM (W : World) (so : Option Addr) (sn sc : Nat) (xs : List RrX) : Prop where
  row : SlA ERr W so sn sc xs
  st : ∀ x ∈ xs, SlA ESr W x.so x.sn x.sc x.ss
  ws : ∀ x ∈ xs, ∀ y ∈ x.ss, SlA EWs W y.wo y.wl y.wc y.ws
theorem RuM.keep {W W' : World} {so : Option Addr} {sn sc : Nat} {xs : List RrX} (h : RuM W so sn sc xs) (hb : Below W.heap.size W W') : RuM W' so sn sc xs :=
  ⟨h.row.keep hb rfl, fun x hx => (h.st x hx).keep hb rfl, fun x hx y hy => (h.ws x hx y hy).keep hb rfl⟩
/-- Rules of right selectors. -/
def RuG (us : List Ru) : Prop := ∀ u ∈ us, u.st ≠ [] ∧ wtL u.st ≤ 100000 ∧ ∀ x ∈ u.st, ∀ q ∈ x.ws, isSg q.sign = true ∧ q.name ≠ []
theorem shT_g {l : List By} : ∀ {i : Nat} {us : List Ru}, shT l i = some us → RuG us
  | 0, us, h => by rw [shT] at h; cases h; exact fun u hu => by cases hu
  | i + 1, us, h => by
    rw [shT] at h
    cases hi : shT l i with
    | none => rw [hi] at h; cases h
    | some vs =>
      rw [hi] at h
      dsimp only at h
      have ih := shT_g hi
      cases hu : lineP (l.getD i []) with
      | none => rw [hu] at h; cases h
      | some u =>
        rw [hu] at h; cases h
        intro x hx
        rcases List.mem_append.1 hx with hx | hx
        · exact ih x hx
        · rw [List.mem_singleton.1 hx]
          have h2 := (lineP_some hu).2.1
          exact ⟨(readP_inv h2).1, readP_wt h2, readP_ok h2⟩
theorem shU_g {s : By} (h : (shC s).1 = 0) : RuG (shU s) := shT_g (shC_ok h).2.1
theorem fir_heir {nm v : By} {h : Bool} (hf : firstP nm = some (v, h)) : firV nm = v ∧ h = (decide (nm = nFill) || decide (nm = nRule)) := by
  refine ⟨by unfold firV; rw [hf], ?_⟩
  unfold firstP at hf
  by_cases h1 : nm = nFill
  · rw [if_pos h1] at hf; cases hf; rw [decide_eq_true h1]; rfl
  rw [if_neg h1] at hf
  rw [decide_eq_false h1]
  by_cases h2 : nm = nRule
  · rw [if_pos h2] at hf; cases hf; rw [decide_eq_true h2]; rfl
  rw [if_neg h2] at hf
  rw [decide_eq_false h2]
  by_cases h3 : nm = nShow
  · rw [if_pos h3] at hf; cases hf; rfl
  rw [if_neg h3] at hf
  by_cases h4 : nm = nLevel
  · rw [if_pos h4] at hf; cases hf; rfl
  rw [if_neg h4] at hf; cases hf
/-- What the loop of StyleOf holds as its answer. -/
def outB (val o : By) (b : Int) : By := if b < 0 then val else o
variable {E : Els} {next : Nat} {d : Nat → Nat} {us : List Ru} {n : Nat} {e : El} {nm val : By} {heir : Bool}
theorem rof_nat (he : elAt E n = some e) (hf : firstP nm = some (val, heir)) : ofZ E us (n : Int) nm = ofL E us nm val heir (upZ E (n : Int)) := by
  unfold ofZ ofP
  rw [atZ_nat, he, hf]; rfl
theorem rof_none {z : Int} (h : atZ E z = none) : ofZ E us z nm = bs [] := by unfold ofZ; rw [h]; rfl
theorem rof_noname {z : Int} (h : firstP nm = none) : ofZ E us z nm = bs [] := by
  unfold ofZ ofP
  rw [h]
  cases atZ E z <;> rfl
theorem rof_own (he : elAt E n = some e) (hf : firstP nm = some (val, heir)) {v : ByteArray} (hv : attrV (bs nm) e.attrs = some v) : ofZ E us (n : Int) nm = v := by
  rw [rof_nat he hf, upZ_nat, ofL_cons]
  unfold tellP
  rw [he]
  show (match (match attrV (bs nm) e.attrs with | some v => some v | none => _) with | some v => v | none => _) = v
  rw [hv]
theorem rof_tell (he : elAt E n = some e) (hf : firstP nm = some (val, heir)) (hv : attrV (bs nm) e.attrs = none) {o : By} {b : Int} (hr : ruledP E us n nm = (o, b)) (hb : 0 ≤ b) : ofZ E us (n : Int) nm = bs o := by
  rw [rof_nat he hf, upZ_nat, ofL_cons]
  unfold tellP
  rw [he]
  show (match (match attrV (bs nm) e.attrs with | some v => some v | none => (if 0 ≤ (ruledP E us n nm).2 then some (bs (ruledP E us n nm).1) else none)) with | some v => v | none => _) = _
  rw [hv, hr]
  dsimp only
  rw [if_pos hb]
theorem rof_up (g : Lead.Dc.Good E next d) (he : elAt E n = some e) (hf : firstP nm = some (val, heir)) (hv : attrV (bs nm) e.attrs = none) {o : By} {b : Int} (hr : ruledP E us n nm = (o, b)) (hb : b < 0) :
    ofZ E us (n : Int) nm = if heir = true then ofL E us nm val heir (upZ E e.parent) else bs val := by
  rw [rof_nat he hf, upZ_nat, ofL_cons, ups_eq g he]
  unfold tellP
  rw [he]
  show (match (match attrV (bs nm) e.attrs with | some v => some v | none => (if 0 ≤ (ruledP E us n nm).2 then some (bs (ruledP E us n nm).1) else none)) with | some v => v | none => _) = _
  rw [hv, hr]
  dsimp only
  rw [if_neg (by omega)]
theorem rof_par (g : Lead.Dc.Good E next d) (he : elAt E n = some e) (hf : firstP nm = some (val, heir)) (hv : attrV (bs nm) e.attrs = none) {o : By} {b : Int} (hr : ruledP E us n nm = (o, b)) (hb : b < 0) (hh : heir = true) {p : Nat} {pe : El} (hp : e.parent = (p : Int)) (hpe : elAt E p = some pe) :
    ofZ E us (n : Int) nm = ofZ E us (p : Int) nm := by
  rw [rof_up g he hf hv hr hb, if_pos hh, rof_nat hpe hf, hp]
theorem rof_end (g : Lead.Dc.Good E next d) (he : elAt E n = some e) (hf : firstP nm = some (val, heir)) (hv : attrV (bs nm) e.attrs = none) {o : By} {b : Int} (hr : ruledP E us n nm = (o, b)) (hb : b < 0) (hh : heir = false ∨ e.parent = -1) :
    ofZ E us (n : Int) nm = bs val := by
  rw [rof_up g he hf hv hr hb]
  rcases hh with hh | hh
  · rw [hh]; rfl
  · rw [hh, upZ_neg]; split <;> rfl
theorem has_at {l : List ReX} (hE : ∀ n (hn : n < l.length), ∃ e, elAt E n = some e ∧ l[n].inn = true) (hEn : ∀ p e, elAt E p = some e → p < l.length) (z : Int) : hasR (l.map ReX.re) z = (atZ E z).isSome := by
  unfold hasR atZ
  by_cases h0 : 0 ≤ z
  · rw [decide_eq_true h0, if_pos h0, Bool.true_and, List.getElem?_map]
    by_cases h1 : z.toNat < l.length
    · obtain ⟨e, h2, h3⟩ := hE _ h1
      rw [List.getElem?_eq_getElem h1, h2]
      show l[z.toNat].inn = true
      exact h3
    · rw [List.getElem?_eq_none (by omega)]
      cases he : elAt E z.toNat with
      | none => rfl
      | some e => exact absurd (hEn _ _ he) h1
  · rw [decide_eq_false h0, if_neg h0]; rfl
theorem attr_at {l : List ReX} (hn : n < l.length) (hi : l[n].inn = true) {k : ByteArray} : attrI k (l.map ReX.re) (n : Int) = optI (idxA k l[n].ats) := by
  unfold attrI hasR
  rw [Int.toNat_natCast, List.getElem?_map, List.getElem?_eq_getElem hn, if_pos (by rw [decide_eq_true (Int.natCast_nonneg n)]; exact hi)]
  show (match (idxA k l[n].ats) with | some k => (k : Int) | none => -1) = _
  cases idxA k l[n].ats <;> rfl
end Lead.Sy

/-
  Walks over the reference's sheets: StyleOf.
-/
namespace Go.Proofs.YteaipondofbecaaGreatDoor
open Go.RowKit Lead Lead.Dc Lead.Pk Lead.Rc Lead.Sy
set_option maxHeartbeats 8000000 in
set_option maxRecDepth 100000 in
theorem rstyle_step (base b : Nat) (v : Value) (l : List ReX) (E : Els) (next : Nat) (d : Nat → Nat) (so : Option Addr) (sn sc : Nat) (xs : List RrX) (nm : By) (hl0 : 0 < l.length) (hl : l.length ≤ 1000) (g : Lead.Dc.Good E next d)
    (hE : ∀ n (hn : n < l.length), ∃ e, elAt E n = some e ∧ l[n].nm = e.name ∧ l[n].ats = e.attrs ∧ l[n].par = e.parent ∧ l[n].inn = true) (hEn : ∀ p e, elAt E p = some e → p < l.length) (hat : ∀ n e, elAt E n = some e → ∀ a ∈ e.attrs, a.2.size ≤ 100000)
    (hG : RuG (xs.map RrX.ru)) (z : Int) (w : World) (hR : RDoc RT_ base w b v l) (hM : RuM w so sn sc xs)
    (hrec : ∀ (n : Nat) (e : El) (p : Nat) (pe : El), z = n → elAt E n = some e → e.parent = (p : Int) → elAt E p = some pe → ∀ W, Below w.heap.size w W → Calls Tryz.prog 32 #[.pointer (some ⟨b, 0, none⟩), .slice so sn sc, .int .i64 (p : Int), .string (bs nm)] W fun en w' => en = .returned (.string (ofZ E (xs.map RrX.ru) (p : Int) nm)) ∧ Below W.heap.size W w') :
    Calls Tryz.prog 32 #[.pointer (some ⟨b, 0, none⟩), .slice so sn sc, .int .i64 z, .string (bs nm)] w fun en w' => en = .returned (.string (ofZ E (xs.map RrX.ru) z nm)) ∧ Below w.heap.size w w' := by
  have cH := fun (W : World) (hW : Below w.heap.size w W) => rhas_any base b v l z W (hR.keep hW) (by omega)
  rw [has_at (fun n hn => by obtain ⟨e, h1, _, _, _, h5⟩ := hE n hn; exact ⟨e, h1, h5⟩) hEn z] at cH
  have cF := fun (W : World) => rfirst_any nm W
  have cA := fun (W : World) (hW : Below w.heap.size w W) => rattr_any base b v l z (bs nm) W (hR.keep hW) (by omega)
  have hfne : ((bs (firV nm)).toList == []) = !(firstP nm).isSome := by
    rw [firV_is, ByteArray.toList_eq, bs_list]
    cases firV nm <;> rfl
  obtain ⟨FV, hFV⟩ : ∃ u, bs (firV nm) = u := ⟨_, rfl⟩
  rw [hFV] at cF hfne
  cases hz : atZ E z with
  | none =>
    have hA := rof_none (us := xs.map RrX.ru) (nm := nm) hz
    obtain ⟨ANS, hANS⟩ : ∃ u, ofZ E (xs.map RrX.ru) z nm = u := ⟨_, rfl⟩
    rw [hANS] at hA ⊢
    rw [hz] at cH
    obtain ⟨NM, hNM⟩ : ∃ u, bs nm = u := ⟨_, rfl⟩
    simp only [hNM] at cF cA ⊢
    clear hfne
    have H_cH := Lib.hid cH
    clear cH
    have H_cF := Lib.hid cF
    clear cF
    have H_cA := Lib.hid cA
    clear cA
    have H_hA := Lib.hid hA
    clear hA
    have H_hz := Lib.hid hz
    clear hz
    have H_hANS := Lib.hid hANS
    clear hANS
    have H_hNM := Lib.hid hNM
    clear hNM
    have H_hFV := Lib.hid hFV
    clear hFV
    have H_hR := Lib.hid hR
    clear hR
    have H_hM := Lib.hid hM
    clear hM
    go_enter Tryz.func32, Tryz.ntmps32
    go_wp2_with fail
    refine (H_cH.out _ (by repeat' (first | (with_reducible first | exact bwR _ _ | assumption | refine bdn ?_ | refine bwA ?_ ?_ _ | refine bwD ?_ | refine bwS ?_ ?_ _) | omega | (simp <;> omega)))).mono ?_
    rintro _ w1 ⟨rfl, hb1⟩
    have hB1 : Below w.heap.size w w1 := below_via (by repeat' (first | (with_reducible first | exact bwR _ _ | assumption | refine bdn ?_ | refine bwA ?_ ?_ _ | refine bwD ?_ | refine bwS ?_ ?_ _) | omega | (simp <;> omega))) hb1
    clear hb1
    go_wp2_with fail
    refine (H_cF.out _).mono ?_
    rintro _ w2 ⟨rfl, hb2⟩
    have hB2 : Below w.heap.size w w2 := below_via hB1 hb2
    clear hb2
    go_wp2_with fail
    go_returns
    exact ⟨congrArg (fun t => Ending.returned (.string t)) H_hA.out.symm, by repeat' (first | (with_reducible first | exact bwR _ _ | assumption | refine bdn ?_ | refine bwA ?_ ?_ _ | refine bwD ?_ | refine bwS ?_ ?_ _) | omega | (simp <;> omega))⟩
  | some e =>
    obtain ⟨n, rfl, he⟩ := atZ_some hz
    rw [hz] at cH
    cases hf : firstP nm with
    | none =>
      have hA := rof_noname (E := E) (us := xs.map RrX.ru) (z := (n : Int)) hf
      obtain ⟨ANS, hANS⟩ : ∃ u, ofZ E (xs.map RrX.ru) (n : Int) nm = u := ⟨_, rfl⟩
      rw [hANS] at hA ⊢
      rw [hf] at hfne
      obtain ⟨NM, hNM⟩ : ∃ u, bs nm = u := ⟨_, rfl⟩
      simp only [hNM] at cF cA ⊢
      have H_cH := Lib.hid cH
      clear cH
      have H_cF := Lib.hid cF
      clear cF
      have H_cA := Lib.hid cA
      clear cA
      have H_hA := Lib.hid hA
      clear hA
      have H_hz := Lib.hid hz
      clear hz
      have H_hANS := Lib.hid hANS
      clear hANS
      have H_hNM := Lib.hid hNM
      clear hNM
      have H_hFV := Lib.hid hFV
      clear hFV
      have H_hR := Lib.hid hR
      clear hR
      have H_hM := Lib.hid hM
      clear hM
      have H_hf := Lib.hid hf
      clear hf
      have H_he := Lib.hid he
      clear he
      go_enter Tryz.func32, Tryz.ntmps32
      go_wp2_with fail
      refine (H_cH.out _ (by repeat' (first | (with_reducible first | exact bwR _ _ | assumption | refine bdn ?_ | refine bwA ?_ ?_ _ | refine bwD ?_ | refine bwS ?_ ?_ _) | omega | (simp <;> omega)))).mono ?_
      rintro _ w1 ⟨rfl, hb1⟩
      have hB1 : Below w.heap.size w w1 := below_via (by repeat' (first | (with_reducible first | exact bwR _ _ | assumption | refine bdn ?_ | refine bwA ?_ ?_ _ | refine bwD ?_ | refine bwS ?_ ?_ _) | omega | (simp <;> omega))) hb1
      clear hb1
      go_wp2_with fail
      refine (H_cF.out _).mono ?_
      rintro _ w2 ⟨rfl, hb2⟩
      have hB2 : Below w.heap.size w w2 := below_via hB1 hb2
      clear hb2
      go_wp2_with fail
      go_returns
      exact ⟨congrArg (fun t => Ending.returned (.string t)) H_hA.out.symm, by repeat' (first | (with_reducible first | exact bwR _ _ | assumption | refine bdn ?_ | refine bwA ?_ ?_ _ | refine bwD ?_ | refine bwS ?_ ?_ _) | omega | (simp <;> omega))⟩
    | some fv =>
      obtain ⟨val, heir⟩ := fv
      obtain ⟨hv1, hv2⟩ := fir_heir hf
      rw [hf] at hfne
      rw [hv1] at hFV
      have hn := hEn n e he
      obtain ⟨e', he', _, hats, hpar, hinn⟩ := hE n hn
      obtain rfl : e' = e := by rw [he] at he'; injection he' with h; exact h.symm
      clear he'
      have hidxI := attr_at (k := bs nm) hn hinn
      rw [hats] at hidxI
      simp only [hidxI] at cA
      cases hidx : idxA (bs nm) e'.attrs with
      | some k =>
        rw [hidx] at cA
        simp only [show optI (some k) = (k : Int) from rfl] at cA
        obtain ⟨hk, hav⟩ := attrV_idx hidx
        have hA := rof_own (us := xs.map RrX.ru) he hf hav
        obtain ⟨gd, cap, hv, hgw, _⟩ := hR.v_form hn
        subst hv
        obtain ⟨_, q1, _, _, _⟩ := hR.cells rfl hn
        have c0 := hR.c0
        have hbl := hR.lt
        have hsub := hR.sub _ (List.getElem_mem hn)
        obtain ⟨x, hx⟩ : ∃ x, l[n] = x := ⟨_, rfl⟩
        rw [hx] at q1 hsub hats
        have hS := Lead.Rc.sla_of (show OwnR EAt w base 59 (.slice x.ao x.al x.ac) x.ats from hsub.ats)
        obtain ⟨AO, hAO⟩ : ∃ u, x.ao = u := ⟨_, rfl⟩
        obtain ⟨AL, hAL⟩ : ∃ u, x.al = u := ⟨_, rfl⟩
        obtain ⟨AC, hAC⟩ : ∃ u, x.ac = u := ⟨_, rfl⟩
        rw [hats, hAO, hAL, hAC] at hS
        rw [hAO, hAL, hAC] at q1
        obtain ⟨ga, off, rfl, hga, hrow⟩ := hS.2.2.2.resolve_left (by intro h; rw [h] at hk; simp at hk)
        have hkL : k < AL := by rw [hS.1]; exact hk
        have hAm : AL ≤ 9223372036854775807 := by have h := hS.2.2.1; have h' := hS.2.1; unfold maxLen at h; omega
        have qa : w.cell? ⟨ga, off + k * 2 + 1, none⟩ = some (.string e'.attrs[k].2) := hrow k hk 1 _ rfl
        obtain ⟨AV, hAV⟩ : ∃ u, e'.attrs[k].2 = u := ⟨_, rfl⟩
        rw [hAV] at qa hA
        obtain ⟨ANS, hANS⟩ : ∃ u, ofZ E (xs.map RrX.ru) (n : Int) nm = u := ⟨_, rfl⟩
        rw [hANS] at hA ⊢
        obtain ⟨NM, hNM⟩ : ∃ u, bs nm = u := ⟨_, rfl⟩
        simp only [hNM] at cF cA ⊢
        have gk0 : (0 : Int) ≤ (k : Int) := by omega
        have gkL : (k : Int) < (AL : Int) := by omega
        have gn0 : (0 : Int) ≤ (n : Int) := by omega
        have gnL : (n : Int) < (l.length : Int) := by omega
        have hQ : ∀ W, Below w.heap.size w W → W.cell? ⟨b, 0, none⟩ = some (.slice (some ⟨gd, 0, none⟩) l.length cap) ∧ W.cell? ⟨gd, n * 5 + 1, none⟩ = some (.slice (some ⟨ga, off, none⟩) AL AC) ∧ W.cell? ⟨ga, off + k * 2 + 1, none⟩ = some (.string AV) := fun W hW =>
          ⟨(hW.cell (p := ⟨b, 0, none⟩) hbl).trans c0, (hW.cell (p := ⟨gd, n * 5 + 1, none⟩) hgw).trans q1, (hW.cell (p := ⟨ga, off + k * 2 + 1, none⟩) hga).trans qa⟩
        clear c0 q1 qa
        have H_cH := Lib.hid cH
        clear cH
        have H_cF := Lib.hid cF
        clear cF
        have H_cA := Lib.hid cA
        clear cA
        have H_hA := Lib.hid hA
        clear hA
        have H_hz := Lib.hid hz
        clear hz
        have H_hANS := Lib.hid hANS
        clear hANS
        have H_hNM := Lib.hid hNM
        clear hNM
        have H_hFV := Lib.hid hFV
        clear hFV
        have H_hR := Lib.hid hR
        clear hR
        have H_hM := Lib.hid hM
        clear hM
        have H_hf := Lib.hid hf
        clear hf
        have H_he := Lib.hid he
        clear he
        have H_hats := Lib.hid hats
        clear hats
        have H_hpar := Lib.hid hpar
        clear hpar
        have H_hidx := Lib.hid hidx
        clear hidx
        have H_hav := Lib.hid hav
        clear hav
        have H_hx := Lib.hid hx
        clear hx
        have H_hsub := Lib.hid hsub
        clear hsub
        have H_hS := Lib.hid hS
        clear hS
        have H_hAO := Lib.hid hAO
        clear hAO
        have H_hAL := Lib.hid hAL
        clear hAL
        have H_hAC := Lib.hid hAC
        clear hAC
        have H_hAV := Lib.hid hAV
        clear hAV
        have H_hQ := Lib.hid hQ
        clear hQ
        have H_hv1 := Lib.hid hv1
        clear hv1
        have H_hv2 := Lib.hid hv2
        clear hv2
        have H_hrow := Lib.hid hrow
        clear hrow
        have H_hinn := Lib.hid hinn
        clear hinn
        have H_hidxI := Lib.hid hidxI
        clear hidxI
        go_enter Tryz.func32, Tryz.ntmps32
        go_wp2_with fail
        refine (H_cH.out _ (by repeat' (first | (with_reducible first | exact bwR _ _ | assumption | refine bdn ?_ | refine bwA ?_ ?_ _ | refine bwD ?_ | refine bwS ?_ ?_ _) | omega | (simp <;> omega)))).mono ?_
        rintro _ w1 ⟨rfl, hb1⟩
        have hB1 : Below w.heap.size w w1 := below_via (by repeat' (first | (with_reducible first | exact bwR _ _ | assumption | refine bdn ?_ | refine bwA ?_ ?_ _ | refine bwD ?_ | refine bwS ?_ ?_ _) | omega | (simp <;> omega))) hb1
        clear hb1
        go_wp2_with fail
        refine (H_cF.out _).mono ?_
        rintro _ w2 ⟨rfl, hb2⟩
        have hB2 : Below w.heap.size w w2 := below_via hB1 hb2
        clear hb2
        go_wp2_with fail
        refine (H_cA.out _ hB2).mono ?_
        rintro _ w3 ⟨rfl, hb3⟩
        have hB3 : Below w.heap.size w w3 := below_via hB2 hb3
        clear hb3
        obtain ⟨c0, q1, qa⟩ := H_hQ.out _ hB3
        go_wp2_with fail
        go_returns
        exact ⟨congrArg (fun t => Ending.returned (.string t)) H_hA.out.symm, by repeat' (first | (with_reducible first | exact bwR _ _ | assumption | refine bdn ?_ | refine bwA ?_ ?_ _ | refine bwD ?_ | refine bwS ?_ ?_ _) | omega | (simp <;> omega))⟩
      | none =>
        rw [hidx] at cA
        have hav := attrV_idx_none hidx
        obtain ⟨gd, cap, hv, hgw, _⟩ := hR.v_form hn
        obtain ⟨_, _, q2, _, _⟩ := hR.cells hv hn
        have c0 := hR.c0
        rw [hv] at c0
        have hbl := hR.lt
        rw [hpar] at q2
        obtain ⟨PR, hPR⟩ : ∃ u, e'.parent = u := ⟨_, rfl⟩
        rw [hPR] at q2
        have gn0 : (0 : Int) ≤ (n : Int) := by omega
        have gnL : (n : Int) < (l.length : Int) := by omega
        have hQ : ∀ W, Below w.heap.size w W → W.cell? ⟨b, 0, none⟩ = some (.slice (some ⟨gd, 0, none⟩) l.length cap) ∧ W.cell? ⟨gd, n * 5 + 2, none⟩ = some (.int .i64 PR) := fun W hW =>
          ⟨(hW.cell (p := ⟨b, 0, none⟩) hbl).trans c0, (hW.cell (p := ⟨gd, n * 5 + 2, none⟩) hgw).trans q2⟩
        have hp : PR = -1 ∨ ∃ (p : Nat) (pe : El), PR = (p : Int) ∧ elAt E p = some pe := by rw [← hPR]; exact (par_ok g he).1
        have hrec2 := fun (p : Nat) (pe : El) (h1 : PR = (p : Int)) (h2 : elAt E p = some pe) => hrec n e' p pe rfl he (by rw [hPR]; exact h1) h2
        have hsl := hM.row.1
        have hS := hM.row
        obtain ⟨N, hN⟩ : ∃ u, sn = u := ⟨_, rfl⟩
        rw [hN] at hS hsl
        have hNm : N ≤ 9223372036854775807 := by have h := hS.2.2.1; have h' := hS.2.1; unfold maxLen at h; omega
        obtain ⟨ANS, hANS⟩ : ∃ u, ofZ E (xs.map RrX.ru) (n : Int) nm = u := ⟨_, rfl⟩
        have hfill : ((bs nm).toList == [102, 105, 108, 108]) = decide (nm = nFill) := bs_eqN nm nFill
        have hrule : ((bs nm).toList == [114, 117, 108, 101]) = decide (nm = nRule) := bs_eqN nm nRule
        obtain ⟨d1, hd1⟩ : ∃ u, decide (nm = nFill) = u := ⟨_, rfl⟩
        obtain ⟨d2, hd2⟩ : ∃ u, decide (nm = nRule) = u := ⟨_, rfl⟩
        rw [hd1] at hfill hv2
        rw [hd2] at hrule hv2
        obtain ⟨NM, hNM⟩ : ∃ u, bs nm = u := ⟨_, rfl⟩
        rw [hNM] at hfill hrule
        simp only [hNM] at cF cA hrec2
        rw [hANS, hNM]
        subst hN
        have c0' := c0
        clear c0 c0' q2
        have H_cH := Lib.hid cH
        clear cH
        have H_cF := Lib.hid cF
        clear cF
        have H_cA := Lib.hid cA
        clear cA
        have H_hz := Lib.hid hz
        clear hz
        have H_hANS := Lib.hid hANS
        clear hANS
        have H_hNM := Lib.hid hNM
        clear hNM
        have H_hFV := Lib.hid hFV
        clear hFV
        have H_hR := Lib.hid hR
        clear hR
        have H_hM := Lib.hid hM
        clear hM
        have H_hf := Lib.hid hf
        clear hf
        have H_he := Lib.hid he
        clear he
        have H_hats := Lib.hid hats
        clear hats
        have H_hpar := Lib.hid hpar
        clear hpar
        have H_hidx := Lib.hid hidx
        clear hidx
        have H_hav := Lib.hid hav
        clear hav
        have H_hQ := Lib.hid hQ
        clear hQ
        have H_hv1 := Lib.hid hv1
        clear hv1
        have H_hv2 := Lib.hid hv2
        clear hv2
        have H_hinn := Lib.hid hinn
        clear hinn
        have H_hidxI := Lib.hid hidxI
        clear hidxI
        have H_hS := Lib.hid hS
        clear hS
        have H_hsl := Lib.hid hsl
        clear hsl
        have H_hd1 := Lib.hid hd1
        clear hd1
        have H_hd2 := Lib.hid hd2
        clear hd2
        have H_hPR := Lib.hid hPR
        clear hPR
        have H_hv := Lib.hid hv
        clear hv
        have H_hE := Lib.hid hE
        clear hE
        have H_hEn := Lib.hid hEn
        clear hEn
        have H_hat := Lib.hid hat
        clear hat
        have H_hG := Lib.hid hG
        clear hG
        have H_hrec := Lib.hid hrec
        clear hrec
        have H_g := Lib.hid g
        clear g
        go_enter Tryz.func32, Tryz.ntmps32
        go_wp2_with fail
        refine (H_cH.out _ (by repeat' (first | (with_reducible first | exact bwR _ _ | assumption | refine bdn ?_ | refine bwA ?_ ?_ _ | refine bwD ?_ | refine bwS ?_ ?_ _) | omega | (simp <;> omega)))).mono ?_
        rintro _ w1 ⟨rfl, hb1⟩
        have hB1 : Below w.heap.size w w1 := below_via (by repeat' (first | (with_reducible first | exact bwR _ _ | assumption | refine bdn ?_ | refine bwA ?_ ?_ _ | refine bwD ?_ | refine bwS ?_ ?_ _) | omega | (simp <;> omega))) hb1
        clear hb1
        go_wp2_with fail
        refine (H_cF.out _).mono ?_
        rintro _ w2 ⟨rfl, hb2⟩
        have hB2 : Below w.heap.size w w2 := below_via hB1 hb2
        clear hb2
        go_wp2_with fail
        refine (H_cA.out _ hB2).mono ?_
        rintro _ w3 ⟨rfl, hb3⟩
        have hB3 : Below w.heap.size w w3 := below_via hB2 hb3
        clear hb3
        have hoi : optI none = -1 := rfl
        go_wp2_with fail
        go_loopw [10, 12, 13, 14, 15] (fun t10 t12 t13 _ _ wr => ∃ (k : Nat) (o : By) (bq : Int), k ≤ sn ∧ t13 = .int .i64 k ∧ t12 = .int .i64 bq ∧ t10 = .string (bs (outB val o bq)) ∧ RowKit.Hid (ruledP E ((xs.map RrX.ru).take k) n nm = (o, bq)) ∧ Below w.heap.size w wr) (fun _ _ t13 _ _ _ => sn - (intOf t13).toNat)
        case atStart => exact ⟨0, [], -1, Nat.zero_le _, rfl, rfl, by rw [← H_hFV.out]; rfl, Lib.hid rfl, by repeat' (first | (with_reducible first | exact bwR _ _ | assumption | refine bdn ?_ | refine bwA ?_ ?_ _ | refine bwD ?_ | refine bwS ?_ ?_ _) | omega | (simp <;> omega))⟩
        case round =>
          obtain ⟨k, o, bq, hk, rfl, rfl, rfl, H_r, hB⟩ := hrel
          have hzr := hB.size
          by_cases hlt : k < sn
          · have hk' : k < xs.length := by rw [← H_hsl.out]; exact hlt
            have hkm : k < (xs.map RrX.ru).length := by rw [List.length_map]; exact hk'
            obtain ⟨gr, off, rfl, hgr, hr⟩ := H_hS.out.2.2.2.resolve_left (by intro h; rw [h] at hk'; simp at hk')
            have hcell := fun (q : Nat) (v : Value) (hq : (ERr.enc xs[k])[q]? = some v) => (hr.keep hB hgr) k hk' q v hq
            have hst1 := H_hM.out.st _ (List.getElem_mem hk')
            have hws1 := H_hM.out.ws _ (List.getElem_mem hk')
            have hst := ruledP_take E (xs.map RrX.ru) n nm k hkm
            rw [List.getElem_map, H_r.out] at hst
            have hu := H_hG.out _ (List.mem_map_of_mem (List.getElem_mem hk'))
            obtain ⟨x, hx⟩ : ∃ x, xs[k] = x := ⟨_, rfl⟩
            rw [hx] at hcell hst1 hws1 hst hu
            obtain ⟨tx, xo, xn, xc, ss, un, vl⟩ := x
            have q1 : wr.cell? ⟨gr, off + k * 4 + 1, none⟩ = some (.slice xo xn xc) := hcell 1 _ rfl
            have q2 : wr.cell? ⟨gr, off + k * 4 + 2, none⟩ = some (.string (bs un)) := hcell 2 _ rfl
            have q3 : wr.cell? ⟨gr, off + k * 4 + 3, none⟩ = some (.string (bs vl)) := hcell 3 _ rfl
            have hst1' : SlA ESr w xo xn xc ss := hst1
            have hws1' : ∀ y ∈ ss, SlA EWs w y.wo y.wl y.wc y.ws := hws1
            have hst' : ruledP E ((xs.map RrX.ru).take (k + 1)) n nm = rulS E n nm (o, bq) ⟨ss.map SrX.st, tx, un, vl⟩ := hst
            have hu' : ss.map SrX.st ≠ [] ∧ wtL (ss.map SrX.st) ≤ 100000 ∧ ∀ x ∈ ss.map SrX.st, ∀ q ∈ x.ws, isSg q.sign = true ∧ q.name ≠ [] := hu
            have gk : IntKind.i64.wrap ((k : Int) + 1) = ((k + 1 : Nat) : Int) := IntWalk.i64_in _ (by omega)
            have gk0 : (k : Int) < (sn : Int) := by omega
            have hqn := ba_eqL (bs un) NM
            have hdn : decide (bs un = NM) = decide (un = nm) := decide_eq_decide.2 ⟨fun h => bs_inj (h.trans H_hNM.out.symm), fun h => by rw [h]; exact H_hNM.out⟩
            rw [hdn] at hqn
            have hqb : ((bs un).toList != NM.toList) = !((bs un).toList == NM.toList) := rfl
            rw [hqn] at hqb
            obtain ⟨UN, hUN⟩ : ∃ t, bs un = t := ⟨_, rfl⟩
            rw [hUN] at q2 hqn hqb
            have hgrr : gr < wr.heap.size := Nat.lt_of_lt_of_le hgr hB.size
            clear hcell hx hr hst hdn hst1 hws1 hu
            by_cases hnm : un = nm
            · rw [decide_eq_true hnm] at hqn hqb
              have cT := fun (W : World) (hb : Below wr.heap.size wr W) => rfitting_any base b v l E next d xo xn xc ss W (H_hR.out.keep (below_via hB hb)) hl0 hl H_g.out H_hE.out H_hEn.out H_hat.out (hst1'.keep (below_via hB hb) rfl) (fun y hy => ⟨(hws1' y hy).keep (below_via hB hb) rfl, hu'.2.2 _ (List.mem_map_of_mem hy)⟩)
              have cW := fun (W : World) (hb : Below wr.heap.size wr W) => rweight_any xo xn xc ss W (hst1'.keep (below_via hB hb) rfl) (fun y hy => (hws1' y hy).keep (below_via hB hb) rfl) hu'.2.1
              have hfk : fitK E (ss.map SrX.st) ss.length n = fitsL E (ss.map SrX.st) n := by
                rw [show ss.length = (ss.map SrX.st).length by rw [List.length_map]]; exact fitK_all hu'.1 n
              obtain ⟨wt, hwt⟩ : ∃ t, wtL (ss.map SrX.st) = t := ⟨_, rfl⟩
              rw [hwt] at cW
              obtain ⟨fi, hfi⟩ : ∃ t, fitsL E (ss.map SrX.st) n = t := ⟨_, rfl⟩
              rw [hfi] at hfk
              have hQr : ∀ W, Below wr.heap.size wr W → W.cell? ⟨gr, off + k * 4 + 1, none⟩ = some (.slice xo xn xc) ∧ W.cell? ⟨gr, off + k * 4 + 3, none⟩ = some (.string (bs vl)) := fun W hW =>
                ⟨(hW.cell (p := ⟨gr, off + k * 4 + 1, none⟩) hgrr).trans q1, (hW.cell (p := ⟨gr, off + k * 4 + 3, none⟩) hgrr).trans q3⟩
              have H_cT := Lib.hid cT
              clear cT
              have H_cW := Lib.hid cW
              clear cW
              have H_hfk := Lib.hid hfk
              clear hfk
              have H_hwt := Lib.hid hwt
              clear hwt
              have H_hfi := Lib.hid hfi
              clear hfi
              have H_hst' := Lib.hid hst'
              clear hst'
              have H_hu' := Lib.hid hu'
              clear hu'
              have H_hnm := Lib.hid hnm
              clear hnm
              have H_hUN := Lib.hid hUN
              clear hUN
              have H_hst1' := Lib.hid hst1'
              clear hst1'
              have H_hws1' := Lib.hid hws1'
              clear hws1'
              have H_hQr := Lib.hid hQr
              clear hQr
              go_wp2_with fail
              refine (H_cT.out _ (Below.refl _ _)).mono ?_
              rintro _ w4 ⟨gf, rfl, _, hgf2, hrow, hb4⟩
              have hb4' : Below wr.heap.size wr w4 := hb4
              clear hb4 q1 q2 q3
              obtain ⟨q1, q3⟩ := H_hQr.out _ hb4'
              go_wp2_with fail
              refine (H_cW.out _ hb4').mono ?_
              rintro _ w5 ⟨rfl, hb5⟩
              have hb5' : Below wr.heap.size wr w5 := below_via hb4' hb5
              have qf : w5.cell? ⟨gf, n, none⟩ = some (.bool fi) := by
                have h := (hrow.of_block (hb5.block gf hgf2)).cell hn
                rw [h]; show some (Value.bool (fitK E (ss.map SrX.st) ss.length n)) = _
                rw [H_hfk.out]
              clear hb5 q1 q3 hrow
              obtain ⟨q1, q3⟩ := H_hQr.out _ hb5'
              have hB5 : Below w.heap.size w w5 := below_via hB hb5'
              cases fi with
              | false =>
                have hst : ruledP E ((xs.map RrX.ru).take (k + 1)) n nm = (o, bq) := H_hst'.out.trans (rulS_not H_hfi.out)
                have H_hst := Lib.hid hst
                clear hst
                go_wp2_with fail
                go_roundw
                case rel => exact ⟨k + 1, o, bq, by omega, by go_num, rfl, rfl, H_hst.out, hB5⟩
                case measure => simp [intOf]; omega
              | true =>
                by_cases hle : bq ≤ (wt : Int)
                · have hst : ruledP E ((xs.map RrX.ru).take (k + 1)) n nm = (vl, (wt : Int)) := H_hst'.out.trans (by rw [rulS_yes H_hnm.out H_hfi.out (by rw [H_hwt.out]; exact hle), H_hwt.out])
                  have hov : bs (outB val vl (wt : Int)) = bs vl := by unfold outB; rw [if_neg (by omega)]
                  have H_hst := Lib.hid hst
                  clear hst
                  have H_hov := Lib.hid hov
                  clear hov
                  go_wp2_with fail
                  go_roundw
                  case rel => exact ⟨k + 1, vl, (wt : Int), by omega, by go_num, rfl, (by rw [H_hov.out]), H_hst.out, hB5⟩
                  case measure => simp [intOf]; omega
                · have hst : ruledP E ((xs.map RrX.ru).take (k + 1)) n nm = (o, bq) := H_hst'.out.trans (rulS_less (by rw [H_hwt.out]; exact hle))
                  have H_hst := Lib.hid hst
                  clear hst
                  go_wp2_with fail
                  go_roundw
                  case rel => exact ⟨k + 1, o, bq, by omega, by go_num, rfl, rfl, H_hst.out, hB5⟩
                  case measure => simp [intOf]; omega
            · rw [decide_eq_false hnm] at hqn hqb
              have hst : ruledP E ((xs.map RrX.ru).take (k + 1)) n nm = (o, bq) := hst'.trans (rulS_other hnm)
              have H_hst := Lib.hid hst
              clear hst
              have H_hst' := Lib.hid hst'
              clear hst'
              have H_hu' := Lib.hid hu'
              clear hu'
              have H_hnm := Lib.hid hnm
              clear hnm
              have H_hUN := Lib.hid hUN
              clear hUN
              have H_hst1' := Lib.hid hst1'
              clear hst1'
              have H_hws1' := Lib.hid hws1'
              clear hws1'
              go_wp2_with fail
              go_roundw
              case rel => exact ⟨k + 1, o, bq, by omega, by go_num, rfl, rfl, H_hst.out, hB⟩
              case measure => simp [intOf]; omega
          · obtain rfl : sn = k := by omega
            have ht : (xs.map RrX.ru).take sn = xs.map RrX.ru := List.take_of_length_le (by rw [List.length_map, H_hsl.out]; exact Nat.le_refl _)
            have hr := H_r.out
            rw [ht] at hr
            obtain ⟨c0, q2⟩ := H_hQ.out _ hB
            by_cases hb0 : bq < 0
            · have hov : bs (outB val o bq) = bs val := by unfold outB; rw [if_pos hb0]
              rw [hov]
              have hend := fun h => (H_hANS.out.symm.trans (rof_end H_g.out H_he.out H_hf.out H_hav.out hr hb0 h))
              have hup := fun (p : Nat) (pe : El) (h1 : PR = (p : Int)) (h2 : elAt E p = some pe) => fun (hh : heir = true) => (H_hANS.out.symm.trans (rof_par H_g.out H_he.out H_hf.out H_hav.out hr hb0 hh (H_hPR.out.trans h1) h2))
              rw [H_hPR.out] at hend
              have hv2 := H_hv2.out
              subst hv2
              clear hov ht hr
              cases d1 with
              | true =>
                have hup := fun (p : Nat) (pe : El) (h1 : PR = (p : Int)) (h2 : elAt E p = some pe) => hup p pe h1 h2 rfl
                rcases hp with hp | ⟨p, pe, hp, hpe⟩
                · have gp : ¬ (0 : Int) ≤ PR := by omega
                  have hA := hend (.inr hp)
                  clear hend hup
                  have H_hA := Lib.hid hA
                  clear hA
                  have H_hp := Lib.hid hp
                  clear hp
                  go_wp2_with fail
                  go_returns
                  exact ⟨congrArg (fun t => Ending.returned (.string t)) H_hA.out.symm, by repeat' (first | (with_reducible first | exact bwR _ _ | assumption | refine bdn ?_ | refine bwA ?_ ?_ _ | refine bwD ?_ | refine bwS ?_ ?_ _) | omega | (simp <;> omega))⟩
                · have gp : (0 : Int) ≤ PR := by omega
                  have hA := hup p pe hp hpe
                  have cP := hrec2 p pe hp hpe wr hB
                  rw [← hp] at cP hA
                  clear hend hup
                  have H_hA := Lib.hid hA
                  clear hA
                  have H_hp := Lib.hid hp
                  clear hp
                  have H_cP := Lib.hid cP
                  clear cP
                  have H_hpe := Lib.hid hpe
                  clear hpe
                  go_wp2_with fail
                  refine (H_cP.out).mono ?_
                  rintro _ w3 ⟨rfl, hb3⟩
                  have hB3 : Below w.heap.size w w3 := below_via hB hb3
                  clear hb3
                  go_wp2_with fail
                  go_returns
                  exact ⟨congrArg (fun t => Ending.returned (.string t)) H_hA.out.symm, hB3⟩
              | false =>
                cases d2 with
                | true =>
                  have hup := fun (p : Nat) (pe : El) (h1 : PR = (p : Int)) (h2 : elAt E p = some pe) => hup p pe h1 h2 rfl
                  rcases hp with hp | ⟨p, pe, hp, hpe⟩
                  · have gp : ¬ (0 : Int) ≤ PR := by omega
                    have hA := hend (.inr hp)
                    clear hend hup
                    have H_hA := Lib.hid hA
                    clear hA
                    have H_hp := Lib.hid hp
                    clear hp
                    go_wp2_with fail
                    go_returns
                    exact ⟨congrArg (fun t => Ending.returned (.string t)) H_hA.out.symm, by repeat' (first | (with_reducible first | exact bwR _ _ | assumption | refine bdn ?_ | refine bwA ?_ ?_ _ | refine bwD ?_ | refine bwS ?_ ?_ _) | omega | (simp <;> omega))⟩
                  · have gp : (0 : Int) ≤ PR := by omega
                    have hA := hup p pe hp hpe
                    have cP := hrec2 p pe hp hpe wr hB
                    rw [← hp] at cP hA
                    clear hend hup
                    have H_hA := Lib.hid hA
                    clear hA
                    have H_hp := Lib.hid hp
                    clear hp
                    have H_cP := Lib.hid cP
                    clear cP
                    have H_hpe := Lib.hid hpe
                    clear hpe
                    go_wp2_with fail
                    refine (H_cP.out).mono ?_
                    rintro _ w3 ⟨rfl, hb3⟩
                    have hB3 : Below w.heap.size w w3 := below_via hB hb3
                    clear hb3
                    go_wp2_with fail
                    go_returns
                    exact ⟨congrArg (fun t => Ending.returned (.string t)) H_hA.out.symm, hB3⟩
                | false =>
                  have hA := hend (.inl rfl)
                  clear hend hup
                  have H_hA := Lib.hid hA
                  clear hA
                  go_wp2_with fail
                  go_returns
                  exact ⟨congrArg (fun t => Ending.returned (.string t)) H_hA.out.symm, by repeat' (first | (with_reducible first | exact bwR _ _ | assumption | refine bdn ?_ | refine bwA ?_ ?_ _ | refine bwD ?_ | refine bwS ?_ ?_ _) | omega | (simp <;> omega))⟩
            · have hov : bs (outB val o bq) = bs o := by unfold outB; rw [if_neg hb0]
              rw [hov]
              have hA : ANS = bs o := H_hANS.out.symm.trans (rof_tell H_he.out H_hf.out H_hav.out hr (by omega))
              clear hov ht hr
              have H_hA := Lib.hid hA
              clear hA
              cases d1 with
              | true =>
                go_wp2_with fail
                go_returns
                exact ⟨congrArg (fun t => Ending.returned (.string t)) H_hA.out.symm, by repeat' (first | (with_reducible first | exact bwR _ _ | assumption | refine bdn ?_ | refine bwA ?_ ?_ _ | refine bwD ?_ | refine bwS ?_ ?_ _) | omega | (simp <;> omega))⟩
              | false =>
                cases d2 with
                | true =>
                  go_wp2_with fail
                  go_returns
                  exact ⟨congrArg (fun t => Ending.returned (.string t)) H_hA.out.symm, by repeat' (first | (with_reducible first | exact bwR _ _ | assumption | refine bdn ?_ | refine bwA ?_ ?_ _ | refine bwD ?_ | refine bwS ?_ ?_ _) | omega | (simp <;> omega))⟩
                | false =>
                  go_wp2_with fail
                  go_returns
                  exact ⟨congrArg (fun t => Ending.returned (.string t)) H_hA.out.symm, by repeat' (first | (with_reducible first | exact bwR _ _ | assumption | refine bdn ?_ | refine bwA ?_ ?_ _ | refine bwD ?_ | refine bwS ?_ ?_ _) | omega | (simp <;> omega))⟩
theorem rstyle_any (base b : Nat) (v : Value) (l : List ReX) (E : Els) (next : Nat) (d : Nat → Nat) (so : Option Addr) (sn sc : Nat) (xs : List RrX) (nm : By) (hl0 : 0 < l.length) (hl : l.length ≤ 1000) (g : Lead.Dc.Good E next d)
    (hE : ∀ n (hn : n < l.length), ∃ e, elAt E n = some e ∧ l[n].nm = e.name ∧ l[n].ats = e.attrs ∧ l[n].par = e.parent ∧ l[n].inn = true) (hEn : ∀ p e, elAt E p = some e → p < l.length) (hat : ∀ n e, elAt E n = some e → ∀ a ∈ e.attrs, a.2.size ≤ 100000)
    (hG : RuG (xs.map RrX.ru)) (z : Int) (w : World) (hR : RDoc RT_ base w b v l) (hM : RuM w so sn sc xs) :
    Calls Tryz.prog 32 #[.pointer (some ⟨b, 0, none⟩), .slice so sn sc, .int .i64 z, .string (bs nm)] w fun en w' => en = .returned (.string (ofZ E (xs.map RrX.ru) z nm)) ∧ Below w.heap.size w w' := by
  suffices h : ∀ (D : Nat) (z : Int), (∀ (n : Nat) (e : El), z = (n : Int) → elAt E n = some e → d n ≤ D) → ∀ W, Below w.heap.size w W →
      Calls Tryz.prog 32 #[.pointer (some ⟨b, 0, none⟩), .slice so sn sc, .int .i64 z, .string (bs nm)] W fun en w' => en = .returned (.string (ofZ E (xs.map RrX.ru) z nm)) ∧ Below W.heap.size W w' from
    h 10 z (fun n e _ he => g.dm n e he) w (Below.refl _ _)
  intro D
  induction D with
  | zero =>
    intro z hD W hW
    refine rstyle_step base b v l E next d so sn sc xs nm hl0 hl g hE hEn hat hG z W (hR.keep hW) (hM.keep hW) (fun n e p pe hz he hp hpe W' hW' => ?_)
    have h1 := hD n e hz he
    have h2 := g.d1 he
    omega
  | succ D ih =>
    intro z hD W hW
    refine rstyle_step base b v l E next d so sn sc xs nm hl0 hl g hE hEn hat hG z W (hR.keep hW) (hM.keep hW) (fun n e p pe hz he hp hpe W' hW' => ?_)
    refine ih (p : Int) (fun p' e' hp' he' => ?_) W' (below_via hW hW')
    have h1 := hD n e hz he
    have h2 := (par_ok g he).2
    rw [hp, if_pos (Int.natCast_nonneg p), Int.toNat_natCast] at h2
    have : p' = p := by omega
    subst this; omega
end Go.Proofs.YteaipondofbecaaGreatDoor

/-
  Walks over the statements' helper sameSheet; style.Of of no document.
-/
namespace Go.Proofs.YteaipondofbecaaGreatDoor
open Go.RowKit Lead Lead.Dc Lead.Pk Lead.Rc Lead.Sy
set_option maxHeartbeats 2000000 in
theorem of_nil (v : Value) (z : Int) (nm : By) (w : World) :
    Calls Tryz.prog 31 #[.pointer none, v, .int .i64 z, .string (bs nm)] w fun en w' => en = .returned (.string ⟨#[]⟩) ∧ Below w.heap.size w w' := by
  have cFi := fun (W : World) => first_any nm W
  obtain ⟨NM, hNM⟩ : ∃ u, bs nm = u := ⟨_, rfl⟩
  simp only [hNM] at cFi
  rw [hNM]
  cases hf : firstP nm with
  | none =>
    rw [hf] at cFi
    simp only [firEnd] at cFi
    have H_cFi := Lib.hid cFi
    clear cFi
    have H_hNM := Lib.hid hNM
    clear hNM
    have H_hf := Lib.hid hf
    clear hf
    go_enter Tryz.func31, Tryz.ntmps31
    go_wp2_with fail
    refine (H_cFi.out _).mono ?_
    rintro _ w1 ⟨rfl, hb1⟩
    go_wp2_with fail
    go_returns
    exact ⟨rfl, by repeat' (first | (with_reducible first | exact bwR _ _ | assumption | refine bdn ?_ | refine bwA ?_ ?_ _ | refine bwD ?_ | refine bwS ?_ ?_ _) | omega | (simp <;> omega))⟩
  | some fv =>
    obtain ⟨val, heir⟩ := fv
    rw [hf] at cFi
    simp only [firEnd] at cFi
    have H_cFi := Lib.hid cFi
    clear cFi
    have H_hNM := Lib.hid hNM
    clear hNM
    have H_hf := Lib.hid hf
    clear hf
    go_enter Tryz.func31, Tryz.ntmps31
    go_wp2_with fail
    refine (H_cFi.out _).mono ?_
    rintro _ w1 ⟨rfl, hb1⟩
    go_wp2_with fail
    go_returns
    exact ⟨rfl, by repeat' (first | (with_reducible first | exact bwR _ _ | assumption | refine bdn ?_ | refine bwA ?_ ?_ _ | refine bwD ?_ | refine bwS ?_ ?_ _) | omega | (simp <;> omega))⟩
set_option maxHeartbeats 4000000 in
set_option maxRecDepth 100000 in
theorem samesheet_any (oa ob : Option Addr) (la lb ca cb : Nat) (xs : List RuX) (ys : List RrX) (w : World) (hA : SlA ERu w oa la ca xs) (hB : SlA ERr w ob lb cb ys) (he : xs.map RuX.u = ys.map RrX.ru) :
    Calls Tryz.prog 30 #[.slice oa la ca, .slice ob lb cb] w fun en w' => en = .returned (.bool true) ∧ Below w.heap.size w w' := by
  have hl1 := hA.1
  have hl2 := hB.1
  have hle := congrArg List.length he
  rw [List.length_map, List.length_map] at hle
  obtain rfl : la = lb := by omega
  have hm : la ≤ 9223372036854775807 := by have h := hA.2.2.1; have h' := hA.2.1; unfold maxLen at h; omega
  have H_hA := Lib.hid hA
  clear hA
  have H_hB := Lib.hid hB
  clear hB
  have H_he := Lib.hid he
  clear he
  have H_hl1 := Lib.hid hl1
  clear hl1
  have H_hl2 := Lib.hid hl2
  clear hl2
  have H_hle := Lib.hid hle
  clear hle
  go_enter Tryz.func30, Tryz.ntmps30
  go_wp2_with fail
  go_loopw [5] (fun t5 wr => ∃ k : Nat, k ≤ la ∧ t5 = .int .i64 k ∧ Below w.heap.size w wr) (fun t5 _ => la - (intOf t5).toNat)
  case atStart => exact ⟨0, Nat.zero_le _, rfl, by repeat' (first | (with_reducible first | exact bwR _ _ | assumption | refine bdn ?_ | refine bwA ?_ ?_ _ | refine bwD ?_ | refine bwS ?_ ?_ _) | omega | (simp <;> omega))⟩
  case round =>
    obtain ⟨k, hk, rfl, hBr⟩ := hrel
    by_cases hlt : k < la
    · have hk1 : k < xs.length := by rw [← H_hl1.out]; exact hlt
      have hk2 : k < ys.length := by rw [← H_hl2.out]; exact hlt
      obtain ⟨ga, offa, rfl, hga, hra⟩ := H_hA.out.2.2.2.resolve_left (by intro h; rw [h] at hk1; simp at hk1)
      obtain ⟨gb, offb, rfl, hgb, hrb⟩ := H_hB.out.2.2.2.resolve_left (by intro h; rw [h] at hk2; simp at hk2)
      have hca := fun (q : Nat) (v : Value) (hq : (ERu.enc xs[k])[q]? = some v) => (hra.keep hBr hga) k hk1 q v hq
      have hcb := fun (q : Nat) (v : Value) (hq : (ERr.enc ys[k])[q]? = some v) => (hrb.keep hBr hgb) k hk2 q v hq
      have hxy : xs[k].u = ys[k].ru := by
        have h := congrArg (fun l => l[k]?) H_he.out
        rw [List.getElem?_map, List.getElem?_map, List.getElem?_eq_getElem hk1, List.getElem?_eq_getElem hk2] at h
        injection h
      obtain ⟨x, hx⟩ : ∃ x, xs[k] = x := ⟨_, rfl⟩
      obtain ⟨y, hy⟩ : ∃ x, ys[k] = x := ⟨_, rfl⟩
      rw [hx] at hca hxy
      rw [hy] at hcb hxy
      obtain ⟨so, sl, sc, u⟩ := x
      obtain ⟨tx, yo, yn, yc, ss, un, vl⟩ := y
      obtain rfl : u = RrX.ru ⟨tx, yo, yn, yc, ss, un, vl⟩ := hxy
      have a0 : wr.cell? ⟨ga, offa + k * 4, none⟩ = some (.slice so sl sc) := hca 0 _ rfl
      have a1 : wr.cell? ⟨ga, offa + k * 4 + 1, none⟩ = some (.string (bs tx)) := hca 1 _ rfl
      have a2 : wr.cell? ⟨ga, offa + k * 4 + 2, none⟩ = some (.string (bs un)) := hca 2 _ rfl
      have a3 : wr.cell? ⟨ga, offa + k * 4 + 3, none⟩ = some (.string (bs vl)) := hca 3 _ rfl
      have b0 : wr.cell? ⟨gb, offb + k * 4, none⟩ = some (.string (bs tx)) := hcb 0 _ rfl
      have b2 : wr.cell? ⟨gb, offb + k * 4 + 2, none⟩ = some (.string (bs un)) := hcb 2 _ rfl
      have b3 : wr.cell? ⟨gb, offb + k * 4 + 3, none⟩ = some (.string (bs vl)) := hcb 3 _ rfl
      obtain ⟨TX, hTX⟩ : ∃ t, bs tx = t := ⟨_, rfl⟩
      obtain ⟨UN, hUN⟩ : ∃ t, bs un = t := ⟨_, rfl⟩
      obtain ⟨VL, hVL⟩ : ∃ t, bs vl = t := ⟨_, rfl⟩
      rw [hTX] at a1 b0
      rw [hUN] at a2 b2
      rw [hVL] at a3 b3
      have e1 : (TX.toList != TX.toList) = false := bne_self_eq_false _
      have e2 : (UN.toList != UN.toList) = false := bne_self_eq_false _
      have e3 : (VL.toList != VL.toList) = false := bne_self_eq_false _
      have gk : IntKind.i64.wrap ((k : Int) + 1) = ((k + 1 : Nat) : Int) := IntWalk.i64_in _ (by omega)
      have hgar : ga < wr.heap.size := Nat.lt_of_lt_of_le hga hBr.size
      have hgbr : gb < wr.heap.size := Nat.lt_of_lt_of_le hgb hBr.size
      have SK : ∀ W, Below wr.heap.size wr W → Below wr.heap.size wr W ∧ W.cell? ⟨ga, offa + k * 4, none⟩ = some (.slice so sl sc) ∧ W.cell? ⟨ga, offa + k * 4 + 1, none⟩ = some (.string TX) ∧ W.cell? ⟨ga, offa + k * 4 + 2, none⟩ = some (.string UN) ∧ W.cell? ⟨ga, offa + k * 4 + 3, none⟩ = some (.string VL) ∧ W.cell? ⟨gb, offb + k * 4, none⟩ = some (.string TX) ∧ W.cell? ⟨gb, offb + k * 4 + 2, none⟩ = some (.string UN) ∧ W.cell? ⟨gb, offb + k * 4 + 3, none⟩ = some (.string VL) := fun W h =>
        ⟨h, (h.cell (p := ⟨ga, offa + k * 4, none⟩) hgar).trans a0, (h.cell (p := ⟨ga, offa + k * 4 + 1, none⟩) hgar).trans a1, (h.cell (p := ⟨ga, offa + k * 4 + 2, none⟩) hgar).trans a2, (h.cell (p := ⟨ga, offa + k * 4 + 3, none⟩) hgar).trans a3, (h.cell (p := ⟨gb, offb + k * 4, none⟩) hgbr).trans b0, (h.cell (p := ⟨gb, offb + k * 4 + 2, none⟩) hgbr).trans b2, (h.cell (p := ⟨gb, offb + k * 4 + 3, none⟩) hgbr).trans b3⟩
      clear hca hcb hra hrb
      have H_SK := Lib.hid SK
      clear SK
      have H_hTX := Lib.hid hTX
      clear hTX
      have H_hUN := Lib.hid hUN
      clear hUN
      have H_hVL := Lib.hid hVL
      clear hVL
      have H_hx := Lib.hid hx
      clear hx
      have H_hy := Lib.hid hy
      clear hy
      go_wp2_with fail
      go_region_held3 (fun W => Below wr.heap.size wr W ∧ W.cell? ⟨ga, offa + k * 4, none⟩ = some (.slice so sl sc) ∧ W.cell? ⟨ga, offa + k * 4 + 1, none⟩ = some (.string TX) ∧ W.cell? ⟨ga, offa + k * 4 + 2, none⟩ = some (.string UN) ∧ W.cell? ⟨ga, offa + k * 4 + 3, none⟩ = some (.string VL) ∧ W.cell? ⟨gb, offb + k * 4, none⟩ = some (.string TX) ∧ W.cell? ⟨gb, offb + k * 4 + 2, none⟩ = some (.string UN) ∧ W.cell? ⟨gb, offb + k * 4 + 3, none⟩ = some (.string VL)) (exact H_SK.out _ (by repeat' (first | (with_reducible first | exact bwR _ _ | assumption | refine bdn ?_ | refine bwA ?_ ?_ _ | refine bwD ?_ | refine bwS ?_ ?_ _) | omega | (simp <;> omega))))
        (first | (go_at_call 84; go_must ((with_reducible refine (text_any _ _ _).mono ?_); rintro en wF ⟨rfl, hF⟩; have hbF : Below wr.heap.size wr wF := below_via (by repeat' (first | (with_reducible first | exact bwR _ _ | assumption | refine bdn ?_ | refine bwA ?_ ?_ _ | refine bwD ?_ | refine bwS ?_ ?_ _) | omega | (simp <;> omega))) hF)))
      all_goals
        have hB' : Below w.heap.size w wF := below_via hBr hbF
        go_wp2_with fail
        go_roundw
        case rel => exact ⟨k + 1, by omega, by go_num, hB'⟩
        case measure => simp [intOf]; omega
    · obtain rfl : la = k := by omega
      go_wp2_with fail
      go_returns
      exact ⟨rfl, hBr⟩
end Go.Proofs.YteaipondofbecaaGreatDoor
