/-
  Walks over the reference's document: does a step fit an element.
-/
import Derived.Test.YteaipondofbecaaGreatDoorRe
import Derived.Test.YteaipondofbecaaGreatDoorPkd
namespace Lead.Rc
open Go Go.RowKit Lead Lead.Dc Lead.Pk
def EWs : Enc Wn := ⟨fun x => [.string (bs (x.sign :: x.name))], 1, fun _ => rfl, fun x u h => by simp at h; subst h; rfl, by decide⟩
def stR (nm : ByteArray) (ats : List At) (x : St) : Bool := (decide (x.nm = []) || decide (x.nm = [42]) || decide (bs x.nm = nm)) && x.ws.all (hasV ats)
theorem attrI_in {nm : ByteArray} {l : List ReX} {n : Nat} (hn : n < l.length) (hi : l[n].inn = true) : attrI nm (l.map ReX.re) (n : Int) = optI (idxA nm l[n].ats) := by
  have hh : hasR (l.map ReX.re) (n : Int) = true := by
    unfold hasR
    rw [decide_eq_true (by omega), Int.toNat_natCast, List.getElem?_map, List.getElem?_eq_getElem hn]
    exact hi
  unfold attrI
  rw [if_pos hh, Int.toNat_natCast, List.getElem?_map, List.getElem?_eq_getElem hn]; rfl
theorem getD_at {ats : List At} {k : Nat} (h : k < ats.length) : ats.getD k (⟨#[]⟩, ⟨#[]⟩) = ats[k] := by rw [List.getD_eq_getElem?_getD, List.getElem?_eq_getElem h]; rfl
theorem hasV_id {ats : List At} {nm : By} : hasV ats ⟨35, nm⟩ = (match idxA kId ats with | some k => decide ((ats.getD k (⟨#[]⟩, ⟨#[]⟩)).2 = bs nm) | none => false) := by
  have h0 : hasV ats ⟨35, nm⟩ = decide (attrV kId ats = some (bs nm)) := rfl
  rw [h0]
  cases h : idxA kId ats with
  | none => rw [attrV_idx_none h]; simp
  | some k =>
    obtain ⟨h1, h2⟩ := attrV_idx h
    dsimp only
    rw [h2, getD_at h1]
    simp
theorem hasV_class {ats : List At} {nm : By} (hne : nm ≠ []) : hasV ats ⟨46, nm⟩ = (match idxA kClass ats with | some k => (idxL nm (cutL 32 (ats.getD k (⟨#[]⟩, ⟨#[]⟩)).2.data.toList)).isSome | none => false) := by
  have h0 : hasV ats ⟨46, nm⟩ = decide (nm ∈ cutL 32 (((attrV kClass ats).getD ⟨#[]⟩).data.toList)) := rfl
  rw [h0]
  cases h : idxA kClass ats with
  | none =>
    rw [attrV_idx_none h]
    show decide (nm ∈ [[]]) = false
    exact decide_eq_false (fun h => hne (List.mem_singleton.1 h))
  | some k =>
    obtain ⟨h1, h2⟩ := attrV_idx h
    dsimp only
    rw [h2, idxL_mem, getD_at h1]; rfl
theorem hasV_at {ats : List At} {nm : By} : hasV ats ⟨91, nm⟩ = (idxA (bs nm) ats).isSome := by
  have h0 : hasV ats ⟨91, nm⟩ = (attrV (bs nm) ats).isSome := rfl
  rw [h0]
  cases h : idxA (bs nm) ats with
  | none => rw [attrV_idx_none h]; rfl
  | some k =>
    obtain ⟨h1, h2⟩ := attrV_idx h
    rw [h2]; rfl
theorem optI_nn (o : Option Nat) : decide ((0 : Int) ≤ optI o) = o.isSome := by
  cases o with
  | none => rfl
  | some k => exact decide_eq_true (by show (0 : Int) ≤ (k : Int); omega)
/-- The two boxes of stepFits. -/
structure StB (w W : World) (v1 v2 : Value) : Prop where
  bel : Below w.heap.size w W
  lt : w.heap.size + 1 < W.heap.size
  c1 : W.cell? ⟨w.heap.size, 1, none⟩ = some v1
  c2 : W.cell? ⟨w.heap.size + 1, 1, none⟩ = some v2
theorem StB.step {w W W' : World} {v1 v2 : Value} (h : StB w W v1 v2) (hb : Below W.heap.size W W') : StB w W' v1 v2 :=
  ⟨below_via h.bel hb, Nat.lt_of_lt_of_le h.lt hb.size, (hb.cell (p := ⟨w.heap.size, 1, none⟩) (by have := h.lt; show w.heap.size < _; omega)).trans h.c1, (hb.cell (p := ⟨w.heap.size + 1, 1, none⟩) h.lt).trans h.c2⟩
theorem all_stop {α : Type} {p : α → Bool} {l : List α} {k : Nat} (hk : k < l.length) (h : l.all p = (l.drop k).all p) (hf : p l[k] = false) : l.all p = false := by
  rw [h, List.drop_eq_getElem_cons hk, List.all_cons, hf]; rfl
theorem all_next {α : Type} {p : α → Bool} {l : List α} {k : Nat} (hk : k < l.length) (h : l.all p = (l.drop k).all p) (hf : p l[k] = true) : l.all p = (l.drop (k + 1)).all p := by
  rw [h, List.drop_eq_getElem_cons hk, List.all_cons, hf]; rfl
end Lead.Rc
namespace Go.Proofs.YteaipondofbecaaGreatDoor
open Go.RowKit Lead Lead.Dc Lead.Pk Lead.Rc
set_option maxHeartbeats 8000000 in
set_option maxRecDepth 100000 in
theorem rstepfits_any (base b : Nat) (v : Value) (l : List ReX) (n : Nat) (x : St) (wo : Option Addr) (wl wc : Nat) (w : World) (h : RDoc RT_ base w b v l) (hn : n < l.length) (hl : l.length ≤ 1000000) (hin : l[n].inn = true) (hS : SlA EWs w wo wl wc x.ws) (hsg : ∀ u ∈ x.ws, isSg u.sign = true ∧ u.name ≠ []) (hat : ∀ a ∈ l[n].ats, a.2.size ≤ 100000) :
    Calls Tryz.prog 131 #[.pointer (some ⟨b, 0, none⟩), .agg #[.string (bs x.nm), .slice wo wl wc, .bool x.right], .int .i64 (n : Int)] w fun en w' => en = .returned (.bool (stR l[n].nm l[n].ats x)) ∧ Below w.heap.size w w' := by
  have cA := fun (nm : ByteArray) (W : World) (hW : Below w.heap.size w W) => rattr_any base b v l (n : Int) nm W (h.keep hW) hl
  simp only [attrI_in hn hin] at cA
  obtain ⟨g, cap, hv, hgw, _⟩ := h.v_form hn
  subst hv
  obtain ⟨q0, q1, q2, q3, q4⟩ := h.cells rfl hn
  have c0 := h.c0
  have hbl := h.lt
  have hsub := h.sub _ (List.getElem_mem hn)
  obtain ⟨e, he⟩ : ∃ x, l[n] = x := ⟨_, rfl⟩
  rw [he] at q0 q1 q2 q3 q4 hsub hat
  simp only [he] at cA
  rw [he]
  have hSA := sla_of (show OwnR EAt w base 59 (.slice e.ao e.al e.ac) e.ats from hsub.ats)
  have g1 : (n : Int) < (l.length : Int) := by omega
  have hlm : wl ≤ 9223372036854775807 := by have h := hS.2.2.1; have h' := hS.2.1; unfold maxLen at h; omega
  have ham : e.al ≤ 9223372036854775807 := by have h := hSA.2.2.1; have h' := hSA.2.1; unfold maxLen at h; omega
  obtain ⟨nm, ws, rt⟩ := x
  dsimp only at hS hsg ⊢
  have hx0 := bs_eqL nm []
  have hx42 := bs_eqL nm [42]
  have hxe := ba_eqL (bs nm) e.nm
  have hst : stR e.nm e.ats ⟨nm, ws, rt⟩ = ((decide (nm = []) || decide (nm = [42]) || decide (bs nm = e.nm)) && ws.all (hasV e.ats)) := rfl
  rw [hst]
  obtain ⟨A, hA⟩ : ∃ u, bs nm = u := ⟨_, rfl⟩
  rw [hA] at hx0 hx42 hxe ⊢
  obtain ⟨EN, hEN⟩ : ∃ u, e.nm = u := ⟨_, rfl⟩
  rw [hEN] at q0 hxe ⊢
  obtain ⟨NB, hNB⟩ : ∃ u, (decide (nm = []) || decide (nm = [42]) || decide (A = EN)) = u := ⟨_, rfl⟩
  rw [hNB]
  cases NB with
  | false =>
    rw [Bool.or_eq_false_iff, Bool.or_eq_false_iff] at hNB
    rw [hNB.1.1] at hx0
    rw [hNB.1.2] at hx42
    rw [hNB.2] at hxe
    have H_cA := Lib.hid cA
    clear cA
    have H_h := Lib.hid h
    clear h
    have H_hsub := Lib.hid hsub
    clear hsub
    have H_hSA := Lib.hid hSA
    clear hSA
    have H_hS := Lib.hid hS
    clear hS
    have H_hsg := Lib.hid hsg
    clear hsg
    have H_hat := Lib.hid hat
    clear hat
    have H_hst := Lib.hid hst
    clear hst
    have H_hA := Lib.hid hA
    clear hA
    have H_hEN := Lib.hid hEN
    clear hEN
    have H_hNB := Lib.hid hNB
    clear hNB
    have H_he := Lib.hid he
    clear he
    have H_hin := Lib.hid hin
    clear hin
    go_enter Tryz.func131, Tryz.ntmps131
    go_wp2_with fail
    go_returns
    exact ⟨rfl, by repeat' (first | (with_reducible first | exact bwR _ _ | assumption | refine bdn ?_ | refine bwA ?_ ?_ _ | refine bwD ?_ | refine bwS ?_ ?_ _) | omega | (simp <;> omega))⟩
  | true =>
    rw [Bool.or_eq_true, Bool.or_eq_true] at hNB
    have H_cA := Lib.hid cA
    clear cA
    have H_h := Lib.hid h
    clear h
    have H_hsub := Lib.hid hsub
    clear hsub
    have H_hSA := Lib.hid hSA
    clear hSA
    have H_hS := Lib.hid hS
    clear hS
    have H_hsg := Lib.hid hsg
    clear hsg
    have H_hat := Lib.hid hat
    clear hat
    have H_hst := Lib.hid hst
    clear hst
    have H_hA := Lib.hid hA
    clear hA
    have H_hEN := Lib.hid hEN
    clear hEN
    have H_hNB := Lib.hid hNB
    clear hNB
    have H_he := Lib.hid he
    clear he
    have H_hin := Lib.hid hin
    clear hin
    have H_hx0 := Lib.hid hx0
    clear hx0
    have H_hx42 := Lib.hid hx42
    clear hx42
    have H_hxe := Lib.hid hxe
    clear hxe
    go_enter Tryz.func131, Tryz.ntmps131
    go_upto_region 2 with fail
    go_cut [34] from 20 to 34 (fun s34 wx => s34 = .bool false ∧ wx = ((w.alloc (.cells #[.string A, .slice wo wl wc, .bool rt] 213)).alloc (.cells #[.string EN, .slice e.ao e.al e.ac, .int .i64 e.par, .slice e.ko e.kl e.kc, .bool e.inn] 62)))
    case first =>
      have hx0 := H_hx0.out
      have hx42 := H_hx42.out
      have hxe := H_hxe.out
      by_cases d1 : decide (nm = []) = true
      · rw [d1] at hx0
        clear hx42 hxe d1
        go_wp2_with fail
        go_meet
        exact ⟨rfl, rfl⟩
      rw [Bool.not_eq_true] at d1
      rw [d1] at hx0
      by_cases d2 : decide (nm = [42]) = true
      · rw [d2] at hx42
        clear hxe d1 d2
        go_wp2_with fail
        go_meet
        exact ⟨rfl, rfl⟩
      rw [Bool.not_eq_true] at d2
      rw [d2] at hx42
      have d3 : decide (A = EN) = true := by
        rcases H_hNB.out with (h | h) | h
        · rw [d1] at h; cases h
        · rw [d2] at h; cases h
        · exact h
      rw [d3] at hxe
      clear d1 d2 d3
      go_wp2_with fail
      go_meet
      exact ⟨rfl, rfl⟩
    obtain ⟨rfl, rfl⟩ := hcut
    go_wp2_with fail
    go_loopw [8] (fun t8 wr => ∃ k : Nat, k ≤ wl ∧ t8 = .int .i64 k ∧ RowKit.Hid (ws.all (hasV e.ats) = (ws.drop k).all (hasV e.ats)) ∧ StB w wr (.slice wo wl wc) (.slice e.ao e.al e.ac)) (fun t8 _ => wl - (intOf t8).toNat)
    case atStart =>
      refine ⟨0, Nat.zero_le _, rfl, Lib.hid (by rw [List.drop_zero]), ⟨by repeat' (first | (with_reducible first | exact bwR _ _ | assumption | refine bdn ?_ | refine bwA ?_ ?_ _ | refine bwD ?_ | refine bwS ?_ ?_ _) | omega | (simp <;> omega)), by simp, ?_, ?_⟩⟩
      · rw [World.cell?_alloc_lt _ _ _ (by simp)]; exact (World.cell?_alloc_new _ _ _ _).trans rfl
      · have h := World.cell?_alloc_new (w.alloc (.cells #[.string A, .slice wo wl wc, .bool rt] 213)) #[.string EN, .slice e.ao e.al e.ac, .int .i64 e.par, .slice e.ko e.kl e.kc, .bool e.inn] 62 1
        rw [World.size_alloc] at h
        exact h
    case round =>
      obtain ⟨k, hk, rfl, H_k, hB⟩ := hrel
      have hbx1 := hB.c1
      have hbx2 := hB.c2
      have hBw := hB.bel
      by_cases hlt : k < wl
      · have hk' : k < ws.length := by have := H_hS.out.1; omega
        obtain ⟨gw, off, rfl, hgww, hrow⟩ := H_hS.out.2.2.2.resolve_left (by intro h; rw [h] at hk'; simp at hk')
        have hw0 : wr.cell? ⟨gw, off + k, none⟩ = some (.string (bs (ws[k].sign :: ws[k].name))) := by
          have h := (hrow.keep hBw hgww) k hk' 0 _ rfl
          simpa [EWs] using h
        have hsgk := H_hsg.out _ (List.getElem_mem hk')
        have hstop := fun hf => all_stop hk' H_k.out hf
        have hnext := fun hf => all_next hk' H_k.out hf
        obtain ⟨u, hu⟩ : ∃ u, ws[k] = u := ⟨_, rfl⟩
        rw [hu] at hw0 hsgk hstop hnext
        obtain ⟨sg, un⟩ := u
        obtain ⟨S, hSS⟩ : ∃ u, bs (sg :: un) = u := ⟨_, rfl⟩
        have hsz : 0 < S.size := by
          have h : S.size = (sg :: un).length := by rw [← hSS]; rfl
          rw [h]; simp
        have hSd : S.data.toList = sg :: un := by rw [← hSS]; rfl
        have hc0 : S[0]'hsz = sg := by
          have h := Lib.data_getElem? S 0 hsz
          rw [hSd] at h
          injection h with h
          exact h.symm
        have e1 : S.extract 1 S.size = bs un := by rw [ext_from, hSd]; rfl
        have gS1 : (1 : Int) ≤ (S.size : Int) := by omega
        have gSz : (0 : Int) < (S.size : Int) := by omega
        dsimp only at hw0 hsgk
        rw [hSS] at hw0
        have gk : IntKind.i64.wrap ((k : Int) + 1) = ((k + 1 : Nat) : Int) := IntWalk.i64_in _ (by omega)
        have gkl : (k : Int) < (wl : Int) := by omega
        obtain ⟨UN, hUN⟩ : ∃ u, bs un = u := ⟨_, rfl⟩
        rw [hUN] at e1
        have hsg3 : sg = 35 ∨ sg = 46 ∨ sg = 91 := by
          have h := hsgk.1
          unfold isSg at h
          simp only [Bool.or_eq_true, decide_eq_true_eq] at h
          rcases h with (h | h) | h
          · exact .inl h
          · exact .inr (.inl h)
          · exact .inr (.inr h)
        clear hrow
        have H_hu := Lib.hid hu
        clear hu
        have H_hsgk := Lib.hid hsgk
        clear hsgk
        have H_hSS := Lib.hid hSS
        clear hSS
        have H_hUN := Lib.hid hUN
        clear hUN
        have H_hSd := Lib.hid hSd
        clear hSd
        rcases hsg3 with rfl | rfl | rfl
        · have hV := hasV_id (ats := e.ats) (nm := un)
          have cI := H_cA.out kId
          cases ho : idxA kId e.ats with
          | none =>
            rw [ho] at cI hV
            have hno : (true && ws.all (hasV e.ats)) = false := by rw [hstop hV]; rfl
            have hk0 : kId = ⟨#[105, 100]⟩ := rfl
            rw [hk0] at cI
            have H_cI := Lib.hid cI
            clear cI
            have H_hV := Lib.hid hV
            clear hV
            have H_ho := Lib.hid ho
            clear ho
            have H_hno := Lib.hid hno
            clear hno
            have H_hstop := Lib.hid hstop
            clear hstop
            have H_hnext := Lib.hid hnext
            clear hnext
            have H_hk0 := Lib.hid hk0
            clear hk0
            go_wp2_with fail
            refine (H_cI.out _ hBw).mono ?_
            rintro _ w2 ⟨rfl, hb2⟩
            have hB2 := hB.step hb2
            have hBw2 := hB2.bel
            have hbx3 := hB2.c2
            have HR : ∀ W, Below w2.heap.size w2 W → W.cell? ⟨w.heap.size + 1, 1, none⟩ = some (.slice e.ao e.al e.ac) := fun W hW => (hB2.step hW).c2
            simp only [optI]
            clear hb2 hbx1 hbx2 hw0
            have H_HR := Lib.hid HR
            clear HR
            go_wp2_with fail
            refine wp_region_held_drew (S := fun W => Below w2.heap.size w2 W) (by kernel_rfl) (by repeat' (first | (with_reducible first | exact bwR _ _ | assumption | refine bdn ?_ | refine bwA ?_ ?_ _ | refine bwD ?_ | refine bwS ?_ ?_ _) | omega | (simp <;> omega))) (fun hHeld => ?_)
            generalize w2.drew = wg at hHeld ⊢
            first
              | (refine wpAnyH_take (i := 0) (v := ?_) rfl (by kernel_rfl) (by kernel_rfl) (by kernel_rfl) (fun _ _ _ h => h) (Or.inl ⟨by rfl, ?_⟩) (by assumption) ?_
                 rotate_left
                 · (intro W hW; have hf := H_HR.out W hW; go_simp; try (with_reducible rfl)))
              | (refine wpAnyH_take (i := 0) (v := undef) rfl (by kernel_rfl) (by kernel_rfl) (by kernel_rfl) (fun _ _ _ h => h) (Or.inr ⟨by rfl, rfl⟩) (by assumption) ?_)
            try simp only [List.getElem_toArray, List.getElem_cons_zero, Act.put, List.setIfInBounds_toArray, List.set_cons_zero, List.set_cons_succ]
            first
              | (refine wpAnyH_take (i := 1) (v := ?_) rfl (by kernel_rfl) (by kernel_rfl) (by kernel_rfl) (fun _ _ _ h => h) (Or.inl ⟨by rfl, ?_⟩) (by assumption) ?_
                 rotate_left
                 · (intro W hW; have hf := H_HR.out W hW; go_simp; try (with_reducible rfl)))
              | (refine wpAnyH_take (i := 1) (v := undef) rfl (by kernel_rfl) (by kernel_rfl) (by kernel_rfl) (fun _ _ _ h => h) (Or.inr ⟨by rfl, rfl⟩) (by assumption) ?_)
            try simp only [List.getElem_toArray, List.getElem_cons_zero, List.getElem_cons_succ, Act.put, List.setIfInBounds_toArray, List.set_cons_zero, List.set_cons_succ]
            first
              | (refine wpAnyH_take (i := 2) (v := ?_) rfl (by kernel_rfl) (by kernel_rfl) (by kernel_rfl) (fun _ _ _ h => h) (Or.inl ⟨by rfl, ?_⟩) (by assumption) ?_
                 rotate_left
                 · (intro W hW; have hf := H_HR.out W hW; go_simp; try (with_reducible rfl)))
              | (refine wpAnyH_take (i := 2) (v := undef) rfl (by kernel_rfl) (by kernel_rfl) (by kernel_rfl) (fun _ _ _ h => h) (Or.inr ⟨by rfl, rfl⟩) (by assumption) ?_)
            try simp only [List.getElem_toArray, List.getElem_cons_zero, List.getElem_cons_succ, Act.put, List.setIfInBounds_toArray, List.set_cons_zero, List.set_cons_succ]
            first
              | (refine wpAnyH_take (i := 3) (v := ?_) rfl (by kernel_rfl) (by kernel_rfl) (by kernel_rfl) (fun _ _ _ h => h) (Or.inl ⟨by rfl, ?_⟩) (by assumption) ?_
                 rotate_left
                 · (intro W hW; have hf := H_HR.out W hW; go_simp; try (with_reducible rfl)))
              | (refine wpAnyH_take (i := 3) (v := undef) rfl (by kernel_rfl) (by kernel_rfl) (by kernel_rfl) (fun _ _ _ h => h) (Or.inr ⟨by rfl, rfl⟩) (by assumption) ?_)
            try simp only [List.getElem_toArray, List.getElem_cons_zero, List.getElem_cons_succ, Act.put, List.setIfInBounds_toArray, List.set_cons_zero, List.set_cons_succ]
            first
              | (refine wpAnyH_take (i := 4) (v := ?_) rfl (by kernel_rfl) (by kernel_rfl) (by kernel_rfl) (fun _ _ _ h => h) (Or.inl ⟨by rfl, ?_⟩) (by assumption) ?_
                 rotate_left
                 · (intro W hW; have hf := H_HR.out W hW; go_simp; try (with_reducible rfl)))
              | (refine wpAnyH_take (i := 4) (v := undef) rfl (by kernel_rfl) (by kernel_rfl) (by kernel_rfl) (fun _ _ _ h => h) (Or.inr ⟨by rfl, rfl⟩) (by assumption) ?_)
            try simp only [List.getElem_toArray, List.getElem_cons_zero, List.getElem_cons_succ, Act.put, List.setIfInBounds_toArray, List.set_cons_zero, List.set_cons_succ]
            first
              | (refine wpAnyH_take (i := 5) (v := ?_) rfl (by kernel_rfl) (by kernel_rfl) (by kernel_rfl) (fun _ _ _ h => h) (Or.inl ⟨by rfl, ?_⟩) (by assumption) ?_
                 rotate_left
                 · (intro W hW; have hf := H_HR.out W hW; go_simp; try (with_reducible rfl)))
              | (refine wpAnyH_take (i := 5) (v := undef) rfl (by kernel_rfl) (by kernel_rfl) (by kernel_rfl) (fun _ _ _ h => h) (Or.inr ⟨by rfl, rfl⟩) (by assumption) ?_)
            try simp only [List.getElem_toArray, List.getElem_cons_zero, List.getElem_cons_succ, Act.put, List.setIfInBounds_toArray, List.set_cons_zero, List.set_cons_succ]
            first
              | (refine wpAnyH_take (i := 6) (v := ?_) rfl (by kernel_rfl) (by kernel_rfl) (by kernel_rfl) (fun _ _ _ h => h) (Or.inl ⟨by rfl, ?_⟩) (by assumption) ?_
                 rotate_left
                 · (intro W hW; have hf := H_HR.out W hW; go_simp; try (with_reducible rfl)))
              | (refine wpAnyH_take (i := 6) (v := undef) rfl (by kernel_rfl) (by kernel_rfl) (by kernel_rfl) (fun _ _ _ h => h) (Or.inr ⟨by rfl, rfl⟩) (by assumption) ?_)
            try simp only [List.getElem_toArray, List.getElem_cons_zero, List.getElem_cons_succ, Act.put, List.setIfInBounds_toArray, List.set_cons_zero, List.set_cons_succ]
            first
              | (refine wpAnyH_take (i := 7) (v := ?_) rfl (by kernel_rfl) (by kernel_rfl) (by kernel_rfl) (fun _ _ _ h => h) (Or.inl ⟨by rfl, ?_⟩) (by assumption) ?_
                 rotate_left
                 · (intro W hW; have hf := H_HR.out W hW; go_simp; try (with_reducible rfl)))
              | (refine wpAnyH_take (i := 7) (v := undef) rfl (by kernel_rfl) (by kernel_rfl) (by kernel_rfl) (fun _ _ _ h => h) (Or.inr ⟨by rfl, rfl⟩) (by assumption) ?_)
            try simp only [List.getElem_toArray, List.getElem_cons_zero, List.getElem_cons_succ, Act.put, List.setIfInBounds_toArray, List.set_cons_zero, List.set_cons_succ]
            first
              | (refine wpAnyH_take (i := 8) (v := ?_) rfl (by kernel_rfl) (by kernel_rfl) (by kernel_rfl) (fun _ _ _ h => h) (Or.inl ⟨by rfl, ?_⟩) (by assumption) ?_
                 rotate_left
                 · (intro W hW; have hf := H_HR.out W hW; go_simp; try (with_reducible rfl)))
              | (refine wpAnyH_take (i := 8) (v := undef) rfl (by kernel_rfl) (by kernel_rfl) (by kernel_rfl) (fun _ _ _ h => h) (Or.inr ⟨by rfl, rfl⟩) (by assumption) ?_)
            try simp only [List.getElem_toArray, List.getElem_cons_zero, List.getElem_cons_succ, Act.put, List.setIfInBounds_toArray, List.set_cons_zero, List.set_cons_succ]
            first
              | (refine wpAnyH_take (i := 9) (v := ?_) rfl (by kernel_rfl) (by kernel_rfl) (by kernel_rfl) (fun _ _ _ h => h) (Or.inl ⟨by rfl, ?_⟩) (by assumption) ?_
                 rotate_left
                 · (intro W hW; have hf := H_HR.out W hW; go_simp; try (with_reducible rfl)))
              | (refine wpAnyH_take (i := 9) (v := undef) rfl (by kernel_rfl) (by kernel_rfl) (by kernel_rfl) (fun _ _ _ h => h) (Or.inr ⟨by rfl, rfl⟩) (by assumption) ?_)
            try simp only [List.getElem_toArray, List.getElem_cons_zero, List.getElem_cons_succ, Act.put, List.setIfInBounds_toArray, List.set_cons_zero, List.set_cons_succ]
            first
              | (refine wpAnyH_take (i := 10) (v := ?_) rfl (by kernel_rfl) (by kernel_rfl) (by kernel_rfl) (fun _ _ _ h => h) (Or.inl ⟨by rfl, ?_⟩) (by assumption) ?_
                 rotate_left
                 · (intro W hW; have hf := H_HR.out W hW; go_simp; try (with_reducible rfl)))
              | (refine wpAnyH_take (i := 10) (v := undef) rfl (by kernel_rfl) (by kernel_rfl) (by kernel_rfl) (fun _ _ _ h => h) (Or.inr ⟨by rfl, rfl⟩) (by assumption) ?_)
            try simp only [List.getElem_toArray, List.getElem_cons_zero, List.getElem_cons_succ, Act.put, List.setIfInBounds_toArray, List.set_cons_zero, List.set_cons_succ]
            first
              | (refine wpAnyH_take (i := 11) (v := ?_) rfl (by kernel_rfl) (by kernel_rfl) (by kernel_rfl) (fun _ _ _ h => h) (Or.inl ⟨by rfl, ?_⟩) (by assumption) ?_
                 rotate_left
                 · (intro W hW; have hf := H_HR.out W hW; go_simp; try (with_reducible rfl)))
              | (refine wpAnyH_take (i := 11) (v := undef) rfl (by kernel_rfl) (by kernel_rfl) (by kernel_rfl) (fun _ _ _ h => h) (Or.inr ⟨by rfl, rfl⟩) (by assumption) ?_)
            try simp only [List.getElem_toArray, List.getElem_cons_zero, List.getElem_cons_succ, Act.put, List.setIfInBounds_toArray, List.set_cons_zero, List.set_cons_succ]
            first
              | (refine wpAnyH_take (i := 12) (v := ?_) rfl (by kernel_rfl) (by kernel_rfl) (by kernel_rfl) (fun _ _ _ h => h) (Or.inl ⟨by rfl, ?_⟩) (by assumption) ?_
                 rotate_left
                 · (intro W hW; have hf := H_HR.out W hW; go_simp; try (with_reducible rfl)))
              | (refine wpAnyH_take (i := 12) (v := undef) rfl (by kernel_rfl) (by kernel_rfl) (by kernel_rfl) (fun _ _ _ h => h) (Or.inr ⟨by rfl, rfl⟩) (by assumption) ?_)
            try simp only [List.getElem_toArray, List.getElem_cons_zero, List.getElem_cons_succ, Act.put, List.setIfInBounds_toArray, List.set_cons_zero, List.set_cons_succ]
            first
              | (refine wpAnyH_take (i := 13) (v := ?_) rfl (by kernel_rfl) (by kernel_rfl) (by kernel_rfl) (fun _ _ _ h => h) (Or.inl ⟨by rfl, ?_⟩) (by assumption) ?_
                 rotate_left
                 · (intro W hW; have hf := H_HR.out W hW; go_simp; try (with_reducible rfl)))
              | (refine wpAnyH_take (i := 13) (v := undef) rfl (by kernel_rfl) (by kernel_rfl) (by kernel_rfl) (fun _ _ _ h => h) (Or.inr ⟨by rfl, rfl⟩) (by assumption) ?_)
            try simp only [List.getElem_toArray, List.getElem_cons_zero, List.getElem_cons_succ, Act.put, List.setIfInBounds_toArray, List.set_cons_zero, List.set_cons_succ]
            refine wpAnyH_done (by kernel_rfl) ?_ _
            go_wp2_with fail
            go_returns
            exact ⟨congrArg (fun t => Ending.returned (.bool t)) H_hno.out.symm, below_via hBw2 hHeld⟩
          | some j =>
            rw [ho] at cI hV
            dsimp only at hV
            obtain ⟨hj, _⟩ := attrV_idx ho
            obtain ⟨ga, offa, hao, hga, hrowa⟩ := H_hSA.out.2.2.2.resolve_left (by intro h; rw [h] at hj; simp at hj)
            have hqa := fun (W : World) (hW : Below w.heap.size w W) => (hrowa.keep hW hga) j hj 1 _ rfl
            rw [getD_at hj] at hV
            have hatj := H_hat.out _ (List.getElem_mem hj)
            obtain ⟨AV, hAV⟩ : ∃ u, e.ats[j].2 = u := ⟨_, rfl⟩
            have hqa' : ∀ W, Below w.heap.size w W → W.cell? ⟨ga, offa + j * 2 + 1, none⟩ = some (.string AV) := fun W hW => by rw [← hAV]; exact hqa W hW
            have gjl : (j : Int) < (e.al : Int) := by have := H_hSA.out.1; omega
            rw [hAV] at hV hatj
            have hqq := ba_eqL AV UN
            have hk0 : kId = ⟨#[105, 100]⟩ := rfl
            rw [hk0] at cI
            have gj0 : (0 : Int) ≤ (j : Int) := by omega
            by_cases hav : AV = UN
            · rw [decide_eq_true hav] at hqq
              have hyes := hnext (by rw [hV]; exact decide_eq_true (by rw [hav]; exact H_hUN.out.symm))
              have H_cI := Lib.hid cI
              clear cI
              have H_hV := Lib.hid hV
              clear hV
              have H_ho := Lib.hid ho
              clear ho
              have H_hyes := Lib.hid hyes
              clear hyes
              have H_hstop := Lib.hid hstop
              clear hstop
              have H_hnext := Lib.hid hnext
              clear hnext
              have H_hk0 := Lib.hid hk0
              clear hk0
              have H_hqa := Lib.hid hqa
              clear hqa
              have H_hqa' := Lib.hid hqa'
              clear hqa'
              have H_hAV := Lib.hid hAV
              clear hAV
              have H_hav := Lib.hid hav
              clear hav
              have H_hrowa := Lib.hid hrowa
              clear hrowa
              have H_hao := Lib.hid hao
              clear hao
              go_wp2_with fail
              refine (H_cI.out _ hBw).mono ?_
              rintro _ w2 ⟨rfl, hb2⟩
              have hB2 := hB.step hb2
              have hBw2 := hB2.bel
              have HR : ∀ W, Below w2.heap.size w2 W → W.cell? ⟨w.heap.size + 1, 1, none⟩ = some (.slice (some ⟨ga, offa, none⟩) e.al e.ac) ∧ W.cell? ⟨ga, offa + j * 2 + 1, none⟩ = some (.string AV) := fun W hW => ⟨by rw [← H_hao.out]; exact (hB2.step hW).c2, H_hqa'.out W (below_via hBw2 hW)⟩
              simp only [optI]
              clear hb2 hbx1 hbx2 hw0
              have H_HR := Lib.hid HR
              clear HR
              go_wp2_with fail
              refine wp_region_held_drew (S := fun W => Below w2.heap.size w2 W) (by kernel_rfl) (by repeat' (first | (with_reducible first | exact bwR _ _ | assumption | refine bdn ?_ | refine bwA ?_ ?_ _ | refine bwD ?_ | refine bwS ?_ ?_ _) | omega | (simp <;> omega))) (fun hHeld => ?_)
              generalize w2.drew = wg at hHeld ⊢
              first
                | (refine wpAnyH_take (i := 0) (v := ?_) rfl (by kernel_rfl) (by kernel_rfl) (by kernel_rfl) (fun _ _ _ h => h) (Or.inl ⟨by rfl, ?_⟩) (by assumption) ?_
                   rotate_left
                   · (intro W hW; have hf := H_HR.out W hW; go_simp; try (with_reducible rfl)))
                | (refine wpAnyH_take (i := 0) (v := undef) rfl (by kernel_rfl) (by kernel_rfl) (by kernel_rfl) (fun _ _ _ h => h) (Or.inr ⟨by rfl, rfl⟩) (by assumption) ?_)
              try simp only [List.getElem_toArray, List.getElem_cons_zero, Act.put, List.setIfInBounds_toArray, List.set_cons_zero, List.set_cons_succ]
              first
                | (refine wpAnyH_take (i := 1) (v := ?_) rfl (by kernel_rfl) (by kernel_rfl) (by kernel_rfl) (fun _ _ _ h => h) (Or.inl ⟨by rfl, ?_⟩) (by assumption) ?_
                   rotate_left
                   · (intro W hW; have hf := H_HR.out W hW; go_simp; try (with_reducible rfl)))
                | (refine wpAnyH_take (i := 1) (v := undef) rfl (by kernel_rfl) (by kernel_rfl) (by kernel_rfl) (fun _ _ _ h => h) (Or.inr ⟨by rfl, rfl⟩) (by assumption) ?_)
              try simp only [List.getElem_toArray, List.getElem_cons_zero, List.getElem_cons_succ, Act.put, List.setIfInBounds_toArray, List.set_cons_zero, List.set_cons_succ]
              first
                | (refine wpAnyH_take (i := 2) (v := ?_) rfl (by kernel_rfl) (by kernel_rfl) (by kernel_rfl) (fun _ _ _ h => h) (Or.inl ⟨by rfl, ?_⟩) (by assumption) ?_
                   rotate_left
                   · (intro W hW; have hf := H_HR.out W hW; go_simp; try (with_reducible rfl)))
                | (refine wpAnyH_take (i := 2) (v := undef) rfl (by kernel_rfl) (by kernel_rfl) (by kernel_rfl) (fun _ _ _ h => h) (Or.inr ⟨by rfl, rfl⟩) (by assumption) ?_)
              try simp only [List.getElem_toArray, List.getElem_cons_zero, List.getElem_cons_succ, Act.put, List.setIfInBounds_toArray, List.set_cons_zero, List.set_cons_succ]
              first
                | (refine wpAnyH_take (i := 3) (v := ?_) rfl (by kernel_rfl) (by kernel_rfl) (by kernel_rfl) (fun _ _ _ h => h) (Or.inl ⟨by rfl, ?_⟩) (by assumption) ?_
                   rotate_left
                   · (intro W hW; have hf := H_HR.out W hW; go_simp; try (with_reducible rfl)))
                | (refine wpAnyH_take (i := 3) (v := undef) rfl (by kernel_rfl) (by kernel_rfl) (by kernel_rfl) (fun _ _ _ h => h) (Or.inr ⟨by rfl, rfl⟩) (by assumption) ?_)
              try simp only [List.getElem_toArray, List.getElem_cons_zero, List.getElem_cons_succ, Act.put, List.setIfInBounds_toArray, List.set_cons_zero, List.set_cons_succ]
              first
                | (refine wpAnyH_take (i := 4) (v := ?_) rfl (by kernel_rfl) (by kernel_rfl) (by kernel_rfl) (fun _ _ _ h => h) (Or.inl ⟨by rfl, ?_⟩) (by assumption) ?_
                   rotate_left
                   · (intro W hW; have hf := H_HR.out W hW; go_simp; try (with_reducible rfl)))
                | (refine wpAnyH_take (i := 4) (v := undef) rfl (by kernel_rfl) (by kernel_rfl) (by kernel_rfl) (fun _ _ _ h => h) (Or.inr ⟨by rfl, rfl⟩) (by assumption) ?_)
              try simp only [List.getElem_toArray, List.getElem_cons_zero, List.getElem_cons_succ, Act.put, List.setIfInBounds_toArray, List.set_cons_zero, List.set_cons_succ]
              first
                | (refine wpAnyH_take (i := 5) (v := ?_) rfl (by kernel_rfl) (by kernel_rfl) (by kernel_rfl) (fun _ _ _ h => h) (Or.inl ⟨by rfl, ?_⟩) (by assumption) ?_
                   rotate_left
                   · (intro W hW; have hf := H_HR.out W hW; go_simp; try (with_reducible rfl)))
                | (refine wpAnyH_take (i := 5) (v := undef) rfl (by kernel_rfl) (by kernel_rfl) (by kernel_rfl) (fun _ _ _ h => h) (Or.inr ⟨by rfl, rfl⟩) (by assumption) ?_)
              try simp only [List.getElem_toArray, List.getElem_cons_zero, List.getElem_cons_succ, Act.put, List.setIfInBounds_toArray, List.set_cons_zero, List.set_cons_succ]
              first
                | (refine wpAnyH_take (i := 6) (v := ?_) rfl (by kernel_rfl) (by kernel_rfl) (by kernel_rfl) (fun _ _ _ h => h) (Or.inl ⟨by rfl, ?_⟩) (by assumption) ?_
                   rotate_left
                   · (intro W hW; have hf := H_HR.out W hW; go_simp; try (with_reducible rfl)))
                | (refine wpAnyH_take (i := 6) (v := undef) rfl (by kernel_rfl) (by kernel_rfl) (by kernel_rfl) (fun _ _ _ h => h) (Or.inr ⟨by rfl, rfl⟩) (by assumption) ?_)
              try simp only [List.getElem_toArray, List.getElem_cons_zero, List.getElem_cons_succ, Act.put, List.setIfInBounds_toArray, List.set_cons_zero, List.set_cons_succ]
              first
                | (refine wpAnyH_take (i := 7) (v := ?_) rfl (by kernel_rfl) (by kernel_rfl) (by kernel_rfl) (fun _ _ _ h => h) (Or.inl ⟨by rfl, ?_⟩) (by assumption) ?_
                   rotate_left
                   · (intro W hW; have hf := H_HR.out W hW; go_simp; try (with_reducible rfl)))
                | (refine wpAnyH_take (i := 7) (v := undef) rfl (by kernel_rfl) (by kernel_rfl) (by kernel_rfl) (fun _ _ _ h => h) (Or.inr ⟨by rfl, rfl⟩) (by assumption) ?_)
              try simp only [List.getElem_toArray, List.getElem_cons_zero, List.getElem_cons_succ, Act.put, List.setIfInBounds_toArray, List.set_cons_zero, List.set_cons_succ]
              first
                | (refine wpAnyH_take (i := 8) (v := ?_) rfl (by kernel_rfl) (by kernel_rfl) (by kernel_rfl) (fun _ _ _ h => h) (Or.inl ⟨by rfl, ?_⟩) (by assumption) ?_
                   rotate_left
                   · (intro W hW; have hf := H_HR.out W hW; go_simp; try (with_reducible rfl)))
                | (refine wpAnyH_take (i := 8) (v := undef) rfl (by kernel_rfl) (by kernel_rfl) (by kernel_rfl) (fun _ _ _ h => h) (Or.inr ⟨by rfl, rfl⟩) (by assumption) ?_)
              try simp only [List.getElem_toArray, List.getElem_cons_zero, List.getElem_cons_succ, Act.put, List.setIfInBounds_toArray, List.set_cons_zero, List.set_cons_succ]
              first
                | (refine wpAnyH_take (i := 9) (v := ?_) rfl (by kernel_rfl) (by kernel_rfl) (by kernel_rfl) (fun _ _ _ h => h) (Or.inl ⟨by rfl, ?_⟩) (by assumption) ?_
                   rotate_left
                   · (intro W hW; have hf := H_HR.out W hW; go_simp; try (with_reducible rfl)))
                | (refine wpAnyH_take (i := 9) (v := undef) rfl (by kernel_rfl) (by kernel_rfl) (by kernel_rfl) (fun _ _ _ h => h) (Or.inr ⟨by rfl, rfl⟩) (by assumption) ?_)
              try simp only [List.getElem_toArray, List.getElem_cons_zero, List.getElem_cons_succ, Act.put, List.setIfInBounds_toArray, List.set_cons_zero, List.set_cons_succ]
              first
                | (refine wpAnyH_take (i := 10) (v := ?_) rfl (by kernel_rfl) (by kernel_rfl) (by kernel_rfl) (fun _ _ _ h => h) (Or.inl ⟨by rfl, ?_⟩) (by assumption) ?_
                   rotate_left
                   · (intro W hW; have hf := H_HR.out W hW; go_simp; try (with_reducible rfl)))
                | (refine wpAnyH_take (i := 10) (v := undef) rfl (by kernel_rfl) (by kernel_rfl) (by kernel_rfl) (fun _ _ _ h => h) (Or.inr ⟨by rfl, rfl⟩) (by assumption) ?_)
              try simp only [List.getElem_toArray, List.getElem_cons_zero, List.getElem_cons_succ, Act.put, List.setIfInBounds_toArray, List.set_cons_zero, List.set_cons_succ]
              first
                | (refine wpAnyH_take (i := 11) (v := ?_) rfl (by kernel_rfl) (by kernel_rfl) (by kernel_rfl) (fun _ _ _ h => h) (Or.inl ⟨by rfl, ?_⟩) (by assumption) ?_
                   rotate_left
                   · (intro W hW; have hf := H_HR.out W hW; go_simp; try (with_reducible rfl)))
                | (refine wpAnyH_take (i := 11) (v := undef) rfl (by kernel_rfl) (by kernel_rfl) (by kernel_rfl) (fun _ _ _ h => h) (Or.inr ⟨by rfl, rfl⟩) (by assumption) ?_)
              try simp only [List.getElem_toArray, List.getElem_cons_zero, List.getElem_cons_succ, Act.put, List.setIfInBounds_toArray, List.set_cons_zero, List.set_cons_succ]
              first
                | (refine wpAnyH_take (i := 12) (v := ?_) rfl (by kernel_rfl) (by kernel_rfl) (by kernel_rfl) (fun _ _ _ h => h) (Or.inl ⟨by rfl, ?_⟩) (by assumption) ?_
                   rotate_left
                   · (intro W hW; have hf := H_HR.out W hW; go_simp; try (with_reducible rfl)))
                | (refine wpAnyH_take (i := 12) (v := undef) rfl (by kernel_rfl) (by kernel_rfl) (by kernel_rfl) (fun _ _ _ h => h) (Or.inr ⟨by rfl, rfl⟩) (by assumption) ?_)
              try simp only [List.getElem_toArray, List.getElem_cons_zero, List.getElem_cons_succ, Act.put, List.setIfInBounds_toArray, List.set_cons_zero, List.set_cons_succ]
              first
                | (refine wpAnyH_take (i := 13) (v := ?_) rfl (by kernel_rfl) (by kernel_rfl) (by kernel_rfl) (fun _ _ _ h => h) (Or.inl ⟨by rfl, ?_⟩) (by assumption) ?_
                   rotate_left
                   · (intro W hW; have hf := H_HR.out W hW; go_simp; try (with_reducible rfl)))
                | (refine wpAnyH_take (i := 13) (v := undef) rfl (by kernel_rfl) (by kernel_rfl) (by kernel_rfl) (fun _ _ _ h => h) (Or.inr ⟨by rfl, rfl⟩) (by assumption) ?_)
              try simp only [List.getElem_toArray, List.getElem_cons_zero, List.getElem_cons_succ, Act.put, List.setIfInBounds_toArray, List.set_cons_zero, List.set_cons_succ]
              refine wpAnyH_done (by kernel_rfl) ?_ _
              go_wp2_with fail
              go_roundw
              case rel => exact ⟨k + 1, by omega, by go_num, H_hyes, hB2.step hHeld⟩
              case measure => simp [intOf]; omega
            · rw [decide_eq_false hav] at hqq
              have hno : (true && ws.all (hasV e.ats)) = false := by rw [hstop (by rw [hV]; exact decide_eq_false (fun h => hav (h.trans H_hUN.out)))]; rfl
              have H_cI := Lib.hid cI
              clear cI
              have H_hV := Lib.hid hV
              clear hV
              have H_ho := Lib.hid ho
              clear ho
              have H_hno := Lib.hid hno
              clear hno
              have H_hstop := Lib.hid hstop
              clear hstop
              have H_hnext := Lib.hid hnext
              clear hnext
              have H_hk0 := Lib.hid hk0
              clear hk0
              have H_hqa := Lib.hid hqa
              clear hqa
              have H_hqa' := Lib.hid hqa'
              clear hqa'
              have H_hAV := Lib.hid hAV
              clear hAV
              have H_hav := Lib.hid hav
              clear hav
              have H_hrowa := Lib.hid hrowa
              clear hrowa
              have H_hao := Lib.hid hao
              clear hao
              go_wp2_with fail
              refine (H_cI.out _ hBw).mono ?_
              rintro _ w2 ⟨rfl, hb2⟩
              have hB2 := hB.step hb2
              have hBw2 := hB2.bel
              have HR : ∀ W, Below w2.heap.size w2 W → W.cell? ⟨w.heap.size + 1, 1, none⟩ = some (.slice (some ⟨ga, offa, none⟩) e.al e.ac) ∧ W.cell? ⟨ga, offa + j * 2 + 1, none⟩ = some (.string AV) := fun W hW => ⟨by rw [← H_hao.out]; exact (hB2.step hW).c2, H_hqa'.out W (below_via hBw2 hW)⟩
              simp only [optI]
              clear hb2 hbx1 hbx2 hw0
              have H_HR := Lib.hid HR
              clear HR
              go_wp2_with fail
              refine wp_region_held_drew (S := fun W => Below w2.heap.size w2 W) (by kernel_rfl) (by repeat' (first | (with_reducible first | exact bwR _ _ | assumption | refine bdn ?_ | refine bwA ?_ ?_ _ | refine bwD ?_ | refine bwS ?_ ?_ _) | omega | (simp <;> omega))) (fun hHeld => ?_)
              generalize w2.drew = wg at hHeld ⊢
              first
                | (refine wpAnyH_take (i := 0) (v := ?_) rfl (by kernel_rfl) (by kernel_rfl) (by kernel_rfl) (fun _ _ _ h => h) (Or.inl ⟨by rfl, ?_⟩) (by assumption) ?_
                   rotate_left
                   · (intro W hW; have hf := H_HR.out W hW; go_simp; try (with_reducible rfl)))
                | (refine wpAnyH_take (i := 0) (v := undef) rfl (by kernel_rfl) (by kernel_rfl) (by kernel_rfl) (fun _ _ _ h => h) (Or.inr ⟨by rfl, rfl⟩) (by assumption) ?_)
              try simp only [List.getElem_toArray, List.getElem_cons_zero, Act.put, List.setIfInBounds_toArray, List.set_cons_zero, List.set_cons_succ]
              first
                | (refine wpAnyH_take (i := 1) (v := ?_) rfl (by kernel_rfl) (by kernel_rfl) (by kernel_rfl) (fun _ _ _ h => h) (Or.inl ⟨by rfl, ?_⟩) (by assumption) ?_
                   rotate_left
                   · (intro W hW; have hf := H_HR.out W hW; go_simp; try (with_reducible rfl)))
                | (refine wpAnyH_take (i := 1) (v := undef) rfl (by kernel_rfl) (by kernel_rfl) (by kernel_rfl) (fun _ _ _ h => h) (Or.inr ⟨by rfl, rfl⟩) (by assumption) ?_)
              try simp only [List.getElem_toArray, List.getElem_cons_zero, List.getElem_cons_succ, Act.put, List.setIfInBounds_toArray, List.set_cons_zero, List.set_cons_succ]
              first
                | (refine wpAnyH_take (i := 2) (v := ?_) rfl (by kernel_rfl) (by kernel_rfl) (by kernel_rfl) (fun _ _ _ h => h) (Or.inl ⟨by rfl, ?_⟩) (by assumption) ?_
                   rotate_left
                   · (intro W hW; have hf := H_HR.out W hW; go_simp; try (with_reducible rfl)))
                | (refine wpAnyH_take (i := 2) (v := undef) rfl (by kernel_rfl) (by kernel_rfl) (by kernel_rfl) (fun _ _ _ h => h) (Or.inr ⟨by rfl, rfl⟩) (by assumption) ?_)
              try simp only [List.getElem_toArray, List.getElem_cons_zero, List.getElem_cons_succ, Act.put, List.setIfInBounds_toArray, List.set_cons_zero, List.set_cons_succ]
              first
                | (refine wpAnyH_take (i := 3) (v := ?_) rfl (by kernel_rfl) (by kernel_rfl) (by kernel_rfl) (fun _ _ _ h => h) (Or.inl ⟨by rfl, ?_⟩) (by assumption) ?_
                   rotate_left
                   · (intro W hW; have hf := H_HR.out W hW; go_simp; try (with_reducible rfl)))
                | (refine wpAnyH_take (i := 3) (v := undef) rfl (by kernel_rfl) (by kernel_rfl) (by kernel_rfl) (fun _ _ _ h => h) (Or.inr ⟨by rfl, rfl⟩) (by assumption) ?_)
              try simp only [List.getElem_toArray, List.getElem_cons_zero, List.getElem_cons_succ, Act.put, List.setIfInBounds_toArray, List.set_cons_zero, List.set_cons_succ]
              first
                | (refine wpAnyH_take (i := 4) (v := ?_) rfl (by kernel_rfl) (by kernel_rfl) (by kernel_rfl) (fun _ _ _ h => h) (Or.inl ⟨by rfl, ?_⟩) (by assumption) ?_
                   rotate_left
                   · (intro W hW; have hf := H_HR.out W hW; go_simp; try (with_reducible rfl)))
                | (refine wpAnyH_take (i := 4) (v := undef) rfl (by kernel_rfl) (by kernel_rfl) (by kernel_rfl) (fun _ _ _ h => h) (Or.inr ⟨by rfl, rfl⟩) (by assumption) ?_)
              try simp only [List.getElem_toArray, List.getElem_cons_zero, List.getElem_cons_succ, Act.put, List.setIfInBounds_toArray, List.set_cons_zero, List.set_cons_succ]
              first
                | (refine wpAnyH_take (i := 5) (v := ?_) rfl (by kernel_rfl) (by kernel_rfl) (by kernel_rfl) (fun _ _ _ h => h) (Or.inl ⟨by rfl, ?_⟩) (by assumption) ?_
                   rotate_left
                   · (intro W hW; have hf := H_HR.out W hW; go_simp; try (with_reducible rfl)))
                | (refine wpAnyH_take (i := 5) (v := undef) rfl (by kernel_rfl) (by kernel_rfl) (by kernel_rfl) (fun _ _ _ h => h) (Or.inr ⟨by rfl, rfl⟩) (by assumption) ?_)
              try simp only [List.getElem_toArray, List.getElem_cons_zero, List.getElem_cons_succ, Act.put, List.setIfInBounds_toArray, List.set_cons_zero, List.set_cons_succ]
              first
                | (refine wpAnyH_take (i := 6) (v := ?_) rfl (by kernel_rfl) (by kernel_rfl) (by kernel_rfl) (fun _ _ _ h => h) (Or.inl ⟨by rfl, ?_⟩) (by assumption) ?_
                   rotate_left
                   · (intro W hW; have hf := H_HR.out W hW; go_simp; try (with_reducible rfl)))
                | (refine wpAnyH_take (i := 6) (v := undef) rfl (by kernel_rfl) (by kernel_rfl) (by kernel_rfl) (fun _ _ _ h => h) (Or.inr ⟨by rfl, rfl⟩) (by assumption) ?_)
              try simp only [List.getElem_toArray, List.getElem_cons_zero, List.getElem_cons_succ, Act.put, List.setIfInBounds_toArray, List.set_cons_zero, List.set_cons_succ]
              first
                | (refine wpAnyH_take (i := 7) (v := ?_) rfl (by kernel_rfl) (by kernel_rfl) (by kernel_rfl) (fun _ _ _ h => h) (Or.inl ⟨by rfl, ?_⟩) (by assumption) ?_
                   rotate_left
                   · (intro W hW; have hf := H_HR.out W hW; go_simp; try (with_reducible rfl)))
                | (refine wpAnyH_take (i := 7) (v := undef) rfl (by kernel_rfl) (by kernel_rfl) (by kernel_rfl) (fun _ _ _ h => h) (Or.inr ⟨by rfl, rfl⟩) (by assumption) ?_)
              try simp only [List.getElem_toArray, List.getElem_cons_zero, List.getElem_cons_succ, Act.put, List.setIfInBounds_toArray, List.set_cons_zero, List.set_cons_succ]
              first
                | (refine wpAnyH_take (i := 8) (v := ?_) rfl (by kernel_rfl) (by kernel_rfl) (by kernel_rfl) (fun _ _ _ h => h) (Or.inl ⟨by rfl, ?_⟩) (by assumption) ?_
                   rotate_left
                   · (intro W hW; have hf := H_HR.out W hW; go_simp; try (with_reducible rfl)))
                | (refine wpAnyH_take (i := 8) (v := undef) rfl (by kernel_rfl) (by kernel_rfl) (by kernel_rfl) (fun _ _ _ h => h) (Or.inr ⟨by rfl, rfl⟩) (by assumption) ?_)
              try simp only [List.getElem_toArray, List.getElem_cons_zero, List.getElem_cons_succ, Act.put, List.setIfInBounds_toArray, List.set_cons_zero, List.set_cons_succ]
              first
                | (refine wpAnyH_take (i := 9) (v := ?_) rfl (by kernel_rfl) (by kernel_rfl) (by kernel_rfl) (fun _ _ _ h => h) (Or.inl ⟨by rfl, ?_⟩) (by assumption) ?_
                   rotate_left
                   · (intro W hW; have hf := H_HR.out W hW; go_simp; try (with_reducible rfl)))
                | (refine wpAnyH_take (i := 9) (v := undef) rfl (by kernel_rfl) (by kernel_rfl) (by kernel_rfl) (fun _ _ _ h => h) (Or.inr ⟨by rfl, rfl⟩) (by assumption) ?_)
              try simp only [List.getElem_toArray, List.getElem_cons_zero, List.getElem_cons_succ, Act.put, List.setIfInBounds_toArray, List.set_cons_zero, List.set_cons_succ]
              first
                | (refine wpAnyH_take (i := 10) (v := ?_) rfl (by kernel_rfl) (by kernel_rfl) (by kernel_rfl) (fun _ _ _ h => h) (Or.inl ⟨by rfl, ?_⟩) (by assumption) ?_
                   rotate_left
                   · (intro W hW; have hf := H_HR.out W hW; go_simp; try (with_reducible rfl)))
                | (refine wpAnyH_take (i := 10) (v := undef) rfl (by kernel_rfl) (by kernel_rfl) (by kernel_rfl) (fun _ _ _ h => h) (Or.inr ⟨by rfl, rfl⟩) (by assumption) ?_)
              try simp only [List.getElem_toArray, List.getElem_cons_zero, List.getElem_cons_succ, Act.put, List.setIfInBounds_toArray, List.set_cons_zero, List.set_cons_succ]
              first
                | (refine wpAnyH_take (i := 11) (v := ?_) rfl (by kernel_rfl) (by kernel_rfl) (by kernel_rfl) (fun _ _ _ h => h) (Or.inl ⟨by rfl, ?_⟩) (by assumption) ?_
                   rotate_left
                   · (intro W hW; have hf := H_HR.out W hW; go_simp; try (with_reducible rfl)))
                | (refine wpAnyH_take (i := 11) (v := undef) rfl (by kernel_rfl) (by kernel_rfl) (by kernel_rfl) (fun _ _ _ h => h) (Or.inr ⟨by rfl, rfl⟩) (by assumption) ?_)
              try simp only [List.getElem_toArray, List.getElem_cons_zero, List.getElem_cons_succ, Act.put, List.setIfInBounds_toArray, List.set_cons_zero, List.set_cons_succ]
              first
                | (refine wpAnyH_take (i := 12) (v := ?_) rfl (by kernel_rfl) (by kernel_rfl) (by kernel_rfl) (fun _ _ _ h => h) (Or.inl ⟨by rfl, ?_⟩) (by assumption) ?_
                   rotate_left
                   · (intro W hW; have hf := H_HR.out W hW; go_simp; try (with_reducible rfl)))
                | (refine wpAnyH_take (i := 12) (v := undef) rfl (by kernel_rfl) (by kernel_rfl) (by kernel_rfl) (fun _ _ _ h => h) (Or.inr ⟨by rfl, rfl⟩) (by assumption) ?_)
              try simp only [List.getElem_toArray, List.getElem_cons_zero, List.getElem_cons_succ, Act.put, List.setIfInBounds_toArray, List.set_cons_zero, List.set_cons_succ]
              first
                | (refine wpAnyH_take (i := 13) (v := ?_) rfl (by kernel_rfl) (by kernel_rfl) (by kernel_rfl) (fun _ _ _ h => h) (Or.inl ⟨by rfl, ?_⟩) (by assumption) ?_
                   rotate_left
                   · (intro W hW; have hf := H_HR.out W hW; go_simp; try (with_reducible rfl)))
                | (refine wpAnyH_take (i := 13) (v := undef) rfl (by kernel_rfl) (by kernel_rfl) (by kernel_rfl) (fun _ _ _ h => h) (Or.inr ⟨by rfl, rfl⟩) (by assumption) ?_)
              try simp only [List.getElem_toArray, List.getElem_cons_zero, List.getElem_cons_succ, Act.put, List.setIfInBounds_toArray, List.set_cons_zero, List.set_cons_succ]
              refine wpAnyH_done (by kernel_rfl) ?_ _
              go_wp2_with fail
              go_returns
              exact ⟨congrArg (fun t => Ending.returned (.bool t)) H_hno.out.symm, below_via hBw2 hHeld⟩
        · have hV := hasV_class (ats := e.ats) (nm := un) H_hsgk.out.2
          have cI := H_cA.out kClass
          cases ho : idxA kClass e.ats with
          | none =>
            rw [ho] at cI hV
            have hno : (true && ws.all (hasV e.ats)) = false := by rw [hstop hV]; rfl
            have hk0 : kClass = ⟨#[99, 108, 97, 115, 115]⟩ := rfl
            rw [hk0] at cI
            have H_cI := Lib.hid cI
            clear cI
            have H_hV := Lib.hid hV
            clear hV
            have H_ho := Lib.hid ho
            clear ho
            have H_hno := Lib.hid hno
            clear hno
            have H_hstop := Lib.hid hstop
            clear hstop
            have H_hnext := Lib.hid hnext
            clear hnext
            have H_hk0 := Lib.hid hk0
            clear hk0
            go_wp2_with fail
            refine (H_cI.out _ hBw).mono ?_
            rintro _ w2 ⟨rfl, hb2⟩
            have hB2 := hB.step hb2
            have hBw2 := hB2.bel
            have HR : ∀ W, Below w2.heap.size w2 W → W.cell? ⟨w.heap.size + 1, 1, none⟩ = some (.slice e.ao e.al e.ac) := fun W hW => (hB2.step hW).c2
            simp only [optI]
            clear hb2 hbx1 hbx2 hw0
            have H_HR := Lib.hid HR
            clear HR
            go_wp2_with fail
            refine wp_region_held_drew (S := fun W => Below w2.heap.size w2 W) (by kernel_rfl) (by repeat' (first | (with_reducible first | exact bwR _ _ | assumption | refine bdn ?_ | refine bwA ?_ ?_ _ | refine bwD ?_ | refine bwS ?_ ?_ _) | omega | (simp <;> omega))) (fun hHeld => ?_)
            generalize w2.drew = wg at hHeld ⊢
            first
              | (refine wpAnyH_take (i := 0) (v := ?_) rfl (by kernel_rfl) (by kernel_rfl) (by kernel_rfl) (fun _ _ _ h => h) (Or.inl ⟨by rfl, ?_⟩) (by assumption) ?_
                 rotate_left
                 · (intro W hW; have hf := H_HR.out W hW; go_simp; try (with_reducible rfl)))
              | (refine wpAnyH_take (i := 0) (v := undef) rfl (by kernel_rfl) (by kernel_rfl) (by kernel_rfl) (fun _ _ _ h => h) (Or.inr ⟨by rfl, rfl⟩) (by assumption) ?_)
            try simp only [List.getElem_toArray, List.getElem_cons_zero, Act.put, List.setIfInBounds_toArray, List.set_cons_zero, List.set_cons_succ]
            first
              | (refine wpAnyH_take (i := 1) (v := ?_) rfl (by kernel_rfl) (by kernel_rfl) (by kernel_rfl) (fun _ _ _ h => h) (Or.inl ⟨by rfl, ?_⟩) (by assumption) ?_
                 rotate_left
                 · (intro W hW; have hf := H_HR.out W hW; go_simp; try (with_reducible rfl)))
              | (refine wpAnyH_take (i := 1) (v := undef) rfl (by kernel_rfl) (by kernel_rfl) (by kernel_rfl) (fun _ _ _ h => h) (Or.inr ⟨by rfl, rfl⟩) (by assumption) ?_)
            try simp only [List.getElem_toArray, List.getElem_cons_zero, List.getElem_cons_succ, Act.put, List.setIfInBounds_toArray, List.set_cons_zero, List.set_cons_succ]
            first
              | (refine wpAnyH_take (i := 2) (v := ?_) rfl (by kernel_rfl) (by kernel_rfl) (by kernel_rfl) (fun _ _ _ h => h) (Or.inl ⟨by rfl, ?_⟩) (by assumption) ?_
                 rotate_left
                 · (intro W hW; have hf := H_HR.out W hW; go_simp; try (with_reducible rfl)))
              | (refine wpAnyH_take (i := 2) (v := undef) rfl (by kernel_rfl) (by kernel_rfl) (by kernel_rfl) (fun _ _ _ h => h) (Or.inr ⟨by rfl, rfl⟩) (by assumption) ?_)
            try simp only [List.getElem_toArray, List.getElem_cons_zero, List.getElem_cons_succ, Act.put, List.setIfInBounds_toArray, List.set_cons_zero, List.set_cons_succ]
            first
              | (refine wpAnyH_take (i := 3) (v := ?_) rfl (by kernel_rfl) (by kernel_rfl) (by kernel_rfl) (fun _ _ _ h => h) (Or.inl ⟨by rfl, ?_⟩) (by assumption) ?_
                 rotate_left
                 · (intro W hW; have hf := H_HR.out W hW; go_simp; try (with_reducible rfl)))
              | (refine wpAnyH_take (i := 3) (v := undef) rfl (by kernel_rfl) (by kernel_rfl) (by kernel_rfl) (fun _ _ _ h => h) (Or.inr ⟨by rfl, rfl⟩) (by assumption) ?_)
            try simp only [List.getElem_toArray, List.getElem_cons_zero, List.getElem_cons_succ, Act.put, List.setIfInBounds_toArray, List.set_cons_zero, List.set_cons_succ]
            first
              | (refine wpAnyH_take (i := 4) (v := ?_) rfl (by kernel_rfl) (by kernel_rfl) (by kernel_rfl) (fun _ _ _ h => h) (Or.inl ⟨by rfl, ?_⟩) (by assumption) ?_
                 rotate_left
                 · (intro W hW; have hf := H_HR.out W hW; go_simp; try (with_reducible rfl)))
              | (refine wpAnyH_take (i := 4) (v := undef) rfl (by kernel_rfl) (by kernel_rfl) (by kernel_rfl) (fun _ _ _ h => h) (Or.inr ⟨by rfl, rfl⟩) (by assumption) ?_)
            try simp only [List.getElem_toArray, List.getElem_cons_zero, List.getElem_cons_succ, Act.put, List.setIfInBounds_toArray, List.set_cons_zero, List.set_cons_succ]
            first
              | (refine wpAnyH_take (i := 5) (v := ?_) rfl (by kernel_rfl) (by kernel_rfl) (by kernel_rfl) (fun _ _ _ h => h) (Or.inl ⟨by rfl, ?_⟩) (by assumption) ?_
                 rotate_left
                 · (intro W hW; have hf := H_HR.out W hW; go_simp; try (with_reducible rfl)))
              | (refine wpAnyH_take (i := 5) (v := undef) rfl (by kernel_rfl) (by kernel_rfl) (by kernel_rfl) (fun _ _ _ h => h) (Or.inr ⟨by rfl, rfl⟩) (by assumption) ?_)
            try simp only [List.getElem_toArray, List.getElem_cons_zero, List.getElem_cons_succ, Act.put, List.setIfInBounds_toArray, List.set_cons_zero, List.set_cons_succ]
            first
              | (refine wpAnyH_take (i := 6) (v := ?_) rfl (by kernel_rfl) (by kernel_rfl) (by kernel_rfl) (fun _ _ _ h => h) (Or.inl ⟨by rfl, ?_⟩) (by assumption) ?_
                 rotate_left
                 · (intro W hW; have hf := H_HR.out W hW; go_simp; try (with_reducible rfl)))
              | (refine wpAnyH_take (i := 6) (v := undef) rfl (by kernel_rfl) (by kernel_rfl) (by kernel_rfl) (fun _ _ _ h => h) (Or.inr ⟨by rfl, rfl⟩) (by assumption) ?_)
            try simp only [List.getElem_toArray, List.getElem_cons_zero, List.getElem_cons_succ, Act.put, List.setIfInBounds_toArray, List.set_cons_zero, List.set_cons_succ]
            first
              | (refine wpAnyH_take (i := 7) (v := ?_) rfl (by kernel_rfl) (by kernel_rfl) (by kernel_rfl) (fun _ _ _ h => h) (Or.inl ⟨by rfl, ?_⟩) (by assumption) ?_
                 rotate_left
                 · (intro W hW; have hf := H_HR.out W hW; go_simp; try (with_reducible rfl)))
              | (refine wpAnyH_take (i := 7) (v := undef) rfl (by kernel_rfl) (by kernel_rfl) (by kernel_rfl) (fun _ _ _ h => h) (Or.inr ⟨by rfl, rfl⟩) (by assumption) ?_)
            try simp only [List.getElem_toArray, List.getElem_cons_zero, List.getElem_cons_succ, Act.put, List.setIfInBounds_toArray, List.set_cons_zero, List.set_cons_succ]
            first
              | (refine wpAnyH_take (i := 8) (v := ?_) rfl (by kernel_rfl) (by kernel_rfl) (by kernel_rfl) (fun _ _ _ h => h) (Or.inl ⟨by rfl, ?_⟩) (by assumption) ?_
                 rotate_left
                 · (intro W hW; have hf := H_HR.out W hW; go_simp; try (with_reducible rfl)))
              | (refine wpAnyH_take (i := 8) (v := undef) rfl (by kernel_rfl) (by kernel_rfl) (by kernel_rfl) (fun _ _ _ h => h) (Or.inr ⟨by rfl, rfl⟩) (by assumption) ?_)
            try simp only [List.getElem_toArray, List.getElem_cons_zero, List.getElem_cons_succ, Act.put, List.setIfInBounds_toArray, List.set_cons_zero, List.set_cons_succ]
            first
              | (refine wpAnyH_take (i := 9) (v := ?_) rfl (by kernel_rfl) (by kernel_rfl) (by kernel_rfl) (fun _ _ _ h => h) (Or.inl ⟨by rfl, ?_⟩) (by assumption) ?_
                 rotate_left
                 · (intro W hW; have hf := H_HR.out W hW; go_simp; try (with_reducible rfl)))
              | (refine wpAnyH_take (i := 9) (v := undef) rfl (by kernel_rfl) (by kernel_rfl) (by kernel_rfl) (fun _ _ _ h => h) (Or.inr ⟨by rfl, rfl⟩) (by assumption) ?_)
            try simp only [List.getElem_toArray, List.getElem_cons_zero, List.getElem_cons_succ, Act.put, List.setIfInBounds_toArray, List.set_cons_zero, List.set_cons_succ]
            first
              | (refine wpAnyH_take (i := 10) (v := ?_) rfl (by kernel_rfl) (by kernel_rfl) (by kernel_rfl) (fun _ _ _ h => h) (Or.inl ⟨by rfl, ?_⟩) (by assumption) ?_
                 rotate_left
                 · (intro W hW; have hf := H_HR.out W hW; go_simp; try (with_reducible rfl)))
              | (refine wpAnyH_take (i := 10) (v := undef) rfl (by kernel_rfl) (by kernel_rfl) (by kernel_rfl) (fun _ _ _ h => h) (Or.inr ⟨by rfl, rfl⟩) (by assumption) ?_)
            try simp only [List.getElem_toArray, List.getElem_cons_zero, List.getElem_cons_succ, Act.put, List.setIfInBounds_toArray, List.set_cons_zero, List.set_cons_succ]
            first
              | (refine wpAnyH_take (i := 11) (v := ?_) rfl (by kernel_rfl) (by kernel_rfl) (by kernel_rfl) (fun _ _ _ h => h) (Or.inl ⟨by rfl, ?_⟩) (by assumption) ?_
                 rotate_left
                 · (intro W hW; have hf := H_HR.out W hW; go_simp; try (with_reducible rfl)))
              | (refine wpAnyH_take (i := 11) (v := undef) rfl (by kernel_rfl) (by kernel_rfl) (by kernel_rfl) (fun _ _ _ h => h) (Or.inr ⟨by rfl, rfl⟩) (by assumption) ?_)
            try simp only [List.getElem_toArray, List.getElem_cons_zero, List.getElem_cons_succ, Act.put, List.setIfInBounds_toArray, List.set_cons_zero, List.set_cons_succ]
            first
              | (refine wpAnyH_take (i := 12) (v := ?_) rfl (by kernel_rfl) (by kernel_rfl) (by kernel_rfl) (fun _ _ _ h => h) (Or.inl ⟨by rfl, ?_⟩) (by assumption) ?_
                 rotate_left
                 · (intro W hW; have hf := H_HR.out W hW; go_simp; try (with_reducible rfl)))
              | (refine wpAnyH_take (i := 12) (v := undef) rfl (by kernel_rfl) (by kernel_rfl) (by kernel_rfl) (fun _ _ _ h => h) (Or.inr ⟨by rfl, rfl⟩) (by assumption) ?_)
            try simp only [List.getElem_toArray, List.getElem_cons_zero, List.getElem_cons_succ, Act.put, List.setIfInBounds_toArray, List.set_cons_zero, List.set_cons_succ]
            first
              | (refine wpAnyH_take (i := 13) (v := ?_) rfl (by kernel_rfl) (by kernel_rfl) (by kernel_rfl) (fun _ _ _ h => h) (Or.inl ⟨by rfl, ?_⟩) (by assumption) ?_
                 rotate_left
                 · (intro W hW; have hf := H_HR.out W hW; go_simp; try (with_reducible rfl)))
              | (refine wpAnyH_take (i := 13) (v := undef) rfl (by kernel_rfl) (by kernel_rfl) (by kernel_rfl) (fun _ _ _ h => h) (Or.inr ⟨by rfl, rfl⟩) (by assumption) ?_)
            try simp only [List.getElem_toArray, List.getElem_cons_zero, List.getElem_cons_succ, Act.put, List.setIfInBounds_toArray, List.set_cons_zero, List.set_cons_succ]
            first
              | (refine wpAnyH_take (i := 14) (v := ?_) rfl (by kernel_rfl) (by kernel_rfl) (by kernel_rfl) (fun _ _ _ h => h) (Or.inl ⟨by rfl, ?_⟩) (by assumption) ?_
                 rotate_left
                 · (intro W hW; have hf := H_HR.out W hW; go_simp; try (with_reducible rfl)))
              | (refine wpAnyH_take (i := 14) (v := undef) rfl (by kernel_rfl) (by kernel_rfl) (by kernel_rfl) (fun _ _ _ h => h) (Or.inr ⟨by rfl, rfl⟩) (by assumption) ?_)
            try simp only [List.getElem_toArray, List.getElem_cons_zero, List.getElem_cons_succ, Act.put, List.setIfInBounds_toArray, List.set_cons_zero, List.set_cons_succ]
            first
              | (refine wpAnyH_take (i := 15) (v := ?_) rfl (by kernel_rfl) (by kernel_rfl) (by kernel_rfl) (fun _ _ _ h => h) (Or.inl ⟨by rfl, ?_⟩) (by assumption) ?_
                 rotate_left
                 · (intro W hW; have hf := H_HR.out W hW; go_simp; try (with_reducible rfl)))
              | (refine wpAnyH_take (i := 15) (v := undef) rfl (by kernel_rfl) (by kernel_rfl) (by kernel_rfl) (fun _ _ _ h => h) (Or.inr ⟨by rfl, rfl⟩) (by assumption) ?_)
            try simp only [List.getElem_toArray, List.getElem_cons_zero, List.getElem_cons_succ, Act.put, List.setIfInBounds_toArray, List.set_cons_zero, List.set_cons_succ]
            refine wpAnyH_done (by kernel_rfl) ?_ _
            go_wp2_with fail
            go_returns
            exact ⟨congrArg (fun t => Ending.returned (.bool t)) H_hno.out.symm, below_via hBw2 hHeld⟩
          | some j =>
            rw [ho] at cI hV
            dsimp only at hV
            obtain ⟨hj, _⟩ := attrV_idx ho
            obtain ⟨ga, offa, hao, hga, hrowa⟩ := H_hSA.out.2.2.2.resolve_left (by intro h; rw [h] at hj; simp at hj)
            have hqa := fun (W : World) (hW : Below w.heap.size w W) => (hrowa.keep hW hga) j hj 1 _ rfl
            rw [getD_at hj] at hV
            have hatj := H_hat.out _ (List.getElem_mem hj)
            obtain ⟨AV, hAV⟩ : ∃ u, e.ats[j].2 = u := ⟨_, rfl⟩
            have hqa' : ∀ W, Below w.heap.size w W → W.cell? ⟨ga, offa + j * 2 + 1, none⟩ = some (.string AV) := fun W hW => by rw [← hAV]; exact hqa W hW
            have gjl : (j : Int) < (e.al : Int) := by have := H_hSA.out.1; omega
            rw [hAV] at hV hatj
            have hk0 : kClass = ⟨#[99, 108, 97, 115, 115]⟩ := rfl
            rw [hk0] at cI
            have gj0 : (0 : Int) ≤ (j : Int) := by omega
            have cCut := fun (W : World) => rcut_any AV 32 W (by omega)
            obtain ⟨cs, hcs⟩ : ∃ u, cutL 32 AV.data.toList = u := ⟨_, rfl⟩
            rw [hcs] at hV cCut
            have cIx := fun (o : Option Addr) (len c : Nat) (W : World) (hS : SlA ESs W o len c cs) => rindex_any o len c cs un W hS
            rw [H_hUN.out] at cIx
            have hdi := optI_nn (idxL un cs)
            rw [← hV] at hdi
            obtain ⟨IX, hIX⟩ : ∃ u, optI (idxL un cs) = u := ⟨_, rfl⟩
            rw [hIX] at cIx hdi
            by_cases hz : 0 ≤ IX
            · have hd0 := decide_eq_true hz
              have hyes := hnext (hdi.symm.trans hd0)
              clear hdi
              have H_hyes := Lib.hid hyes
              clear hyes
              have H_cI := Lib.hid cI
              clear cI
              have H_hV := Lib.hid hV
              clear hV
              have H_ho := Lib.hid ho
              clear ho
              have H_hstop := Lib.hid hstop
              clear hstop
              have H_hnext := Lib.hid hnext
              clear hnext
              have H_hk0 := Lib.hid hk0
              clear hk0
              have H_hqa := Lib.hid hqa
              clear hqa
              have H_hqa' := Lib.hid hqa'
              clear hqa'
              have H_hAV := Lib.hid hAV
              clear hAV
              have H_hrowa := Lib.hid hrowa
              clear hrowa
              have H_hao := Lib.hid hao
              clear hao
              have H_cCut := Lib.hid cCut
              clear cCut
              have H_cIx := Lib.hid cIx
              clear cIx
              have H_hcs := Lib.hid hcs
              clear hcs
              have H_hIX := Lib.hid hIX
              clear hIX
              go_wp2_with fail
              refine (H_cI.out _ hBw).mono ?_
              rintro _ w2 ⟨rfl, hb2⟩
              have hB2 := hB.step hb2
              have hBw2 := hB2.bel
              have HR : ∀ W, Below w2.heap.size w2 W → W.cell? ⟨w.heap.size + 1, 1, none⟩ = some (.slice (some ⟨ga, offa, none⟩) e.al e.ac) ∧ W.cell? ⟨ga, offa + j * 2 + 1, none⟩ = some (.string AV) := fun W hW => ⟨by rw [← H_hao.out]; exact (hB2.step hW).c2, H_hqa'.out W (below_via hBw2 hW)⟩
              simp only [optI]
              clear hb2 hbx1 hbx2 hw0
              have H_HR := Lib.hid HR
              clear HR
              go_wp2_with fail
              refine wp_region_held_drew (S := fun W => Below w2.heap.size w2 W) (by kernel_rfl) (by repeat' (first | (with_reducible first | exact bwR _ _ | assumption | refine bdn ?_ | refine bwA ?_ ?_ _ | refine bwD ?_ | refine bwS ?_ ?_ _) | omega | (simp <;> omega))) (fun hHeld => ?_)
              generalize w2.drew = wg at hHeld ⊢
              first
                | (refine wpAnyH_take (i := 0) (v := ?_) rfl (by kernel_rfl) (by kernel_rfl) (by kernel_rfl) (fun _ _ _ h => h) (Or.inl ⟨by rfl, ?_⟩) (by assumption) ?_
                   rotate_left
                   · (intro W hW; have hf := H_HR.out W hW; go_simp; try (with_reducible rfl)))
                | (refine wpAnyH_take (i := 0) (v := undef) rfl (by kernel_rfl) (by kernel_rfl) (by kernel_rfl) (fun _ _ _ h => h) (Or.inr ⟨by rfl, rfl⟩) (by assumption) ?_)
              try simp only [List.getElem_toArray, List.getElem_cons_zero, Act.put, List.setIfInBounds_toArray, List.set_cons_zero, List.set_cons_succ]
              first
                | (refine wpAnyH_take (i := 1) (v := ?_) rfl (by kernel_rfl) (by kernel_rfl) (by kernel_rfl) (fun _ _ _ h => h) (Or.inl ⟨by rfl, ?_⟩) (by assumption) ?_
                   rotate_left
                   · (intro W hW; have hf := H_HR.out W hW; go_simp; try (with_reducible rfl)))
                | (refine wpAnyH_take (i := 1) (v := undef) rfl (by kernel_rfl) (by kernel_rfl) (by kernel_rfl) (fun _ _ _ h => h) (Or.inr ⟨by rfl, rfl⟩) (by assumption) ?_)
              try simp only [List.getElem_toArray, List.getElem_cons_zero, List.getElem_cons_succ, Act.put, List.setIfInBounds_toArray, List.set_cons_zero, List.set_cons_succ]
              first
                | (refine wpAnyH_take (i := 2) (v := ?_) rfl (by kernel_rfl) (by kernel_rfl) (by kernel_rfl) (fun _ _ _ h => h) (Or.inl ⟨by rfl, ?_⟩) (by assumption) ?_
                   rotate_left
                   · (intro W hW; have hf := H_HR.out W hW; go_simp; try (with_reducible rfl)))
                | (refine wpAnyH_take (i := 2) (v := undef) rfl (by kernel_rfl) (by kernel_rfl) (by kernel_rfl) (fun _ _ _ h => h) (Or.inr ⟨by rfl, rfl⟩) (by assumption) ?_)
              try simp only [List.getElem_toArray, List.getElem_cons_zero, List.getElem_cons_succ, Act.put, List.setIfInBounds_toArray, List.set_cons_zero, List.set_cons_succ]
              first
                | (refine wpAnyH_take (i := 3) (v := ?_) rfl (by kernel_rfl) (by kernel_rfl) (by kernel_rfl) (fun _ _ _ h => h) (Or.inl ⟨by rfl, ?_⟩) (by assumption) ?_
                   rotate_left
                   · (intro W hW; have hf := H_HR.out W hW; go_simp; try (with_reducible rfl)))
                | (refine wpAnyH_take (i := 3) (v := undef) rfl (by kernel_rfl) (by kernel_rfl) (by kernel_rfl) (fun _ _ _ h => h) (Or.inr ⟨by rfl, rfl⟩) (by assumption) ?_)
              try simp only [List.getElem_toArray, List.getElem_cons_zero, List.getElem_cons_succ, Act.put, List.setIfInBounds_toArray, List.set_cons_zero, List.set_cons_succ]
              first
                | (refine wpAnyH_take (i := 4) (v := ?_) rfl (by kernel_rfl) (by kernel_rfl) (by kernel_rfl) (fun _ _ _ h => h) (Or.inl ⟨by rfl, ?_⟩) (by assumption) ?_
                   rotate_left
                   · (intro W hW; have hf := H_HR.out W hW; go_simp; try (with_reducible rfl)))
                | (refine wpAnyH_take (i := 4) (v := undef) rfl (by kernel_rfl) (by kernel_rfl) (by kernel_rfl) (fun _ _ _ h => h) (Or.inr ⟨by rfl, rfl⟩) (by assumption) ?_)
              try simp only [List.getElem_toArray, List.getElem_cons_zero, List.getElem_cons_succ, Act.put, List.setIfInBounds_toArray, List.set_cons_zero, List.set_cons_succ]
              first
                | (refine wpAnyH_take (i := 5) (v := ?_) rfl (by kernel_rfl) (by kernel_rfl) (by kernel_rfl) (fun _ _ _ h => h) (Or.inl ⟨by rfl, ?_⟩) (by assumption) ?_
                   rotate_left
                   · (intro W hW; have hf := H_HR.out W hW; go_simp; try (with_reducible rfl)))
                | (refine wpAnyH_take (i := 5) (v := undef) rfl (by kernel_rfl) (by kernel_rfl) (by kernel_rfl) (fun _ _ _ h => h) (Or.inr ⟨by rfl, rfl⟩) (by assumption) ?_)
              try simp only [List.getElem_toArray, List.getElem_cons_zero, List.getElem_cons_succ, Act.put, List.setIfInBounds_toArray, List.set_cons_zero, List.set_cons_succ]
              first
                | (refine wpAnyH_take (i := 6) (v := ?_) rfl (by kernel_rfl) (by kernel_rfl) (by kernel_rfl) (fun _ _ _ h => h) (Or.inl ⟨by rfl, ?_⟩) (by assumption) ?_
                   rotate_left
                   · (intro W hW; have hf := H_HR.out W hW; go_simp; try (with_reducible rfl)))
                | (refine wpAnyH_take (i := 6) (v := undef) rfl (by kernel_rfl) (by kernel_rfl) (by kernel_rfl) (fun _ _ _ h => h) (Or.inr ⟨by rfl, rfl⟩) (by assumption) ?_)
              try simp only [List.getElem_toArray, List.getElem_cons_zero, List.getElem_cons_succ, Act.put, List.setIfInBounds_toArray, List.set_cons_zero, List.set_cons_succ]
              first
                | (refine wpAnyH_take (i := 7) (v := ?_) rfl (by kernel_rfl) (by kernel_rfl) (by kernel_rfl) (fun _ _ _ h => h) (Or.inl ⟨by rfl, ?_⟩) (by assumption) ?_
                   rotate_left
                   · (intro W hW; have hf := H_HR.out W hW; go_simp; try (with_reducible rfl)))
                | (refine wpAnyH_take (i := 7) (v := undef) rfl (by kernel_rfl) (by kernel_rfl) (by kernel_rfl) (fun _ _ _ h => h) (Or.inr ⟨by rfl, rfl⟩) (by assumption) ?_)
              try simp only [List.getElem_toArray, List.getElem_cons_zero, List.getElem_cons_succ, Act.put, List.setIfInBounds_toArray, List.set_cons_zero, List.set_cons_succ]
              first
                | (refine wpAnyH_take (i := 8) (v := ?_) rfl (by kernel_rfl) (by kernel_rfl) (by kernel_rfl) (fun _ _ _ h => h) (Or.inl ⟨by rfl, ?_⟩) (by assumption) ?_
                   rotate_left
                   · (intro W hW; have hf := H_HR.out W hW; go_simp; try (with_reducible rfl)))
                | (refine wpAnyH_take (i := 8) (v := undef) rfl (by kernel_rfl) (by kernel_rfl) (by kernel_rfl) (fun _ _ _ h => h) (Or.inr ⟨by rfl, rfl⟩) (by assumption) ?_)
              try simp only [List.getElem_toArray, List.getElem_cons_zero, List.getElem_cons_succ, Act.put, List.setIfInBounds_toArray, List.set_cons_zero, List.set_cons_succ]
              first
                | (refine wpAnyH_take (i := 10) (v := ?_) rfl (by kernel_rfl) (by kernel_rfl) (by kernel_rfl) (fun _ _ _ h => h) (Or.inl ⟨by rfl, ?_⟩) (by assumption) ?_
                   rotate_left
                   · (intro W hW; have hf := H_HR.out W hW; go_simp; try (with_reducible rfl)))
                | (refine wpAnyH_take (i := 10) (v := undef) rfl (by kernel_rfl) (by kernel_rfl) (by kernel_rfl) (fun _ _ _ h => h) (Or.inr ⟨by rfl, rfl⟩) (by assumption) ?_)
              try simp only [List.getElem_toArray, List.getElem_cons_zero, List.getElem_cons_succ, Act.put, List.setIfInBounds_toArray, List.set_cons_zero, List.set_cons_succ]
              first
                | (refine wpAnyH_take (i := 11) (v := ?_) rfl (by kernel_rfl) (by kernel_rfl) (by kernel_rfl) (fun _ _ _ h => h) (Or.inl ⟨by rfl, ?_⟩) (by assumption) ?_
                   rotate_left
                   · (intro W hW; have hf := H_HR.out W hW; go_simp; try (with_reducible rfl)))
                | (refine wpAnyH_take (i := 11) (v := undef) rfl (by kernel_rfl) (by kernel_rfl) (by kernel_rfl) (fun _ _ _ h => h) (Or.inr ⟨by rfl, rfl⟩) (by assumption) ?_)
              try simp only [List.getElem_toArray, List.getElem_cons_zero, List.getElem_cons_succ, Act.put, List.setIfInBounds_toArray, List.set_cons_zero, List.set_cons_succ]
              refine wpAnyH_ready (rs := [9]) (by kernel_rfl) (by simp) ?_
              refine AllReadyH.cons rfl (fun K hK => ?_) AllReadyH.nil
              go_simp
              go_at_call 82
              refine (H_cCut.out _).mono ?_
              rintro _ w5 ⟨vv, rfl, hOw, hb5⟩
              have hO5 := ownS_row hOw
              obtain ⟨o5, c5, rfl⟩ := Pk.ow_form hO5
              have hS5 := sla_of hO5
              have hO : Below w2.heap.size w2 w5 := below_via hHeld hb5
              clear hHeld hb5 hOw hO5
              have H_hS5 := Lib.hid hS5
              clear hS5
              refine hK.out _ _ hO (fun hHeld => ?_)
              clear hK K hO
              try simp only [List.getElem_toArray, List.getElem_cons_zero, List.getElem_cons_succ, Act.put, List.setIfInBounds_toArray, List.set_cons_zero, List.set_cons_succ]
              refine wpAnyH_ready (rs := [12]) (by kernel_rfl) (by simp) ?_
              refine AllReadyH.cons rfl (fun K hK => ?_) AllReadyH.nil
              go_simp
              go_at_call 168
              refine (H_cIx.out _ _ _ _ H_hS5.out).mono ?_
              rintro _ w6 ⟨rfl, hb6⟩
              have hO : Below w2.heap.size w2 w6 := below_via hHeld hb6
              clear hHeld hb6
              refine hK.out _ _ hO (fun hHeld => ?_)
              clear hK K hO
              try simp only [List.getElem_toArray, List.getElem_cons_zero, List.getElem_cons_succ, Act.put, List.setIfInBounds_toArray, List.set_cons_zero, List.set_cons_succ]
              first
                | (refine wpAnyH_take (i := 13) (v := ?_) rfl (by kernel_rfl) (by kernel_rfl) (by kernel_rfl) (fun _ _ _ h => h) (Or.inl ⟨by rfl, ?_⟩) (by assumption) ?_
                   rotate_left
                   · (intro W hW; have hf := H_HR.out W hW; go_simp; try (with_reducible rfl)))
                | (refine wpAnyH_take (i := 13) (v := undef) rfl (by kernel_rfl) (by kernel_rfl) (by kernel_rfl) (fun _ _ _ h => h) (Or.inr ⟨by rfl, rfl⟩) (by assumption) ?_)
              try simp only [List.getElem_toArray, List.getElem_cons_zero, List.getElem_cons_succ, Act.put, List.setIfInBounds_toArray, List.set_cons_zero, List.set_cons_succ]
              first
                | (refine wpAnyH_take (i := 14) (v := ?_) rfl (by kernel_rfl) (by kernel_rfl) (by kernel_rfl) (fun _ _ _ h => h) (Or.inl ⟨by rfl, ?_⟩) (by assumption) ?_
                   rotate_left
                   · (intro W hW; have hf := H_HR.out W hW; go_simp; try (with_reducible rfl)))
                | (refine wpAnyH_take (i := 14) (v := undef) rfl (by kernel_rfl) (by kernel_rfl) (by kernel_rfl) (fun _ _ _ h => h) (Or.inr ⟨by rfl, rfl⟩) (by assumption) ?_)
              try simp only [List.getElem_toArray, List.getElem_cons_zero, List.getElem_cons_succ, Act.put, List.setIfInBounds_toArray, List.set_cons_zero, List.set_cons_succ]
              first
                | (refine wpAnyH_take (i := 15) (v := ?_) rfl (by kernel_rfl) (by kernel_rfl) (by kernel_rfl) (fun _ _ _ h => h) (Or.inl ⟨by rfl, ?_⟩) (by assumption) ?_
                   rotate_left
                   · (intro W hW; have hf := H_HR.out W hW; go_simp; try (with_reducible rfl)))
                | (refine wpAnyH_take (i := 15) (v := undef) rfl (by kernel_rfl) (by kernel_rfl) (by kernel_rfl) (fun _ _ _ h => h) (Or.inr ⟨by rfl, rfl⟩) (by assumption) ?_)
              try simp only [List.getElem_toArray, List.getElem_cons_zero, List.getElem_cons_succ, Act.put, List.setIfInBounds_toArray, List.set_cons_zero, List.set_cons_succ]
              refine wpAnyH_done (by kernel_rfl) ?_ _
              go_wp2_with fail
              go_roundw
              case rel => exact ⟨k + 1, by omega, by go_num, H_hyes, hB2.step hHeld⟩
              case measure => simp [intOf]; omega
            · have hd0 := decide_eq_false hz
              have hno : (true && ws.all (hasV e.ats)) = false := by rw [hstop (hdi.symm.trans hd0)]; rfl
              clear hdi
              have H_hno := Lib.hid hno
              clear hno
              have H_cI := Lib.hid cI
              clear cI
              have H_hV := Lib.hid hV
              clear hV
              have H_ho := Lib.hid ho
              clear ho
              have H_hstop := Lib.hid hstop
              clear hstop
              have H_hnext := Lib.hid hnext
              clear hnext
              have H_hk0 := Lib.hid hk0
              clear hk0
              have H_hqa := Lib.hid hqa
              clear hqa
              have H_hqa' := Lib.hid hqa'
              clear hqa'
              have H_hAV := Lib.hid hAV
              clear hAV
              have H_hrowa := Lib.hid hrowa
              clear hrowa
              have H_hao := Lib.hid hao
              clear hao
              have H_cCut := Lib.hid cCut
              clear cCut
              have H_cIx := Lib.hid cIx
              clear cIx
              have H_hcs := Lib.hid hcs
              clear hcs
              have H_hIX := Lib.hid hIX
              clear hIX
              go_wp2_with fail
              refine (H_cI.out _ hBw).mono ?_
              rintro _ w2 ⟨rfl, hb2⟩
              have hB2 := hB.step hb2
              have hBw2 := hB2.bel
              have HR : ∀ W, Below w2.heap.size w2 W → W.cell? ⟨w.heap.size + 1, 1, none⟩ = some (.slice (some ⟨ga, offa, none⟩) e.al e.ac) ∧ W.cell? ⟨ga, offa + j * 2 + 1, none⟩ = some (.string AV) := fun W hW => ⟨by rw [← H_hao.out]; exact (hB2.step hW).c2, H_hqa'.out W (below_via hBw2 hW)⟩
              simp only [optI]
              clear hb2 hbx1 hbx2 hw0
              have H_HR := Lib.hid HR
              clear HR
              go_wp2_with fail
              refine wp_region_held_drew (S := fun W => Below w2.heap.size w2 W) (by kernel_rfl) (by repeat' (first | (with_reducible first | exact bwR _ _ | assumption | refine bdn ?_ | refine bwA ?_ ?_ _ | refine bwD ?_ | refine bwS ?_ ?_ _) | omega | (simp <;> omega))) (fun hHeld => ?_)
              generalize w2.drew = wg at hHeld ⊢
              first
                | (refine wpAnyH_take (i := 0) (v := ?_) rfl (by kernel_rfl) (by kernel_rfl) (by kernel_rfl) (fun _ _ _ h => h) (Or.inl ⟨by rfl, ?_⟩) (by assumption) ?_
                   rotate_left
                   · (intro W hW; have hf := H_HR.out W hW; go_simp; try (with_reducible rfl)))
                | (refine wpAnyH_take (i := 0) (v := undef) rfl (by kernel_rfl) (by kernel_rfl) (by kernel_rfl) (fun _ _ _ h => h) (Or.inr ⟨by rfl, rfl⟩) (by assumption) ?_)
              try simp only [List.getElem_toArray, List.getElem_cons_zero, Act.put, List.setIfInBounds_toArray, List.set_cons_zero, List.set_cons_succ]
              first
                | (refine wpAnyH_take (i := 1) (v := ?_) rfl (by kernel_rfl) (by kernel_rfl) (by kernel_rfl) (fun _ _ _ h => h) (Or.inl ⟨by rfl, ?_⟩) (by assumption) ?_
                   rotate_left
                   · (intro W hW; have hf := H_HR.out W hW; go_simp; try (with_reducible rfl)))
                | (refine wpAnyH_take (i := 1) (v := undef) rfl (by kernel_rfl) (by kernel_rfl) (by kernel_rfl) (fun _ _ _ h => h) (Or.inr ⟨by rfl, rfl⟩) (by assumption) ?_)
              try simp only [List.getElem_toArray, List.getElem_cons_zero, List.getElem_cons_succ, Act.put, List.setIfInBounds_toArray, List.set_cons_zero, List.set_cons_succ]
              first
                | (refine wpAnyH_take (i := 2) (v := ?_) rfl (by kernel_rfl) (by kernel_rfl) (by kernel_rfl) (fun _ _ _ h => h) (Or.inl ⟨by rfl, ?_⟩) (by assumption) ?_
                   rotate_left
                   · (intro W hW; have hf := H_HR.out W hW; go_simp; try (with_reducible rfl)))
                | (refine wpAnyH_take (i := 2) (v := undef) rfl (by kernel_rfl) (by kernel_rfl) (by kernel_rfl) (fun _ _ _ h => h) (Or.inr ⟨by rfl, rfl⟩) (by assumption) ?_)
              try simp only [List.getElem_toArray, List.getElem_cons_zero, List.getElem_cons_succ, Act.put, List.setIfInBounds_toArray, List.set_cons_zero, List.set_cons_succ]
              first
                | (refine wpAnyH_take (i := 3) (v := ?_) rfl (by kernel_rfl) (by kernel_rfl) (by kernel_rfl) (fun _ _ _ h => h) (Or.inl ⟨by rfl, ?_⟩) (by assumption) ?_
                   rotate_left
                   · (intro W hW; have hf := H_HR.out W hW; go_simp; try (with_reducible rfl)))
                | (refine wpAnyH_take (i := 3) (v := undef) rfl (by kernel_rfl) (by kernel_rfl) (by kernel_rfl) (fun _ _ _ h => h) (Or.inr ⟨by rfl, rfl⟩) (by assumption) ?_)
              try simp only [List.getElem_toArray, List.getElem_cons_zero, List.getElem_cons_succ, Act.put, List.setIfInBounds_toArray, List.set_cons_zero, List.set_cons_succ]
              first
                | (refine wpAnyH_take (i := 4) (v := ?_) rfl (by kernel_rfl) (by kernel_rfl) (by kernel_rfl) (fun _ _ _ h => h) (Or.inl ⟨by rfl, ?_⟩) (by assumption) ?_
                   rotate_left
                   · (intro W hW; have hf := H_HR.out W hW; go_simp; try (with_reducible rfl)))
                | (refine wpAnyH_take (i := 4) (v := undef) rfl (by kernel_rfl) (by kernel_rfl) (by kernel_rfl) (fun _ _ _ h => h) (Or.inr ⟨by rfl, rfl⟩) (by assumption) ?_)
              try simp only [List.getElem_toArray, List.getElem_cons_zero, List.getElem_cons_succ, Act.put, List.setIfInBounds_toArray, List.set_cons_zero, List.set_cons_succ]
              first
                | (refine wpAnyH_take (i := 5) (v := ?_) rfl (by kernel_rfl) (by kernel_rfl) (by kernel_rfl) (fun _ _ _ h => h) (Or.inl ⟨by rfl, ?_⟩) (by assumption) ?_
                   rotate_left
                   · (intro W hW; have hf := H_HR.out W hW; go_simp; try (with_reducible rfl)))
                | (refine wpAnyH_take (i := 5) (v := undef) rfl (by kernel_rfl) (by kernel_rfl) (by kernel_rfl) (fun _ _ _ h => h) (Or.inr ⟨by rfl, rfl⟩) (by assumption) ?_)
              try simp only [List.getElem_toArray, List.getElem_cons_zero, List.getElem_cons_succ, Act.put, List.setIfInBounds_toArray, List.set_cons_zero, List.set_cons_succ]
              first
                | (refine wpAnyH_take (i := 6) (v := ?_) rfl (by kernel_rfl) (by kernel_rfl) (by kernel_rfl) (fun _ _ _ h => h) (Or.inl ⟨by rfl, ?_⟩) (by assumption) ?_
                   rotate_left
                   · (intro W hW; have hf := H_HR.out W hW; go_simp; try (with_reducible rfl)))
                | (refine wpAnyH_take (i := 6) (v := undef) rfl (by kernel_rfl) (by kernel_rfl) (by kernel_rfl) (fun _ _ _ h => h) (Or.inr ⟨by rfl, rfl⟩) (by assumption) ?_)
              try simp only [List.getElem_toArray, List.getElem_cons_zero, List.getElem_cons_succ, Act.put, List.setIfInBounds_toArray, List.set_cons_zero, List.set_cons_succ]
              first
                | (refine wpAnyH_take (i := 7) (v := ?_) rfl (by kernel_rfl) (by kernel_rfl) (by kernel_rfl) (fun _ _ _ h => h) (Or.inl ⟨by rfl, ?_⟩) (by assumption) ?_
                   rotate_left
                   · (intro W hW; have hf := H_HR.out W hW; go_simp; try (with_reducible rfl)))
                | (refine wpAnyH_take (i := 7) (v := undef) rfl (by kernel_rfl) (by kernel_rfl) (by kernel_rfl) (fun _ _ _ h => h) (Or.inr ⟨by rfl, rfl⟩) (by assumption) ?_)
              try simp only [List.getElem_toArray, List.getElem_cons_zero, List.getElem_cons_succ, Act.put, List.setIfInBounds_toArray, List.set_cons_zero, List.set_cons_succ]
              first
                | (refine wpAnyH_take (i := 8) (v := ?_) rfl (by kernel_rfl) (by kernel_rfl) (by kernel_rfl) (fun _ _ _ h => h) (Or.inl ⟨by rfl, ?_⟩) (by assumption) ?_
                   rotate_left
                   · (intro W hW; have hf := H_HR.out W hW; go_simp; try (with_reducible rfl)))
                | (refine wpAnyH_take (i := 8) (v := undef) rfl (by kernel_rfl) (by kernel_rfl) (by kernel_rfl) (fun _ _ _ h => h) (Or.inr ⟨by rfl, rfl⟩) (by assumption) ?_)
              try simp only [List.getElem_toArray, List.getElem_cons_zero, List.getElem_cons_succ, Act.put, List.setIfInBounds_toArray, List.set_cons_zero, List.set_cons_succ]
              first
                | (refine wpAnyH_take (i := 10) (v := ?_) rfl (by kernel_rfl) (by kernel_rfl) (by kernel_rfl) (fun _ _ _ h => h) (Or.inl ⟨by rfl, ?_⟩) (by assumption) ?_
                   rotate_left
                   · (intro W hW; have hf := H_HR.out W hW; go_simp; try (with_reducible rfl)))
                | (refine wpAnyH_take (i := 10) (v := undef) rfl (by kernel_rfl) (by kernel_rfl) (by kernel_rfl) (fun _ _ _ h => h) (Or.inr ⟨by rfl, rfl⟩) (by assumption) ?_)
              try simp only [List.getElem_toArray, List.getElem_cons_zero, List.getElem_cons_succ, Act.put, List.setIfInBounds_toArray, List.set_cons_zero, List.set_cons_succ]
              first
                | (refine wpAnyH_take (i := 11) (v := ?_) rfl (by kernel_rfl) (by kernel_rfl) (by kernel_rfl) (fun _ _ _ h => h) (Or.inl ⟨by rfl, ?_⟩) (by assumption) ?_
                   rotate_left
                   · (intro W hW; have hf := H_HR.out W hW; go_simp; try (with_reducible rfl)))
                | (refine wpAnyH_take (i := 11) (v := undef) rfl (by kernel_rfl) (by kernel_rfl) (by kernel_rfl) (fun _ _ _ h => h) (Or.inr ⟨by rfl, rfl⟩) (by assumption) ?_)
              try simp only [List.getElem_toArray, List.getElem_cons_zero, List.getElem_cons_succ, Act.put, List.setIfInBounds_toArray, List.set_cons_zero, List.set_cons_succ]
              refine wpAnyH_ready (rs := [9]) (by kernel_rfl) (by simp) ?_
              refine AllReadyH.cons rfl (fun K hK => ?_) AllReadyH.nil
              go_simp
              go_at_call 82
              refine (H_cCut.out _).mono ?_
              rintro _ w5 ⟨vv, rfl, hOw, hb5⟩
              have hO5 := ownS_row hOw
              obtain ⟨o5, c5, rfl⟩ := Pk.ow_form hO5
              have hS5 := sla_of hO5
              have hO : Below w2.heap.size w2 w5 := below_via hHeld hb5
              clear hHeld hb5 hOw hO5
              have H_hS5 := Lib.hid hS5
              clear hS5
              refine hK.out _ _ hO (fun hHeld => ?_)
              clear hK K hO
              try simp only [List.getElem_toArray, List.getElem_cons_zero, List.getElem_cons_succ, Act.put, List.setIfInBounds_toArray, List.set_cons_zero, List.set_cons_succ]
              refine wpAnyH_ready (rs := [12]) (by kernel_rfl) (by simp) ?_
              refine AllReadyH.cons rfl (fun K hK => ?_) AllReadyH.nil
              go_simp
              go_at_call 168
              refine (H_cIx.out _ _ _ _ H_hS5.out).mono ?_
              rintro _ w6 ⟨rfl, hb6⟩
              have hO : Below w2.heap.size w2 w6 := below_via hHeld hb6
              clear hHeld hb6
              refine hK.out _ _ hO (fun hHeld => ?_)
              clear hK K hO
              try simp only [List.getElem_toArray, List.getElem_cons_zero, List.getElem_cons_succ, Act.put, List.setIfInBounds_toArray, List.set_cons_zero, List.set_cons_succ]
              first
                | (refine wpAnyH_take (i := 13) (v := ?_) rfl (by kernel_rfl) (by kernel_rfl) (by kernel_rfl) (fun _ _ _ h => h) (Or.inl ⟨by rfl, ?_⟩) (by assumption) ?_
                   rotate_left
                   · (intro W hW; have hf := H_HR.out W hW; go_simp; try (with_reducible rfl)))
                | (refine wpAnyH_take (i := 13) (v := undef) rfl (by kernel_rfl) (by kernel_rfl) (by kernel_rfl) (fun _ _ _ h => h) (Or.inr ⟨by rfl, rfl⟩) (by assumption) ?_)
              try simp only [List.getElem_toArray, List.getElem_cons_zero, List.getElem_cons_succ, Act.put, List.setIfInBounds_toArray, List.set_cons_zero, List.set_cons_succ]
              first
                | (refine wpAnyH_take (i := 14) (v := ?_) rfl (by kernel_rfl) (by kernel_rfl) (by kernel_rfl) (fun _ _ _ h => h) (Or.inl ⟨by rfl, ?_⟩) (by assumption) ?_
                   rotate_left
                   · (intro W hW; have hf := H_HR.out W hW; go_simp; try (with_reducible rfl)))
                | (refine wpAnyH_take (i := 14) (v := undef) rfl (by kernel_rfl) (by kernel_rfl) (by kernel_rfl) (fun _ _ _ h => h) (Or.inr ⟨by rfl, rfl⟩) (by assumption) ?_)
              try simp only [List.getElem_toArray, List.getElem_cons_zero, List.getElem_cons_succ, Act.put, List.setIfInBounds_toArray, List.set_cons_zero, List.set_cons_succ]
              first
                | (refine wpAnyH_take (i := 15) (v := ?_) rfl (by kernel_rfl) (by kernel_rfl) (by kernel_rfl) (fun _ _ _ h => h) (Or.inl ⟨by rfl, ?_⟩) (by assumption) ?_
                   rotate_left
                   · (intro W hW; have hf := H_HR.out W hW; go_simp; try (with_reducible rfl)))
                | (refine wpAnyH_take (i := 15) (v := undef) rfl (by kernel_rfl) (by kernel_rfl) (by kernel_rfl) (fun _ _ _ h => h) (Or.inr ⟨by rfl, rfl⟩) (by assumption) ?_)
              try simp only [List.getElem_toArray, List.getElem_cons_zero, List.getElem_cons_succ, Act.put, List.setIfInBounds_toArray, List.set_cons_zero, List.set_cons_succ]
              refine wpAnyH_done (by kernel_rfl) ?_ _
              go_wp2_with fail
              go_returns
              exact ⟨congrArg (fun t => Ending.returned (.bool t)) H_hno.out.symm, below_via hBw2 hHeld⟩
        · have hV := hasV_at (ats := e.ats) (nm := un)
          have cI := H_cA.out UN
          rw [H_hUN.out] at hV
          have hdi := optI_nn (idxA UN e.ats)
          rw [← hV] at hdi
          obtain ⟨AI, hAI⟩ : ∃ u, optI (idxA UN e.ats) = u := ⟨_, rfl⟩
          rw [hAI] at cI hdi
          by_cases hz : 0 ≤ AI
          · have hd0 := decide_eq_true hz
            have hyes := hnext (hdi.symm.trans hd0)
            clear hdi
            have H_hyes := Lib.hid hyes
            clear hyes
            have H_hV := Lib.hid hV
            clear hV
            have H_cI := Lib.hid cI
            clear cI
            have H_hstop := Lib.hid hstop
            clear hstop
            have H_hnext := Lib.hid hnext
            clear hnext
            have H_hAI := Lib.hid hAI
            clear hAI
            go_wp2_with fail
            refine (H_cI.out _ hBw).mono ?_
            rintro _ w2 ⟨rfl, hb2⟩
            have hB2 := hB.step hb2
            clear hb2 hbx1 hbx2 hw0
            go_wp2_with fail
            go_roundw
            case rel => exact ⟨k + 1, by omega, by go_num, H_hyes, hB2⟩
            case measure => simp [intOf]; omega
          · have hd0 := decide_eq_false hz
            have hno : (true && ws.all (hasV e.ats)) = false := by rw [hstop (hdi.symm.trans hd0)]; rfl
            clear hdi
            have H_hno := Lib.hid hno
            clear hno
            have H_hV := Lib.hid hV
            clear hV
            have H_cI := Lib.hid cI
            clear cI
            have H_hstop := Lib.hid hstop
            clear hstop
            have H_hnext := Lib.hid hnext
            clear hnext
            have H_hAI := Lib.hid hAI
            clear hAI
            go_wp2_with fail
            refine (H_cI.out _ hBw).mono ?_
            rintro _ w2 ⟨rfl, hb2⟩
            have hB2 := hB.step hb2
            have hBw2 := hB2.bel
            clear hb2 hbx1 hbx2 hw0
            go_wp2_with fail
            go_returns
            exact ⟨congrArg (fun t => Ending.returned (.bool t)) H_hno.out.symm, hBw2⟩
      · obtain rfl : k = wl := by omega
        have hall : (true && ws.all (hasV e.ats)) = true := by
          rw [H_k.out, List.drop_eq_nil_of_le (by have := H_hS.out.1; omega)]; rfl
        have hno := hall
        have H_hno := Lib.hid hno
        clear hno
        have H_hall := Lib.hid hall
        clear hall
        go_wp2_with fail
        go_returns
        exact ⟨congrArg (fun t => Ending.returned (.bool t)) H_hno.out.symm, hBw⟩
end Go.Proofs.YteaipondofbecaaGreatDoor
