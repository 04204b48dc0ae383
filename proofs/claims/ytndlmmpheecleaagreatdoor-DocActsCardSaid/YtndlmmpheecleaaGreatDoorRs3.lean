/-
  Walks over the reference's document: Set.
-/
import Derived.Test.YtndlmmpheecleaaGreatDoorUc
import Derived.Test.YtndlmmpheecleaaGreatDoorUd
namespace Go.Proofs.YtndlmmpheecleaaGreatDoor
open Go.RowKit Lead Lead.Dc Lead.Rc
theorem infoAtS : (Tryz.prog.info? 59).map (fun i => (i.zero, i.size, i.bytes)) = some (some (.agg #[.string ⟨#[]⟩, .string ⟨#[]⟩]), 2, 32) := by kernel_rfl
theorem setA_le (nm vl : ByteArray) (l : List At) : (setA nm vl l).length ≤ l.length + 1 := by
  unfold setA
  split
  · rw [List.length_set]; exact Nat.le_succ _
  · rw [List.length_append]; exact Nat.le_refl _
/-- What an act on an element's attributes leaves, but for the memory. -/
theorem acts_ats {base b : Nat} {v : Value} {l : List ReX} {w w' : World} {n : Nat} (hn : n < l.length) {y : ReX} (hD : RDoc RT_ base w' b v (l.set n y)) (hT : Turn (RG b v l) w w') (hy : ∀ k, y.av.ownBlock = some k → l[n].av.ownBlock = some k ∨ w.heap.size ≤ k) (hk : y.kv = l[n].kv) (hlt : ∀ x ∈ l, ∀ k, x.av.ownBlock = some k → k < w.heap.size) (hya : y.ats.length ≤ l[n].ats.length + 1) (hyk : y.kids = l[n].kids) :
    RActs base b v l (l.set n y) v w w' := by
  refine ⟨hD, hT, fun k hk' => ?_, fun hd => hd.set_av hn fun k h1 => (hy k h1).imp id fun h2 x hx h3 => by have := hlt x hx k h3; omega,
    fun K hK => hK.set (Nat.le_succ K) ⟨Nat.le_trans hya (Nat.succ_le_succ (hK.get hn).1), by rw [hyk]; exact Nat.le_succ_of_le (hK.get hn).2⟩⟩
  rcases hk' with rfl | h1 | ⟨x, hx, h1⟩
  · exact .inl (.inl rfl)
  · exact .inl (.inr (.inl h1))
  · rcases List.mem_or_eq_of_mem_set hx with hx | rfl
    · exact .inl (.inr (.inr ⟨x, hx, h1⟩))
    · rcases h1 with h1 | h1
      · exact (hy k h1).imp (fun h2 => .inr (.inr ⟨_, List.getElem_mem hn, .inl h2⟩)) id
      · rw [hk] at h1
        exact .inl (.inr (.inr ⟨_, List.getElem_mem hn, .inr h1⟩))
set_option maxHeartbeats 4000000 in
set_option maxRecDepth 100000 in
theorem rset_bad (base b : Nat) (v : Value) (l : List ReX) (E : Els) (next : Nat) (z : Int) (nm vl : ByteArray) (w : World) (h : RDoc RT_ base w b v l) (hR : RelD l E next) (hnx : next ≤ 1000000) (hnm : nm.size ≤ 1000000) (hvl : vl.size ≤ 1000000) (hc : setC E z nm vl ≠ 0) :
    Calls Tryz.prog 19 #[.pointer (some ⟨b, 0, none⟩), .int .i64 z, .string nm, .string vl] w fun en w' => en = .returned (.int .i64 (setC E z nm vl : Nat)) ∧ Below w.heap.size w w' := by
  have hlm : l.length ≤ 1000000 := by rw [hR.len]; exact hnx
  have cH := rhas_any base b v l z w h hlm
  rw [hR.has] at cH
  have cN := fun (W : World) => risname_any nm W hnm
  have cV := fun (W : World) => risvalue_any vl W hvl
  cases hat : atZ E z with
  | none =>
    have hat' : (if 0 ≤ z then elAt E z.toNat else none) = none := hat
    have hC : setC E z nm vl = 5 := by unfold setC; rw [hat]
    rw [hC]
    rw [hat'] at cH
    have H_cH := Lib.hid cH
    clear cH
    have H_cN := Lib.hid cN
    clear cN
    have H_cV := Lib.hid cV
    clear cV
    have H_h := Lib.hid h
    clear h
    have H_hR := Lib.hid hR
    clear hR
    have H_hat := Lib.hid hat
    clear hat
    have H_hat' := Lib.hid hat'
    clear hat'
    have H_hc := Lib.hid hc
    clear hc
    have H_hC := Lib.hid hC
    clear hC
    go_enter Tryz.func19, Tryz.ntmps19
    go_wp2_with fail
    refine (H_cH.out).mono ?_
    rintro _ w1 ⟨rfl, hb1⟩
    have hB1 : Below w.heap.size w w1 := below_via (by repeat' (first | (with_reducible first | exact bwR _ _ | assumption | refine bdn ?_ | refine bwA ?_ ?_ _ | refine bwD ?_ | refine bwS ?_ ?_ _) | omega | (simp <;> omega))) hb1
    clear hb1
    go_wp2_with fail
    go_returns
    exact ⟨rfl, by repeat' (first | (with_reducible first | exact bwR _ _ | assumption | refine bdn ?_ | refine bwA ?_ ?_ _ | refine bwD ?_ | refine bwS ?_ ?_ _) | omega | (simp <;> omega))⟩
  | some e =>
    obtain ⟨n, rfl, he⟩ := atZ_some hat
    have hat' : (if (0 : Int) ≤ (n : Int) then elAt E (n : Int).toNat else none) = some e := hat
    rw [hat'] at cH
    obtain ⟨hnl, _, hna, _, _, hni⟩ := hR.el n e he
    cases hk : nmOk nm with
    | false =>
      have hC : setC E (n : Int) nm vl = 4 := by unfold setC; rw [hat]; dsimp only; rw [if_pos hk]
      rw [hC]
      rw [hk] at cN
      have H_cH := Lib.hid cH
      clear cH
      have H_cN := Lib.hid cN
      clear cN
      have H_cV := Lib.hid cV
      clear cV
      have H_h := Lib.hid h
      clear h
      have H_hR := Lib.hid hR
      clear hR
      have H_hat := Lib.hid hat
      clear hat
      have H_hat' := Lib.hid hat'
      clear hat'
      have H_hc := Lib.hid hc
      clear hc
      have H_hC := Lib.hid hC
      clear hC
      have H_hk := Lib.hid hk
      clear hk
      have H_he := Lib.hid he
      clear he
      go_enter Tryz.func19, Tryz.ntmps19
      go_wp2_with fail
      refine (H_cH.out).mono ?_
      rintro _ w1 ⟨rfl, hb1⟩
      have hB1 : Below w.heap.size w w1 := below_via (by repeat' (first | (with_reducible first | exact bwR _ _ | assumption | refine bdn ?_ | refine bwA ?_ ?_ _ | refine bwD ?_ | refine bwS ?_ ?_ _) | omega | (simp <;> omega))) hb1
      clear hb1
      go_wp2_with fail
      refine (H_cN.out _).mono ?_
      rintro _ w2 ⟨rfl, hb2⟩
      have hB2 : Below w.heap.size w w2 := below_via (by repeat' (first | (with_reducible first | exact bwR _ _ | assumption | refine bdn ?_ | refine bwA ?_ ?_ _ | refine bwD ?_ | refine bwS ?_ ?_ _) | omega | (simp <;> omega))) hb2
      clear hb2
      go_wp2_with fail
      go_returns
      exact ⟨rfl, by repeat' (first | (with_reducible first | exact bwR _ _ | assumption | refine bdn ?_ | refine bwA ?_ ?_ _ | refine bwD ?_ | refine bwS ?_ ?_ _) | omega | (simp <;> omega))⟩
    | true =>
      rw [hk] at cN
      cases hk2 : vlOk vl with
      | false =>
        have hC : setC E (n : Int) nm vl = 10 := by unfold setC; rw [hat]; dsimp only; rw [if_neg (by rw [hk]; decide), if_pos hk2]
        rw [hC]
        rw [hk2] at cV
        have H_cH := Lib.hid cH
        clear cH
        have H_cN := Lib.hid cN
        clear cN
        have H_cV := Lib.hid cV
        clear cV
        have H_h := Lib.hid h
        clear h
        have H_hR := Lib.hid hR
        clear hR
        have H_hat := Lib.hid hat
        clear hat
        have H_hat' := Lib.hid hat'
        clear hat'
        have H_hc := Lib.hid hc
        clear hc
        have H_hC := Lib.hid hC
        clear hC
        have H_hk := Lib.hid hk
        clear hk
        have H_hk2 := Lib.hid hk2
        clear hk2
        have H_he := Lib.hid he
        clear he
        go_enter Tryz.func19, Tryz.ntmps19
        go_wp2_with fail
        refine (H_cH.out).mono ?_
        rintro _ w1 ⟨rfl, hb1⟩
        have hB1 : Below w.heap.size w w1 := below_via (by repeat' (first | (with_reducible first | exact bwR _ _ | assumption | refine bdn ?_ | refine bwA ?_ ?_ _ | refine bwD ?_ | refine bwS ?_ ?_ _) | omega | (simp <;> omega))) hb1
        clear hb1
        go_wp2_with fail
        refine (H_cN.out _).mono ?_
        rintro _ w2 ⟨rfl, hb2⟩
        have hB2 : Below w.heap.size w w2 := below_via (by repeat' (first | (with_reducible first | exact bwR _ _ | assumption | refine bdn ?_ | refine bwA ?_ ?_ _ | refine bwD ?_ | refine bwS ?_ ?_ _) | omega | (simp <;> omega))) hb2
        clear hb2
        go_wp2_with fail
        refine (H_cV.out _).mono ?_
        rintro _ w3 ⟨rfl, hb3⟩
        have hB3 : Below w.heap.size w w3 := below_via (by repeat' (first | (with_reducible first | exact bwR _ _ | assumption | refine bdn ?_ | refine bwA ?_ ?_ _ | refine bwD ?_ | refine bwS ?_ ?_ _) | omega | (simp <;> omega))) hb3
        clear hb3
        go_wp2_with fail
        go_returns
        exact ⟨rfl, by repeat' (first | (with_reducible first | exact bwR _ _ | assumption | refine bdn ?_ | refine bwA ?_ ?_ _ | refine bwD ?_ | refine bwS ?_ ?_ _) | omega | (simp <;> omega))⟩
      | true =>
        rw [hk2] at cV
        by_cases hf : idxA nm e.attrs = none ∧ 12 ≤ e.attrs.length
        · have hC : setC E (n : Int) nm vl = 7 := by unfold setC; rw [hat]; dsimp only; rw [if_neg (by rw [hk]; decide), if_neg (by rw [hk2]; decide), if_pos hf]
          rw [hC]
          have cA := fun (W : World) (hW : Below w.heap.size w W) => rattr_any base b v l (n : Int) nm W (h.keep hW) hlm
          rw [rattr_at hnl hni, hna, hf.1] at cA
          simp only [show optI none = -1 from rfl] at cA
          obtain ⟨gd, cap, hv, hgd, _⟩ := h.v_form hnl
          have hcell := fun (W : World) (hW : Below w.heap.size w W) => (h.keep hW).cells (g := gd) (cap := cap) (p := n) hv hnl
          have hc0 := fun (W : World) (hW : Below w.heap.size w W) => (h.keep hW).c0
          simp only [hv] at hc0
          have hal : l[n].al = e.attrs.length := by
            have hs := (h.sub _ (List.getElem_mem hnl)).ats
            have := (Rc.sla_of (show OwnR EAt w base 59 (.slice l[n].ao l[n].al l[n].ac) l[n].ats from hs)).1
            rw [this, hna]
          have gnl : (n : Int) < (l.length : Int) := by omega
          obtain ⟨N, hN⟩ : ∃ u, l.length = u := ⟨_, rfl⟩
          obtain ⟨ao, hao⟩ : ∃ u, l[n].ao = u := ⟨_, rfl⟩
          obtain ⟨ac, hac⟩ : ∃ u, l[n].ac = u := ⟨_, rfl⟩
          simp only [hal, hao, hac] at hcell
          rw [hN] at hc0 gnl
          obtain ⟨K, hK⟩ : ∃ u, e.attrs.length = u := ⟨_, rfl⟩
          have hf2 := hf.2
          rw [hK] at hcell hf2
          have gK : (12 : Int) ≤ (K : Int) := by omega
          have H_cH := Lib.hid cH
          clear cH
          have H_cN := Lib.hid cN
          clear cN
          have H_cV := Lib.hid cV
          clear cV
          have H_cA := Lib.hid cA
          clear cA
          have H_h := Lib.hid h
          clear h
          have H_hR := Lib.hid hR
          clear hR
          have H_hat := Lib.hid hat
          clear hat
          have H_hat' := Lib.hid hat'
          clear hat'
          have H_hc := Lib.hid hc
          clear hc
          have H_hC := Lib.hid hC
          clear hC
          have H_hk := Lib.hid hk
          clear hk
          have H_hk2 := Lib.hid hk2
          clear hk2
          have H_he := Lib.hid he
          clear he
          have H_hf := Lib.hid hf
          clear hf
          have H_hcell := Lib.hid hcell
          clear hcell
          have H_hc0 := Lib.hid hc0
          clear hc0
          have H_hN := Lib.hid hN
          clear hN
          have H_hK := Lib.hid hK
          clear hK
          have H_hal := Lib.hid hal
          clear hal
          have H_hao := Lib.hid hao
          clear hao
          have H_hac := Lib.hid hac
          clear hac
          go_enter Tryz.func19, Tryz.ntmps19
          go_wp2_with fail
          refine (H_cH.out).mono ?_
          rintro _ w1 ⟨rfl, hb1⟩
          have hB1 : Below w.heap.size w w1 := below_via (by repeat' (first | (with_reducible first | exact bwR _ _ | assumption | refine bdn ?_ | refine bwA ?_ ?_ _ | refine bwD ?_ | refine bwS ?_ ?_ _) | omega | (simp <;> omega))) hb1
          clear hb1
          go_wp2_with fail
          refine (H_cN.out _).mono ?_
          rintro _ w2 ⟨rfl, hb2⟩
          have hB2 : Below w.heap.size w w2 := below_via (by repeat' (first | (with_reducible first | exact bwR _ _ | assumption | refine bdn ?_ | refine bwA ?_ ?_ _ | refine bwD ?_ | refine bwS ?_ ?_ _) | omega | (simp <;> omega))) hb2
          clear hb2
          go_wp2_with fail
          refine (H_cV.out _).mono ?_
          rintro _ w3 ⟨rfl, hb3⟩
          have hB3 : Below w.heap.size w w3 := below_via (by repeat' (first | (with_reducible first | exact bwR _ _ | assumption | refine bdn ?_ | refine bwA ?_ ?_ _ | refine bwD ?_ | refine bwS ?_ ?_ _) | omega | (simp <;> omega))) hb3
          clear hb3
          go_wp2_with fail
          refine (H_cA.out _ hB3).mono ?_
          rintro _ w4 ⟨rfl, hb4⟩
          have hB4 : Below w.heap.size w w4 := below_via (by repeat' (first | (with_reducible first | exact bwR _ _ | assumption | refine bdn ?_ | refine bwA ?_ ?_ _ | refine bwD ?_ | refine bwS ?_ ?_ _) | omega | (simp <;> omega))) hb4
          clear hb4
          have c0 := H_hc0.out w4 hB4
          obtain ⟨_, q1, _, _, _⟩ := H_hcell.out w4 hB4
          go_wp2_with fail
          go_returns
          exact ⟨rfl, by repeat' (first | (with_reducible first | exact bwR _ _ | assumption | refine bdn ?_ | refine bwA ?_ ?_ _ | refine bwD ?_ | refine bwS ?_ ?_ _) | omega | (simp <;> omega))⟩
        · exact absurd (by unfold setC; rw [hat]; dsimp only; rw [if_neg (by rw [hk]; decide), if_neg (by rw [hk2]; decide), if_neg hf]) hc
set_option maxHeartbeats 4000000 in
set_option maxRecDepth 100000 in
theorem rset_ok (base b : Nat) (v : Value) (l : List ReX) (E : Els) (next : Nat) (n : Nat) (nm vl : ByteArray) (e : El) (w : World) (h : RDoc RT_ base w b v l) (hbw : base ≤ w.heap.size) (hR : RelD l E next) (hD : RDis l) (hnx : next ≤ 1000000) (hnm : nm.size ≤ 1000000) (hvl : vl.size ≤ 1000000) (he : elAt E n = some e) (hc : setC E (n : Int) nm vl = 0) (hal9 : e.attrs.length ≤ 1000) :
    Calls Tryz.prog 19 #[.pointer (some ⟨b, 0, none⟩), .int .i64 (n : Int), .string nm, .string vl] w fun en w' => en = .returned (.int .i64 0) ∧ ∃ l', RelD l' (atsE E n (setA nm vl e.attrs)) next ∧ RActs base b v l l' v w w' := by
  have hlm : l.length ≤ 1000000 := by rw [hR.len]; exact hnx
  have cH := rhas_any base b v l (n : Int) w h hlm
  rw [hR.has] at cH
  have hat' : (if (0 : Int) ≤ (n : Int) then elAt E (n : Int).toNat else none) = some e := by rw [if_pos (by omega), Int.toNat_natCast]; exact he
  rw [hat'] at cH
  obtain ⟨hnl, _, hna, _, _, hni⟩ := hR.el n e he
  have hat : atZ E (n : Int) = some e := by rw [atZ_nat]; exact he
  have hok : nmOk nm = true ∧ vlOk vl = true ∧ ¬ (idxA nm e.attrs = none ∧ 12 ≤ e.attrs.length) := by
    unfold setC at hc
    rw [hat] at hc
    dsimp only at hc
    split at hc
    · exact absurd hc (by decide)
    · next h1 =>
      split at hc
      · exact absurd hc (by decide)
      · next h2 =>
        split at hc
        · exact absurd hc (by decide)
        · next h3 => exact ⟨by cases hh : nmOk nm <;> simp_all, by cases hh : vlOk vl <;> simp_all, h3⟩
  obtain ⟨hk, hk2, hf⟩ := hok
  have cN := fun (W : World) => risname_any nm W hnm
  have cV := fun (W : World) => risvalue_any vl W hvl
  rw [hk] at cN
  rw [hk2] at cV
  have cA := fun (W : World) (hW : Below w.heap.size w W) => rattr_any base b v l (n : Int) nm W (h.keep hW) hlm
  rw [rattr_at hnl hni, hna] at cA
  obtain ⟨gd, cap, hv, hgd, hbg, hgb, _, _, _, hfz⟩ := h.v_form hnl
  have hcell := fun (W : World) (hW : Below w.heap.size w W) => (h.keep hW).cells (g := gd) (cap := cap) (p := n) hv hnl
  have hc0 := fun (W : World) (hW : Below w.heap.size w W) => (h.keep hW).c0
  simp only [hv] at hc0
  have hs := h.sub _ (List.getElem_mem hnl)
  have hal : l[n].al = e.attrs.length := by
    have := (Rc.sla_of (show OwnR EAt w base 59 (.slice l[n].ao l[n].al l[n].ac) l[n].ats from hs.ats)).1
    rw [this, hna]
  have gnl : (n : Int) < (l.length : Int) := by omega
  have hvo : v.ownBlock = some gd := by rw [hv]; rfl
  have hT : (RT_).at_ ≠ (RT_).int_ := by decide
  have hold : ∀ x ∈ l, ∀ k, x.av.ownBlock = some k → k < w.heap.size := fun x hx k hk => ((h.sub x hx).ats.lt k hk).2
  obtain ⟨N, hN⟩ : ∃ u, l.length = u := ⟨_, rfl⟩
  rw [hN] at hc0 gnl
  cases hi : idxA nm e.attrs with
  | some k =>
    obtain ⟨hkl, hkn, _⟩ := idxA_name hi
    rw [hi] at cA
    simp only [show optI (some k) = (k : Int) from rfl] at cA
    have hform : ∃ ga ca, l[n].av = .slice (some ⟨ga, 0, none⟩) e.attrs.length ca ∧ ga < w.heap.size ∧ base ≤ ga ∧ (∀ j, w.frozen? ⟨ga, j, none⟩ = false) ∧ (∀ q, q < 2 → ∃ u, w.cell? ⟨ga, k * 2 + q, none⟩ = some u) := by
      obtain ⟨c, h2⟩ := hs.ats
      rcases h2 with ⟨_, h3⟩ | ⟨g, ca, cur, h3, h4, h5, _⟩
      · exfalso; rw [← hna] at hkl; omega
      · obtain ⟨g', ca', a1, a2, a3, a4, a5, a6⟩ := hs.ats.form.resolve_left (by rintro ⟨_, a⟩; rw [← hna, a] at hkl; simp at hkl)
        rw [h3] at a1
        injection a1 with a1 a1' a1''
        injection a1 with a1
        injection a1 with a1
        subst a1
        refine ⟨g, ca, by rw [h3, hna], a3, a2, fun _ => Dc.hfree h5, fun q hq => ?_⟩
        have h7 := a6 k (by rw [hna]; exact hkl)
        match q, hq with
        | 0, _ => exact ⟨_, by have := h7 0 _ rfl; rw [Nat.zero_add] at this; exact this⟩
        | 1, _ => exact ⟨_, by have := h7 1 _ rfl; rw [Nat.zero_add] at this; exact this⟩
    obtain ⟨ga, ca, hav, hga, _, hgf, hgc⟩ := hform
    obtain ⟨u0, a0⟩ := hgc 0 (by omega)
    obtain ⟨u1, a1⟩ := hgc 1 (by omega)
    have hav3 : l[n].ao = some ⟨ga, 0, none⟩ ∧ l[n].ac = ca := by unfold ReX.av at hav; injection hav with h1 _ h3; exact ⟨h1, h3⟩
    have hao := hav3.1
    have hac := hav3.2
    simp only [hal, hao, hac] at hcell
    have hown : OwnR EAt w base (RT_).at_ (.slice (some ⟨ga, 0, none⟩) e.attrs.length ca) e.attrs := by rw [← hav, ← hna]; exact hs.ats
    have hQ : ∀ W, Below w.heap.size w W → W.cell? ⟨ga, k * 2, none⟩ = some u0 ∧ W.cell? ⟨ga, k * 2 + 1, none⟩ = some u1 ∧ ∀ j, W.frozen? ⟨ga, j, none⟩ = false := fun W hW =>
      ⟨(hW.cell (p := ⟨ga, k * 2, none⟩) hga).trans a0, (hW.cell (p := ⟨ga, k * 2 + 1, none⟩) hga).trans a1, fun j => (hW.frozen (p := ⟨ga, j, none⟩) hga).trans (hgf j)⟩
    have hset : setA nm vl e.attrs = e.attrs.set k (nm, vl) := by unfold setA; rw [hi]
    obtain ⟨K, hK⟩ : ∃ u, e.attrs.length = u := ⟨_, rfl⟩
    rw [hK] at hcell hkl
    have gk0 : (0 : Int) ≤ (k : Int) := by omega
    have gkK : (k : Int) < (K : Int) := by omega
    clear a0 a1
    have H_cH := Lib.hid cH
    clear cH
    have H_cN := Lib.hid cN
    clear cN
    have H_cV := Lib.hid cV
    clear cV
    have H_cA := Lib.hid cA
    clear cA
    have H_h := Lib.hid h
    clear h
    have H_hR := Lib.hid hR
    clear hR
    have H_hat := Lib.hid hat
    clear hat
    have H_hat' := Lib.hid hat'
    clear hat'
    have H_hc := Lib.hid hc
    clear hc
    have H_hk := Lib.hid hk
    clear hk
    have H_hk2 := Lib.hid hk2
    clear hk2
    have H_he := Lib.hid he
    clear he
    have H_hf := Lib.hid hf
    clear hf
    have H_hcell := Lib.hid hcell
    clear hcell
    have H_hc0 := Lib.hid hc0
    clear hc0
    have H_hN := Lib.hid hN
    clear hN
    have H_hK := Lib.hid hK
    clear hK
    have H_hal := Lib.hid hal
    clear hal
    have H_hao := Lib.hid hao
    clear hao
    have H_hac := Lib.hid hac
    clear hac
    have H_hav := Lib.hid hav
    clear hav
    have H_hav3 := Lib.hid hav3
    clear hav3
    have H_hown := Lib.hid hown
    clear hown
    have H_hQ := Lib.hid hQ
    clear hQ
    have H_hset := Lib.hid hset
    clear hset
    have H_hna := Lib.hid hna
    clear hna
    have H_hni := Lib.hid hni
    clear hni
    have H_hs := Lib.hid hs
    clear hs
    have H_hD := Lib.hid hD
    clear hD
    have H_hold := Lib.hid hold
    clear hold
    have H_hi := Lib.hid hi
    clear hi
    have H_hkn := Lib.hid hkn
    clear hkn
    have H_hv := Lib.hid hv
    clear hv
    have H_hgf := Lib.hid hgf
    clear hgf
    have H_hvo := Lib.hid hvo
    clear hvo
    go_enter Tryz.func19, Tryz.ntmps19
    go_wp2_with fail
    refine (H_cH.out).mono ?_
    rintro _ w1 ⟨rfl, hb1⟩
    have hB1 : Below w.heap.size w w1 := below_via (by repeat' (first | (with_reducible first | exact bwR _ _ | assumption | refine bdn ?_ | refine bwA ?_ ?_ _ | refine bwD ?_ | refine bwS ?_ ?_ _) | omega | (simp <;> omega))) hb1
    clear hb1
    go_wp2_with fail
    refine (H_cN.out _).mono ?_
    rintro _ w2 ⟨rfl, hb2⟩
    have hB2 : Below w.heap.size w w2 := below_via (by repeat' (first | (with_reducible first | exact bwR _ _ | assumption | refine bdn ?_ | refine bwA ?_ ?_ _ | refine bwD ?_ | refine bwS ?_ ?_ _) | omega | (simp <;> omega))) hb2
    clear hb2
    go_wp2_with fail
    refine (H_cV.out _).mono ?_
    rintro _ w3 ⟨rfl, hb3⟩
    have hB3 : Below w.heap.size w w3 := below_via (by repeat' (first | (with_reducible first | exact bwR _ _ | assumption | refine bdn ?_ | refine bwA ?_ ?_ _ | refine bwD ?_ | refine bwS ?_ ?_ _) | omega | (simp <;> omega))) hb3
    clear hb3
    go_wp2_with fail
    refine (H_cA.out _ hB3).mono ?_
    rintro _ w4 ⟨rfl, hb4⟩
    have hB4 : Below w.heap.size w w4 := below_via (by repeat' (first | (with_reducible first | exact bwR _ _ | assumption | refine bdn ?_ | refine bwA ?_ ?_ _ | refine bwD ?_ | refine bwS ?_ ?_ _) | omega | (simp <;> omega))) hb4
    clear hb4
    have c0 := H_hc0.out w4 hB4
    obtain ⟨_, q1, _, _, _⟩ := H_hcell.out w4 hB4
    obtain ⟨a0, a1, af⟩ := H_hQ.out w4 hB4
    go_wp2_with fail
    go_returns
    refine ⟨rfl, l.set n { l[n] with ats := setA nm vl e.attrs }, ?_, ?_⟩
    rotate_left
    · have h4 := H_h.out.keep hB4
      have hkl' : k < e.attrs.length := by rw [H_hK.out]; exact hkl
      have ho1 := own_set (En := EAt) (y := (nm, (e.attrs[k]).2)) (q := 0) (u := .string nm) (H_hown.out.keep hB4) hkl' (by decide) rfl
      have hkl2 : k < (e.attrs.set k (nm, (e.attrs[k]).2)).length := by rw [List.length_set]; exact hkl'
      have ho1' : OwnR EAt (w4.setCell ⟨ga, k * EAt.k + 0, none⟩ (.string nm)) base (RT_).at_ (.slice (some ⟨ga, 0, none⟩) (e.attrs.set k (nm, (e.attrs[k]).2)).length ca) (e.attrs.set k (nm, (e.attrs[k]).2)) := by rw [List.length_set]; exact ho1
      have ho2 := own_set (En := EAt) (y := (nm, vl)) (q := 1) (u := .string vl) ho1' hkl2 (by decide) (by rw [List.getElem_set_self]; rfl)
      rw [List.set_set, ← H_hset.out, List.length_set] at ho2
      have ho3 : OwnR EAt ((w4.setCell ⟨ga, k * 2, none⟩ (.string nm)).setCell ⟨ga, k * 2 + 1, none⟩ (.string vl)) base (RT_).at_ l[n].av (setA nm vl e.attrs) := by rw [H_hav.out]; exact ho2
      have hbl : l[n].av.ownBlock = some ga := by rw [H_hav.out]; rfl
      have hkp : ∀ k', l[n].av.ownBlock ≠ some k' → ((w4.setCell ⟨ga, k * 2, none⟩ (.string nm)).setCell ⟨ga, k * 2 + 1, none⟩ (.string vl)).heap[k']? = w4.heap[k']? := fun k' hk' => by
        have hne : k' ≠ ga := fun e => hk' (by rw [hbl, e])
        exact (heap_setCell_other _ ⟨ga, k * 2 + 1, none⟩ k' _ hne).trans (heap_setCell_other _ ⟨ga, k * 2, none⟩ k' _ hne)
      have hdoc := h4.ats0 hT H_hD.out hnl hkp ho3
      have hgG : RG b v l ga := .inr (.inr ⟨_, List.getElem_mem hnl, .inl hbl⟩)
      have hTn : Turn (RG b v l) w ((w4.setCell ⟨ga, k * 2, none⟩ (.string nm)).setCell ⟨ga, k * 2 + 1, none⟩ (.string vl)) := ((Turn.of_below hB4).trans (F' := RG b v l) (Turn.set (a := ⟨ga, k * 2, none⟩) hgG) (fun _ _ h => h)).trans (F' := RG b v l) (Turn.set (a := ⟨ga, k * 2 + 1, none⟩) hgG) (fun _ _ h => h)
      exact acts_ats hnl hdoc hTn (fun k' h1 => .inl h1) rfl H_hold.out (by show (setA nm vl e.attrs).length ≤ l[n].ats.length + 1; rw [H_hna.out]; exact setA_le nm vl e.attrs) rfl
    · exact H_hR.out.ats H_he.out hnl ⟨rfl, rfl, rfl, rfl, rfl⟩
  | none =>
    have hl12 : e.attrs.length < 12 := by
      rcases Nat.lt_or_ge e.attrs.length 12 with h' | h'
      · exact h'
      · exact absurd ⟨hi, h'⟩ hf
    rw [hi] at cA
    simp only [show optI none = -1 from rfl] at cA
    have hset : setA nm vl e.attrs = e.attrs ++ [(nm, vl)] := by unfold setA; rw [hi]
    obtain ⟨ao, hao⟩ : ∃ u, l[n].ao = u := ⟨_, rfl⟩
    obtain ⟨ac, hac⟩ : ∃ u, l[n].ac = u := ⟨_, rfl⟩
    have hav : l[n].av = .slice ao e.attrs.length ac := by unfold ReX.av; rw [hal, hao, hac]
    simp only [hal, hao, hac] at hcell
    have hown : OwnR EAt w base (RT_).at_ (.slice ao e.attrs.length ac) e.attrs := by rw [← hav, ← hna]; exact hs.ats
    obtain ⟨K, hK⟩ : ∃ u, e.attrs.length = u := ⟨_, rfl⟩
    rw [hK] at hcell hl12
    have gK : ¬ (12 : Int) ≤ (K : Int) := by omega
    obtain ⟨iR, hiR, hzR0, hzR1, hzR2⟩ := info_parts infoAtS
    have H_cH := Lib.hid cH
    clear cH
    have H_cN := Lib.hid cN
    clear cN
    have H_cV := Lib.hid cV
    clear cV
    have H_cA := Lib.hid cA
    clear cA
    have H_h := Lib.hid h
    clear h
    have H_hR := Lib.hid hR
    clear hR
    have H_hat := Lib.hid hat
    clear hat
    have H_hat' := Lib.hid hat'
    clear hat'
    have H_hc := Lib.hid hc
    clear hc
    have H_hk := Lib.hid hk
    clear hk
    have H_hk2 := Lib.hid hk2
    clear hk2
    have H_he := Lib.hid he
    clear he
    have H_hf := Lib.hid hf
    clear hf
    have H_hcell := Lib.hid hcell
    clear hcell
    have H_hc0 := Lib.hid hc0
    clear hc0
    have H_hN := Lib.hid hN
    clear hN
    have H_hK := Lib.hid hK
    clear hK
    have H_hal := Lib.hid hal
    clear hal
    have H_hao := Lib.hid hao
    clear hao
    have H_hac := Lib.hid hac
    clear hac
    have H_hav := Lib.hid hav
    clear hav
    have H_hown := Lib.hid hown
    clear hown
    have H_hset := Lib.hid hset
    clear hset
    have H_hna := Lib.hid hna
    clear hna
    have H_hni := Lib.hid hni
    clear hni
    have H_hs := Lib.hid hs
    clear hs
    have H_hD := Lib.hid hD
    clear hD
    have H_hold := Lib.hid hold
    clear hold
    have H_hi := Lib.hid hi
    clear hi
    have H_hv := Lib.hid hv
    clear hv
    have H_hiR := Lib.hid hiR
    clear hiR
    have H_hzR0 := Lib.hid hzR0
    clear hzR0
    have H_hzR1 := Lib.hid hzR1
    clear hzR1
    have H_hzR2 := Lib.hid hzR2
    clear hzR2
    go_enter Tryz.func19, Tryz.ntmps19
    go_wp2_with fail
    refine (H_cH.out).mono ?_
    rintro _ w1 ⟨rfl, hb1⟩
    have hB1 : Below w.heap.size w w1 := below_via (by repeat' (first | (with_reducible first | exact bwR _ _ | assumption | refine bdn ?_ | refine bwA ?_ ?_ _ | refine bwD ?_ | refine bwS ?_ ?_ _) | omega | (simp <;> omega))) hb1
    clear hb1
    go_wp2_with fail
    refine (H_cN.out _).mono ?_
    rintro _ w2 ⟨rfl, hb2⟩
    have hB2 : Below w.heap.size w w2 := below_via (by repeat' (first | (with_reducible first | exact bwR _ _ | assumption | refine bdn ?_ | refine bwA ?_ ?_ _ | refine bwD ?_ | refine bwS ?_ ?_ _) | omega | (simp <;> omega))) hb2
    clear hb2
    go_wp2_with fail
    refine (H_cV.out _).mono ?_
    rintro _ w3 ⟨rfl, hb3⟩
    have hB3 : Below w.heap.size w w3 := below_via (by repeat' (first | (with_reducible first | exact bwR _ _ | assumption | refine bdn ?_ | refine bwA ?_ ?_ _ | refine bwD ?_ | refine bwS ?_ ?_ _) | omega | (simp <;> omega))) hb3
    clear hb3
    go_wp2_with fail
    refine (H_cA.out _ hB3).mono ?_
    rintro _ w4 ⟨rfl, hb4⟩
    have hB4 : Below w.heap.size w w4 := below_via (by repeat' (first | (with_reducible first | exact bwR _ _ | assumption | refine bdn ?_ | refine bwA ?_ ?_ _ | refine bwD ?_ | refine bwS ?_ ?_ _) | omega | (simp <;> omega))) hb4
    clear hb4
    have c0 := H_hc0.out w4 hB4
    obtain ⟨_, q1, _, _, _⟩ := H_hcell.out w4 hB4
    go_wp2_with (at_builtin; refine wp_append_told rfl (.tmp 63) (.tmp 67) 22 rfl EAt base 59 iR _ 32 Tryz.underlying22 H_hiR.out H_hzR0.out H_hzR1.out H_hzR2.out rfl (by decide) _ e.attrs rfl _ 0 1 1 [(nm, vl)] rfl rfl ?a2 ?a3 ?a4 ?a5 ?_)
    case a2 => show e.attrs.length + 1 ≤ 1000000; omega
    case a3 => have h := H_hown.out.keep hB4; first | exact h.alloc _ | (rw [H_hK.out] at h; exact h.alloc _)
    case a4 => exact row_one (vs := #[.string nm, .string vl]) rfl (fun j => World.cell?_alloc_new _ _ _ _)
    case a5 => have := hB4.size; simp; omega
    intro v7 w7 hv7 hA7 hg7 ho7
    obtain ⟨o7, c7, h7⟩ := Rc.ow_form hv7
    rw [List.length_append, show ([(nm, vl)] : List At).length = 1 from rfl] at h7
    subst h7
    have h4 := H_h.out.keep hB4
    have hvb : l[n].av.ownBlock ≠ some gd := fun h2 => (H_hs.out.aq gd h2).1 hvo
    have hbb : l[n].av.ownBlock ≠ some b := fun h2 => (H_hs.out.aq b h2).2 rfl
    have keep7 : ∀ k, k < w4.heap.size → l[n].av.ownBlock ≠ some k → w7.heap[k]? = w4.heap[k]? := fun k hk hne => (hg7.block k (by rw [World.size_alloc]; omega) (fun e => hne (by rw [H_hav.out, H_hK.out]; exact e.symm))).trans (Below.heap_alloc _ _ _ hk)
    have hgd4 : gd < w4.heap.size := Nat.lt_of_lt_of_le hgd hB4.size
    have c0 : w7.cell? ⟨b, 0, none⟩ = some (.slice (some ⟨gd, 0, none⟩) N cap) := (World.cell?_of_block (w := w4) (a := ⟨b, 0, none⟩) (keep7 b h4.lt hbb)).trans c0
    have q1 := (World.cell?_of_block (w := w4) (a := ⟨gd, n * 5 + 1, none⟩) (keep7 gd hgd4 hvb)).trans q1
    have fz : ∀ j, w7.frozen? ⟨gd, j, none⟩ = false := fun j => (World.frozen?_of_block (w := w4) (a := ⟨gd, j, none⟩) (keep7 gd hgd4 hvb)).trans ((hB4.frozen (p := ⟨gd, j, none⟩) hgd).trans (hfz j))
    have hz7 : w.heap.size ≤ w7.heap.size := by have h1 := hg7.size; have h2 := hB4.size; rw [World.size_alloc] at h1; omega
    have hT7 : Turn (RG b v l) w w7 := (Turn.of_below hB4).trans (F' := RG b v l) ⟨hA7.os, hA7.tape, hA7.output, Nat.le_trans (Nat.le_succ _) (by have h1 := hg7.size; rw [World.size_alloc] at h1; exact h1), fun k hk hn => keep7 k hk (fun h2 => hn (.inr (.inr ⟨_, List.getElem_mem hnl, .inl h2⟩)))⟩ (fun _ _ h => h)
    have ho7' : ∀ k, (Value.slice o7 (e.attrs.length + 1) c7).ownBlock = some k → l[n].av.ownBlock = some k ∨ w4.heap.size ≤ k := fun k hk => by
      rcases ho7 with h1 | h1
      · left; rw [H_hav.out, H_hK.out]; exact h1.symm.trans hk
      · right; rw [h1] at hk; injection hk with hk; (try rw [World.size_alloc] at hk); omega
    clear hg7 ho7 hA7
    have H_hv7 := Lib.hid hv7
    clear hv7
    have H_h4 := Lib.hid h4
    clear h4
    have H_keep7 := Lib.hid keep7
    clear keep7
    have H_hT7 := Lib.hid hT7
    clear hT7
    have H_ho7' := Lib.hid ho7'
    clear ho7'
    have H_hvb := Lib.hid hvb
    clear hvb
    have H_hbb := Lib.hid hbb
    clear hbb
    go_wp2_with fail
    go_returns
    refine ⟨rfl, l.set n { l[n] with ao := o7, al := e.attrs.length + 1, ac := c7, ats := e.attrs ++ [(nm, vl)] }, ?_, ?_⟩
    rotate_left
    · have hdoc := H_h4.out.ats1 hT H_hD.out H_hv.out hnl H_keep7.out H_hv7.out H_ho7'.out
      have hgG : RG b v l gd := .inr (.inl hvo)
      have hTn : Turn (RG b v l) w (w7.setCell ⟨gd, n * 5 + 1, none⟩ (.slice o7 (e.attrs.length + 1) c7)) := H_hT7.out.trans (F' := RG b v l) (Turn.set (a := ⟨gd, n * 5 + 1, none⟩) hgG) (fun _ _ h => h)
      exact acts_ats hnl hdoc hTn (fun k' h1 => (H_ho7'.out k' h1).imp id (fun h2 => Nat.le_trans hB4.size h2)) rfl H_hold.out (by show (e.attrs ++ [(nm, vl)]).length ≤ l[n].ats.length + 1; rw [H_hna.out, List.length_append]; exact Nat.le_refl _) rfl
    · rw [H_hset.out]
      exact H_hR.out.ats H_he.out hnl ⟨rfl, rfl, rfl, rfl, rfl⟩
end Go.Proofs.YtndlmmpheecleaaGreatDoor
