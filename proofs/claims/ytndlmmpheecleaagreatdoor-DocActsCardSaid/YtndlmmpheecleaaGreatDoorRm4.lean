/-
  Walks over the reference's document: Move, where both elements are there and neither lies below the other.
-/
import Derived.Test.YtndlmmpheecleaaGreatDoorRm3
namespace Go.Proofs.YtndlmmpheecleaaGreatDoor
open Go.RowKit Lead Lead.Dc Lead.Pk Lead.Rc
set_option maxHeartbeats 4000000 in
set_option maxRecDepth 100000 in
theorem rmov_bound (base b : Nat) (v : Value) (l : List ReX) (E : Els) (next : Nat) (d : Nat → Nat) (a m p : Nat) (i : Int) (e me pe : El) (w : World) (h : RDoc RT_ base w b v l) (hR : RelD l E next) (hnx : next ≤ 900000) (g : Lead.Dc.Good E next d) (hsz : ∀ x ∈ l, x.ats.length ≤ 900000 ∧ x.kids.length ≤ 900000)
    (ha : elAt E a = some e) (hm : elAt E m = some me) (h0 : a ≠ 0) (hmb : m ∉ below E 10 a) (hep : e.parent = (p : Int)) (hpe : elAt E p = some pe) (hkp : pe.kids.length ≤ 900000) (hkm : me.kids.length ≤ 900000)
    (hi : i < 0 ∨ ((if e.parent = (m : Int) then me.kids.length - 1 else me.kids.length : Nat) : Int) < i) :
    Calls Tryz.prog 17 #[.pointer (some ⟨b, 0, none⟩), .int .i64 (a : Int), .int .i64 (m : Int), .int .i64 i] w fun en w' => en = .returned (.int .i64 2) ∧ Below w.heap.size w w' := by
  have hlm : l.length ≤ 1000000 := by rw [hR.len]; omega
  have cH1 := rhas_any base b v l (a : Int) w h hlm
  have cH2 := fun (W : World) (hW : Below w.heap.size w W) => rhas_any base b v l (m : Int) W (h.keep hW) hlm
  rw [hR.has, if_pos (by omega), Int.toNat_natCast, ha] at cH1
  simp only [hR.has (m : Int), if_pos (Int.natCast_nonneg m), Int.toNat_natCast, hm] at cH2
  have cU := fun (W : World) (hW : Below w.heap.size w W) => runder_any base b v l E next d m a me e W (h.keep hW) g hR.par hm ha
  rw [decide_eq_false hmb] at cU
  have cC := fun (W : World) (hW : Below w.heap.size w W) => rcopy_any base b v l W (h.keep hW) (by rw [hR.len]; omega) (fun x hx => hsz x hx)
  have g0 : ((a : Int) == 0) = false := by rw [beq_eq_false_iff_ne]; omega
  have hanm : a ≠ m := fun e => hmb (by rw [e]; exact self_below _ _)
  have H_cH1 := Lib.hid cH1
  clear cH1
  have H_cH2 := Lib.hid cH2
  clear cH2
  have H_cU := Lib.hid cU
  clear cU
  have H_cC := Lib.hid cC
  clear cC
  have H_h := Lib.hid h
  clear h
  have H_hR := Lib.hid hR
  clear hR
  have H_g := Lib.hid g
  clear g
  have H_ha := Lib.hid ha
  clear ha
  have H_hm := Lib.hid hm
  clear hm
  have H_hep := Lib.hid hep
  clear hep
  have H_hpe := Lib.hid hpe
  clear hpe
  have H_hkp := Lib.hid hkp
  clear hkp
  have H_hkm := Lib.hid hkm
  clear hkm
  have H_hsz := Lib.hid hsz
  clear hsz
  have H_hmb := Lib.hid hmb
  clear hmb
  have H_hanm := Lib.hid hanm
  clear hanm
  go_enter Tryz.func17, Tryz.ntmps17
  go_wp2_with fail
  refine (H_cH1.out).mono ?_
  rintro _ w1 ⟨rfl, hb1⟩
  have hB1 : Below w.heap.size w w1 := hb1
  clear hb1
  go_wp2_with fail
  refine (H_cH2.out _ hB1).mono ?_
  rintro _ w2 ⟨rfl, hb2⟩
  have hB2 : Below w.heap.size w w2 := below_via hB1 hb2
  clear hb2
  go_wp2_with fail
  refine (H_cU.out _ hB2).mono ?_
  rintro _ w3 ⟨rfl, hb3⟩
  have hB3 : Below w.heap.size w w3 := below_via hB2 hb3
  clear hb3 hB1 hB2
  clear w1 w2
  go_wp2_with fail
  refine (H_cC.out _ hB3).mono ?_
  rintro _ w4 ⟨b', v', l', rfl, hR4, ⟨hre4, hdis4⟩, hb4⟩
  have hB4 : Below w.heap.size w w4 := below_via hB3 hb4
  have hs34 := hb4.size
  have hb4 : Below w3.heap.size w3 w4 := hb4
  have hrel4 := H_hR.out.of_re hre4
  have hlen4 := hrel4.len
  obtain ⟨hal4, _, _, hap4, _, _⟩ := hrel4.el a e H_ha.out
  obtain ⟨hpl4, _, _, _, hpk4, _⟩ := hrel4.el p pe H_hpe.out
  obtain ⟨hml4, _, _, _, hmk4, _⟩ := hrel4.el m me H_hm.out
  have cO := roff_any w3.heap.size b' v' l' p a w4 hR4 hs34 hpl4 hal4 (hap4.trans H_hep.out) (by rw [hpk4]; exact H_hkp.out)
  obtain ⟨g', cap', hv', hgw', hbg', _, _, _, _, _⟩ := hR4.v_form hpl4
  have hvo' : v'.ownBlock = some g' := by rw [hv']; rfl
  have H_cO := Lib.hid cO
  clear cO
  have H_hR4 := Lib.hid hR4
  clear hR4
  have H_hre4 := Lib.hid hre4
  clear hre4
  have H_hdis4 := Lib.hid hdis4
  clear hdis4
  have H_hrel4 := Lib.hid hrel4
  clear hrel4
  have H_hb4 := Lib.hid hb4
  clear hb4
  go_wp2_with fail
  refine (H_cO.out).mono ?_
  rintro _ w5 ⟨rfl, ⟨ko1, kl1, kc1, hko1, hR5⟩, hT5⟩
  have hb5 : Below w3.heap.size w4 w5 := hT5.below hs34 (fun k hk => by rw [hvo'] at hk; injection hk with hk; omega)
  have hB5 : Below w.heap.size w w5 := hB4.trans (hb5.mono hB3.size)
  have hs45 := hb5.size
  obtain ⟨x1, hx1⟩ : ∃ u : ReX, { l'[p] with ko := ko1, kl := kl1, kc := kc1, kids := offK l'[p].kids a } = u := ⟨_, rfl⟩
  have gx1 : x1.nm = l'[p].nm ∧ x1.ats = l'[p].ats ∧ x1.par = l'[p].par ∧ x1.kids = offK l'[p].kids a ∧ x1.inn = l'[p].inn := by rw [← hx1]; exact ⟨rfl, rfl, rfl, rfl, rfl⟩
  have gx1a : x1.av = l'[p].av := by rw [← hx1]; rfl
  rw [hx1] at hR5
  obtain ⟨l1, hl1⟩ : ∃ u, l'.set p x1 = u := ⟨_, rfl⟩
  rw [hl1] at hR5
  have hlen1 : l1.length = next := by rw [← hl1, List.length_set]; exact hlen4
  have hml1 : m < l1.length := by rw [hlen1, ← hlen4]; exact hml4
  have hal1 : a < l1.length := by rw [hlen1, ← hlen4]; exact hal4
  have hmk1 : l1[m].kids = (if m = p then offK me.kids a else me.kids) := by
    subst hl1
    rw [List.getElem_set]
    by_cases hmp : p = m
    · subst hmp
      rw [if_pos rfl, if_pos rfl, gx1.2.2.2.1, hmk4]
    · rw [if_neg hmp, if_neg (fun e => hmp e.symm), hmk4]
  have hv1 : v' = .slice (some ⟨g', 0, none⟩) l1.length cap' := by rw [hv', hlen1, hlen4]
  have hc5 := hR5.cells hv1 hml1
  obtain ⟨_, _, _, q3, _⟩ := hc5
  have c0 := hR5.c0
  have hkl1 : l1[m].kl = l1[m].kids.length := by
    have hs := (hR5.sub _ (List.getElem_mem hml1)).kids
    exact (Rc.sla_of (show OwnR EIn w5 w3.heap.size 3 (.slice l1[m].ko l1[m].kl l1[m].kc) l1[m].kids from hs)).1
  rw [hkl1] at q3
  have hKe : l1[m].kids.length = (if e.parent = (m : Int) then me.kids.length - 1 else me.kids.length) := by rw [hmk1]; exact (kids_off H_g.out H_ha.out h0 H_hm.out H_hep.out H_hpe.out).symm
  have hK9 : l1[m].kids.length ≤ 900000 := by
    rw [hKe]
    have := H_hkm.out
    split <;> omega
  obtain ⟨K, hK⟩ : ∃ u, l1[m].kids.length = u := ⟨_, rfl⟩
  rw [hK] at q3 hKe hK9
  obtain ⟨kom, hkom⟩ : ∃ u, l1[m].ko = u := ⟨_, rfl⟩
  obtain ⟨kcm, hkcm⟩ : ∃ u, l1[m].kc = u := ⟨_, rfl⟩
  rw [hkom, hkcm] at q3
  rw [hv1, hlen1] at c0
  have gmN : (m : Int) < (next : Int) := by rw [hlen1] at hml1; omega
  have gaN : (a : Int) < (next : Int) := by rw [hlen1] at hal1; omega
  have gm0 : (0 : Int) ≤ (m : Int) := by omega
  have ga0 : (0 : Int) ≤ (a : Int) := by omega
  clear hko1 hT5 hB4
  have H_hR5 := Lib.hid hR5
  clear hR5
  have H_hl1 := Lib.hid hl1
  clear hl1
  have H_hx1 := Lib.hid hx1
  clear hx1
  have H_gx1 := Lib.hid gx1
  clear gx1
  have H_gx1a := Lib.hid gx1a
  clear gx1a
  have H_hmk1 := Lib.hid hmk1
  clear hmk1
  have H_hKe := Lib.hid hKe
  clear hKe
  have H_hK := Lib.hid hK
  clear hK
  have H_hkom := Lib.hid hkom
  clear hkom
  have H_hkcm := Lib.hid hkcm
  clear hkcm
  have H_hv1 := Lib.hid hv1
  clear hv1
  have H_hkl1 := Lib.hid hkl1
  clear hkl1
  have H_hv' := Lib.hid hv'
  clear hv'
  have H_hb5 := Lib.hid hb5
  clear hb5
  have H_hlen4 := Lib.hid hlen4
  clear hlen4
  by_cases hi0 : i < 0
  · go_wp2_with fail
    go_returns
    exact ⟨rfl, hB5⟩
  · have hi1 : (K : Int) < i := by
      have := hi.resolve_left hi0
      rw [← H_hKe.out] at this
      exact this
    clear hi
    go_wp2_with fail
    go_returns
    exact ⟨rfl, hB5⟩
/-- What Move leaves where it moves, but for the memory. -/
theorem acts_mov {base b base' b' : Nat} {v v' : Value} {l l3 : List ReX} {w w7 : World} (h : RDoc RT_ base w b v l) (hbw : base ≤ w.heap.size) (hB : Below w.heap.size w w7) (h7 : RDoc RT_ base' w7 b' v' l3) (hb : w.heap.size ≤ base') (hd : RDis l3) (hsz : ∀ K, Sz K l → Sz (K + 1) l3) :
    RActs base b v l l3 v' w (w7.setCell ⟨b, 0, none⟩ v') := by
  have hlt := h.lt
  refine ⟨(h.keep hB).rebox h7 (Nat.le_trans hbw hb) (by omega), (Turn.of_below hB).trans (F' := RG b v l) (Turn.set (a := ⟨b, 0, none⟩) (.inl rfl)) (fun _ _ h => h), fun k hk => ?_, fun _ => hd, hsz⟩
  rcases hk with rfl | h1 | ⟨x, hx, h1 | h1⟩
  · exact .inl (.inl rfl)
  · exact .inr (Nat.le_trans hb (h7.own.lt k h1).1)
  · exact .inr (Nat.le_trans hb ((h7.sub x hx).ats.lt k h1).1)
  · exact .inr (Nat.le_trans hb ((h7.sub x hx).kids.lt k h1).1)
set_option maxHeartbeats 8000000 in
set_option maxRecDepth 100000 in
theorem rmov_go (base b : Nat) (v : Value) (l : List ReX) (E : Els) (next : Nat) (d : Nat → Nat) (a m p j : Nat) (e me pe : El) (w : World) (h : RDoc RT_ base w b v l) (hbw : base ≤ w.heap.size) (hR : RelD l E next) (hnx : next ≤ 900000) (g : Lead.Dc.Good E next d) (hsz : ∀ x ∈ l, x.ats.length ≤ 900000 ∧ x.kids.length ≤ 900000)
    (ha : elAt E a = some e) (hm : elAt E m = some me) (h0 : a ≠ 0) (hmb : m ∉ below E 10 a) (hep : e.parent = (p : Int)) (hpe : elAt E p = some pe) (hkp : pe.kids.length ≤ 900000) (hkm : me.kids.length ≤ 900000)
    (hj : j ≤ (if e.parent = (m : Int) then me.kids.length - 1 else me.kids.length)) :
    Calls Tryz.prog 17 #[.pointer (some ⟨b, 0, none⟩), .int .i64 (a : Int), .int .i64 (m : Int), .int .i64 (j : Int)] w fun en w' =>
      (10 < d m + high E 10 a ∧ en = .returned (.int .i64 8) ∧ Below w.heap.size w w') ∨ (d m + high E 10 a ≤ 10 ∧ en = .returned (.int .i64 0) ∧ ∃ l' v', RelD l' (moveE E a m j p) next ∧ RActs base b v l l' v' w w') := by
  have hpa : a ≠ p := fun e => by
    obtain ⟨h1, _⟩ := g.off_p ha h0 hep
    exact h1 (by rw [← e]; exact self_below _ _)
  have hlm : l.length ≤ 1000000 := by rw [hR.len]; omega
  have cH1 := rhas_any base b v l (a : Int) w h hlm
  have cH2 := fun (W : World) (hW : Below w.heap.size w W) => rhas_any base b v l (m : Int) W (h.keep hW) hlm
  rw [hR.has, if_pos (by omega), Int.toNat_natCast, ha] at cH1
  simp only [hR.has (m : Int), if_pos (Int.natCast_nonneg m), Int.toNat_natCast, hm] at cH2
  have cU := fun (W : World) (hW : Below w.heap.size w W) => runder_any base b v l E next d m a me e W (h.keep hW) g hR.par hm ha
  rw [decide_eq_false hmb] at cU
  have cC := fun (W : World) (hW : Below w.heap.size w W) => rcopy_any base b v l W (h.keep hW) (by rw [hR.len]; omega) (fun x hx => hsz x hx)
  have g0 : ((a : Int) == 0) = false := by rw [beq_eq_false_iff_ne]; omega
  have hanm : a ≠ m := fun e => hmb (by rw [e]; exact self_below _ _)
  have H_cH1 := Lib.hid cH1
  clear cH1
  have H_cH2 := Lib.hid cH2
  clear cH2
  have H_cU := Lib.hid cU
  clear cU
  have H_cC := Lib.hid cC
  clear cC
  have H_h := Lib.hid h
  clear h
  have H_hR := Lib.hid hR
  clear hR
  have H_g := Lib.hid g
  clear g
  have H_ha := Lib.hid ha
  clear ha
  have H_hm := Lib.hid hm
  clear hm
  have H_hep := Lib.hid hep
  clear hep
  have H_hpe := Lib.hid hpe
  clear hpe
  have H_hkp := Lib.hid hkp
  clear hkp
  have H_hkm := Lib.hid hkm
  clear hkm
  have H_hsz := Lib.hid hsz
  clear hsz
  have H_hmb := Lib.hid hmb
  clear hmb
  have H_hanm := Lib.hid hanm
  clear hanm
  have H_hpa := Lib.hid hpa
  clear hpa
  go_enter Tryz.func17, Tryz.ntmps17
  go_wp2_with fail
  refine (H_cH1.out).mono ?_
  rintro _ w1 ⟨rfl, hb1⟩
  have hB1 : Below w.heap.size w w1 := hb1
  clear hb1
  go_wp2_with fail
  refine (H_cH2.out _ hB1).mono ?_
  rintro _ w2 ⟨rfl, hb2⟩
  have hB2 : Below w.heap.size w w2 := below_via hB1 hb2
  clear hb2
  go_wp2_with fail
  refine (H_cU.out _ hB2).mono ?_
  rintro _ w3 ⟨rfl, hb3⟩
  have hB3 : Below w.heap.size w w3 := below_via hB2 hb3
  clear hb3 hB1 hB2
  clear w1 w2
  go_wp2_with fail
  refine (H_cC.out _ hB3).mono ?_
  rintro _ w4 ⟨b', v', l', rfl, hR4, ⟨hre4, hdis4⟩, hb4⟩
  have hB4 : Below w.heap.size w w4 := below_via hB3 hb4
  have hs34 := hb4.size
  have hb4 : Below w3.heap.size w3 w4 := hb4
  have hrel4 := H_hR.out.of_re hre4
  have hlen4 := hrel4.len
  obtain ⟨hal4, _, _, hap4, _, _⟩ := hrel4.el a e H_ha.out
  obtain ⟨hpl4, _, _, _, hpk4, _⟩ := hrel4.el p pe H_hpe.out
  obtain ⟨hml4, _, _, _, hmk4, _⟩ := hrel4.el m me H_hm.out
  have cO := roff_any w3.heap.size b' v' l' p a w4 hR4 hs34 hpl4 hal4 (hap4.trans H_hep.out) (by rw [hpk4]; exact H_hkp.out)
  obtain ⟨g', cap', hv', hgw', hbg', _, _, _, _, _⟩ := hR4.v_form hpl4
  have hvo' : v'.ownBlock = some g' := by rw [hv']; rfl
  have H_cO := Lib.hid cO
  clear cO
  have H_hR4 := Lib.hid hR4
  clear hR4
  have H_hre4 := Lib.hid hre4
  clear hre4
  have H_hdis4 := Lib.hid hdis4
  clear hdis4
  have H_hrel4 := Lib.hid hrel4
  clear hrel4
  have H_hb4 := Lib.hid hb4
  clear hb4
  go_wp2_with fail
  refine (H_cO.out).mono ?_
  rintro _ w5 ⟨rfl, ⟨ko1, kl1, kc1, hko1, hR5⟩, hT5⟩
  have hb5 : Below w3.heap.size w4 w5 := hT5.below hs34 (fun k hk => by rw [hvo'] at hk; injection hk with hk; omega)
  have hB5 : Below w.heap.size w w5 := hB4.trans (hb5.mono hB3.size)
  have hs45 := hb5.size
  obtain ⟨x1, hx1⟩ : ∃ u : ReX, { l'[p] with ko := ko1, kl := kl1, kc := kc1, kids := offK l'[p].kids a } = u := ⟨_, rfl⟩
  have gx1 : x1.nm = l'[p].nm ∧ x1.ats = l'[p].ats ∧ x1.par = l'[p].par ∧ x1.kids = offK l'[p].kids a ∧ x1.inn = l'[p].inn := by rw [← hx1]; exact ⟨rfl, rfl, rfl, rfl, rfl⟩
  have gx1a : x1.av = l'[p].av := by rw [← hx1]; rfl
  rw [hx1] at hR5
  obtain ⟨l1, hl1⟩ : ∃ u, l'.set p x1 = u := ⟨_, rfl⟩
  rw [hl1] at hR5
  have hlen1 : l1.length = next := by rw [← hl1, List.length_set]; exact hlen4
  have hml1 : m < l1.length := by rw [hlen1, ← hlen4]; exact hml4
  have hal1 : a < l1.length := by rw [hlen1, ← hlen4]; exact hal4
  have hmk1 : l1[m].kids = (if m = p then offK me.kids a else me.kids) := by
    subst hl1
    rw [List.getElem_set]
    by_cases hmp : p = m
    · subst hmp
      rw [if_pos rfl, if_pos rfl, gx1.2.2.2.1, hmk4]
    · rw [if_neg hmp, if_neg (fun e => hmp e.symm), hmk4]
  have hv1 : v' = .slice (some ⟨g', 0, none⟩) l1.length cap' := by rw [hv', hlen1, hlen4]
  have hc5 := hR5.cells hv1 hml1
  obtain ⟨_, _, _, q3, _⟩ := hc5
  have c0 := hR5.c0
  have hkl1 : l1[m].kl = l1[m].kids.length := by
    have hs := (hR5.sub _ (List.getElem_mem hml1)).kids
    exact (Rc.sla_of (show OwnR EIn w5 w3.heap.size 3 (.slice l1[m].ko l1[m].kl l1[m].kc) l1[m].kids from hs)).1
  rw [hkl1] at q3
  have hKe : l1[m].kids.length = (if e.parent = (m : Int) then me.kids.length - 1 else me.kids.length) := by rw [hmk1]; exact (kids_off H_g.out H_ha.out h0 H_hm.out H_hep.out H_hpe.out).symm
  have hK9 : l1[m].kids.length ≤ 900000 := by
    rw [hKe]
    have := H_hkm.out
    split <;> omega
  obtain ⟨K, hK⟩ : ∃ u, l1[m].kids.length = u := ⟨_, rfl⟩
  rw [hK] at q3 hKe hK9
  obtain ⟨kom, hkom⟩ : ∃ u, l1[m].ko = u := ⟨_, rfl⟩
  obtain ⟨kcm, hkcm⟩ : ∃ u, l1[m].kc = u := ⟨_, rfl⟩
  rw [hkom, hkcm] at q3
  rw [hv1, hlen1] at c0
  have gmN : (m : Int) < (next : Int) := by rw [hlen1] at hml1; omega
  have gaN : (a : Int) < (next : Int) := by rw [hlen1] at hal1; omega
  have gm0 : (0 : Int) ≤ (m : Int) := by omega
  have ga0 : (0 : Int) ≤ (a : Int) := by omega
  clear hko1 hT5 hB4
  have H_hR5 := Lib.hid hR5
  clear hR5
  have H_hl1 := Lib.hid hl1
  clear hl1
  have H_hx1 := Lib.hid hx1
  clear hx1
  have H_gx1 := Lib.hid gx1
  clear gx1
  have H_gx1a := Lib.hid gx1a
  clear gx1a
  have H_hmk1 := Lib.hid hmk1
  clear hmk1
  have H_hKe := Lib.hid hKe
  clear hKe
  have H_hK := Lib.hid hK
  clear hK
  have H_hkom := Lib.hid hkom
  clear hkom
  have H_hkcm := Lib.hid hkcm
  clear hkcm
  have H_hv1 := Lib.hid hv1
  clear hv1
  have H_hkl1 := Lib.hid hkl1
  clear hkl1
  have H_hv' := Lib.hid hv'
  clear hv'
  have H_hb5 := Lib.hid hb5
  clear hb5
  have H_hlen4 := Lib.hid hlen4
  clear hlen4
  have hjK : j ≤ K := by rw [H_hKe.out]; exact hj
  have gj0 : ¬ (j : Int) < 0 := by omega
  have gjK : ¬ (K : Int) < (j : Int) := by omega
  clear hj
  have y2 := (H_hR5.out.cells H_hv1.out hal1).2.2.1
  have fz5 : ∀ q, w5.frozen? ⟨g', q, none⟩ = false := by
    obtain ⟨_, _, hv2, _, _, _, _, _, _, hf⟩ := H_hR5.out.v_form hml1
    rw [H_hv1.out] at hv2
    injection hv2 with hv2
    injection hv2 with hv2
    injection hv2 with hv2
    subst hv2
    exact hf
  obtain ⟨x2, hx2⟩ : ∃ u : ReX, { l1[a] with par := (m : Int) } = u := ⟨_, rfl⟩
  have gx2 : x2.nm = l1[a].nm ∧ x2.ats = l1[a].ats ∧ x2.par = (m : Int) ∧ x2.kids = l1[a].kids ∧ x2.inn = l1[a].inn := by rw [← hx2]; exact ⟨rfl, rfl, rfl, rfl, rfl⟩
  have gx2a : x2.av = l1[a].av := by rw [← hx2]; rfl
  have hs2 := H_hR5.out.sub _ (List.getElem_mem hal1)
  have hR6 := H_hR5.out.setEl (g := g') (cap := cap') (p := a) (q := 2) (u := .int .i64 (m : Int)) (y := x2) H_hv1.out hal1 (by decide) (by rw [← hx2]; rfl) (by rw [← hx2]; exact ⟨hs2.ats, hs2.kids, hs2.aq, hs2.kq⟩)
  obtain ⟨l2, hl2⟩ : ∃ u, l1.set a x2 = u := ⟨_, rfl⟩
  rw [hl2] at hR6
  have hlen2 : l2.length = next := by rw [← hl2, List.length_set]; exact hlen1
  have hml2 : m < l2.length := by rw [hlen2, ← hlen1]; exact hml1
  have hk2 : l2[m].kids.length = K := by
    subst hl2
    rw [List.getElem_set_ne H_hanm.out]
    exact H_hK.out
  have hs56 : w3.heap.size ≤ (w5.setCell ⟨g', a * 5 + 2, none⟩ (.int .i64 (m : Int))).heap.size := by rw [World.size_setCell]; omega
  have cK := kid2_any w3.heap.size b' v' l2 m j a _ hR6 hs56 hml2 (by rw [hk2]; exact hjK) (by omega) (by rw [hk2]; exact hK9) (by omega)
  have hb6 : Below w3.heap.size w4 (w5.setCell ⟨g', a * 5 + 2, none⟩ (.int .i64 (m : Int))) := H_hb5.out.setCell (p := ⟨g', a * 5 + 2, none⟩) hbg' _
  clear hs2
  have H_cK := Lib.hid cK
  clear cK
  have H_hR6 := Lib.hid hR6
  clear hR6
  have H_hl2 := Lib.hid hl2
  clear hl2
  have H_hx2 := Lib.hid hx2
  clear hx2
  have H_gx2 := Lib.hid gx2
  clear gx2
  have H_gx2a := Lib.hid gx2a
  clear gx2a
  have H_hk2 := Lib.hid hk2
  clear hk2
  have H_hb6 := Lib.hid hb6
  clear hb6
  go_wp2_with fail
  refine (H_cK.out).mono ?_
  rintro _ w7 ⟨rfl, ⟨ko3, kl3, kc3, _, hR7⟩, hT7⟩
  have hb7 : Below w3.heap.size (w5.setCell ⟨g', a * 5 + 2, none⟩ (.int .i64 (m : Int))) w7 := hT7.below hs56 (fun k hk => by rw [hvo'] at hk; injection hk with hk; omega)
  have hB7 : Below w.heap.size w w7 := (hB3.trans ((H_hb4.out.trans (H_hb6.out.trans hb7)).mono hB3.size))
  obtain ⟨x3, hx3⟩ : ∃ u : ReX, { l2[m] with ko := ko3, kl := kl3, kc := kc3, kids := l2[m].kids.take j ++ a :: l2[m].kids.drop j } = u := ⟨_, rfl⟩
  have gx3 : x3.nm = l2[m].nm ∧ x3.ats = l2[m].ats ∧ x3.par = l2[m].par ∧ x3.kids = insK l2[m].kids j a ∧ x3.inn = l2[m].inn := by rw [← hx3]; exact ⟨rfl, rfl, rfl, rfl, rfl⟩
  have gx3a : x3.av = l2[m].av := by rw [← hx3]; rfl
  rw [hx3] at hR7
  obtain ⟨l3, hl3⟩ : ∃ u, l2.set m x3 = u := ⟨_, rfl⟩
  rw [hl3] at hR7
  have hlen3 : l3.length = next := by rw [← hl3, List.length_set]; exact hlen2
  have hrel3 := H_hrel4.out.move (j := j) H_ha.out H_hm.out H_hpe.out H_hanm.out H_hpa.out hpl4 hal1 hml2 H_hl1.out.symm H_gx1.out H_hl2.out.symm H_gx2.out hl3.symm gx3
  have hdis3 : RDis l3 := by
    have d1 : RDis l1 := by rw [← H_hl1.out]; exact H_hdis4.out.set_av hpl4 (fun k hk => .inl (by rw [← H_gx1a.out]; exact hk))
    have d2 : RDis l2 := by rw [← H_hl2.out]; exact d1.set_av hal1 (fun k hk => .inl (by rw [← H_gx2a.out]; exact hk))
    rw [← hl3]; exact d2.set_av hml2 (fun k hk => .inl (by rw [← gx3a]; exact hk))
  have hsz3 : ∀ K, Sz K l → Sz (K + 1) l3 := fun K hK => by
    have s0 : Sz K l' := hK.of_re H_hre4.out
    have s1 : Sz K l1 := by
      rw [← H_hl1.out]
      exact s0.set (Nat.le_refl K) ⟨by rw [H_gx1.out.2.1]; exact (s0.get hpl4).1, by rw [H_gx1.out.2.2.2.1]; exact Nat.le_trans (offK_le _ _) (s0.get hpl4).2⟩
    have s2 : Sz K l2 := by
      rw [← H_hl2.out]
      exact s1.set (Nat.le_refl K) ⟨by rw [H_gx2.out.2.1]; exact (s1.get hal1).1, by rw [H_gx2.out.2.2.2.1]; exact (s1.get hal1).2⟩
    rw [← hl3]
    refine s2.set (Nat.le_succ K) ⟨by rw [gx3.2.1]; exact Nat.le_succ_of_le (s2.get hml2).1, ?_⟩
    have := (s2.get hml2).2
    rw [gx3.2.2.2.1]
    unfold insK
    rw [List.length_append, List.length_cons, List.length_take, List.length_drop]
    omega
  have hvN : v' = .slice (some ⟨g', 0, none⟩) next cap' := by rw [H_hv1.out, hlen1]
  have hv3 : v' = .slice (some ⟨g', 0, none⟩) l3.length cap' := by rw [hvN, hlen3]
  have hmp := mv_par (j := j) H_g.out H_ha.out h0 H_hep.out H_hm.out H_hmb.out
  have hs7 := hB7.size
  clear hT7 q3 y2 c0 fz5 hb7
  have H_hR7 := Lib.hid hR7
  clear hR7
  have H_hl3 := Lib.hid hl3
  clear hl3
  have H_hx3 := Lib.hid hx3
  clear hx3
  have H_gx3 := Lib.hid gx3
  clear gx3
  have H_gx3a := Lib.hid gx3a
  clear gx3a
  have H_hrel3 := Lib.hid hrel3
  clear hrel3
  have H_hdis3 := Lib.hid hdis3
  clear hdis3
  have H_hvN := Lib.hid hvN
  clear hvN
  have H_hv3 := Lib.hid hv3
  clear hv3
  have H_hmp := Lib.hid hmp
  clear hmp
  have H_hsz3 := Lib.hid hsz3
  clear hsz3
  go_wp2_with fail
  go_loopw [13] (fun t13 wr => ∃ k : Nat, k ≤ next ∧ t13 = .int .i64 k ∧ RowKit.Hid (∀ x f, x < k → elAt E x = some f → dMv E d a m x ≤ 10) ∧ Below w7.heap.size w7 wr) (fun t13 _ => next - (intOf t13).toNat)
  case atStart => exact ⟨0, Nat.zero_le _, rfl, Lib.hid (fun _ _ h => by omega), Below.refl _ _⟩
  case round =>
    obtain ⟨k, hk, rfl, H_k, hBr⟩ := hrel
    have hBw : Below w.heap.size w wr := below_via hB7 hBr
    have hRr := H_hR7.out.keep hBr
    have c0 := hRr.c0
    rw [H_hvN.out] at c0
    by_cases hlt : k < next
    · have hk3 : k < l3.length := by rw [hlen3]; exact hlt
      obtain ⟨_, _, _, _, q4⟩ := hRr.cells H_hv3.out hk3
      have gk : IntKind.i64.wrap ((k : Int) + 1) = ((k + 1 : Nat) : Int) := IntWalk.i64_in _ (by omega)
      have gk0 : (k : Int) < (next : Int) := by omega
      have gk1 : (0 : Int) ≤ (k : Int) := by omega
      cases hf : elAt E k with
      | none =>
        rw [H_hrel3.out.no k hk3 (by rw [moveE_at, hf]; rfl)] at q4
        have hn : ∀ x f, x < k + 1 → elAt E x = some f → dMv E d a m x ≤ 10 := fun x f hx hxf => by
          by_cases hxk : x = k
          · subst hxk; rw [hf] at hxf; cases hxf
          · exact H_k.out x f (by omega) hxf
        have H_hf := Lib.hid hf
        clear hf
        have H_hn := Lib.hid hn
        clear hn
        have H_hRr := Lib.hid hRr
        clear hRr
        go_wp2_with fail
        go_roundw
        case rel => exact ⟨k + 1, by omega, by go_num, H_hn, hBr⟩
        case measure => simp [intOf]; omega
      | some f =>
        have hmf : elAt (moveE E a m j p) k = some (mvEl a m j p k f) := by rw [moveE_at, hf]; rfl
        obtain ⟨_, _, _, _, _, hinn⟩ := H_hrel3.out.el k _ hmf
        rw [hinn] at q4
        have cD := rdeep2_any w3.heap.size b' v' l3 (moveE E a m j p) (dMv E d a m) k _ wr hRr H_hmp.out H_hrel3.out.par hmf (dMv_le H_g.out H_hm.out hf)
        have hok := fun (h : d m + high E 10 a ≤ 10) => dMv_ok (m := m) (n := a) H_g.out hf h
        obtain ⟨DV, hDV⟩ : ∃ u, dMv E d a m k = u := ⟨_, rfl⟩
        rw [hDV] at cD hok
        by_cases h10 : 10 < DV
        · have g10 : (10 : Int) < (DV : Int) := by omega
          have hhi : 10 < d m + high E 10 a := by
            rcases Nat.lt_or_ge 10 (d m + high E 10 a) with h' | h'
            · exact h'
            · have := hok h'; omega
          have H_cD := Lib.hid cD
          clear cD
          have H_hf := Lib.hid hf
          clear hf
          have H_hmf := Lib.hid hmf
          clear hmf
          have H_hok := Lib.hid hok
          clear hok
          have H_hDV := Lib.hid hDV
          clear hDV
          have H_hRr := Lib.hid hRr
          clear hRr
          have H_hhi := Lib.hid hhi
          clear hhi
          go_wp2_with fail
          refine (H_cD.out).mono ?_
          rintro _ w8 ⟨rfl, hb8⟩
          have hB8 : Below w.heap.size w w8 := below_via hBw hb8
          clear hb8
          go_wp2_with fail
          go_returns
          exact .inl ⟨H_hhi.out, rfl, hB8⟩
        · have g10 : ¬ (10 : Int) < (DV : Int) := by omega
          have hn : ∀ x f, x < k + 1 → elAt E x = some f → dMv E d a m x ≤ 10 := fun x f hx hxf => by
            by_cases hxk : x = k
            · subst hxk; rw [hDV]; omega
            · exact H_k.out x f (by omega) hxf
          have H_cD := Lib.hid cD
          clear cD
          have H_hf := Lib.hid hf
          clear hf
          have H_hmf := Lib.hid hmf
          clear hmf
          have H_hok := Lib.hid hok
          clear hok
          have H_hDV := Lib.hid hDV
          clear hDV
          have H_hRr := Lib.hid hRr
          clear hRr
          have H_hn := Lib.hid hn
          clear hn
          go_wp2_with fail
          refine (H_cD.out).mono ?_
          rintro _ w8 ⟨rfl, hb8⟩
          have hB8 : Below w7.heap.size w7 w8 := below_via hBr hb8
          clear hb8
          go_wp2_with fail
          go_roundw
          case rel => exact ⟨k + 1, by omega, by go_num, H_hn, hB8⟩
          case measure => simp [intOf]; omega
    · obtain rfl : k = next := by omega
      have hle : d m + high E 10 a ≤ 10 := by
        rcases Nat.lt_or_ge 10 (d m + high E 10 a) with h' | h'
        · obtain ⟨x, f, hx, hd⟩ := dMv_no (m := m) H_g.out H_ha.out h'
          have := H_k.out x f (H_g.out.lt x f hx) hx
          omega
        · exact h'
      have hb0 := (H_h.out.keep hBw)
      have cb := hb0.c0
      have fb := hb0.fr
      have hact := acts_mov H_h.out hbw hBw hRr hB3.size H_hdis3.out H_hsz3.out
      rw [H_hvN.out] at hact
      clear hb0
      have H_hle := Lib.hid hle
      clear hle
      have H_hact := Lib.hid hact
      clear hact
      have H_hRr := Lib.hid hRr
      clear hRr
      go_wp2_with fail
      go_returns
      exact .inr ⟨H_hle.out, rfl, l3, _, H_hrel3.out, H_hact.out⟩
end Go.Proofs.YtndlmmpheecleaaGreatDoor
