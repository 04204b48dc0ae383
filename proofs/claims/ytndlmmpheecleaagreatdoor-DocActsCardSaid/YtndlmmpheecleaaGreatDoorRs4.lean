/-
  Walks over the reference's document: Unset.
-/
import Derived.Test.YtndlmmpheecleaaGreatDoorRs3
namespace Go.Proofs.YtndlmmpheecleaaGreatDoor
open Go.RowKit Lead Lead.Dc Lead.Rc
set_option maxHeartbeats 4000000 in
set_option maxRecDepth 100000 in
theorem runset_bad (base b : Nat) (v : Value) (l : List ReX) (E : Els) (next : Nat) (z : Int) (nm : ByteArray) (w : World) (h : RDoc RT_ base w b v l) (hR : RelD l E next) (hnx : next ≤ 1000000) (hc : unsC E z nm ≠ 0) :
    Calls Tryz.prog 21 #[.pointer (some ⟨b, 0, none⟩), .int .i64 z, .string nm] w fun en w' => en = .returned (.int .i64 (unsC E z nm : Nat)) ∧ Below w.heap.size w w' := by
  have hlm : l.length ≤ 1000000 := by rw [hR.len]; exact hnx
  have cA := rattr_any base b v l z nm w h hlm
  have hA : attrI nm (l.map ReX.re) z = -1 ∧ unsC E z nm = 5 := by
    unfold unsC at hc ⊢
    cases hat : atZ E z with
    | none =>
      refine ⟨?_, rfl⟩
      unfold attrI
      rw [hR.has, show (if 0 ≤ z then elAt E z.toNat else none) = none from hat]; rfl
    | some e =>
      obtain ⟨n, rfl, he⟩ := atZ_some hat
      obtain ⟨hnl, _, hna, _, _, hni⟩ := hR.el n e he
      rw [hat] at hc
      dsimp only at hc ⊢
      split at hc
      · next h1 => rw [if_pos h1, rattr_at hnl hni, hna, h1]; exact ⟨rfl, rfl⟩
      · exact absurd rfl hc
  rw [hA.1] at cA
  rw [hA.2]
  have H_cA := Lib.hid cA
  clear cA
  have H_h := Lib.hid h
  clear h
  have H_hR := Lib.hid hR
  clear hR
  have H_hc := Lib.hid hc
  clear hc
  have H_hA := Lib.hid hA
  clear hA
  go_enter Tryz.func21, Tryz.ntmps21
  go_wp2_with fail
  refine (H_cA.out).mono ?_
  rintro _ w1 ⟨rfl, hb1⟩
  go_wp2_with fail
  go_returns
  exact ⟨rfl, by repeat' (first | (with_reducible first | exact bwR _ _ | assumption | refine bdn ?_ | refine bwA ?_ ?_ _ | refine bwD ?_ | refine bwS ?_ ?_ _) | omega | (simp <;> omega))⟩
set_option maxHeartbeats 4000000 in
set_option maxRecDepth 100000 in
theorem runset_ok (base b : Nat) (v : Value) (l : List ReX) (E : Els) (next : Nat) (n : Nat) (nm : ByteArray) (e : El) (w : World) (h : RDoc RT_ base w b v l) (hbw : base ≤ w.heap.size) (hR : RelD l E next) (hD : RDis l) (hnx : next ≤ 1000000) (he : elAt E n = some e) (hc : unsC E (n : Int) nm = 0) (hal9 : e.attrs.length ≤ 1000) (hnd : (e.attrs.map (·.1)).Nodup) :
    Calls Tryz.prog 21 #[.pointer (some ⟨b, 0, none⟩), .int .i64 (n : Int), .string nm] w fun en w' => en = .returned (.int .i64 0) ∧ ∃ l', RelD l' (atsE E n (unsetA nm e.attrs)) next ∧ RActs base b v l l' v w w' := by
  have hlm : l.length ≤ 1000000 := by rw [hR.len]; exact hnx
  obtain ⟨hnl, _, hna, _, _, hni⟩ := hR.el n e he
  have cA := rattr_any base b v l (n : Int) nm w h hlm
  rw [rattr_at hnl hni, hna] at cA
  obtain ⟨k, hi⟩ : ∃ k, idxA nm e.attrs = some k := by
    unfold unsC at hc
    rw [atZ_nat, he] at hc
    dsimp only at hc
    cases hi : idxA nm e.attrs with
    | some k => exact ⟨k, rfl⟩
    | none => rw [hi, if_pos rfl] at hc; exact absurd hc (by decide)
  obtain ⟨hkl, _⟩ := idxA_name hi
  have hcut := unsetA_cut hi hnd
  rw [hi] at cA
  simp only [show optI (some k) = (k : Int) from rfl] at cA
  obtain ⟨gd, cap, hv, hgd, hbg, hgb, _, _, _, hfz⟩ := h.v_form hnl
  have hcell := fun (W : World) (hW : Below w.heap.size w W) => (h.keep hW).cells (g := gd) (cap := cap) (p := n) hv hnl
  have hc0 := fun (W : World) (hW : Below w.heap.size w W) => (h.keep hW).c0
  simp only [hv] at hc0
  have hs := h.sub _ (List.getElem_mem hnl)
  have hal : l[n].al = e.attrs.length := by
    have := (Rc.sla_of (show OwnR EAt w base 59 (.slice l[n].ao l[n].al l[n].ac) l[n].ats from hs.ats)).1
    rw [this, hna]
  have hform : ∃ ga ca, l[n].av = .slice (some ⟨ga, 0, none⟩) e.attrs.length ca ∧ ga < w.heap.size ∧ e.attrs.length ≤ ca ∧ ca ≤ maxLen ∧ RowIn EAt w ga 0 e.attrs := by
    have hsl := Rc.sla_of (show OwnR EAt w base 59 (.slice l[n].ao l[n].al l[n].ac) l[n].ats from hs.ats)
    obtain ⟨g', ca', a1, a2, a3, a4, a5, a6⟩ := hs.ats.form.resolve_left (by rintro ⟨_, a⟩; rw [← hna, a] at hkl; simp at hkl)
    rw [hna] at a1 a4 a6
    refine ⟨g', ca', a1, a3, a4, ?_, a6⟩
    have h3 := hsl.2.2.1
    unfold ReX.av at a1
    injection a1 with _ _ a1
    rw [← a1]; exact h3
  obtain ⟨ga, ca, hav, hga, hca, hcm, hrow⟩ := hform
  have hav3 : l[n].ao = some ⟨ga, 0, none⟩ ∧ l[n].ac = ca := by unfold ReX.av at hav; injection hav with h1 _ h3; exact ⟨h1, h3⟩
  have hao := hav3.1
  have hac := hav3.2
  simp only [hal, hao, hac] at hcell
  have gnl : (n : Int) < (l.length : Int) := by omega
  have hvo : v.ownBlock = some gd := by rw [hv]; rfl
  have hT : (RT_).at_ ≠ (RT_).int_ := by decide
  have hold : ∀ x ∈ l, ∀ k, x.av.ownBlock = some k → k < w.heap.size := fun x hx k hk => ((h.sub x hx).ats.lt k hk).2
  obtain ⟨N, hN⟩ : ∃ u, l.length = u := ⟨_, rfl⟩
  rw [hN] at hc0 gnl
  obtain ⟨K, hK⟩ : ∃ u, e.attrs.length = u := ⟨_, rfl⟩
  rw [hK] at hcell hkl hca hal9
  have gk0 : (0 : Int) ≤ (k : Int) := by omega
  have gkC : (k : Int) ≤ (ca : Int) := by omega
  have gkC' : k ≤ ca := by omega
  have gk1 : IntKind.i64.wrap ((k : Int) + 1) = ((k + 1 : Nat) : Int) := IntWalk.i64_in _ (by omega)
  have gk2 : ((k + 1 : Nat) : Int) ≤ (K : Int) := by omega
  have gk3 : k + 1 ≤ K := by omega
  have gk4 : (k : Int) + 1 ≤ (K : Int) := by omega
  have gk5 : (0 : Int) ≤ (k : Int) + 1 := by omega
  obtain ⟨iR, hiR, hzR0, hzR1, hzR2⟩ := info_parts infoAtS
  have hS1 : ∀ W, Below w.heap.size w W → SlA EAt W (some ⟨ga, 0, none⟩) k ca (e.attrs.take k) := fun W hW =>
    ⟨by rw [List.length_take]; omega, by omega, hcm, .inr ⟨ga, 0, rfl, Nat.lt_of_lt_of_le hga hW.size, fun i hi' j u hu => by
      rw [List.length_take] at hi'
      rw [List.getElem_take] at hu
      exact (hrow.keep hW hga) i (by omega) j u hu⟩⟩
  have hS2 : k + 1 < ca → ∀ W, Below w.heap.size w W → SlA EAt W (some ⟨ga, (k + 1) * 2, none⟩) (K - (k + 1)) (ca - (k + 1)) (e.attrs.drop (k + 1)) := fun hlt W hW =>
    ⟨by rw [List.length_drop, hK], by omega, by omega, .inr ⟨ga, (k + 1) * 2, rfl, Nat.lt_of_lt_of_le hga hW.size, fun i hi' j u hu => by
      rw [List.length_drop] at hi'
      rw [List.getElem_drop] at hu
      have := (hrow.keep hW hga) (k + 1 + i) (by omega) j u hu
      rw [show 0 + (k + 1 + i) * EAt.k + j = (k + 1) * 2 + i * EAt.k + j by show 0 + (k + 1 + i) * 2 + j = (k + 1) * 2 + i * 2 + j; omega] at this
      exact this⟩⟩
  have hdl : e.attrs.drop (k + 1) = [] ∨ k + 1 < ca := by
    rcases Nat.lt_or_ge (k + 1) ca with h' | h'
    · exact .inr h'
    · exact .inl (List.drop_eq_nil_of_le (by omega))
  have H_cA := Lib.hid cA
  clear cA
  have H_h := Lib.hid h
  clear h
  have H_hR := Lib.hid hR
  clear hR
  have H_hc := Lib.hid hc
  clear hc
  have H_he := Lib.hid he
  clear he
  have H_hcell := Lib.hid hcell
  clear hcell
  have H_hc0 := Lib.hid hc0
  clear hc0
  have H_hN := Lib.hid hN
  clear hN
  have H_hK := Lib.hid hK
  clear hK
  have H_hal := Lib.hid hal
  clear hal
  have H_hao := Lib.hid hao
  clear hao
  have H_hac := Lib.hid hac
  clear hac
  have H_hav := Lib.hid hav
  clear hav
  have H_hav3 := Lib.hid hav3
  clear hav3
  have H_hna := Lib.hid hna
  clear hna
  have H_hni := Lib.hid hni
  clear hni
  have H_hs := Lib.hid hs
  clear hs
  have H_hD := Lib.hid hD
  clear hD
  have H_hold := Lib.hid hold
  clear hold
  have H_hi := Lib.hid hi
  clear hi
  have H_hv := Lib.hid hv
  clear hv
  have H_hrow := Lib.hid hrow
  clear hrow
  have H_hcut := Lib.hid hcut
  clear hcut
  have H_hS1 := Lib.hid hS1
  clear hS1
  have H_hS2 := Lib.hid hS2
  clear hS2
  have H_hnd := Lib.hid hnd
  clear hnd
  have H_hiR := Lib.hid hiR
  clear hiR
  have H_hzR0 := Lib.hid hzR0
  clear hzR0
  have H_hzR1 := Lib.hid hzR1
  clear hzR1
  have H_hzR2 := Lib.hid hzR2
  clear hzR2
  go_enter Tryz.func21, Tryz.ntmps21
  go_wp2_with fail
  refine (H_cA.out).mono ?_
  rintro _ w1 ⟨rfl, hb1⟩
  have hB1 : Below w.heap.size w w1 := below_via (by repeat' (first | (with_reducible first | exact bwR _ _ | assumption | refine bdn ?_ | refine bwA ?_ ?_ _ | refine bwD ?_ | refine bwS ?_ ?_ _) | omega | (simp <;> omega))) hb1
  clear hb1
  have c0 := H_hc0.out w1 hB1
  obtain ⟨_, q1, _, _, _⟩ := H_hcell.out w1 hB1
  have hz1 := hB1.size
  go_wp2_with (at_builtin; refine wp_append_sla rfl (.tmp 15) (.tmp 25) 22 rfl EAt w.heap.size 59 iR _ 32 Tryz.underlying22 H_hiR.out H_hzR0.out H_hzR1.out H_hzR2.out rfl (by decide) _ [] rfl _ _ _ (e.attrs.take k) rfl (H_hS1.out _ hB1) ?a1 (OwnR.nil _ _ _ _) hz1 ?_)
  case a1 => rw [List.length_take]; show 0 + min k e.attrs.length ≤ 1000000; omega
  intro v2 w2 hv2 hA2 hg2 ho2
  have hv2 : OwnR EAt w2 w.heap.size 59 v2 (e.attrs.take k) := hv2
  obtain ⟨o2, c2, h2⟩ := Rc.ow_form hv2
  have hlk : (e.attrs.take k).length = k := by rw [List.length_take, H_hK.out]; omega
  rw [hlk] at h2
  subst h2
  have hB2 : Below w.heap.size w w2 := hB1.trans hA2
  have c0 := H_hc0.out w2 hB2
  obtain ⟨_, q1, _, _, _⟩ := H_hcell.out w2 hB2
  have fz : ∀ j, w2.frozen? ⟨gd, j, none⟩ = false := fun j => (hB2.frozen (p := ⟨gd, j, none⟩) hgd).trans (hfz j)
  have hz2 := hB2.size
  have hS2 := H_hS2.out
  have hsum : (e.attrs.take k).length + (e.attrs.drop (k + 1)).length ≤ 1000000 := by rw [hlk, List.length_drop, H_hK.out]; omega
  have hafter := fun (w3 : World) (v3 : Value) (hB3 : Below w.heap.size w w3) (hv3 : OwnR EAt w3 w.heap.size 59 v3 (e.attrs.take k ++ e.attrs.drop (k + 1))) => (⟨H_hc0.out w3 hB3, (H_hcell.out w3 hB3).2.1, (hB3.frozen (p := ⟨gd, n * 5 + 1, none⟩) hgd).trans (hfz _)⟩ : w3.cell? ⟨b, 0, none⟩ = some (.slice (some ⟨gd, 0, none⟩) N cap) ∧ w3.cell? ⟨gd, n * 5 + 1, none⟩ = some (.slice (some ⟨ga, 0, none⟩) K ca) ∧ w3.frozen? ⟨gd, n * 5 + 1, none⟩ = false)
  have hend := fun (w3 : World) (o3 : Option Addr) (l3 c3 : Nat) (hB3 : Below w.heap.size w w3) (hv3 : OwnR EAt w3 w.heap.size 59 (.slice o3 l3 c3) (e.attrs.take k ++ e.attrs.drop (k + 1))) =>
    (show ∃ l', RelD l' (atsE E n (unsetA nm e.attrs)) next ∧ RActs base b v l l' v w (w3.setCell ⟨gd, n * 5 + 1, none⟩ (.slice o3 l3 c3)) from by
      rw [H_hcut.out]
      have hdoc := H_h.out.ats1 hT H_hD.out H_hv.out hnl (fun j hj _ => hB3.block j hj) (hv3.base hbw) (fun j hj => .inr (hv3.lt j hj).1)
      have hTn : Turn (RG b v l) w (w3.setCell ⟨gd, n * 5 + 1, none⟩ (.slice o3 l3 c3)) := (Turn.of_below hB3).trans (F' := RG b v l) (Turn.set (a := ⟨gd, n * 5 + 1, none⟩) (.inr (.inl hvo))) (fun _ _ h => h)
      exact ⟨l.set n { l[n] with ao := o3, al := l3, ac := c3, ats := e.attrs.take k ++ e.attrs.drop (k + 1) }, H_hR.out.ats H_he.out hnl ⟨rfl, rfl, rfl, rfl, rfl⟩, acts_ats hnl hdoc hTn (fun j hj => .inr (hv3.lt j hj).1) rfl H_hold.out (by show (e.attrs.take k ++ e.attrs.drop (k + 1)).length ≤ l[n].ats.length + 1; rw [H_hna.out, List.length_append, List.length_take, List.length_drop]; omega) rfl⟩)
  clear hA2 hg2 ho2
  have H_hv2 := Lib.hid hv2
  clear hv2
  have H_hafter := Lib.hid hafter
  clear hafter
  have H_hend := Lib.hid hend
  clear hend
  have H_hlk := Lib.hid hlk
  clear hlk
  have H_hsum := Lib.hid hsum
  clear hsum
  by_cases hkc : k + 1 = ca
  · have gcK : ca ≤ K := by omega
    have gK0 : K - ca = 0 := by omega
    have hS4 : SlA EAt w2 (some ⟨ga, 0, none⟩) 0 0 (e.attrs.drop (k + 1)) := ⟨by rw [List.length_drop, H_hK.out]; omega, Nat.le_refl _, Nat.zero_le _, .inl (hdl.resolve_right (by omega))⟩
    have hdn := hdl.resolve_right (by omega)
    have hS3 : ∀ (W : World), Below w.heap.size w W → SlA EAt W (some ⟨ga, 0, none⟩) 0 0 (e.attrs.drop (k + 1)) := fun W _ => ⟨hS4.1, hS4.2.1, hS4.2.2.1, .inl hdn⟩
    clear hS4
    have H_hdn := Lib.hid hdn
    clear hdn
    have H_hS3 := Lib.hid hS3
    clear hS3
    go_wp2_with fail
    go_region_law (first | ((refine step_append_sla rfl (.tmp 32) (.tmp 43) 22 rfl EAt w.heap.size 59 iR _ 32 Tryz.underlying22 H_hiR.out H_hzR0.out H_hzR1.out H_hzR2.out rfl (by decide) (.slice o2 k c2) (e.attrs.take k) rfl _ _ _ (e.attrs.drop (k + 1)) rfl ?a1 ?a2 ?a3 ?a4 ?_); (case a1 => first | exact H_hS3.out _ hB2 | exact H_hS3.out _ hB2.drew | exact H_hS3.out _ _); (case a2 => exact H_hsum.out); (case a3 => first | exact H_hv2.out | exact H_hv2.out.keep (Below.refl _ _).drew); (case a4 => first | exact hz2 | exact hB2.drew.size); intro v3 w3 hv3 hA3 hg3 ho3; have hB3 : Below w.heap.size w w3 := (by first | exact hB2.trans hA3 | exact hB2.drew.trans hA3); obtain ⟨c03, q13, f13⟩ := H_hafter.out w3 v3 hB3 hv3; obtain ⟨o3, c3, h3⟩ := Rc.ow_form hv3; obtain ⟨l3, hl3⟩ : ∃ u, (e.attrs.take k ++ e.attrs.drop (k + 1)).length = u := ⟨_, rfl⟩; rw [hl3] at h3; subst h3; clear hl3; have hend3 := H_hend.out w3 o3 l3 c3 hB3 hv3; have H_end := Lib.hid hend3; clear hend3 hv3 hA3 hg3 ho3))
    all_goals
      go_wp2_with fail
      go_returns
      exact ⟨rfl, H_end.out⟩
  · have hS3 := hS2 (by omega)
    have hkc' : ¬ ca = k + 1 := fun e => hkc e.symm
    have H_hS3 := Lib.hid hS3
    clear hS3
    go_wp2_with fail
    go_region_law (first | ((refine step_append_sla rfl (.tmp 32) (.tmp 43) 22 rfl EAt w.heap.size 59 iR _ 32 Tryz.underlying22 H_hiR.out H_hzR0.out H_hzR1.out H_hzR2.out rfl (by decide) (.slice o2 k c2) (e.attrs.take k) rfl _ _ _ (e.attrs.drop (k + 1)) rfl ?a1 ?a2 ?a3 ?a4 ?_); (case a1 => first | exact H_hS3.out _ hB2 | exact H_hS3.out _ hB2.drew | exact H_hS3.out _ _); (case a2 => exact H_hsum.out); (case a3 => first | exact H_hv2.out | exact H_hv2.out.keep (Below.refl _ _).drew); (case a4 => first | exact hz2 | exact hB2.drew.size); intro v3 w3 hv3 hA3 hg3 ho3; have hB3 : Below w.heap.size w w3 := (by first | exact hB2.trans hA3 | exact hB2.drew.trans hA3); obtain ⟨c03, q13, f13⟩ := H_hafter.out w3 v3 hB3 hv3; obtain ⟨o3, c3, h3⟩ := Rc.ow_form hv3; obtain ⟨l3, hl3⟩ : ∃ u, (e.attrs.take k ++ e.attrs.drop (k + 1)).length = u := ⟨_, rfl⟩; rw [hl3] at h3; subst h3; clear hl3; have hend3 := H_hend.out w3 o3 l3 c3 hB3 hv3; have H_end := Lib.hid hend3; clear hend3 hv3 hA3 hg3 ho3))
    all_goals
      go_wp2_with fail
      go_returns
      exact ⟨rfl, H_end.out⟩
end Go.Proofs.YtndlmmpheecleaaGreatDoor
