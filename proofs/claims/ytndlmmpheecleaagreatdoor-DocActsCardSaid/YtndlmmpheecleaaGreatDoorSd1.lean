/-
  Walks over the statements' helper sameDoc.
-/
import Derived.Test.YtndlmmpheecleaaGreatDoorUg
import Derived.Test.YtndlmmpheecleaaGreatDoorUh
import Derived.Test.YtndlmmpheecleaaGreatDoorRf2
import Derived.Test.YtndlmmpheecleaaGreatDoorUf
import Derived.Test.YtndlmmpheecleaaGreatDoorRe
import Derived.Deep.DeepCutAuto
import Derived.Deep.RegionHeld
namespace Go.Proofs.YtndlmmpheecleaaGreatDoor
open Go.RowKit Go.WideMaps Go.Maps Lead Lead.Dc Lead.Rc
set_option maxHeartbeats 8000000 in
set_option maxRecDepth 100000 in
theorem samedoc_any (base b : Nat) (v : Value) (l : List ReX) (E : Els) (next : Nat) (d : Nat → Nat) (bd : Nat) (F : Nat → Prop) (w : World) (hD : DokG Tryz.prog TT w bd F E next d) (h : RDoc RT_ base w b v l) (hR : RelD l E next) (hE : E.length ≤ 150) (hnx : next ≤ 1000) (hal9 : ∀ n e, elAt E n = some e → e.attrs.length ≤ 1000) :
    Calls Tryz.prog 24 #[.pointer (some ⟨bd, 0, none⟩), .pointer (some ⟨b, 0, none⟩)] w fun en w' => en = .returned (.bool true) ∧ Below w.heap.size w w' := by
  have g := hD.good
  have cR := rall2_any base b v l E next d w h g (by omega) (fun n e he => by obtain ⟨h1, _, _, _, h2, _⟩ := hR.el n e he; exact ⟨h1, h2⟩)
  have cA := fun (W : World) (hW : Below w.heap.size w W) => all_any bd next F E d W (hD.keep hW)
  have cC := fun (W : World) (hW : Below w.heap.size w W) => count_any bd next F E d W (hD.keep hW)
  have cN := fun (W : World) (hW : Below w.heap.size w W) => nodeT_any bd next F E d W (hD.keep hW) hal9
  have cF := fun (W : World) (hW : Below w.heap.size w W) => rflats_any base b v l E next d W (h.keep hW) hR g (by omega) hnx
  have hAl := g.all_len
  have hnb := g.notBig hE
  have hsm := fun ys (hq : FlQ E (below E 10 0) ys) (xs : List FlX) (hx : xs.map fv = allF (rtE E 10 0) (-1) 1 0) => hq.same g hx
  obtain ⟨A, hA⟩ : ∃ u, below E 10 0 = u := ⟨_, rfl⟩
  obtain ⟨N, hN⟩ : ∃ u, E.length = u := ⟨_, rfl⟩
  rw [hN] at hE hAl
  simp only [hN] at cC
  rw [hA] at cR hAl
  simp only [hA] at cA cF hsm
  rw [hAl] at cF
  have g1 : ((N : Int) != (N : Int)) = false := bne_self_eq_false _
  have H_hD := Lib.hid hD
  clear hD
  have H_h := Lib.hid h
  clear h
  have H_hR := Lib.hid hR
  clear hR
  have H_cA := Lib.hid cA
  clear cA
  have H_cC := Lib.hid cC
  clear cC
  have H_cN := Lib.hid cN
  clear cN
  have H_cF := Lib.hid cF
  clear cF
  have H_hAl := Lib.hid hAl
  clear hAl
  have H_hnb := Lib.hid hnb
  clear hnb
  have H_hsm := Lib.hid hsm
  clear hsm
  have H_hA := Lib.hid hA
  clear hA
  have H_hN := Lib.hid hN
  clear hN
  have H_hal9 := Lib.hid hal9
  clear hal9
  have H_g := Lib.hid g
  clear g
  go_enter Tryz.func24, Tryz.ntmps24
  go_wp2_with fail
  refine cR.mono ?_
  rintro _ w1 ⟨vA, rfl, hvA, hb1⟩
  obtain ⟨oA, cpA, rfl⟩ := ow_form hvA
  have hSA := own_sla hvA
  have hB1 : Below w.heap.size w w1 := hb1
  rw [H_hAl.out] at hSA ⊢
  clear hb1 hvA cR
  have H_hSA := Lib.hid hSA
  clear hSA
  go_wp2_with fail
  refine (H_cA.out w1 hB1).mono ?_
  rintro _ w2 ⟨vB, rfl, hvB, hb2⟩
  obtain ⟨oB, cpB, rfl⟩ := ow_form hvB
  have hB2 : Below w.heap.size w w2 := below_via hB1 hb2
  have cS := sameints_eq oB oA N cpB cpA A w2 (by have h := own_sla hvB; rw [H_hAl.out] at h; exact h) (H_hSA.out.keep hb2 rfl) (by omega)
  rw [H_hAl.out]
  clear hvB hb2
  have H_cS := Lib.hid cS
  clear cS
  go_wp2_with fail
  refine (H_cS.out).mono ?_
  rintro _ w3 ⟨rfl, hb3⟩
  have hB3 : Below w.heap.size w w3 := below_via hB2 hb3
  clear hb3
  go_wp2_with fail
  refine (H_cC.out w3 hB3).mono ?_
  rintro _ w4 ⟨rfl, hb4⟩
  have hB4 : Below w.heap.size w w4 := below_via hB3 hb4
  clear hb4
  go_wp2_with fail
  refine (H_cN.out w4 hB4).mono ?_
  rintro _ w5 ⟨nm, ao, al, ac, ats, ko, kl, kc, ks, rfl, hok, hrt, hb5⟩
  have hB5 : Below w.heap.size w w5 := below_via hB4 hb5
  clear hb5
  have H_hok := Lib.hid hok
  clear hok
  have H_hrt := Lib.hid hrt
  clear hrt
  go_wp2_with fail
  refine (H_cF.out w5 hB5).mono ?_
  rintro _ w6 ⟨o6, c6, ys, rfl, hS6, hy6, hq6, hb6⟩
  have hB6 : Below w.heap.size w w6 := below_via hB5 hb6
  have hok6 : NodeOk w6 (.mk nm ao al ac ats ko kl kc ks) := NodeOk.keep hb6 rfl H_hok.out
  have cI := nodeis_yes (.mk nm ao al ac ats ko kl kc ks) o6 N c6 ys w6 hok6 hS6 (fun y hy => (hy6 y hy).keep hb6 rfl) hE (by rw [H_hrt.out]; exact H_hnb.out) (fun xs hx => H_hsm.out ys hq6 xs (by rw [← H_hrt.out]; exact hx))
  clear hok6 hS6 hy6 hq6 hb6
  have H_cI := Lib.hid cI
  clear cI
  go_wp2_with fail
  refine (H_cI.out).mono ?_
  rintro _ w7 ⟨rfl, hb7⟩
  have hB7 : Below w.heap.size w w7 := below_via hB6 hb7
  clear hb7
  have hLl : l.length = next := H_hR.out.len
  have cH := fun (z : Int) (W : World) (hW : Below w.heap.size w W) => rhas_any base b v l z W (H_h.out.keep hW) (by omega)
  have c0f := fun (W : World) (hW : Below w.heap.size w W) => (H_h.out.keep hW).c0
  obtain ⟨ov, cv, hv⟩ := ow_form H_h.out.own
  simp only [hv] at c0f
  obtain ⟨L, hL⟩ : ∃ u, l.length = u := ⟨_, rfl⟩
  rw [hL] at c0f hLl
  have hL1 : L ≤ 1000 := by omega
  have H_cH := Lib.hid cH
  clear cH
  have H_c0f := Lib.hid c0f
  clear c0f
  have H_hL := Lib.hid hL
  clear hL
  have H_hLl := Lib.hid hLl
  clear hLl
  have H_hv := Lib.hid hv
  clear hv
  go_wp2_with fail
  go_loopw [6] (fun t6 wr => ∃ z : Int, -1 ≤ z ∧ z ≤ (L : Int) + 1 ∧ t6 = .int .i64 z ∧ Below w.heap.size w wr) (fun t6 _ => ((L : Int) + 1 - intOf t6).toNat)
  case atStart => exact ⟨-1, by omega, by omega, rfl, hB7⟩
  case round =>
    obtain ⟨z, hz0, hz1, rfl, hB⟩ := hrel
    have c0 := H_c0f.out wr hB
    by_cases hlt : z ≤ (L : Int)
    · have hzI : I64 z := by unfold I64; omega
      have gz : IntKind.i64.wrap (z + 1) = z + 1 := IntWalk.i64_in _ (by omega)
      have cHz := H_cH.out z wr hB
      rw [H_hR.out.has z] at cHz
      have cNm := fun (W : World) (hW : Below w.heap.size w W) => name_any bd next z F E d W (H_hD.out.keep hW) hzI
      have cPz := fun (W : World) (hW : Below w.heap.size w W) => parent_any bd next z F E d W (H_hD.out.keep hW) hzI
      have cKz := fun (W : World) (hW : Below w.heap.size w W) => kids_any bd next z F E d W (H_hD.out.keep hW) hzI
      cases hz : atZ E z with
      | none =>
        have hz' : (if 0 ≤ z then elAt E z.toNat else none) = none := hz
        rw [hz'] at cHz
        have n1 : nameZ E z = ⟨#[]⟩ := by unfold nameZ; rw [hz]
        have n2 : parZ E z = -1 := by unfold parZ; rw [hz]
        have n3 : kidsZ E z = [] := by unfold kidsZ; rw [hz]
        simp only [n1] at cNm
        simp only [n2] at cPz
        simp only [n3] at cKz
        have gE : ((ByteArray.mk #[]).toList != (ByteArray.mk #[]).toList) = false := bne_self_eq_false _
        clear n1 n2 n3
        have H_cHz := Lib.hid cHz
        clear cHz
        have H_cNm := Lib.hid cNm
        clear cNm
        have H_cPz := Lib.hid cPz
        clear cPz
        have H_cKz := Lib.hid cKz
        clear cKz
        have H_hz := Lib.hid hz
        clear hz
        have H_hz' := Lib.hid hz'
        clear hz'
        go_wp2_with fail
        refine (H_cHz.out).mono ?_
        rintro _ wa ⟨rfl, hba⟩
        have hBa : Below w.heap.size w wa := below_via hB hba
        clear hba
        go_wp2_with fail
        refine (H_cNm.out wa hBa).mono ?_
        rintro _ wb ⟨rfl, hbb⟩
        have hBb : Below w.heap.size w wb := below_via hBa hbb
        clear hbb
        go_wp2_with fail
        refine (H_cPz.out wb hBb).mono ?_
        rintro _ wd ⟨rfl, hbd⟩
        have hBd : Below w.heap.size w wd := below_via hBb hbd
        clear hbd
        go_wp2_with fail
        refine (H_cKz.out wd hBd).mono ?_
        rintro _ we ⟨vk, rfl, hvk, hbe⟩
        obtain ⟨ok, ck, rfl⟩ := ow_form hvk
        have hBe : Below w.heap.size w we := below_via hBd hbe
        clear hbe hvk
        go_wp2_with fail
        go_roundw
        case rel => exact ⟨z + 1, by omega, by omega, by go_num, hBe⟩
        case measure => simp [intOf]; omega
      | some e =>
        obtain ⟨q, rfl, he⟩ := atZ_some hz
        have hz' : (if (0 : Int) ≤ (q : Int) then elAt E (q : Int).toNat else none) = some e := hz
        rw [hz'] at cHz
        simp only [nameZ_nat he] at cNm
        simp only [parZ_nat he] at cPz
        simp only [kidsZ_nat he] at cKz
        obtain ⟨hql, h1, _, h3, h4, _⟩ := H_hR.out.el q e he
        obtain ⟨gd, cap, hv2, hgd, _⟩ := H_h.out.v_form hql
        have hv3 := hv2
        rw [H_hv.out] at hv3
        injection hv3 with ho3 _ hc3
        subst ho3 hc3
        have hsk := (H_h.out.sub _ (List.getElem_mem hql)).kids
        have hcl := fun (W : World) (hW : Below w.heap.size w W) => (H_h.out.keep hW).cells hv2 hql
        simp only [h1, h3] at hcl
        have hSk : SlA EIn w l[q].ko l[q].kl l[q].kc e.kids := by
          rw [← h4]
          exact Rc.sla_of (show OwnR EIn w base 3 (.slice l[q].ko l[q].kl l[q].kc) l[q].kids from hsk)
        obtain ⟨ko', hko⟩ : ∃ u, l[q].ko = u := ⟨_, rfl⟩
        obtain ⟨kl', hkl⟩ : ∃ u, l[q].kl = u := ⟨_, rfl⟩
        obtain ⟨kc', hkc⟩ : ∃ u, l[q].kc = u := ⟨_, rfl⟩
        simp only [hko, hkl, hkc] at hcl hSk
        have hcl2 : ∀ W, Below w.heap.size w W → W.cell? ⟨b, 0, none⟩ = some (.slice (some ⟨gd, 0, none⟩) L cv) ∧ W.cell? ⟨gd, q * 5, none⟩ = some (.string e.name) ∧ W.cell? ⟨gd, q * 5 + 2, none⟩ = some (.int .i64 e.parent) ∧ W.cell? ⟨gd, q * 5 + 3, none⟩ = some (.slice ko' kl' kc') := fun W hW => ⟨H_c0f.out W hW, (hcl W hW).1, (hcl W hW).2.2.1, (hcl W hW).2.2.2.1⟩
        have hkle : e.kids.length = kl' := hSk.1.symm
        have hkm : kl' ≤ 1000000 := by
          have := H_g.out.kids_len he
          have hN' := H_hN.out
          omega
        have hSm := fun (ok : Option Addr) (ck : Nat) (W : World) (hW : Below w.heap.size w W) (hs : SlA EIn W ok kl' ck e.kids) => sameints_eq ok ko' kl' ck kc' e.kids W hs (hSk.keep hW rfl) hkm
        have gqL : (q : Int) < (L : Int) := by rw [← H_hL.out]; omega
        have gq0 : (0 : Int) ≤ (q : Int) := by omega
        have gE : (e.name.toList != e.name.toList) = false := bne_self_eq_false _
        have gP : (e.parent != e.parent) = false := bne_self_eq_false _
        clear hsk hcl hv2 h1 h3 h4 hko hkl hkc
        have H_cHz := Lib.hid cHz
        clear cHz
        have H_cNm := Lib.hid cNm
        clear cNm
        have H_cPz := Lib.hid cPz
        clear cPz
        have H_cKz := Lib.hid cKz
        clear cKz
        have H_hz := Lib.hid hz
        clear hz
        have H_hz' := Lib.hid hz'
        clear hz'
        have H_he := Lib.hid he
        clear he
        have H_hSk := Lib.hid hSk
        clear hSk
        have H_hcl2 := Lib.hid hcl2
        clear hcl2
        have H_hkle := Lib.hid hkle
        clear hkle
        have H_hSm := Lib.hid hSm
        clear hSm
        go_wp2_with fail
        refine (H_cHz.out).mono ?_
        rintro _ wa ⟨rfl, hba⟩
        have hBa : Below w.heap.size w wa := below_via hB hba
        clear hba c0
        obtain ⟨c0, x0, x2, x3⟩ := H_hcl2.out wa hBa
        clear c0 x0 x2 x3
        go_upto_region 11 with fail
        refine wp_region_held_drew (S := fun W => Below w.heap.size w W) (by kernel_rfl) (by repeat' (first | (with_reducible first | exact bwR _ _ | assumption | refine bdn ?_ | refine bwA ?_ ?_ _ | refine bwD ?_ | refine bwS ?_ ?_ _) | omega | (simp <;> omega))) (fun hHeld => ?_)
        generalize wa.drew = wg at hHeld ⊢
        first
          | (refine wpAnyH_take (i := 0) (v := ?_) rfl (by kernel_rfl) (by kernel_rfl) (by kernel_rfl) (fun _ _ _ h => h) (Or.inl ⟨by rfl, ?_⟩) (by assumption) ?_
             rotate_left
             · (intro W hW; obtain ⟨c0, x0, x2, x3⟩ := H_hcl2.out W hW; go_simp; try (with_reducible rfl)))
          | (refine wpAnyH_take (i := 0) (v := undef) rfl (by kernel_rfl) (by kernel_rfl) (by kernel_rfl) (fun _ _ _ h => h) (Or.inr ⟨by rfl, rfl⟩) (by assumption) ?_)
        try simp only [List.getElem_toArray, List.getElem_cons_zero, List.getElem_cons_succ, Act.put, List.setIfInBounds_toArray, List.set_cons_zero, List.set_cons_succ]
        first
          | (refine wpAnyH_take (i := 1) (v := ?_) rfl (by kernel_rfl) (by kernel_rfl) (by kernel_rfl) (fun _ _ _ h => h) (Or.inl ⟨by rfl, ?_⟩) (by assumption) ?_
             rotate_left
             · (intro W hW; obtain ⟨c0, x0, x2, x3⟩ := H_hcl2.out W hW; go_simp; try (with_reducible rfl)))
          | (refine wpAnyH_take (i := 1) (v := undef) rfl (by kernel_rfl) (by kernel_rfl) (by kernel_rfl) (fun _ _ _ h => h) (Or.inr ⟨by rfl, rfl⟩) (by assumption) ?_)
        try simp only [List.getElem_toArray, List.getElem_cons_zero, List.getElem_cons_succ, Act.put, List.setIfInBounds_toArray, List.set_cons_zero, List.set_cons_succ]
        first
          | (refine wpAnyH_take (i := 3) (v := ?_) rfl (by kernel_rfl) (by kernel_rfl) (by kernel_rfl) (fun _ _ _ h => h) (Or.inl ⟨by rfl, ?_⟩) (by assumption) ?_
             rotate_left
             · (intro W hW; obtain ⟨c0, x0, x2, x3⟩ := H_hcl2.out W hW; go_simp; try (with_reducible rfl)))
          | (refine wpAnyH_take (i := 3) (v := undef) rfl (by kernel_rfl) (by kernel_rfl) (by kernel_rfl) (fun _ _ _ h => h) (Or.inr ⟨by rfl, rfl⟩) (by assumption) ?_)
        try simp only [List.getElem_toArray, List.getElem_cons_zero, List.getElem_cons_succ, Act.put, List.setIfInBounds_toArray, List.set_cons_zero, List.set_cons_succ]
        first
          | (refine wpAnyH_take (i := 4) (v := ?_) rfl (by kernel_rfl) (by kernel_rfl) (by kernel_rfl) (fun _ _ _ h => h) (Or.inl ⟨by rfl, ?_⟩) (by assumption) ?_
             rotate_left
             · (intro W hW; obtain ⟨c0, x0, x2, x3⟩ := H_hcl2.out W hW; go_simp; try (with_reducible rfl)))
          | (refine wpAnyH_take (i := 4) (v := undef) rfl (by kernel_rfl) (by kernel_rfl) (by kernel_rfl) (fun _ _ _ h => h) (Or.inr ⟨by rfl, rfl⟩) (by assumption) ?_)
        try simp only [List.getElem_toArray, List.getElem_cons_zero, List.getElem_cons_succ, Act.put, List.setIfInBounds_toArray, List.set_cons_zero, List.set_cons_succ]
        first
          | (refine wpAnyH_take (i := 5) (v := ?_) rfl (by kernel_rfl) (by kernel_rfl) (by kernel_rfl) (fun _ _ _ h => h) (Or.inl ⟨by rfl, ?_⟩) (by assumption) ?_
             rotate_left
             · (intro W hW; obtain ⟨c0, x0, x2, x3⟩ := H_hcl2.out W hW; go_simp; try (with_reducible rfl)))
          | (refine wpAnyH_take (i := 5) (v := undef) rfl (by kernel_rfl) (by kernel_rfl) (by kernel_rfl) (fun _ _ _ h => h) (Or.inr ⟨by rfl, rfl⟩) (by assumption) ?_)
        try simp only [List.getElem_toArray, List.getElem_cons_zero, List.getElem_cons_succ, Act.put, List.setIfInBounds_toArray, List.set_cons_zero, List.set_cons_succ]
        first
          | (refine wpAnyH_take (i := 6) (v := ?_) rfl (by kernel_rfl) (by kernel_rfl) (by kernel_rfl) (fun _ _ _ h => h) (Or.inl ⟨by rfl, ?_⟩) (by assumption) ?_
             rotate_left
             · (intro W hW; obtain ⟨c0, x0, x2, x3⟩ := H_hcl2.out W hW; go_simp; try (with_reducible rfl)))
          | (refine wpAnyH_take (i := 6) (v := undef) rfl (by kernel_rfl) (by kernel_rfl) (by kernel_rfl) (fun _ _ _ h => h) (Or.inr ⟨by rfl, rfl⟩) (by assumption) ?_)
        try simp only [List.getElem_toArray, List.getElem_cons_zero, List.getElem_cons_succ, Act.put, List.setIfInBounds_toArray, List.set_cons_zero, List.set_cons_succ]
        first
          | (refine wpAnyH_take (i := 7) (v := ?_) rfl (by kernel_rfl) (by kernel_rfl) (by kernel_rfl) (fun _ _ _ h => h) (Or.inl ⟨by rfl, ?_⟩) (by assumption) ?_
             rotate_left
             · (intro W hW; obtain ⟨c0, x0, x2, x3⟩ := H_hcl2.out W hW; go_simp; try (with_reducible rfl)))
          | (refine wpAnyH_take (i := 7) (v := undef) rfl (by kernel_rfl) (by kernel_rfl) (by kernel_rfl) (fun _ _ _ h => h) (Or.inr ⟨by rfl, rfl⟩) (by assumption) ?_)
        try simp only [List.getElem_toArray, List.getElem_cons_zero, List.getElem_cons_succ, Act.put, List.setIfInBounds_toArray, List.set_cons_zero, List.set_cons_succ]
        first
          | (refine wpAnyH_take (i := 8) (v := ?_) rfl (by kernel_rfl) (by kernel_rfl) (by kernel_rfl) (fun _ _ _ h => h) (Or.inl ⟨by rfl, ?_⟩) (by assumption) ?_
             rotate_left
             · (intro W hW; obtain ⟨c0, x0, x2, x3⟩ := H_hcl2.out W hW; go_simp; try (with_reducible rfl)))
          | (refine wpAnyH_take (i := 8) (v := undef) rfl (by kernel_rfl) (by kernel_rfl) (by kernel_rfl) (fun _ _ _ h => h) (Or.inr ⟨by rfl, rfl⟩) (by assumption) ?_)
        try simp only [List.getElem_toArray, List.getElem_cons_zero, List.getElem_cons_succ, Act.put, List.setIfInBounds_toArray, List.set_cons_zero, List.set_cons_succ]
        first
          | (refine wpAnyH_take (i := 9) (v := ?_) rfl (by kernel_rfl) (by kernel_rfl) (by kernel_rfl) (fun _ _ _ h => h) (Or.inl ⟨by rfl, ?_⟩) (by assumption) ?_
             rotate_left
             · (intro W hW; obtain ⟨c0, x0, x2, x3⟩ := H_hcl2.out W hW; go_simp; try (with_reducible rfl)))
          | (refine wpAnyH_take (i := 9) (v := undef) rfl (by kernel_rfl) (by kernel_rfl) (by kernel_rfl) (fun _ _ _ h => h) (Or.inr ⟨by rfl, rfl⟩) (by assumption) ?_)
        try simp only [List.getElem_toArray, List.getElem_cons_zero, List.getElem_cons_succ, Act.put, List.setIfInBounds_toArray, List.set_cons_zero, List.set_cons_succ]
        first
          | (refine wpAnyH_take (i := 10) (v := ?_) rfl (by kernel_rfl) (by kernel_rfl) (by kernel_rfl) (fun _ _ _ h => h) (Or.inl ⟨by rfl, ?_⟩) (by assumption) ?_
             rotate_left
             · (intro W hW; obtain ⟨c0, x0, x2, x3⟩ := H_hcl2.out W hW; go_simp; try (with_reducible rfl)))
          | (refine wpAnyH_take (i := 10) (v := undef) rfl (by kernel_rfl) (by kernel_rfl) (by kernel_rfl) (fun _ _ _ h => h) (Or.inr ⟨by rfl, rfl⟩) (by assumption) ?_)
        try simp only [List.getElem_toArray, List.getElem_cons_zero, List.getElem_cons_succ, Act.put, List.setIfInBounds_toArray, List.set_cons_zero, List.set_cons_succ]
        refine wpAnyH_ready (rs := [2]) (by kernel_rfl) (by simp) ?_
        refine AllReadyH.cons rfl (fun K hK => ?_) AllReadyH.nil
        go_simp
        go_at_call 39
        refine (H_cNm.out _ hHeld).mono ?_
        rintro _ wq2 ⟨rfl, hb9⟩
        have hO : Below w.heap.size w wq2 := below_via hHeld hb9
        clear hHeld hb9
        refine hK.out _ _ hO (fun hHeld => ?_)
        clear hK K hO
        try simp only [List.getElem_toArray, List.getElem_cons_zero, List.getElem_cons_succ, Act.put, List.setIfInBounds_toArray, List.set_cons_zero, List.set_cons_succ]
        first
          | (refine wpAnyH_take (i := 11) (v := ?_) rfl (by kernel_rfl) (by kernel_rfl) (by kernel_rfl) (fun _ _ _ h => h) (Or.inl ⟨by rfl, ?_⟩) (by assumption) ?_
             rotate_left
             · (intro W hW; obtain ⟨c0, x0, x2, x3⟩ := H_hcl2.out W hW; go_simp; try (with_reducible rfl)))
          | (refine wpAnyH_take (i := 11) (v := undef) rfl (by kernel_rfl) (by kernel_rfl) (by kernel_rfl) (fun _ _ _ h => h) (Or.inr ⟨by rfl, rfl⟩) (by assumption) ?_)
        try simp only [List.getElem_toArray, List.getElem_cons_zero, List.getElem_cons_succ, Act.put, List.setIfInBounds_toArray, List.set_cons_zero, List.set_cons_succ]
        first
          | (refine wpAnyH_take (i := 12) (v := ?_) rfl (by kernel_rfl) (by kernel_rfl) (by kernel_rfl) (fun _ _ _ h => h) (Or.inl ⟨by rfl, ?_⟩) (by assumption) ?_
             rotate_left
             · (intro W hW; obtain ⟨c0, x0, x2, x3⟩ := H_hcl2.out W hW; go_simp; try (with_reducible rfl)))
          | (refine wpAnyH_take (i := 12) (v := undef) rfl (by kernel_rfl) (by kernel_rfl) (by kernel_rfl) (fun _ _ _ h => h) (Or.inr ⟨by rfl, rfl⟩) (by assumption) ?_)
        try simp only [List.getElem_toArray, List.getElem_cons_zero, List.getElem_cons_succ, Act.put, List.setIfInBounds_toArray, List.set_cons_zero, List.set_cons_succ]
        first
          | (refine wpAnyH_take (i := 13) (v := ?_) rfl (by kernel_rfl) (by kernel_rfl) (by kernel_rfl) (fun _ _ _ h => h) (Or.inl ⟨by rfl, ?_⟩) (by assumption) ?_
             rotate_left
             · (intro W hW; obtain ⟨c0, x0, x2, x3⟩ := H_hcl2.out W hW; go_simp; try (with_reducible rfl)))
          | (refine wpAnyH_take (i := 13) (v := undef) rfl (by kernel_rfl) (by kernel_rfl) (by kernel_rfl) (fun _ _ _ h => h) (Or.inr ⟨by rfl, rfl⟩) (by assumption) ?_)
        try simp only [List.getElem_toArray, List.getElem_cons_zero, List.getElem_cons_succ, Act.put, List.setIfInBounds_toArray, List.set_cons_zero, List.set_cons_succ]
        first
          | (refine wpAnyH_take (i := 14) (v := ?_) rfl (by kernel_rfl) (by kernel_rfl) (by kernel_rfl) (fun _ _ _ h => h) (Or.inl ⟨by rfl, ?_⟩) (by assumption) ?_
             rotate_left
             · (intro W hW; obtain ⟨c0, x0, x2, x3⟩ := H_hcl2.out W hW; go_simp; try (with_reducible rfl)))
          | (refine wpAnyH_take (i := 14) (v := undef) rfl (by kernel_rfl) (by kernel_rfl) (by kernel_rfl) (fun _ _ _ h => h) (Or.inr ⟨by rfl, rfl⟩) (by assumption) ?_)
        try simp only [List.getElem_toArray, List.getElem_cons_zero, List.getElem_cons_succ, Act.put, List.setIfInBounds_toArray, List.set_cons_zero, List.set_cons_succ]
        first
          | (refine wpAnyH_take (i := 16) (v := ?_) rfl (by kernel_rfl) (by kernel_rfl) (by kernel_rfl) (fun _ _ _ h => h) (Or.inl ⟨by rfl, ?_⟩) (by assumption) ?_
             rotate_left
             · (intro W hW; obtain ⟨c0, x0, x2, x3⟩ := H_hcl2.out W hW; go_simp; try (with_reducible rfl)))
          | (refine wpAnyH_take (i := 16) (v := undef) rfl (by kernel_rfl) (by kernel_rfl) (by kernel_rfl) (fun _ _ _ h => h) (Or.inr ⟨by rfl, rfl⟩) (by assumption) ?_)
        try simp only [List.getElem_toArray, List.getElem_cons_zero, List.getElem_cons_succ, Act.put, List.setIfInBounds_toArray, List.set_cons_zero, List.set_cons_succ]
        first
          | (refine wpAnyH_take (i := 17) (v := ?_) rfl (by kernel_rfl) (by kernel_rfl) (by kernel_rfl) (fun _ _ _ h => h) (Or.inl ⟨by rfl, ?_⟩) (by assumption) ?_
             rotate_left
             · (intro W hW; obtain ⟨c0, x0, x2, x3⟩ := H_hcl2.out W hW; go_simp; try (with_reducible rfl)))
          | (refine wpAnyH_take (i := 17) (v := undef) rfl (by kernel_rfl) (by kernel_rfl) (by kernel_rfl) (fun _ _ _ h => h) (Or.inr ⟨by rfl, rfl⟩) (by assumption) ?_)
        try simp only [List.getElem_toArray, List.getElem_cons_zero, List.getElem_cons_succ, Act.put, List.setIfInBounds_toArray, List.set_cons_zero, List.set_cons_succ]
        first
          | (refine wpAnyH_take (i := 18) (v := ?_) rfl (by kernel_rfl) (by kernel_rfl) (by kernel_rfl) (fun _ _ _ h => h) (Or.inl ⟨by rfl, ?_⟩) (by assumption) ?_
             rotate_left
             · (intro W hW; obtain ⟨c0, x0, x2, x3⟩ := H_hcl2.out W hW; go_simp; try (with_reducible rfl)))
          | (refine wpAnyH_take (i := 18) (v := undef) rfl (by kernel_rfl) (by kernel_rfl) (by kernel_rfl) (fun _ _ _ h => h) (Or.inr ⟨by rfl, rfl⟩) (by assumption) ?_)
        try simp only [List.getElem_toArray, List.getElem_cons_zero, List.getElem_cons_succ, Act.put, List.setIfInBounds_toArray, List.set_cons_zero, List.set_cons_succ]
        first
          | (refine wpAnyH_take (i := 19) (v := ?_) rfl (by kernel_rfl) (by kernel_rfl) (by kernel_rfl) (fun _ _ _ h => h) (Or.inl ⟨by rfl, ?_⟩) (by assumption) ?_
             rotate_left
             · (intro W hW; obtain ⟨c0, x0, x2, x3⟩ := H_hcl2.out W hW; go_simp; try (with_reducible rfl)))
          | (refine wpAnyH_take (i := 19) (v := undef) rfl (by kernel_rfl) (by kernel_rfl) (by kernel_rfl) (fun _ _ _ h => h) (Or.inr ⟨by rfl, rfl⟩) (by assumption) ?_)
        try simp only [List.getElem_toArray, List.getElem_cons_zero, List.getElem_cons_succ, Act.put, List.setIfInBounds_toArray, List.set_cons_zero, List.set_cons_succ]
        first
          | (refine wpAnyH_take (i := 20) (v := ?_) rfl (by kernel_rfl) (by kernel_rfl) (by kernel_rfl) (fun _ _ _ h => h) (Or.inl ⟨by rfl, ?_⟩) (by assumption) ?_
             rotate_left
             · (intro W hW; obtain ⟨c0, x0, x2, x3⟩ := H_hcl2.out W hW; go_simp; try (with_reducible rfl)))
          | (refine wpAnyH_take (i := 20) (v := undef) rfl (by kernel_rfl) (by kernel_rfl) (by kernel_rfl) (fun _ _ _ h => h) (Or.inr ⟨by rfl, rfl⟩) (by assumption) ?_)
        try simp only [List.getElem_toArray, List.getElem_cons_zero, List.getElem_cons_succ, Act.put, List.setIfInBounds_toArray, List.set_cons_zero, List.set_cons_succ]
        first
          | (refine wpAnyH_take (i := 21) (v := ?_) rfl (by kernel_rfl) (by kernel_rfl) (by kernel_rfl) (fun _ _ _ h => h) (Or.inl ⟨by rfl, ?_⟩) (by assumption) ?_
             rotate_left
             · (intro W hW; obtain ⟨c0, x0, x2, x3⟩ := H_hcl2.out W hW; go_simp; try (with_reducible rfl)))
          | (refine wpAnyH_take (i := 21) (v := undef) rfl (by kernel_rfl) (by kernel_rfl) (by kernel_rfl) (fun _ _ _ h => h) (Or.inr ⟨by rfl, rfl⟩) (by assumption) ?_)
        try simp only [List.getElem_toArray, List.getElem_cons_zero, List.getElem_cons_succ, Act.put, List.setIfInBounds_toArray, List.set_cons_zero, List.set_cons_succ]
        first
          | (refine wpAnyH_take (i := 22) (v := ?_) rfl (by kernel_rfl) (by kernel_rfl) (by kernel_rfl) (fun _ _ _ h => h) (Or.inl ⟨by rfl, ?_⟩) (by assumption) ?_
             rotate_left
             · (intro W hW; obtain ⟨c0, x0, x2, x3⟩ := H_hcl2.out W hW; go_simp; try (with_reducible rfl)))
          | (refine wpAnyH_take (i := 22) (v := undef) rfl (by kernel_rfl) (by kernel_rfl) (by kernel_rfl) (fun _ _ _ h => h) (Or.inr ⟨by rfl, rfl⟩) (by assumption) ?_)
        try simp only [List.getElem_toArray, List.getElem_cons_zero, List.getElem_cons_succ, Act.put, List.setIfInBounds_toArray, List.set_cons_zero, List.set_cons_succ]
        first
          | (refine wpAnyH_take (i := 23) (v := ?_) rfl (by kernel_rfl) (by kernel_rfl) (by kernel_rfl) (fun _ _ _ h => h) (Or.inl ⟨by rfl, ?_⟩) (by assumption) ?_
             rotate_left
             · (intro W hW; obtain ⟨c0, x0, x2, x3⟩ := H_hcl2.out W hW; go_simp; try (with_reducible rfl)))
          | (refine wpAnyH_take (i := 23) (v := undef) rfl (by kernel_rfl) (by kernel_rfl) (by kernel_rfl) (fun _ _ _ h => h) (Or.inr ⟨by rfl, rfl⟩) (by assumption) ?_)
        try simp only [List.getElem_toArray, List.getElem_cons_zero, List.getElem_cons_succ, Act.put, List.setIfInBounds_toArray, List.set_cons_zero, List.set_cons_succ]
        refine wpAnyH_ready (rs := [15]) (by kernel_rfl) (by simp) ?_
        refine AllReadyH.cons rfl (fun K hK => ?_) AllReadyH.nil
        go_simp
        go_at_call 38
        refine (H_cPz.out _ hHeld).mono ?_
        rintro _ wq15 ⟨rfl, hb9⟩
        have hO : Below w.heap.size w wq15 := below_via hHeld hb9
        clear hHeld hb9
        refine hK.out _ _ hO (fun hHeld => ?_)
        clear hK K hO
        try simp only [List.getElem_toArray, List.getElem_cons_zero, List.getElem_cons_succ, Act.put, List.setIfInBounds_toArray, List.set_cons_zero, List.set_cons_succ]
        first
          | (refine wpAnyH_take (i := 24) (v := ?_) rfl (by kernel_rfl) (by kernel_rfl) (by kernel_rfl) (fun _ _ _ h => h) (Or.inl ⟨by rfl, ?_⟩) (by assumption) ?_
             rotate_left
             · (intro W hW; obtain ⟨c0, x0, x2, x3⟩ := H_hcl2.out W hW; go_simp; try (with_reducible rfl)))
          | (refine wpAnyH_take (i := 24) (v := undef) rfl (by kernel_rfl) (by kernel_rfl) (by kernel_rfl) (fun _ _ _ h => h) (Or.inr ⟨by rfl, rfl⟩) (by assumption) ?_)
        try simp only [List.getElem_toArray, List.getElem_cons_zero, List.getElem_cons_succ, Act.put, List.setIfInBounds_toArray, List.set_cons_zero, List.set_cons_succ]
        first
          | (refine wpAnyH_take (i := 25) (v := ?_) rfl (by kernel_rfl) (by kernel_rfl) (by kernel_rfl) (fun _ _ _ h => h) (Or.inl ⟨by rfl, ?_⟩) (by assumption) ?_
             rotate_left
             · (intro W hW; obtain ⟨c0, x0, x2, x3⟩ := H_hcl2.out W hW; go_simp; try (with_reducible rfl)))
          | (refine wpAnyH_take (i := 25) (v := undef) rfl (by kernel_rfl) (by kernel_rfl) (by kernel_rfl) (fun _ _ _ h => h) (Or.inr ⟨by rfl, rfl⟩) (by assumption) ?_)
        try simp only [List.getElem_toArray, List.getElem_cons_zero, List.getElem_cons_succ, Act.put, List.setIfInBounds_toArray, List.set_cons_zero, List.set_cons_succ]
        first
          | (refine wpAnyH_take (i := 26) (v := ?_) rfl (by kernel_rfl) (by kernel_rfl) (by kernel_rfl) (fun _ _ _ h => h) (Or.inl ⟨by rfl, ?_⟩) (by assumption) ?_
             rotate_left
             · (intro W hW; obtain ⟨c0, x0, x2, x3⟩ := H_hcl2.out W hW; go_simp; try (with_reducible rfl)))
          | (refine wpAnyH_take (i := 26) (v := undef) rfl (by kernel_rfl) (by kernel_rfl) (by kernel_rfl) (fun _ _ _ h => h) (Or.inr ⟨by rfl, rfl⟩) (by assumption) ?_)
        try simp only [List.getElem_toArray, List.getElem_cons_zero, List.getElem_cons_succ, Act.put, List.setIfInBounds_toArray, List.set_cons_zero, List.set_cons_succ]
        first
          | (refine wpAnyH_take (i := 27) (v := ?_) rfl (by kernel_rfl) (by kernel_rfl) (by kernel_rfl) (fun _ _ _ h => h) (Or.inl ⟨by rfl, ?_⟩) (by assumption) ?_
             rotate_left
             · (intro W hW; obtain ⟨c0, x0, x2, x3⟩ := H_hcl2.out W hW; go_simp; try (with_reducible rfl)))
          | (refine wpAnyH_take (i := 27) (v := undef) rfl (by kernel_rfl) (by kernel_rfl) (by kernel_rfl) (fun _ _ _ h => h) (Or.inr ⟨by rfl, rfl⟩) (by assumption) ?_)
        try simp only [List.getElem_toArray, List.getElem_cons_zero, List.getElem_cons_succ, Act.put, List.setIfInBounds_toArray, List.set_cons_zero, List.set_cons_succ]
        first
          | (refine wpAnyH_take (i := 28) (v := ?_) rfl (by kernel_rfl) (by kernel_rfl) (by kernel_rfl) (fun _ _ _ h => h) (Or.inl ⟨by rfl, ?_⟩) (by assumption) ?_
             rotate_left
             · (intro W hW; obtain ⟨c0, x0, x2, x3⟩ := H_hcl2.out W hW; go_simp; try (with_reducible rfl)))
          | (refine wpAnyH_take (i := 28) (v := undef) rfl (by kernel_rfl) (by kernel_rfl) (by kernel_rfl) (fun _ _ _ h => h) (Or.inr ⟨by rfl, rfl⟩) (by assumption) ?_)
        try simp only [List.getElem_toArray, List.getElem_cons_zero, List.getElem_cons_succ, Act.put, List.setIfInBounds_toArray, List.set_cons_zero, List.set_cons_succ]
        first
          | (refine wpAnyH_take (i := 30) (v := ?_) rfl (by kernel_rfl) (by kernel_rfl) (by kernel_rfl) (fun _ _ _ h => h) (Or.inl ⟨by rfl, ?_⟩) (by assumption) ?_
             rotate_left
             · (intro W hW; obtain ⟨c0, x0, x2, x3⟩ := H_hcl2.out W hW; go_simp; try (with_reducible rfl)))
          | (refine wpAnyH_take (i := 30) (v := undef) rfl (by kernel_rfl) (by kernel_rfl) (by kernel_rfl) (fun _ _ _ h => h) (Or.inr ⟨by rfl, rfl⟩) (by assumption) ?_)
        try simp only [List.getElem_toArray, List.getElem_cons_zero, List.getElem_cons_succ, Act.put, List.setIfInBounds_toArray, List.set_cons_zero, List.set_cons_succ]
        first
          | (refine wpAnyH_take (i := 31) (v := ?_) rfl (by kernel_rfl) (by kernel_rfl) (by kernel_rfl) (fun _ _ _ h => h) (Or.inl ⟨by rfl, ?_⟩) (by assumption) ?_
             rotate_left
             · (intro W hW; obtain ⟨c0, x0, x2, x3⟩ := H_hcl2.out W hW; go_simp; try (with_reducible rfl)))
          | (refine wpAnyH_take (i := 31) (v := undef) rfl (by kernel_rfl) (by kernel_rfl) (by kernel_rfl) (fun _ _ _ h => h) (Or.inr ⟨by rfl, rfl⟩) (by assumption) ?_)
        try simp only [List.getElem_toArray, List.getElem_cons_zero, List.getElem_cons_succ, Act.put, List.setIfInBounds_toArray, List.set_cons_zero, List.set_cons_succ]
        first
          | (refine wpAnyH_take (i := 32) (v := ?_) rfl (by kernel_rfl) (by kernel_rfl) (by kernel_rfl) (fun _ _ _ h => h) (Or.inl ⟨by rfl, ?_⟩) (by assumption) ?_
             rotate_left
             · (intro W hW; obtain ⟨c0, x0, x2, x3⟩ := H_hcl2.out W hW; go_simp; try (with_reducible rfl)))
          | (refine wpAnyH_take (i := 32) (v := undef) rfl (by kernel_rfl) (by kernel_rfl) (by kernel_rfl) (fun _ _ _ h => h) (Or.inr ⟨by rfl, rfl⟩) (by assumption) ?_)
        try simp only [List.getElem_toArray, List.getElem_cons_zero, List.getElem_cons_succ, Act.put, List.setIfInBounds_toArray, List.set_cons_zero, List.set_cons_succ]
        first
          | (refine wpAnyH_take (i := 33) (v := ?_) rfl (by kernel_rfl) (by kernel_rfl) (by kernel_rfl) (fun _ _ _ h => h) (Or.inl ⟨by rfl, ?_⟩) (by assumption) ?_
             rotate_left
             · (intro W hW; obtain ⟨c0, x0, x2, x3⟩ := H_hcl2.out W hW; go_simp; try (with_reducible rfl)))
          | (refine wpAnyH_take (i := 33) (v := undef) rfl (by kernel_rfl) (by kernel_rfl) (by kernel_rfl) (fun _ _ _ h => h) (Or.inr ⟨by rfl, rfl⟩) (by assumption) ?_)
        try simp only [List.getElem_toArray, List.getElem_cons_zero, List.getElem_cons_succ, Act.put, List.setIfInBounds_toArray, List.set_cons_zero, List.set_cons_succ]
        first
          | (refine wpAnyH_take (i := 34) (v := ?_) rfl (by kernel_rfl) (by kernel_rfl) (by kernel_rfl) (fun _ _ _ h => h) (Or.inl ⟨by rfl, ?_⟩) (by assumption) ?_
             rotate_left
             · (intro W hW; obtain ⟨c0, x0, x2, x3⟩ := H_hcl2.out W hW; go_simp; try (with_reducible rfl)))
          | (refine wpAnyH_take (i := 34) (v := undef) rfl (by kernel_rfl) (by kernel_rfl) (by kernel_rfl) (fun _ _ _ h => h) (Or.inr ⟨by rfl, rfl⟩) (by assumption) ?_)
        try simp only [List.getElem_toArray, List.getElem_cons_zero, List.getElem_cons_succ, Act.put, List.setIfInBounds_toArray, List.set_cons_zero, List.set_cons_succ]
        first
          | (refine wpAnyH_take (i := 35) (v := ?_) rfl (by kernel_rfl) (by kernel_rfl) (by kernel_rfl) (fun _ _ _ h => h) (Or.inl ⟨by rfl, ?_⟩) (by assumption) ?_
             rotate_left
             · (intro W hW; obtain ⟨c0, x0, x2, x3⟩ := H_hcl2.out W hW; go_simp; try (with_reducible rfl)))
          | (refine wpAnyH_take (i := 35) (v := undef) rfl (by kernel_rfl) (by kernel_rfl) (by kernel_rfl) (fun _ _ _ h => h) (Or.inr ⟨by rfl, rfl⟩) (by assumption) ?_)
        try simp only [List.getElem_toArray, List.getElem_cons_zero, List.getElem_cons_succ, Act.put, List.setIfInBounds_toArray, List.set_cons_zero, List.set_cons_succ]
        first
          | (refine wpAnyH_take (i := 36) (v := ?_) rfl (by kernel_rfl) (by kernel_rfl) (by kernel_rfl) (fun _ _ _ h => h) (Or.inl ⟨by rfl, ?_⟩) (by assumption) ?_
             rotate_left
             · (intro W hW; obtain ⟨c0, x0, x2, x3⟩ := H_hcl2.out W hW; go_simp; try (with_reducible rfl)))
          | (refine wpAnyH_take (i := 36) (v := undef) rfl (by kernel_rfl) (by kernel_rfl) (by kernel_rfl) (fun _ _ _ h => h) (Or.inr ⟨by rfl, rfl⟩) (by assumption) ?_)
        try simp only [List.getElem_toArray, List.getElem_cons_zero, List.getElem_cons_succ, Act.put, List.setIfInBounds_toArray, List.set_cons_zero, List.set_cons_succ]
        first
          | (refine wpAnyH_take (i := 37) (v := ?_) rfl (by kernel_rfl) (by kernel_rfl) (by kernel_rfl) (fun _ _ _ h => h) (Or.inl ⟨by rfl, ?_⟩) (by assumption) ?_
             rotate_left
             · (intro W hW; obtain ⟨c0, x0, x2, x3⟩ := H_hcl2.out W hW; go_simp; try (with_reducible rfl)))
          | (refine wpAnyH_take (i := 37) (v := undef) rfl (by kernel_rfl) (by kernel_rfl) (by kernel_rfl) (fun _ _ _ h => h) (Or.inr ⟨by rfl, rfl⟩) (by assumption) ?_)
        try simp only [List.getElem_toArray, List.getElem_cons_zero, List.getElem_cons_succ, Act.put, List.setIfInBounds_toArray, List.set_cons_zero, List.set_cons_succ]
        refine wpAnyH_ready (rs := [29]) (by kernel_rfl) (by simp) ?_
        refine AllReadyH.cons rfl (fun K hK => ?_) AllReadyH.nil
        go_simp
        go_at_call 71
        refine (H_cKz.out _ hHeld).mono ?_
        rintro _ wk ⟨vk, rfl, hvk, hb9⟩
        obtain ⟨ok2, ck2, rfl⟩ := ow_form hvk
        have hvs := own_sla hvk
        rw [H_hkle.out] at hvs ⊢
        have hO : Below w.heap.size w wk := below_via hHeld hb9
        clear hHeld hb9 hvk
        have H_hvs := Lib.hid hvs
        clear hvs
        refine hK.out _ _ hO (fun hHeld => ?_)
        clear hK K hO
        try simp only [List.getElem_toArray, List.getElem_cons_zero, List.getElem_cons_succ, Act.put, List.setIfInBounds_toArray, List.set_cons_zero, List.set_cons_succ]
        refine wpAnyH_ready (rs := [38]) (by kernel_rfl) (by simp) ?_
        refine AllReadyH.cons rfl (fun K hK => ?_) AllReadyH.nil
        go_simp
        go_at_call 66
        refine (H_hSm.out _ _ _ hHeld H_hvs.out).mono ?_
        rintro _ ws ⟨rfl, hb9⟩
        have hO : Below w.heap.size w ws := below_via hHeld hb9
        clear hHeld hb9 H_hvs
        refine hK.out _ _ hO (fun hHeld => ?_)
        clear hK K hO
        try simp only [List.getElem_toArray, List.getElem_cons_zero, List.getElem_cons_succ, Act.put, List.setIfInBounds_toArray, List.set_cons_zero, List.set_cons_succ]
        first
          | (refine wpAnyH_take (i := 39) (v := ?_) rfl (by kernel_rfl) (by kernel_rfl) (by kernel_rfl) (fun _ _ _ h => h) (Or.inl ⟨by rfl, ?_⟩) (by assumption) ?_
             rotate_left
             · (intro W hW; obtain ⟨c0, x0, x2, x3⟩ := H_hcl2.out W hW; go_simp; try (with_reducible rfl)))
          | (refine wpAnyH_take (i := 39) (v := undef) rfl (by kernel_rfl) (by kernel_rfl) (by kernel_rfl) (fun _ _ _ h => h) (Or.inr ⟨by rfl, rfl⟩) (by assumption) ?_)
        try simp only [List.getElem_toArray, List.getElem_cons_zero, List.getElem_cons_succ, Act.put, List.setIfInBounds_toArray, List.set_cons_zero, List.set_cons_succ]
        first
          | (refine wpAnyH_take (i := 40) (v := ?_) rfl (by kernel_rfl) (by kernel_rfl) (by kernel_rfl) (fun _ _ _ h => h) (Or.inl ⟨by rfl, ?_⟩) (by assumption) ?_
             rotate_left
             · (intro W hW; obtain ⟨c0, x0, x2, x3⟩ := H_hcl2.out W hW; go_simp; try (with_reducible rfl)))
          | (refine wpAnyH_take (i := 40) (v := undef) rfl (by kernel_rfl) (by kernel_rfl) (by kernel_rfl) (fun _ _ _ h => h) (Or.inr ⟨by rfl, rfl⟩) (by assumption) ?_)
        try simp only [List.getElem_toArray, List.getElem_cons_zero, List.getElem_cons_succ, Act.put, List.setIfInBounds_toArray, List.set_cons_zero, List.set_cons_succ]
        refine wpAnyH_done (by kernel_rfl) ?_ _
        go_wp2_with fail
        go_roundw
        case rel => exact ⟨(q : Int) + 1, by omega, by omega, by go_num, hHeld⟩
        case measure => simp [intOf]; omega
    · obtain rfl : z = (L : Int) + 1 := by omega
      have gL : ¬ (L : Int) + 1 ≤ (L : Int) := by omega
      go_wp2_with fail
      go_returns
      exact ⟨rfl, hB⟩
end Go.Proofs.YtndlmmpheecleaaGreatDoor
