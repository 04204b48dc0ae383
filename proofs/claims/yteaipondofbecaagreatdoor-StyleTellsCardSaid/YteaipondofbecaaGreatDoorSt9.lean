/-
  The law StyleTells, walked.
-/
import Derived.Test.YteaipondofbecaaGreatDoorSz
import Derived.Test.YteaipondofbecaaGreatDoorSy7
import Derived.Test.YteaipondofbecaaGreatDoorFaul
import Derived.Test.YteaipondofbecaaGreatDoorDq
import Derived.Test.YteaipondofbecaaGreatDoorFz
import Derived.Test.YteaipondofbecaaGreatDoorPkg
namespace Lead.Sy
open Go Go.RowKit Lead Lead.Dc Lead.Pk Lead.Rc
/-- The rules of a sheet, or none. -/
def usC (s : By) : List Ru := if (shC s).1 = 0 then shU s else []
theorem usC_ok (s : By) : RuOk (usC s) := by
  unfold usC
  split
  · next h => exact shU_ok h
  · exact fun u hu => by cases hu
theorem usC_g (s : By) : RuG (usC s) := by
  unfold usC
  split
  · next h => exact shU_g h
  · exact fun u hu => by cases hu
theorem readsh_form2 {TS TW TR T F : TypeId} {ea : Nat → Addr} {s : By} {w w' : World} {en : Ending} (h : ReadSh TS TW TR T F ea s w en w') :
    Below w.heap.size w w' ∧ ∃ o l c x, en = .returned (.tuple #[.slice o l c, x]) ∧ ErrAt T F ea w.heap.size w' x (shC s) ∧ ShOk TS TW TR w.heap.size w' (.slice o l c) (usC s) := by
  obtain ⟨v, x, h1, h2, h3, h4, h5⟩ := h
  refine ⟨h5, ?_⟩
  by_cases h0 : (shC s).1 = 0
  · obtain ⟨xs, a1, a2, a3⟩ := h3 h0
    obtain ⟨o, c, rfl⟩ := Pk.ow_form a1
    refine ⟨o, _, c, x, h1, h2, xs, a1, a2, ?_⟩
    unfold usC
    rw [if_pos h0]; exact a3
  · obtain rfl := h4 h0
    refine ⟨none, 0, 0, x, h1, h2, [], OwnR.nil _ _ _ _, (fun x hx => by cases hx), ?_⟩
    unfold usC
    rw [if_neg h0]; rfl
theorem shC_11 (s : By) : (shC s).1 ≤ 11 := by
  unfold shC
  split
  · exact (by decide : 2 ≤ 11)
  · split
    · exact (by decide : 1 ≤ 11)
    · split
      · exact (by decide : 7 ≤ 11)
      · exact (by decide : 0 ≤ 11)
end Lead.Sy
namespace Go.Proofs.YteaipondofbecaaGreatDoor
open Go.RowKit Go.WideMaps Go.Maps Lead Lead.Dc Lead.Pk Lead.Rc Lead.Sy
theorem sgs_of {ea : Nat → Addr} {m : Int} {w : World} (hS : Sents ea w) (hm : w.cell? ⟨12, 0, none⟩ = some (.int .i64 m)) : SGs ea m w := ⟨hS.c1, hS.c2, ⟨hS.c4, hS.c6, hS.c7, hS.c8, hS.c10⟩, hm⟩
set_option maxHeartbeats 8000000 in
set_option maxRecDepth 100000 in
theorem lawtells_any (ea : Nat → Addr) (m : Int) (n : NT) (S : ByteArray) (NM : ByteArray) (w : World) (hn : NodeOk w n) (hS : Sents ea w) (hm : w.cell? ⟨12, 0, none⟩ = some (.int .i64 m)) :
    Calls Tryz.prog 4 #[.agg n.vals.toArray, .string S, .string NM] w fun e w' => e = .returned (.bool true) ∧ Below w.heap.size w w' := by
  obtain ⟨ao, al, ac, ko, kl, kc, hv, _⟩ := hn.attrsAt
  have hG := sgs_of hS hm
  have cP := fun (W : World) (hb : Below w.heap.size w W) => styled_any ea m W (hG.keep hb)
  have cF := fun (W : World) (hb : Below w.heap.size w W) => flatsof_any n W (hn.keep hb rfl)
  have cN := fun (W : World) (hb : Below w.heap.size w W) => new_any ea n W (hn.keep hb rfl) (hG.keep hb).c
  have cR := fun (hx : S.size ≤ 100000) (W : World) (hb : Below w.heap.size w W) => sread_sg ea m S.data.toList W (by rw [show S.data.toList.length = S.size from Array.length_toList]; exact hx) (hG.keep hb)
  simp only [bs_of] at cR
  have cQ := fun (hx : S.size ≤ 100000) (W : World) => rsheetof_any S S.data.toList rfl W hx
  rw [hv] at cF cN ⊢
  obtain ⟨nk, hnk⟩ : ∃ u, n.name = u := ⟨_, rfl⟩
  obtain ⟨nr, hnr⟩ : ∃ u, n.rt = u := ⟨_, rfl⟩
  rw [hnk] at cF cN ⊢
  rw [hnr] at cN cF
  clear hv hn hnk hnr
  have H_cP := Lib.hid cP
  clear cP
  have H_cF := Lib.hid cF
  clear cF
  have H_cN := Lib.hid cN
  clear cN
  have H_cR := Lib.hid cR
  clear cR
  have H_cQ := Lib.hid cQ
  clear cQ
  have H_hG := Lib.hid hG
  clear hG
  have H_hS := Lib.hid hS
  clear hS
  have H_hm := Lib.hid hm
  clear hm
  go_enter Tryz.func4, Tryz.ntmps4
  go_wp2_with fail
  refine (H_cP.out _ (by repeat' (first | (with_reducible first | exact bwR _ _ | assumption | refine bdn ?_ | refine bwA ?_ ?_ _ | refine bwD ?_ | refine bwS ?_ ?_ _) | omega | (simp <;> omega)))).mono ?_
  rintro _ w1 ⟨rfl, hb1⟩
  have hB1 : Below w.heap.size w w1 := below_via (by repeat' (first | (with_reducible first | exact bwR _ _ | assumption | refine bdn ?_ | refine bwA ?_ ?_ _ | refine bwD ?_ | refine bwS ?_ ?_ _) | omega | (simp <;> omega))) hb1
  have k0 : w1.cell? ⟨w.heap.size, 0, none⟩ = some (.string nk) := gkeep hb1 (World.cell?_alloc_new _ _ _ _) (by simp)
  have k1 : w1.cell? ⟨w.heap.size, 1, none⟩ = some (.slice ao al ac) := gkeep hb1 (World.cell?_alloc_new _ _ _ _) (by simp)
  have k2 : w1.cell? ⟨w.heap.size, 2, none⟩ = some (.slice ko kl kc) := gkeep hb1 (World.cell?_alloc_new _ _ _ _) (by simp)
  have z1 : w.heap.size < w1.heap.size := Nat.lt_of_lt_of_le (by simp) hb1.size
  clear hb1
  go_wp2_with fail
  refine (H_cF.out _ (by repeat' (first | (with_reducible first | exact bwR _ _ | assumption | refine bdn ?_ | refine bwA ?_ ?_ _ | refine bwD ?_ | refine bwS ?_ ?_ _) | omega | (simp <;> omega)))).mono ?_
  rintro _ w2 ⟨o2, l2, c2, rfl, hl2, hb2, hfw⟩
  have hfl : l2 = 0 ∨ ∃ xs, SlA EFl w2 o2 l2 c2 xs ∧ (∀ x ∈ xs, SlA EAt w1 x.ao x.al x.ac x.ats) ∧ xs.map fv = allF nr (-1) 1 0 := hfw
  clear hfw
  have hB2 : Below w.heap.size w w2 := below_via hB1 hb2
  have z2 : w.heap.size < w2.heap.size := Nat.lt_of_lt_of_le z1 hb2.size
  have m0 : w2.cell? ⟨w.heap.size, 0, none⟩ = some (.string nk) := (hb2.cell (p := ⟨w.heap.size, 0, none⟩) z1).trans k0
  have m1 : w2.cell? ⟨w.heap.size, 1, none⟩ = some (.slice ao al ac) := (hb2.cell (p := ⟨w.heap.size, 1, none⟩) z1).trans k1
  have m2 : w2.cell? ⟨w.heap.size, 2, none⟩ = some (.slice ko kl kc) := (hb2.cell (p := ⟨w.heap.size, 2, none⟩) z1).trans k2
  have hb2' : Below w1.heap.size w1 w2 := hb2
  clear hb2 k0 k1 k2
  by_cases hl0 : l2 = 0
  · subst hl0
    clear hfl
    go_wp2_with fail
    go_returns
    exact ⟨rfl, by repeat' (first | (with_reducible first | exact bwR _ _ | assumption | refine bdn ?_ | refine bwA ?_ ?_ _ | refine bwD ?_ | refine bwS ?_ ?_ _) | omega | (simp <;> omega))⟩
  have hfl2 := hfl.resolve_left hl0
  obtain ⟨xs, hsx, hax, hvals⟩ := hfl2
  have hl0' : ((l2 : Int) == 0) = false := by simp; omega
  clear hfl
  have H_hsx := Lib.hid hsx
  clear hsx
  have H_hax := Lib.hid hax
  clear hax
  have H_hvals := Lib.hid hvals
  clear hvals
  by_cases h60 : 40 < l2
  · have g60 : (40 : Int) < (l2 : Int) := by omega
    go_wp2_with fail
    go_returns
    exact ⟨rfl, by repeat' (first | (with_reducible first | exact bwR _ _ | assumption | refine bdn ?_ | refine bwA ?_ ?_ _ | refine bwD ?_ | refine bwS ?_ ?_ _) | omega | (simp <;> omega))⟩
  have g60 : ¬ (40 : Int) < (l2 : Int) := by omega
  by_cases hs : 1500 < S.size
  · have gs : (1500 : Int) < (S.size : Int) := by omega
    go_wp2_with fail
    go_returns
    exact ⟨rfl, by repeat' (first | (with_reducible first | exact bwR _ _ | assumption | refine bdn ?_ | refine bwA ?_ ?_ _ | refine bwD ?_ | refine bwS ?_ ?_ _) | omega | (simp <;> omega))⟩
  have gs : ¬ (1500 : Int) < (S.size : Int) := by omega
  by_cases hq : 60 < NM.size
  · have gq : (60 : Int) < (NM.size : Int) := by omega
    go_wp2_with fail
    go_returns
    exact ⟨rfl, by repeat' (first | (with_reducible first | exact bwR _ _ | assumption | refine bdn ?_ | refine bwA ?_ ?_ _ | refine bwD ?_ | refine bwS ?_ ?_ _) | omega | (simp <;> omega))⟩
  have gq : ¬ (60 : Int) < (NM.size : Int) := by omega
  have cR2 := H_cR.out (by omega)
  have cQ2 := H_cQ.out (by omega)
  clear H_cR H_cQ H_cP H_cF
  have hc11 := shC_11 S.data.toList
  have huk := usC_ok S.data.toList
  have hug := usC_g S.data.toList
  obtain ⟨c, hc⟩ : ∃ u, shC S.data.toList = u := ⟨_, rfl⟩
  obtain ⟨us, hus⟩ : ∃ u, usC S.data.toList = u := ⟨_, rfl⟩
  rw [hc] at hc11
  rw [hus] at huk hug
  have H_cR2 := Lib.hid cR2
  clear cR2
  have H_cQ2 := Lib.hid cQ2
  clear cQ2
  have H_hc := Lib.hid hc
  clear hc
  have H_hus := Lib.hid hus
  clear hus
  have H_hc11 := Lib.hid hc11
  clear hc11
  have H_huk := Lib.hid huk
  clear huk
  have H_hug := Lib.hid hug
  clear hug
  go_wp2_with fail
  refine (H_cR2.out _ hB2).mono ?_
  rintro en w3 hRd
  obtain ⟨hb3, o3, l3, c3, x3, rfl, hx3, hsh⟩ := readsh_form2 hRd
  rw [H_hc.out] at hx3
  rw [H_hus.out] at hsh
  have hB3 : Below w.heap.size w w3 := below_via hB2 hb3
  have hb23 : Below w2.heap.size w2 w3 := hb3
  have z3 : w.heap.size < w3.heap.size := Nat.lt_of_lt_of_le z2 hb3.size
  have m0 := (hb3.cell (p := ⟨w.heap.size, 0, none⟩) z2).trans m0
  have m1 := (hb3.cell (p := ⟨w.heap.size, 1, none⟩) z2).trans m1
  have m2 := (hb3.cell (p := ⟨w.heap.size, 2, none⟩) z2).trans m2
  clear hRd hb3 H_cR2
  have H_hx3 := Lib.hid hx3
  clear hx3
  have H_hsh := Lib.hid hsh
  clear hsh
  go_wp2_with fail
  refine (H_cQ2.out _).mono ?_
  rintro en w4 ⟨hb4, so, sl, sc, rfl, ys, hy1, hy2, hy3⟩
  rw [H_hc.out]
  have hys : ys.map RrX.ru = us := by rw [hy3, ← H_hus.out]; unfold usC; rw [H_hc.out]
  have hM4 : RuM w4 so sl sc ys := ⟨Lead.Pk.sla_of hy1, fun x hx => Lead.Pk.sla_of (hy2 x hx).1, fun x hx y hy => Lead.Pk.sla_of ((hy2 x hx).2 y hy)⟩
  have hB4 : Below w.heap.size w w4 := below_via (by repeat' (first | (with_reducible first | exact bwR _ _ | assumption | refine bdn ?_ | refine bwA ?_ ?_ _ | refine bwD ?_ | refine bwS ?_ ?_ _) | omega | (simp <;> omega))) hb4
  have z4 : w.heap.size < w4.heap.size := Nat.lt_of_lt_of_le z3 hb4.size
  have hb34 : Below w3.heap.size w3 w4 := hb4
  have z34 := hb34.size
  have hPB : ∀ W, Below w4.heap.size w4 W → W.cell? ⟨w.heap.size, 0, none⟩ = some (.string nk) ∧ W.cell? ⟨w.heap.size, 1, none⟩ = some (.slice ao al ac) ∧ W.cell? ⟨w.heap.size, 2, none⟩ = some (.slice ko kl kc) ∧ Below w.heap.size w W := fun W hb =>
    ⟨((below_via hb34 hb).cell (p := ⟨w.heap.size, 0, none⟩) z3).trans m0, ((below_via hb34 hb).cell (p := ⟨w.heap.size, 1, none⟩) z3).trans m1, ((below_via hb34 hb).cell (p := ⟨w.heap.size, 2, none⟩) z3).trans m2, below_via hB4 hb⟩
  obtain ⟨q, hq'⟩ : ∃ u, atI c.2 = u := ⟨_, rfl⟩
  obtain ⟨c1, hc1⟩ : ∃ u : Int, (c.1 : Int) = u := ⟨_, rfl⟩
  rw [hq', hc1]
  obtain ⟨xu, hx1, hx2, hx3'⟩ := H_hsh.out
  have hSx := Lead.Pk.sla_of hx1
  have hxy : xu.map RuX.u = ys.map RrX.ru := by rw [hx3', hys]
  have cFa := fun (W : World) (hb : Below w3.heap.size w3 W) => faulted2_any ea c c1 q x3 w2.heap.size W (H_hx3.out.keep hb rfl (Nat.le_refl _)) (H_hS.out.keep (below_via hB3 hb) rfl) H_hc11.out hc1 hq'
  have cSm := fun (W : World) (hb : Below w4.heap.size w4 W) => samesheet_any o3 so l3 sl c3 sc xu ys W (hSx.keep (below_via hb34 hb) rfl) (hM4.row.keep hb rfl) hxy
  have cOn : ∀ W : World, Calls Tryz.prog 31 #[.pointer none, .slice o3 l3 c3, .int .i64 0, .string NM] W fun en w' => en = .returned (.string ⟨#[]⟩) ∧ Below W.heap.size W w' := fun W => by
    have h := of_nil (.slice o3 l3 c3) 0 NM.data.toList W
    rwa [bs_of] at h
  have hsh4 := H_hsh.out.keep hb34
  clear hb4 hy1 hy2 hy3 m0 m1 m2 H_cQ2 H_hx3 hx1 hx2 hx3' hSx hxy
  have H_cFa := Lib.hid cFa
  clear cFa
  have H_cSm := Lib.hid cSm
  clear cSm
  have H_cOn := Lib.hid cOn
  clear cOn
  have H_hPB := Lib.hid hPB
  clear hPB
  have H_hM4 := Lib.hid hM4
  clear hM4
  have H_hys := Lib.hid hys
  clear hys
  have H_hq' := Lib.hid hq'
  clear hq'
  have H_hc1 := Lib.hid hc1
  clear hc1
  have H_hsh4 := Lib.hid hsh4
  clear hsh4
  go_wp2_with fail
  refine (H_cFa.out _ (by repeat' (first | (with_reducible first | exact bwR _ _ | assumption | refine bdn ?_ | refine bwA ?_ ?_ _ | refine bwD ?_ | refine bwS ?_ ?_ _) | omega | (simp <;> omega)))).mono ?_
  rintro _ w5 ⟨rfl, hb5⟩
  have hb45 : Below w4.heap.size w4 w5 := below_via (by repeat' (first | (with_reducible first | exact bwR _ _ | assumption | refine bdn ?_ | refine bwA ?_ ?_ _ | refine bwD ?_ | refine bwS ?_ ?_ _) | omega | (simp <;> omega))) hb5
  clear hb5
  go_wp2_with fail
  refine (H_cSm.out _ hb45).mono ?_
  rintro _ w6 ⟨rfl, hb6⟩
  have hb46 : Below w4.heap.size w4 w6 := below_via hb45 hb6
  clear hb6
  go_wp2_with fail
  refine (H_cOn.out _).mono ?_
  rintro _ w7 ⟨rfl, hb7⟩
  have hb47 : Below w4.heap.size w4 w7 := below_via hb46 hb7
  clear hb7 hb46 hb45 H_cOn H_cSm H_cFa
  clear w5 w6
  obtain ⟨n0, n1, n2, hB7⟩ := H_hPB.out w7 hb47
  go_wp2_with fail
  refine (H_cN.out _ hB7).mono ?_
  rintro en w10 ⟨hb10, hN⟩
  have hb410 : Below w4.heap.size w4 w10 := below_via hb47 hb10
  have hB10 : Below w.heap.size w w10 := (H_hPB.out w10 hb410).2.2.2
  clear hb10 n0 n1 n2
  by_cases hcc : (chkN nr 0 1).2 = 0
  case neg =>
    rw [if_neg hcc] at hN
    obtain ⟨t', a', rfl, _⟩ := hN
    clear hcc
    go_wp2_with fail
    go_returns
    exact ⟨rfl, by repeat' (first | (with_reducible first | exact bwR _ _ | assumption | refine bdn ?_ | refine bwA ?_ ?_ _ | refine bwD ?_ | refine bwS ?_ ?_ _) | omega | (simp <;> omega))⟩
  rw [if_pos hcc] at hN
  obtain ⟨bd, F, d, rfl, hF, hD, hcnt⟩ := hN
  clear hF H_cN hcnt
  have hcl : l2 = nr.cnt := by
    have h := congrArg List.length H_hvals.out
    rw [List.length_map, allF_len] at h
    exact H_hsx.out.1.trans h
  have hb210 : Below w2.heap.size w2 w10 := below_via hb23 (below_via hb34 hb410)
  have cDo := docof_any o2 l2 c2 xs w1 w10 (H_hsx.out.keep hb210 rfl) H_hax.out (below_via hb2' hb210) (by omega) (fun x hx => ?ats) (fun i hi => fl_par H_hvals.out hi)
  case ats => exact fl_ats H_hvals.out hcc hx
  rw [H_hvals.out] at cDo
  have hat : ∀ n e, elAt (treeE nr (-1) 0) n = some e → ∀ a ∈ e.attrs, a.2.size ≤ 100000 := fun n e he a ha => by
    have := treeE_vl nr 0 1 (-1) 0 hcc _ (elAt_mem he) a ha
    omega
  have hnm : ∀ n e, elAt (treeE nr (-1) 0) n = some e → e.name ≠ ⟨#[]⟩ := fun n e he h0 => by
    have := nmOk_ne (treeE_nm nr 0 1 (-1) 0 hcc _ (elAt_mem he))
    exact this (by rw [h0])
  have H_cDo := Lib.hid cDo
  clear cDo
  have H_hat := Lib.hid hat
  clear hat
  have H_hnm := Lib.hid hnm
  clear hnm
  have H_hD := Lib.hid hD
  clear hD
  have H_hcc := Lib.hid hcc
  clear hcc
  have H_hcl := Lib.hid hcl
  clear hcl
  go_wp2_with fail
  refine (H_cDo.out).mono ?_
  rintro _ w11 ⟨b, vd, lr, rfl, hR, hre, hb11⟩
  have hb1011 : Below w10.heap.size w10 w11 := hb11
  have hb411 : Below w4.heap.size w4 w11 := below_via hb410 hb11
  have hB11 : Below w.heap.size w w11 := below_via hB10 hb1011
  have hln := rx_len hre
  have hlx : ∀ i (hi : i < lr.length), ∃ e, elAt (treeE nr (-1) 0) i = some e ∧ lr[i].nm = e.name ∧ lr[i].ats = e.attrs ∧ lr[i].par = e.parent ∧ lr[i].inn = true := fun i hi => by
    obtain ⟨e, h1, h2, h3, h4, _, h6⟩ := rx_of hre hi
    exact ⟨e, h1, h2, h3, h4, h6⟩
  have hg := H_hD.out.good
  have hpos : 0 < lr.length := by rw [hln, ← H_hcl.out]; omega
  have h1k : lr.length ≤ 1000 := by rw [hln, ← H_hcl.out]; omega
  have hlt : ∀ p e, elAt (treeE nr (-1) 0) p = some e → p < lr.length := fun p e he => by rw [hln]; exact tree_lt he
  have hD11 := H_hD.out.keep hb1011
  have hsh11 := H_hsh4.out.keep hb411
  have hugy : RuG (ys.map RrX.ru) := by rw [H_hys.out]; exact H_hug.out
  have cOf := fun (z : Int) (hz : I64 z) (nm : By) (W : World) (hb : Below w11.heap.size w11 W) => of_any m bd nr.cnt F (treeE nr (-1) 0) d w2.heap.size (.slice o3 l3 c3) us z nm W (hD11.keep hb) H_hat.out H_hnm.out (gkeep (below_via hB11 hb) H_hm.out rfl) (hsh11.keep hb) H_huk.out hz
  have cSt := fun (z : Int) (nm : By) (W : World) (hb : Below w11.heap.size w11 W) => rstyle_any w10.heap.size b vd lr (treeE nr (-1) 0) nr.cnt d so sl sc ys nm hpos h1k hg hlx hlt H_hat.out hugy z W (hR.keep hb) (H_hM4.out.keep (below_via hb411 hb))
  simp only [H_hys.out] at cSt
  obtain ⟨E, hE'⟩ : ∃ u, treeE nr (-1) 0 = u := ⟨_, rfl⟩
  rw [hE'] at cOf cSt
  have cO1 : ∀ (z : Int) (_ : I64 z) (W : World) (_ : Below w11.heap.size w11 W), Calls Tryz.prog 31 #[.pointer (some ⟨bd, 0, none⟩), .slice o3 l3 c3, .int .i64 z, .string NM] W fun en w' => en = .returned (.string (ofZ E us z NM.data.toList)) ∧ Below W.heap.size W w' := fun z hz W hb => by
    have h := cOf z hz NM.data.toList W hb
    rwa [bs_of] at h
  have cS1 : ∀ (z : Int) (W : World) (_ : Below w11.heap.size w11 W), Calls Tryz.prog 32 #[.pointer (some ⟨b, 0, none⟩), .slice so sl sc, .int .i64 z, .string NM] W fun en w' => en = .returned (.string (ofZ E us z NM.data.toList)) ∧ Below W.heap.size W w' := fun z W hb => by
    have h := cSt z NM.data.toList W hb
    rwa [bs_of] at h
  have cO2 : ∀ (z : Int) (_ : I64 z) (W : World) (_ : Below w11.heap.size w11 W), Calls Tryz.prog 31 #[.pointer (some ⟨bd, 0, none⟩), .slice o3 l3 c3, .int .i64 z, .string ⟨#[102, 105, 108, 108]⟩] W fun en w' => en = .returned (.string (ofZ E us z nFill)) ∧ Below W.heap.size W w' := fun z hz W hb => cOf z hz nFill W hb
  have cS2 : ∀ (z : Int) (W : World) (_ : Below w11.heap.size w11 W), Calls Tryz.prog 32 #[.pointer (some ⟨b, 0, none⟩), .slice so sl sc, .int .i64 z, .string ⟨#[102, 105, 108, 108]⟩] W fun en w' => en = .returned (.string (ofZ E us z nFill)) ∧ Below W.heap.size W w' := fun z W hb => cSt z nFill W hb
  clear cOf cSt hlx hg hlt hb11 hR hre hpos h1k hln hugy hsh11 hD11
  have hz11 := hB11.size
  have H_cO1 := Lib.hid cO1
  clear cO1
  have H_cS1 := Lib.hid cS1
  clear cS1
  have H_cO2 := Lib.hid cO2
  clear cO2
  have H_cS2 := Lib.hid cS2
  clear cS2
  have H_hE' := Lib.hid hE'
  clear hE'
  go_wp2_with fail
  go_loopw [15] (fun t15 wr => ∃ z : Int, -1 ≤ z ∧ z ≤ (l2 : Int) + 1 ∧ t15 = .int .i64 z ∧ Below w11.heap.size w11 wr) (fun t15 _ => ((l2 : Int) + 2 - intOf t15).toNat)
  case atStart => exact ⟨-1, by omega, by omega, rfl, Below.refl _ _⟩
  case round =>
    obtain ⟨z, hz1, hz2, rfl, hB⟩ := hrel
    have hBr : Below w.heap.size w wr := below_via hB11 hB
    by_cases hlt : z ≤ (l2 : Int)
    · have hz : I64 z := by unfold I64; omega
      have gz : IntKind.i64.wrap (z + 1) = z + 1 := IntWalk.i64_in _ (by omega)
      have c1 := H_cO1.out z hz
      have c2 := H_cS1.out z
      have c3 := H_cO2.out z hz
      have c4 := H_cS2.out z
      obtain ⟨V, hV⟩ : ∃ u, ofZ E us z NM.data.toList = u := ⟨_, rfl⟩
      obtain ⟨V2, hV2⟩ : ∃ u, ofZ E us z nFill = u := ⟨_, rfl⟩
      rw [hV] at c1 c2
      rw [hV2] at c3 c4
      have e1 : (V.toList != V.toList) = false := bne_self_eq_false _
      have e2 : (V2.toList != V2.toList) = false := bne_self_eq_false _
      have H_c1 := Lib.hid c1
      clear c1
      have H_c2 := Lib.hid c2
      clear c2
      have H_c3 := Lib.hid c3
      clear c3
      have H_c4 := Lib.hid c4
      clear c4
      have H_hV := Lib.hid hV
      clear hV
      have H_hV2 := Lib.hid hV2
      clear hV2
      have H_hz := Lib.hid hz
      clear hz
      go_wp2_with fail
      refine (H_c1.out _ hB).mono ?_
      rintro _ wa ⟨rfl, hba⟩
      have hBa : Below w11.heap.size w11 wa := below_via hB hba
      clear hba
      go_wp2_with fail
      refine (H_c2.out _ hBa).mono ?_
      rintro _ wb ⟨rfl, hbb⟩
      have hBb : Below w11.heap.size w11 wb := below_via hBa hbb
      clear hbb
      go_wp2_with fail
      refine (H_c3.out _ hBb).mono ?_
      rintro _ wc ⟨rfl, hbc⟩
      have hBc : Below w11.heap.size w11 wc := below_via hBb hbc
      clear hbc
      go_wp2_with fail
      refine (H_c4.out _ hBc).mono ?_
      rintro _ wd ⟨rfl, hbd⟩
      have hBd : Below w11.heap.size w11 wd := below_via hBc hbd
      clear hbd
      go_wp2_with fail
      go_roundw
      case rel => exact ⟨z + 1, by omega, by omega, by go_num, hBd⟩
      case measure => simp [intOf]; omega
    · obtain rfl : z = (l2 : Int) + 1 := by omega
      go_wp2_with fail
      go_returns
      exact ⟨rfl, by repeat' (first | (with_reducible first | exact bwR _ _ | assumption | refine bdn ?_ | refine bwA ?_ ?_ _ | refine bwD ?_ | refine bwS ?_ ?_ _) | omega | (simp <;> omega))⟩
end Go.Proofs.YteaipondofbecaaGreatDoor
