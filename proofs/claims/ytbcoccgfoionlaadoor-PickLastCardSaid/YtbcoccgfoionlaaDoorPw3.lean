/-
  The law PickLast, walked.
-/
import Derived.Test.YtbcoccgfoionlaaDoorPw2
import Derived.Test.YtbcoccgfoionlaaDoorDo7
import Derived.Test.YtbcoccgfoionlaaDoorFl2
namespace Lead.Pk
open Go Go.RowKit Lead Lead.Dc
theorem gt_list (a b : ByteArray) : (a ++ ⟨#[32, 62, 32]⟩ ++ b).data.toList = a.data.toList ++ 32 :: 62 :: 32 :: b.data.toList := by simp
theorem bl_list (a b : ByteArray) : (a ++ ⟨#[32]⟩ ++ b).data.toList = a.data.toList ++ 32 :: b.data.toList := by simp
/-- What Read answers, its error aside. -/
theorem read_formL {TS TW TE : TypeId} {ea : Nat → Addr} {s : By} {o : Option (List St)} {w w' : World} {en : Ending} (h : ReadIs TS TW TE ea s o w en w') :
    Below w.heap.size w w' ∧ ∃ vo q c t e, en = .returned (.tuple #[.agg #[.slice vo q c, .string t], e]) ∧ ((∃ a, e = .iface TE (.pointer a)) ∨ (e = .nilIface ∧ ∃ l, o = some l ∧ SelOk TS TW w.heap.size w' (.slice vo q c) l)) := by
  obtain ⟨hb, h⟩ := h
  refine ⟨hb, ?_⟩
  cases o with
  | none => exact ⟨none, 0, 0, _, _, h, .inl ⟨_, rfl⟩⟩
  | some l =>
    obtain ⟨v, h1, h2⟩ := h
    have h2' := h2
    obtain ⟨xs, h3, _, _⟩ := h2
    obtain ⟨o', c, rfl⟩ := ow_form h3
    exact ⟨o', _, c, _, _, h1, .inr ⟨rfl, l, rfl, h2'⟩⟩
end Lead.Pk
namespace Go.Proofs.YtbcoccgfoionlaaDoor
open Go.RowKit Go.WideMaps Go.Maps Lead Lead.Dc Lead.Pk
set_option maxHeartbeats 8000000 in
set_option maxRecDepth 100000 in
theorem lawlast_any (ea : Nat → Addr) (m : Int) (n : NT) (s t : ByteArray) (w : World) (hn : NodeOk w n) (hE : w.cell? ⟨6, 0, none⟩ = some (.iface 168 (.pointer (some (ea 1))))) (hG : CGs ea w) (hm : w.cell? ⟨12, 0, none⟩ = some (.int .i64 m)) :
    Calls Tryd.prog 5 #[.agg n.vals.toArray, .string s, .string t] w fun e w' => e = .returned (.bool true) ∧ Below w.heap.size w w' := by
  obtain ⟨ao, al, ac, ko, kl, kc, hv, _⟩ := hn.attrsAt
  have cP := fun (W : World) (hb : Below w.heap.size w W) => picked_any ea m W (gkeep hb hE rfl) (gkeep hb hm rfl)
  have cF := fun (W : World) (hb : Below w.heap.size w W) => flatsof_any n W (hn.keep hb rfl)
  have cN := fun (W : World) (hb : Below w.heap.size w W) => new_any ea n W (hn.keep hb rfl) (hG.keep hb rfl)
  have cR := fun (x : ByteArray) (hx : x.size ≤ 100000) (W : World) (hb : Below w.heap.size w W) => pread_any ea m x.data.toList W (by rw [show x.data.toList.length = x.size from Array.length_toList]; exact hx) (gkeep hb hE rfl) (gkeep hb hm rfl)
  simp only [bs_of] at cR
  rw [hv] at cF cN ⊢
  obtain ⟨nk, hnk⟩ : ∃ u, n.name = u := ⟨_, rfl⟩
  obtain ⟨nr, hnr⟩ : ∃ u, n.rt = u := ⟨_, rfl⟩
  rw [hnk] at cF cN ⊢
  rw [hnr] at cN cF
  clear hv hn hnk hnr
  have H_cP := Lib.hid cP
  clear cP
  have H_cF := Lib.hid cF
  clear cF
  have H_cN := Lib.hid cN
  clear cN
  have H_cR := Lib.hid cR
  clear cR
  have H_hG := Lib.hid hG
  clear hG
  have H_hE := Lib.hid hE
  clear hE
  have H_hm := Lib.hid hm
  clear hm
  go_enter Tryd.func5, Tryd.ntmps5
  go_wp2_with fail
  refine (H_cP.out _ (by repeat' (first | (with_reducible first | exact bwR _ _ | assumption | refine bdn ?_ | refine bwA ?_ ?_ _ | refine bwD ?_ | refine bwS ?_ ?_ _) | omega | (simp <;> omega)))).mono ?_
  rintro _ w1 ⟨rfl, hb1⟩
  have hB1 : Below w.heap.size w w1 := below_via (by repeat' (first | (with_reducible first | exact bwR _ _ | assumption | refine bdn ?_ | refine bwA ?_ ?_ _ | refine bwD ?_ | refine bwS ?_ ?_ _) | omega | (simp <;> omega))) hb1
  have k0 : w1.cell? ⟨w.heap.size, 0, none⟩ = some (.string nk) := gkeep hb1 (World.cell?_alloc_new _ _ _ _) (by simp)
  have k1 : w1.cell? ⟨w.heap.size, 1, none⟩ = some (.slice ao al ac) := gkeep hb1 (World.cell?_alloc_new _ _ _ _) (by simp)
  have k2 : w1.cell? ⟨w.heap.size, 2, none⟩ = some (.slice ko kl kc) := gkeep hb1 (World.cell?_alloc_new _ _ _ _) (by simp)
  have z1 : w.heap.size < w1.heap.size := Nat.lt_of_lt_of_le (by simp) hb1.size
  clear hb1
  go_wp2_with fail
  refine (H_cF.out _ (by repeat' (first | (with_reducible first | exact bwR _ _ | assumption | refine bdn ?_ | refine bwA ?_ ?_ _ | refine bwD ?_ | refine bwS ?_ ?_ _) | omega | (simp <;> omega)))).mono ?_
  rintro _ w2 ⟨o2, l2, c2, rfl, hl2, hb2, hfw⟩
  have hcl : l2 = 0 ∨ l2 = nr.cnt := hfw.imp id (fun ⟨xs, a1, _, a3⟩ => by
    have h := congrArg List.length a3
    rw [List.length_map, allF_len] at h
    exact a1.1.trans h)
  clear hfw
  have hB2 : Below w.heap.size w w2 := below_via hB1 hb2
  have z2 : w.heap.size < w2.heap.size := Nat.lt_of_lt_of_le z1 hb2.size
  have m0 : w2.cell? ⟨w.heap.size, 0, none⟩ = some (.string nk) := (hb2.cell (p := ⟨w.heap.size, 0, none⟩) z1).trans k0
  have m1 : w2.cell? ⟨w.heap.size, 1, none⟩ = some (.slice ao al ac) := (hb2.cell (p := ⟨w.heap.size, 1, none⟩) z1).trans k1
  have m2 : w2.cell? ⟨w.heap.size, 2, none⟩ = some (.slice ko kl kc) := (hb2.cell (p := ⟨w.heap.size, 2, none⟩) z1).trans k2
  clear hb2 hB1 z1 k0 k1 k2
  clear w1
  by_cases hl0 : l2 = 0
  · subst hl0
    go_wp2_with fail
    go_returns
    exact ⟨rfl, by repeat' (first | (with_reducible first | exact bwR _ _ | assumption | refine bdn ?_ | refine bwA ?_ ?_ _ | refine bwD ?_ | refine bwS ?_ ?_ _) | omega | (simp <;> omega))⟩
  have hl0' : ((l2 : Int) == 0) = false := by simp; omega
  by_cases h60 : 60 < l2
  · have g60 : (60 : Int) < (l2 : Int) := by omega
    go_wp2_with fail
    go_returns
    exact ⟨rfl, by repeat' (first | (with_reducible first | exact bwR _ _ | assumption | refine bdn ?_ | refine bwA ?_ ?_ _ | refine bwD ?_ | refine bwS ?_ ?_ _) | omega | (simp <;> omega))⟩
  have g60 : ¬ (60 : Int) < (l2 : Int) := by omega
  by_cases hs : 60 < s.size
  · have gs : (60 : Int) < (s.size : Int) := by omega
    go_wp2_with fail
    go_returns
    exact ⟨rfl, by repeat' (first | (with_reducible first | exact bwR _ _ | assumption | refine bdn ?_ | refine bwA ?_ ?_ _ | refine bwD ?_ | refine bwS ?_ ?_ _) | omega | (simp <;> omega))⟩
  have gs : ¬ (60 : Int) < (s.size : Int) := by omega
  by_cases ht : 60 < t.size
  · have gt : (60 : Int) < (t.size : Int) := by omega
    go_wp2_with fail
    go_returns
    exact ⟨rfl, by repeat' (first | (with_reducible first | exact bwR _ _ | assumption | refine bdn ?_ | refine bwA ?_ ?_ _ | refine bwD ?_ | refine bwS ?_ ?_ _) | omega | (simp <;> omega))⟩
  have gt : ¬ (60 : Int) < (t.size : Int) := by omega
  go_wp2_with fail
  refine (H_cN.out _ (by repeat' (first | (with_reducible first | exact bwR _ _ | assumption | refine bdn ?_ | refine bwA ?_ ?_ _ | refine bwD ?_ | refine bwS ?_ ?_ _) | omega | (simp <;> omega)))).mono ?_
  rintro en w3 ⟨hb3, hN⟩
  have hB3 : Below w.heap.size w w3 := below_via hB2 hb3
  by_cases hc : (chkN nr 0 1).2 = 0
  case neg =>
    rw [if_neg hc] at hN
    obtain ⟨t', a', rfl, _⟩ := hN
    clear hc
    go_wp2_with fail
    go_returns
    exact ⟨rfl, by repeat' (first | (with_reducible first | exact bwR _ _ | assumption | refine bdn ?_ | refine bwA ?_ ?_ _ | refine bwD ?_ | refine bwS ?_ ?_ _) | omega | (simp <;> omega))⟩
  rw [if_pos hc] at hN
  obtain ⟨bd, F, d, rfl, hF, hD, hcnt⟩ := hN
  clear hF hb3 m0 m1 m2
  have hcl2 := hcl.resolve_left hl0
  clear hcl
  have cA := H_cR.out (s ++ ⟨#[32, 62, 32]⟩ ++ t) (by rw [ByteArray.size_append, ByteArray.size_append, show (ByteArray.mk #[32, 62, 32]).size = 3 from rfl]; omega)
  have cB := H_cR.out (s ++ ⟨#[32]⟩ ++ t) (by rw [ByteArray.size_append, ByteArray.size_append, show (ByteArray.mk #[32]).size = 1 from rfl]; omega)
  have cC := H_cR.out t (by omega)
  have cS := H_cR.out ⟨#[42]⟩ (by decide)
  rw [show (ByteArray.mk #[42]).data.toList = [42] from rfl, read_star] at cS
  clear H_cN H_cF H_cP H_cR
  have H_cA := Lib.hid cA
  clear cA
  have H_cB := Lib.hid cB
  clear cB
  have H_cC := Lib.hid cC
  clear cC
  have H_cS := Lib.hid cS
  clear cS
  have H_hcl2 := Lib.hid hcl2
  clear hcl2
  have H_hD := Lib.hid hD
  clear hD
  have H_hc := Lib.hid hc
  clear hc
  have H_hcnt := Lib.hid hcnt
  clear hcnt
  go_wp2_with fail
  refine (H_cA.out _ hB3).mono ?_
  intro en w4 hR
  obtain ⟨hb4, oa, qa, ca, ta, ea', rfl, hA⟩ := read_formL hR
  clear hR
  have hB4 : Below w.heap.size w w4 := below_via hB3 hb4
  have y4 := hB4.size
  have H_A := Lib.hid (show (∃ a, ea' = .iface 168 (.pointer a)) ∨ (ea' = .nilIface ∧ ∃ l, readP (s ++ ⟨#[32, 62, 32]⟩ ++ t).data.toList = some l ∧ SelOk 79 83 w3.heap.size w4 (.slice oa qa ca) l) from hA)
  clear hA
  have hb4' : Below w3.heap.size w3 w4 := hb4
  clear hb4
  go_wp2_with fail
  refine (H_cB.out _ (by repeat' (first | (with_reducible first | exact bwR _ _ | assumption | refine bdn ?_ | refine bwA ?_ ?_ _ | refine bwD ?_ | refine bwS ?_ ?_ _) | omega | (simp <;> omega)))).mono ?_
  intro en w5 hR
  obtain ⟨hb5, ob, qb, cb, tb, eb', rfl, hA⟩ := read_formL hR
  clear hR
  have hB5 : Below w.heap.size w w5 := below_via (by repeat' (first | (with_reducible first | exact bwR _ _ | assumption | refine bdn ?_ | refine bwA ?_ ?_ _ | refine bwD ?_ | refine bwS ?_ ?_ _) | omega | (simp <;> omega))) hb5
  have y5 := hB5.size
  have hb5' : Below w4.heap.size w4 w5 := below_via (by repeat' (first | (with_reducible first | exact bwR _ _ | assumption | refine bdn ?_ | refine bwA ?_ ?_ _ | refine bwD ?_ | refine bwS ?_ ?_ _) | omega | (simp <;> omega))) hb5
  have H_B := Lib.hid (show (∃ a, eb' = .iface 168 (.pointer a)) ∨ (eb' = .nilIface ∧ ∃ l, readP (s ++ ⟨#[32]⟩ ++ t).data.toList = some l ∧ ∃ base, SelOk 79 83 base w5 (.slice ob qb cb) l) from hA.imp id (fun ⟨h1, l, h2, h3⟩ => ⟨h1, l, h2, _, h3⟩))
  have a0 : w5.cell? ⟨w4.heap.size, 0, none⟩ = some (.slice oa qa ca) := gkeep hb5 (World.cell?_alloc_new _ _ _ _) (by simp)
  have a1 : w5.cell? ⟨w4.heap.size, 1, none⟩ = some (.string ta) := gkeep hb5 (World.cell?_alloc_new _ _ _ _) (by simp)
  have z5 : w4.heap.size < w5.heap.size := Nat.lt_of_lt_of_le (by simp) hb5.size
  clear hA hb5
  go_wp2_with fail
  refine (H_cC.out _ (by repeat' (first | (with_reducible first | exact bwR _ _ | assumption | refine bdn ?_ | refine bwA ?_ ?_ _ | refine bwD ?_ | refine bwS ?_ ?_ _) | omega | (simp <;> omega)))).mono ?_
  intro en w6 hR
  obtain ⟨hb6, oc, qc, cc, tc, ec', rfl, hA⟩ := read_formL hR
  clear hR
  have hB6 : Below w.heap.size w w6 := below_via (by repeat' (first | (with_reducible first | exact bwR _ _ | assumption | refine bdn ?_ | refine bwA ?_ ?_ _ | refine bwD ?_ | refine bwS ?_ ?_ _) | omega | (simp <;> omega))) hb6
  have y6 := hB6.size
  have hb6' : Below w5.heap.size w5 w6 := below_via (by repeat' (first | (with_reducible first | exact bwR _ _ | assumption | refine bdn ?_ | refine bwA ?_ ?_ _ | refine bwD ?_ | refine bwS ?_ ?_ _) | omega | (simp <;> omega))) hb6
  have H_C := Lib.hid (show (∃ a, ec' = .iface 168 (.pointer a)) ∨ (ec' = .nilIface ∧ ∃ l, readP t.data.toList = some l ∧ ∃ base, SelOk 79 83 base w6 (.slice oc qc cc) l) from hA.imp id (fun ⟨h1, l, h2, h3⟩ => ⟨h1, l, h2, _, h3⟩))
  have b0 : w6.cell? ⟨w5.heap.size, 0, none⟩ = some (.slice ob qb cb) := gkeep hb6 (World.cell?_alloc_new _ _ _ _) (by simp)
  have b1 : w6.cell? ⟨w5.heap.size, 1, none⟩ = some (.string tb) := gkeep hb6 (World.cell?_alloc_new _ _ _ _) (by simp)
  have a2 : w6.cell? ⟨w4.heap.size, 0, none⟩ = some (.slice oa qa ca) := (hb6'.cell (p := ⟨w4.heap.size, 0, none⟩) z5).trans a0
  have a3 : w6.cell? ⟨w4.heap.size, 1, none⟩ = some (.string ta) := (hb6'.cell (p := ⟨w4.heap.size, 1, none⟩) z5).trans a1
  have z6 : w5.heap.size < w6.heap.size := Nat.lt_of_lt_of_le (by simp) hb6.size
  have z46 : w4.heap.size < w6.heap.size := Nat.lt_trans z5 z6
  clear hA hb6 a0 a1 H_cA H_cB H_cC hB4 hB5
  go_wp2_with fail
  refine (H_cS.out _ (by repeat' (first | (with_reducible first | exact bwR _ _ | assumption | refine bdn ?_ | refine bwA ?_ ?_ _ | refine bwD ?_ | refine bwS ?_ ?_ _) | omega | (simp <;> omega)))).mono ?_
  intro en w7 hR
  obtain ⟨hb7, vs, rfl, hVs⟩ := hR
  have hB7 : Below w.heap.size w w7 := below_via (by repeat' (first | (with_reducible first | exact bwR _ _ | assumption | refine bdn ?_ | refine bwA ?_ ?_ _ | refine bwD ?_ | refine bwS ?_ ?_ _) | omega | (simp <;> omega))) hb7
  have y7 := hB7.size
  have hb7' : Below w6.heap.size w6 w7 := below_via (by repeat' (first | (with_reducible first | exact bwR _ _ | assumption | refine bdn ?_ | refine bwA ?_ ?_ _ | refine bwD ?_ | refine bwS ?_ ?_ _) | omega | (simp <;> omega))) hb7
  have d0 : w7.cell? ⟨w6.heap.size, 0, none⟩ = some (.slice oc qc cc) := gkeep hb7 (World.cell?_alloc_new _ _ _ _) (by simp)
  have d1 : w7.cell? ⟨w6.heap.size, 1, none⟩ = some (.string tc) := gkeep hb7 (World.cell?_alloc_new _ _ _ _) (by simp)
  have z7 : w6.heap.size < w7.heap.size := Nat.lt_of_lt_of_le (by simp) hb7.size
  obtain ⟨os, cs, qs, rfl⟩ : ∃ o c q, vs = .slice o q c := by
    obtain ⟨xs, h1, _, _⟩ := hVs
    obtain ⟨o, c, h⟩ := ow_form h1
    exact ⟨o, c, _, h⟩
  have z57 : w5.heap.size < w7.heap.size := Nat.lt_trans z6 z7
  have z47 : w4.heap.size < w7.heap.size := Nat.lt_trans z46 z7
  have e0 : w7.cell? ⟨w4.heap.size, 0, none⟩ = some (.slice oa qa ca) := (hb7'.cell (p := ⟨w4.heap.size, 0, none⟩) z46).trans a2
  have e1 : w7.cell? ⟨w4.heap.size, 1, none⟩ = some (.string ta) := (hb7'.cell (p := ⟨w4.heap.size, 1, none⟩) z46).trans a3
  have e2 : w7.cell? ⟨w5.heap.size, 0, none⟩ = some (.slice ob qb cb) := (hb7'.cell (p := ⟨w5.heap.size, 0, none⟩) z6).trans b0
  have e3 : w7.cell? ⟨w5.heap.size, 1, none⟩ = some (.string tb) := (hb7'.cell (p := ⟨w5.heap.size, 1, none⟩) z6).trans b1
  have hD7 := H_hD.out.keep (below_via hb4' (below_via hb5' (below_via hb6' hb7')))
  have hbs : bs [42] = ⟨#[42]⟩ := rfl
  rw [hbs]
  clear hb7 a2 a3 b0 b1 H_cS hbs
  have hat : ∀ n e, elAt (treeE nr (-1) 0) n = some e → ∀ a ∈ e.attrs, a.2.size ≤ 100000 := fun n e he a ha => by
    have := treeE_vl nr 0 1 (-1) 0 H_hc.out _ (elAt_mem he) a ha
    omega
  have hnm : ∀ n e, elAt (treeE nr (-1) 0) n = some e → e.name ≠ ⟨#[]⟩ := fun n e he h0 => by
    have := nmOk_ne (treeE_nm nr 0 1 (-1) 0 H_hc.out _ (elAt_mem he))
    exact this (by rw [h0])
  have hEl : (treeE nr (-1) 0).length = l2 := by
    have h := congrArg List.length (tree_keys nr)
    rw [List.length_map, List.length_range'] at h
    exact h.trans H_hcl2.out.symm
  have hgood := hD7.good
  have hel : ∀ i (h : i < (below (treeE nr (-1) 0) 10 0).length), ∃ e, elAt (treeE nr (-1) 0) (below (treeE nr (-1) 0) 10 0)[i] = some e := fun i h => (hgood.all_mem _).2 (List.getElem_mem h)
  have hlen := hgood.all_len
  rw [hEl] at hlen
  obtain ⟨E, hE⟩ : ∃ u, treeE nr (-1) 0 = u := ⟨_, rfl⟩
  rw [hE] at hat hnm hEl hel hD7 hlen
  clear hgood
  have cAl := fun (W : World) (hb : Below w7.heap.size w7 W) => pall_all m bd nr.cnt F E d 79 83 w6.heap.size.succ os qs cs ⟨#[42]⟩ [⟨[42], [], false⟩] W (hD7.keep hb) hat (gkeep (below_via hB7 hb) H_hm.out rfl) ((by simpa using hVs : SelOk 79 83 w6.heap.size.succ w7 (.slice os qs cs) [⟨[42], [], false⟩]).keep hb) (by simp) hnm (fun n e he => fits_star he)
  rw [hEl] at cAl
  clear hVs
  have H_cAl := Lib.hid cAl
  clear cAl
  have H_hat := Lib.hid hat
  clear hat
  have H_hnm := Lib.hid hnm
  clear hnm
  have H_hEl := Lib.hid hEl
  clear hEl
  have H_hel := Lib.hid hel
  clear hel
  have H_hD7 := Lib.hid hD7
  clear hD7
  have H_hlen := Lib.hid hlen
  clear hlen
  have H_hE := Lib.hid hE
  clear hE
  go_wp2_with fail
  refine (H_cAl.out _ (by repeat' (first | (with_reducible first | exact bwR _ _ | assumption | refine bdn ?_ | refine bwA ?_ ?_ _ | refine bwD ?_ | refine bwS ?_ ?_ _) | omega | (simp <;> omega)))).mono ?_
  rintro _ w8 ⟨⟨o8, c8, rfl⟩, hb8⟩
  have hb8' : Below w7.heap.size w7 w8 := below_via (by repeat' (first | (with_reducible first | exact bwR _ _ | assumption | refine bdn ?_ | refine bwA ?_ ?_ _ | refine bwD ?_ | refine bwS ?_ ?_ _) | omega | (simp <;> omega))) hb8
  have hB8 : Below w.heap.size w w8 := below_via hB7 hb8'
  have y8 := hB8.size
  clear hb8 H_cAl
  rcases H_A.out with ⟨p, rfl⟩ | ⟨rfl, la, hla, hva⟩
  · clear H_A H_B H_C
    go_wp2_with fail
    go_returns
    exact ⟨rfl, by repeat' (first | (with_reducible first | exact bwR _ _ | assumption | refine bdn ?_ | refine bwA ?_ ?_ _ | refine bwD ?_ | refine bwS ?_ ?_ _) | omega | (simp <;> omega))⟩
  rcases H_B.out with ⟨p, rfl⟩ | ⟨rfl, lb, hlb, bb, hvb⟩
  · clear H_A H_B H_C
    go_wp2_with fail
    go_returns
    exact ⟨rfl, by repeat' (first | (with_reducible first | exact bwR _ _ | assumption | refine bdn ?_ | refine bwA ?_ ?_ _ | refine bwD ?_ | refine bwS ?_ ?_ _) | omega | (simp <;> omega))⟩
  rcases H_C.out with ⟨p, rfl⟩ | ⟨rfl, lc, hlc, bc, hvc⟩
  · clear H_A H_B H_C
    go_wp2_with fail
    go_returns
    exact ⟨rfl, by repeat' (first | (with_reducible first | exact bwR _ _ | assumption | refine bdn ?_ | refine bwA ?_ ?_ _ | refine bwD ?_ | refine bwS ?_ ?_ _) | omega | (simp <;> omega))⟩
  clear H_A H_B H_C
  have hba := readP_wt hla
  have hbb := readP_wt hlb
  have hbc := readP_wt hlc
  have hna := (readP_inv hla).1
  have hnb := (readP_inv hlb).1
  have hnc := (readP_inv hlc).1
  rw [gt_list] at hla
  rw [bl_list] at hlb
  obtain ⟨SA, Sx, SR, q1, q2, q3⟩ := readP_two hla hlb hlc
  have hf1 : ∀ n, fitsL E la n = true → fitsL E lb n = true := fun n => by rw [q1, q2]; exact (last_fits SA Sx SR E n).1
  have hf2 : ∀ n, fitsL E lb n = true → fitsL E lc n = true := fun n => by rw [q2, q3]; exact (last_fits SA Sx SR E n).2
  have hw1 : wtL la = wtL lb := by rw [q1, q2]; exact (last_weighs SA Sx SR).1
  have hw2 : wtL lc ≤ wtL lb := by rw [q2, q3]; exact (last_weighs SA Sx SR).2
  clear q1 q2 q3 hla hlb hlc
  have HC : ∀ W, Below w8.heap.size w8 W → ((W.cell? ⟨w4.heap.size, 0, none⟩ = some (.slice oa qa ca) ∧ W.cell? ⟨w4.heap.size, 1, none⟩ = some (.string ta)) ∧ (W.cell? ⟨w5.heap.size, 0, none⟩ = some (.slice ob qb cb) ∧ W.cell? ⟨w5.heap.size, 1, none⟩ = some (.string tb)) ∧ W.cell? ⟨w6.heap.size, 0, none⟩ = some (.slice oc qc cc) ∧ W.cell? ⟨w6.heap.size, 1, none⟩ = some (.string tc)) ∧ Below w.heap.size w W ∧ SelOk 79 83 w3.heap.size W (.slice oa qa ca) la ∧ SelOk 79 83 bb W (.slice ob qb cb) lb ∧ SelOk 79 83 bc W (.slice oc qc cc) lc ∧ DokG Tryd.prog TT W bd F E nr.cnt d := by
    intro W hW
    have h7 : Below w7.heap.size w7 W := below_via hb8' hW
    have h6 : Below w6.heap.size w6 W := below_via hb7' h7
    have h5 : Below w5.heap.size w5 W := below_via hb6' h6
    have h4 : Below w4.heap.size w4 W := below_via hb5' h5
    exact ⟨⟨⟨(h7.cell (p := ⟨w4.heap.size, 0, none⟩) z47).trans e0, (h7.cell (p := ⟨w4.heap.size, 1, none⟩) z47).trans e1⟩, ⟨(h7.cell (p := ⟨w5.heap.size, 0, none⟩) z57).trans e2, (h7.cell (p := ⟨w5.heap.size, 1, none⟩) z57).trans e3⟩, (h7.cell (p := ⟨w6.heap.size, 0, none⟩) z7).trans d0, (h7.cell (p := ⟨w6.heap.size, 1, none⟩) z7).trans d1⟩,
      below_via hB8 hW, hva.keep h4, hvb.keep h5, hvc.keep h6, H_hD7.out.keep h7⟩
  have cWa := fun (W : World) (hb : Below w8.heap.size w8 W) => weight_any 79 83 _ _ ta la W (HC W hb).2.2.1 hba
  have cWb := fun (W : World) (hb : Below w8.heap.size w8 W) => weight_any 79 83 _ _ tb lb W (HC W hb).2.2.2.1 hbb
  have cWc := fun (W : World) (hb : Below w8.heap.size w8 W) => weight_any 79 83 _ _ tc lc W (HC W hb).2.2.2.2.1 hbc
  rw [hw1] at cWa
  obtain ⟨WB, hWB⟩ : ∃ u, wtL lb = u := ⟨_, rfl⟩
  obtain ⟨WC, hWC⟩ : ∃ u, wtL lc = u := ⟨_, rfl⟩
  rw [hWB] at cWa cWb hw2
  rw [hWC] at cWc hw2
  have H_hw2 := Lib.hid hw2
  have cAll := all_any bd nr.cnt F E d w8 (HC w8 (Below.refl _ _)).2.2.2.2.2
  clear hba hbb hbc hWB hWC hw1 hw2 hva hvb hvc hb4' hb5' hb6' hb7' hb8' e0 e1 e2 e3 d0 d1
  obtain ⟨L, hL⟩ : ∃ u, below E 10 0 = u := ⟨_, rfl⟩
  have hel' := H_hel.out
  have hlen' := H_hlen.out
  rw [hL] at cAll hel' hlen'
  clear H_hel H_hlen
  have H_HC := Lib.hid HC
  clear HC
  have H_cWa := Lib.hid cWa
  clear cWa
  have H_cWb := Lib.hid cWb
  clear cWb
  have H_cWc := Lib.hid cWc
  clear cWc
  have H_hf1 := Lib.hid hf1
  clear hf1
  have H_hf2 := Lib.hid hf2
  clear hf2
  have H_hna := Lib.hid hna
  clear hna
  have H_hnb := Lib.hid hnb
  clear hnb
  have H_hnc := Lib.hid hnc
  clear hnc
  have H_cAll := Lib.hid cAll
  clear cAll
  have H_hL := Lib.hid hL
  clear hL
  have H_hel' := Lib.hid hel'
  clear hel'
  have H_hlen' := Lib.hid hlen'
  clear hlen'
  go_wp2_with fail
  refine (H_cAll.out).mono ?_
  rintro _ wx ⟨v, rfl, hv, hX⟩
  obtain ⟨o, c, rfl⟩ := ow_form hv
  have hSl := sla_of hv
  rw [H_hlen'.out] at hSl
  rw [H_hlen'.out]
  clear hv H_cAll
  have hl60 : l2 ≤ 60 := by omega
  have H_hSl := Lib.hid hSl
  clear hSl
  go_wp2_with fail
  go_loopw [20] (fun t20 wr => ∃ k : Nat, k ≤ l2 ∧ t20 = .int .i64 k ∧ Below wx.heap.size wx wr) (fun t20 _ => l2 - (intOf t20).toNat)
  case atStart => exact ⟨0, Nat.zero_le _, rfl, Below.refl _ _⟩
  case round =>
    obtain ⟨k, hk, rfl, hB⟩ := hrel
    have hBr : Below w8.heap.size w8 wr := below_via hX hB
    have hBw : Below w.heap.size w wr := (H_HC.out wr hBr).2.1
    by_cases hlt : k < l2
    · have hk' : k < L.length := by rw [H_hlen'.out]; exact hlt
      obtain ⟨g, off, rfl, hgx, hrow⟩ := H_hSl.out.2.2.2.resolve_left (by intro h; rw [h] at hk'; simp at hk')
      obtain ⟨e, he⟩ := H_hel'.out k hk'
      have q0 : wr.cell? ⟨g, off + k, none⟩ = some (.int .i64 (L[k] : Int)) := by
        have h := (hrow.keep hB hgx) k hk' 0 _ rfl
        simpa [EIn] using h
      obtain ⟨x, hx⟩ : ∃ u, L[k] = u := ⟨_, rfl⟩
      rw [hx] at he q0
      have hen := H_hnm.out x e he
      have HR : ∀ W, Below wr.heap.size wr W → ((W.cell? ⟨w4.heap.size, 0, none⟩ = some (.slice oa qa ca) ∧ W.cell? ⟨w4.heap.size, 1, none⟩ = some (.string ta)) ∧ (W.cell? ⟨w5.heap.size, 0, none⟩ = some (.slice ob qb cb) ∧ W.cell? ⟨w5.heap.size, 1, none⟩ = some (.string tb)) ∧ W.cell? ⟨w6.heap.size, 0, none⟩ = some (.slice oc qc cc) ∧ W.cell? ⟨w6.heap.size, 1, none⟩ = some (.string tc)) := fun W hb => (H_HC.out W (below_via hBr hb)).1
      have cFa := fun (W : World) (hb : Below wr.heap.size wr W) => selfits_any m bd nr.cnt F E d 79 83 _ _ ta la x e W (H_HC.out W (below_via hBr hb)).2.2.2.2.2 H_hat.out (gkeep ((H_HC.out W (below_via hBr hb)).2.1) H_hm.out rfl) (H_HC.out W (below_via hBr hb)).2.2.1 H_hna.out he hen
      have cFb := fun (W : World) (hb : Below wr.heap.size wr W) => selfits_any m bd nr.cnt F E d 79 83 _ _ tb lb x e W (H_HC.out W (below_via hBr hb)).2.2.2.2.2 H_hat.out (gkeep ((H_HC.out W (below_via hBr hb)).2.1) H_hm.out rfl) (H_HC.out W (below_via hBr hb)).2.2.2.1 H_hnb.out he hen
      have cFc := fun (W : World) (hb : Below wr.heap.size wr W) => selfits_any m bd nr.cnt F E d 79 83 _ _ tc lc x e W (H_HC.out W (below_via hBr hb)).2.2.2.2.2 H_hat.out (gkeep ((H_HC.out W (below_via hBr hb)).2.1) H_hm.out rfl) (H_HC.out W (below_via hBr hb)).2.2.2.2.1 H_hnc.out he hen
      have i1 := H_hf1.out x
      have i2 := H_hf2.out x
      obtain ⟨p, hp⟩ : ∃ u, fitsL E la x = u := ⟨_, rfl⟩
      obtain ⟨qq, hqq⟩ : ∃ u, fitsL E lb x = u := ⟨_, rfl⟩
      obtain ⟨rr, hrr⟩ : ∃ u, fitsL E lc x = u := ⟨_, rfl⟩
      rw [hp, hqq] at i1
      rw [hqq, hrr] at i2
      rw [hp] at cFa
      rw [hqq] at cFb
      rw [hrr] at cFc
      have gk : IntKind.i64.wrap ((k : Int) + 1) = ((k + 1 : Nat) : Int) := IntWalk.i64_in _ (by omega)
      have hf0 := HR wr (Below.refl _ _)
      clear hrow
      have H_cFa := Lib.hid cFa
      clear cFa
      have H_cFb := Lib.hid cFb
      clear cFb
      have H_cFc := Lib.hid cFc
      clear cFc
      have H_HR := Lib.hid HR
      clear HR
      have H_hp := Lib.hid hp
      clear hp
      have H_hqq := Lib.hid hqq
      clear hqq
      have H_hrr := Lib.hid hrr
      clear hrr
      have H_he := Lib.hid he
      clear he
      have H_hen := Lib.hid hen
      clear hen
      have H_hx := Lib.hid hx
      clear hx
      cases p with
      | true =>
        obtain rfl := i1 rfl
        obtain rfl := i2 rfl
        clear i1 i2
        go_wp2_with fail
        refine (H_cFa.out _ (Below.refl _ _)).mono ?_
        rintro _ w10 ⟨rfl, hb9⟩
        have hB10 : Below wr.heap.size wr w10 := below_via (Below.refl _ _) hb9
        have hf10 := H_HR.out _ hB10
        clear hb9
        go_wp2_with fail
        refine (H_cFb.out _ hB10).mono ?_
        rintro _ w11 ⟨rfl, hb9⟩
        have hB11 : Below wr.heap.size wr w11 := below_via hB10 hb9
        have hf11 := H_HR.out _ hB11
        clear hb9
        go_wp2_with fail
        refine (H_cFb.out _ hB11).mono ?_
        rintro _ w12 ⟨rfl, hb9⟩
        have hB12 : Below wr.heap.size wr w12 := below_via hB11 hb9
        have hf12 := H_HR.out _ hB12
        clear hb9
        go_wp2_with fail
        refine (H_cFc.out _ hB12).mono ?_
        rintro _ w13 ⟨rfl, hb9⟩
        have hB13 : Below wr.heap.size wr w13 := below_via hB12 hb9
        have hf13 := H_HR.out _ hB13
        clear hb9
        go_wp2_with fail
        go_roundw
        case rel => exact ⟨k + 1, by omega, by go_num, below_via hB hB13⟩
        case measure => simp [intOf]; omega
      | false =>
        cases qq with
        | true =>
          obtain rfl := i2 rfl
          clear i1 i2
          go_wp2_with fail
          refine (H_cFa.out _ (Below.refl _ _)).mono ?_
          rintro _ w10 ⟨rfl, hb9⟩
          have hB10 : Below wr.heap.size wr w10 := below_via (Below.refl _ _) hb9
          have hf10 := H_HR.out _ hB10
          clear hb9
          go_wp2_with fail
          refine (H_cFb.out _ hB10).mono ?_
          rintro _ w11 ⟨rfl, hb9⟩
          have hB11 : Below wr.heap.size wr w11 := below_via hB10 hb9
          have hf11 := H_HR.out _ hB11
          clear hb9
          go_wp2_with fail
          refine (H_cFc.out _ hB11).mono ?_
          rintro _ w12 ⟨rfl, hb9⟩
          have hB12 : Below wr.heap.size wr w12 := below_via hB11 hb9
          have hf12 := H_HR.out _ hB12
          clear hb9
          go_wp2_with fail
          go_roundw
          case rel => exact ⟨k + 1, by omega, by go_num, below_via hB hB12⟩
          case measure => simp [intOf]; omega
        | false =>
          clear i1 i2
          go_wp2_with fail
          refine (H_cFa.out _ (Below.refl _ _)).mono ?_
          rintro _ w10 ⟨rfl, hb9⟩
          have hB10 : Below wr.heap.size wr w10 := below_via (Below.refl _ _) hb9
          have hf10 := H_HR.out _ hB10
          clear hb9
          go_wp2_with fail
          refine (H_cFb.out _ hB10).mono ?_
          rintro _ w11 ⟨rfl, hb9⟩
          have hB11 : Below wr.heap.size wr w11 := below_via hB10 hb9
          have hf11 := H_HR.out _ hB11
          clear hb9
          go_wp2_with fail
          go_roundw
          case rel => exact ⟨k + 1, by omega, by go_num, below_via hB hB11⟩
          case measure => simp [intOf]; omega
    · obtain rfl : l2 = k := by omega
      have hle := H_hw2.out
      have hle' : (WC : Int) ≤ (WB : Int) := by omega
      have hle2 : decide ((WC : Int) ≤ (WB : Int)) = true := decide_eq_true hle'
      go_wp2_with fail
      refine wp_region_held_drew (S := fun W => Below w8.heap.size w8 W) (by kernel_rfl) (by repeat' (first | (with_reducible first | exact bwR _ _ | assumption | refine bdn ?_ | refine bwA ?_ ?_ _ | refine bwD ?_ | refine bwS ?_ ?_ _) | omega | (simp <;> omega))) (fun hHeld => ?_)
      refine wpAnyH_take (i := 0) (v := ?_) rfl (by kernel_rfl) (by kernel_rfl) (by kernel_rfl) (fun _ _ _ h => h) (Or.inl ⟨by rfl, ?_⟩) (by assumption) ?_
      rotate_left
      · (intro W hW; have hf := (H_HC.out W hW).1; go_simp; try (with_reducible rfl))
      try simp only [List.getElem_toArray, List.getElem_cons_zero, Act.put, List.setIfInBounds_toArray, List.set_cons_zero, List.set_cons_succ]
      refine wpAnyH_take (i := 2) (v := ?_) rfl (by kernel_rfl) (by kernel_rfl) (by kernel_rfl) (fun _ _ _ h => h) (Or.inl ⟨by rfl, ?_⟩) (by assumption) ?_
      rotate_left
      · (intro W hW; have hf := (H_HC.out W hW).1; go_simp; try (with_reducible rfl))
      try simp only [List.getElem_toArray, List.getElem_cons_zero, List.getElem_cons_succ, Act.put, List.setIfInBounds_toArray, List.set_cons_zero, List.set_cons_succ]
      refine wpAnyH_ready (rs := [1]) (by kernel_rfl) (by simp) ?_
      refine AllReadyH.cons rfl (fun K hK => ?_) AllReadyH.nil
      go_simp
      go_at_call 17
      refine (H_cWa.out _ hHeld).mono ?_
      rintro _ w9 ⟨rfl, hb9⟩
      have hO : Below w8.heap.size w8 w9 := below_via hHeld hb9
      clear hHeld hb9
      refine hK.out _ _ hO (fun hHeld => ?_)
      clear hK K hO
      try simp only [List.getElem_toArray, List.getElem_cons_zero, List.getElem_cons_succ, Act.put, List.setIfInBounds_toArray, List.set_cons_zero, List.set_cons_succ]
      refine wpAnyH_ready (rs := [3]) (by kernel_rfl) (by simp) ?_
      refine AllReadyH.cons rfl (fun K hK => ?_) AllReadyH.nil
      go_simp
      go_at_call 17
      refine (H_cWb.out _ hHeld).mono ?_
      rintro _ w9 ⟨rfl, hb9⟩
      have hO : Below w8.heap.size w8 w9 := below_via hHeld hb9
      clear hHeld hb9
      refine hK.out _ _ hO (fun hHeld => ?_)
      clear hK K hO
      try simp only [List.getElem_toArray, List.getElem_cons_zero, List.getElem_cons_succ, Act.put, List.setIfInBounds_toArray, List.set_cons_zero, List.set_cons_succ]
      refine wpAnyH_take (i := 4) (v := ?_) rfl (by kernel_rfl) (by kernel_rfl) (by kernel_rfl) (fun _ _ _ h => h) (Or.inl ⟨by rfl, ?_⟩) (by assumption) ?_
      rotate_left
      · (intro W hW; have hf := (H_HC.out W hW).1; go_simp; try (with_reducible rfl))
      try simp only [List.getElem_toArray, List.getElem_cons_zero, List.getElem_cons_succ, Act.put, List.setIfInBounds_toArray, List.set_cons_zero, List.set_cons_succ]
      refine wpAnyH_take (i := 5) (v := ?_) rfl (by kernel_rfl) (by kernel_rfl) (by kernel_rfl) (fun _ _ _ h => h) (Or.inl ⟨by rfl, ?_⟩) (by assumption) ?_
      rotate_left
      · (intro W hW; have hf := (H_HC.out W hW).1; go_simp; try (with_reducible rfl))
      try simp only [List.getElem_toArray, List.getElem_cons_zero, List.getElem_cons_succ, Act.put, List.setIfInBounds_toArray, List.set_cons_zero, List.set_cons_succ]
      refine wpAnyH_take (i := 6) (v := ?_) rfl (by kernel_rfl) (by kernel_rfl) (by kernel_rfl) (fun _ _ _ h => h) (Or.inl ⟨by rfl, ?_⟩) (by assumption) ?_
      rotate_left
      · (intro W hW; have hf := (H_HC.out W hW).1; go_simp; try (with_reducible rfl))
      try simp only [List.getElem_toArray, List.getElem_cons_zero, List.getElem_cons_succ, Act.put, List.setIfInBounds_toArray, List.set_cons_zero, List.set_cons_succ]
      refine wpAnyH_take (i := 8) (v := ?_) rfl (by kernel_rfl) (by kernel_rfl) (by kernel_rfl) (fun _ _ _ h => h) (Or.inl ⟨by rfl, ?_⟩) (by assumption) ?_
      rotate_left
      · (intro W hW; have hf := (H_HC.out W hW).1; go_simp; try (with_reducible rfl))
      try simp only [List.getElem_toArray, List.getElem_cons_zero, List.getElem_cons_succ, Act.put, List.setIfInBounds_toArray, List.set_cons_zero, List.set_cons_succ]
      refine wpAnyH_ready (rs := [7]) (by kernel_rfl) (by simp) ?_
      refine AllReadyH.cons rfl (fun K hK => ?_) AllReadyH.nil
      go_simp
      go_at_call 17
      refine (H_cWb.out _ hHeld).mono ?_
      rintro _ w9 ⟨rfl, hb9⟩
      have hO : Below w8.heap.size w8 w9 := below_via hHeld hb9
      clear hHeld hb9
      refine hK.out _ _ hO (fun hHeld => ?_)
      clear hK K hO
      try simp only [List.getElem_toArray, List.getElem_cons_zero, List.getElem_cons_succ, Act.put, List.setIfInBounds_toArray, List.set_cons_zero, List.set_cons_succ]
      refine wpAnyH_ready (rs := [9]) (by kernel_rfl) (by simp) ?_
      refine AllReadyH.cons rfl (fun K hK => ?_) AllReadyH.nil
      go_simp
      go_at_call 17
      refine (H_cWc.out _ hHeld).mono ?_
      rintro _ w9 ⟨rfl, hb9⟩
      have hO : Below w8.heap.size w8 w9 := below_via hHeld hb9
      clear hHeld hb9
      refine hK.out _ _ hO (fun hHeld => ?_)
      clear hK K hO
      try simp only [List.getElem_toArray, List.getElem_cons_zero, List.getElem_cons_succ, Act.put, List.setIfInBounds_toArray, List.set_cons_zero, List.set_cons_succ]
      refine wpAnyH_take (i := 10) (v := ?_) rfl (by kernel_rfl) (by kernel_rfl) (by kernel_rfl) (fun _ _ _ h => h) (Or.inl ⟨by rfl, ?_⟩) (by assumption) ?_
      rotate_left
      · (intro W hW; have hf := (H_HC.out W hW).1; go_simp; try (with_reducible rfl))
      try simp only [List.getElem_toArray, List.getElem_cons_zero, List.getElem_cons_succ, Act.put, List.setIfInBounds_toArray, List.set_cons_zero, List.set_cons_succ]
      refine wpAnyH_take (i := 11) (v := ?_) rfl (by kernel_rfl) (by kernel_rfl) (by kernel_rfl) (fun _ _ _ h => h) (Or.inl ⟨by rfl, ?_⟩) (by assumption) ?_
      rotate_left
      · (intro W hW; have hf := (H_HC.out W hW).1; go_simp; try (with_reducible rfl))
      try simp only [List.getElem_toArray, List.getElem_cons_zero, List.getElem_cons_succ, Act.put, List.setIfInBounds_toArray, List.set_cons_zero, List.set_cons_succ]
      refine wpAnyH_take (i := 12) (v := ?_) rfl (by kernel_rfl) (by kernel_rfl) (by kernel_rfl) (fun _ _ _ h => h) (Or.inl ⟨by rfl, ?_⟩) (by assumption) ?_
      rotate_left
      · (intro W hW; have hf := (H_HC.out W hW).1; go_simp; try (with_reducible rfl))
      try simp only [List.getElem_toArray, List.getElem_cons_zero, List.getElem_cons_succ, Act.put, List.setIfInBounds_toArray, List.set_cons_zero, List.set_cons_succ]
      refine wpAnyH_done (by kernel_rfl) ?_ _
      have hfin := (H_HC.out w9 hHeld).2.1
      go_wp2_with fail
      go_returns
      exact ⟨rfl, hfin⟩
end Go.Proofs.YtbcoccgfoionlaaDoor
