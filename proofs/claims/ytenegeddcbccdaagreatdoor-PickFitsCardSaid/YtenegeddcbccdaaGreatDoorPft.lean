/-
  The law PickFits, walked.
-/
import Derived.Test.YtenegeddcbccdaaGreatDoorRpc
import Derived.Test.YtenegeddcbccdaaGreatDoorPy
import Derived.Test.YtenegeddcbccdaaGreatDoorPkg
import Derived.Test.YtenegeddcbccdaaGreatDoorPk9
import Derived.Test.YtenegeddcbccdaaGreatDoorDp
import Derived.Test.YtenegeddcbccdaaGreatDoorRp1
import Derived.Test.YtenegeddcbccdaaGreatDoorRp2
import Derived.Test.YtenegeddcbccdaaGreatDoorRp4
import Derived.Test.YtenegeddcbccdaaGreatDoorRp7
import Derived.Test.YtenegeddcbccdaaGreatDoorDq
import Derived.Test.YtenegeddcbccdaaGreatDoorFz
import Derived.Test.YtenegeddcbccdaaGreatDoorCd
namespace Lead.Rc
open Go Go.RowKit Lead Lead.Dc Lead.Pk
/-- What a tree's elements are in the reference's document. -/
theorem rx_of {n : RT} {l : List ReX} (h : l.map ReX.re = docR (allF n (-1) 1 0)) {i : Nat} (hi : i < l.length) : ∃ e, elAt (treeE n (-1) 0) i = some e ∧ l[i].nm = e.name ∧ l[i].ats = e.attrs ∧ l[i].par = e.parent ∧ l[i].kids = e.kids ∧ l[i].inn = true := by
  rw [docR_tree] at h
  have hl := congrArg List.length h
  rw [List.length_map, List.length_map] at hl
  have hi' : i < (treeE n (-1) 0).length := by omega
  refine ⟨_, tree_elAt n hi', ?_⟩
  have h1 : (l.map ReX.re)[i]? = ((treeE n (-1) 0).map fullE)[i]? := by rw [h]
  rw [List.getElem?_map, List.getElem?_map, List.getElem?_eq_getElem hi, List.getElem?_eq_getElem hi'] at h1
  injection h1 with h1
  unfold ReX.re fullE at h1
  injection h1 with a b c d e
  exact ⟨a, b, c, d, e⟩
theorem rx_len {n : RT} {l : List ReX} (h : l.map ReX.re = docR (allF n (-1) 1 0)) : l.length = n.cnt := by
  rw [docR_tree] at h
  have hl := congrArg List.length h
  rw [List.length_map, List.length_map, tree_len] at hl
  exact hl
theorem tree_lt {n : RT} {p : Nat} {e : El} (h : elAt (treeE n (-1) 0) p = some e) : p < n.cnt := by
  have hm := elAt_mem h
  have hk := tree_keys n
  have : p ∈ (treeE n (-1) 0).map (·.1) := List.mem_map.2 ⟨_, hm, rfl⟩
  rw [hk, List.mem_range'] at this
  obtain ⟨i, hi, h⟩ := this
  omega
theorem fitK_all {E : Els} {ss : List St} (h : ss ≠ []) (n : Nat) : fitK E ss ss.length n = fitsL E ss n := by
  cases hl : ss.length with
  | zero => exact absurd (List.length_eq_zero_iff.1 hl) h
  | succ k =>
    show fitsR E (ss.take (k + 1)).reverse n = _
    rw [← hl, List.take_length]; rfl
theorem fl_par {n : RT} {xs : List FlX} (h : xs.map fv = allF n (-1) 1 0) {i : Nat} (hi : i < xs.length) : (xs[i]).par < (i : Int) := by
  have hl := congrArg List.length h
  rw [List.length_map, allF_len] at hl
  obtain ⟨e, h1, h2, h3, h4⟩ := tree_at n (i := i) (by omega)
  rw [← h, List.getElem?_map, List.getElem?_map, List.getElem?_eq_getElem hi] at h2
  injection h2 with h2
  have h2' : (xs[i]).par = e.parent := h2
  rw [h2']
  by_cases h0 : i = 0
  · rw [h3 h0]; omega
  · exact (h4 h0).2
theorem nodeE_al {nm : ByteArray} {ats : List At} {i deep : Nat} (h : nodeE nm ats i deep = 0) : ats.length ≤ 12 := by
  unfold nodeE at h
  split at h
  · exact absurd h (by decide)
  · split at h
    · exact absurd h (by decide)
    · split at h
      · exact absurd h (by decide)
      · unfold atE at h
        split at h
        · exact absurd h (by decide)
        · omega
mutual
theorem treeE_al : ∀ (n : RT) (i deep : Nat) (p : Int) (k : Nat), (chkN n i deep).2 = 0 → ∀ y ∈ treeE n p k, y.2.attrs.length ≤ 12
  | .mk nm ats ks, i, deep, p, k, h, y, hy => by
    simp only [chkN] at h
    split at h
    · next hc => exact absurd h hc
    · next hc =>
      simp only [treeE, List.mem_cons] at hy
      rcases hy with rfl | hy
      · exact nodeE_al (Decidable.not_not.1 hc)
      · exact treesE_al ks (i + 1) (deep + 1) k (k + 1) h y hy
theorem treesE_al : ∀ (ks : List RT) (i deep p k : Nat), (chkL ks i deep).2 = 0 → ∀ y ∈ treesE ks p k, y.2.attrs.length ≤ 12
  | [], _, _, _, _, _, y, hy => by simp only [treesE] at hy; cases hy
  | x :: r, i, deep, p, k, h, y, hy => by
    simp only [chkL] at h
    split at h
    · next hc => exact absurd h hc
    · next hc =>
      simp only [treesE, List.mem_append] at hy
      rcases hy with hy | hy
      · exact treeE_al x i deep (p : Int) k (Decidable.not_not.1 hc) y hy
      · exact treesE_al r (chkN x i deep).1 deep p (k + x.cnt) h y hy
end
theorem fl_ats {n : RT} {xs : List FlX} (h : xs.map fv = allF n (-1) 1 0) (hc : (chkN n 0 1).2 = 0) {x : FlX} (hx : x ∈ xs) : x.ats.length ≤ 1000 := by
  have h1 : k3 (fv x) ∈ (allF n (-1) 1 0).map k3 := by rw [← h]; exact List.mem_map.2 ⟨_, List.mem_map.2 ⟨x, hx, rfl⟩, rfl⟩
  rw [allF_k3] at h1
  obtain ⟨y, hy, he⟩ := List.mem_map.1 h1
  have h2 := treeE_al n 0 1 (-1) 0 hc y hy
  have h3 : y.2.attrs = x.ats := congrArg (fun z => z.2.1) he
  rw [← h3]; omega
theorem filter_snoc {L : List Nat} {k : Nat} (hk : k < L.length) (p : Nat → Bool) : (L.take (k + 1)).filter p = (L.take k).filter p ++ (if p L[k] = true then [L[k]] else []) := by
  rw [List.take_succ_eq_append_getElem hk, List.filter_append]
  congr 1
  by_cases h : p L[k] = true
  · rw [if_pos h]; simp [h]
  · rw [if_neg h]; simp [h]
end Lead.Rc
namespace Go.Proofs.YtenegeddcbccdaaGreatDoor
open Go.RowKit Go.WideMaps Go.Maps Lead Lead.Dc Lead.Pk Lead.Rc
theorem cgs_of {ea : Nat → Addr} {w : World} (hS : Sents ea w) : CGs ea w := ⟨hS.c4, hS.c6, hS.c7, hS.c8, hS.c10⟩
set_option maxHeartbeats 8000000 in
set_option maxRecDepth 100000 in
theorem lawfits_any (ea : Nat → Addr) (m : Int) (n : NT) (S : ByteArray) (w : World) (hn : NodeOk w n) (hS : Sents ea w) (hm : w.cell? ⟨12, 0, none⟩ = some (.int .i64 m)) :
    Calls Tryz.prog 4 #[.agg n.vals.toArray, .string S] w fun e w' => e = .returned (.bool true) ∧ Below w.heap.size w w' := by
  obtain ⟨ao, al, ac, ko, kl, kc, hv, _⟩ := hn.attrsAt
  have hE := hS.c1
  have cP := fun (W : World) (hb : Below w.heap.size w W) => picked_any ea m W (gkeep hb hE rfl) (gkeep hb hm rfl)
  have cF := fun (W : World) (hb : Below w.heap.size w W) => flatsof_any n W (hn.keep hb rfl)
  have cN := fun (W : World) (hb : Below w.heap.size w W) => new_any ea n W (hn.keep hb rfl) (cgs_of (hS.keep hb rfl))
  have cR := fun (hx : S.size ≤ 100000) (W : World) (hb : Below w.heap.size w W) => pread_any ea m S.data.toList W (by rw [show S.data.toList.length = S.size from Array.length_toList]; exact hx) (gkeep hb hE rfl) (gkeep hb hm rfl)
  simp only [bs_of] at cR
  have cQ := fun (hx : S.size ≤ 100000) (W : World) => rsteps_any S S.data.toList rfl W hx
  have cC := fun (W : World) (hb : Below w.heap.size w W) => coded1_s ea 1 W (by decide) (by decide) (hS.keep hb rfl)
  rw [hv] at cF cN ⊢
  obtain ⟨nk, hnk⟩ : ∃ u, n.name = u := ⟨_, rfl⟩
  obtain ⟨nr, hnr⟩ : ∃ u, n.rt = u := ⟨_, rfl⟩
  rw [hnk] at cF cN ⊢
  rw [hnr] at cN cF
  clear hv hn hnk hnr
  have H_cP := Lib.hid cP
  clear cP
  have H_cF := Lib.hid cF
  clear cF
  have H_cN := Lib.hid cN
  clear cN
  have H_cR := Lib.hid cR
  clear cR
  have H_cQ := Lib.hid cQ
  clear cQ
  have H_cC := Lib.hid cC
  clear cC
  have H_hS := Lib.hid hS
  clear hS
  have H_hE := Lib.hid hE
  clear hE
  have H_hm := Lib.hid hm
  clear hm
  go_enter Tryz.func4, Tryz.ntmps4
  go_wp2_with fail
  refine (H_cP.out _ (by repeat' (first | (with_reducible first | exact bwR _ _ | assumption | refine bdn ?_ | refine bwA ?_ ?_ _ | refine bwD ?_ | refine bwS ?_ ?_ _) | omega | (simp <;> omega)))).mono ?_
  rintro _ w1 ⟨rfl, hb1⟩
  have hB1 : Below w.heap.size w w1 := below_via (by repeat' (first | (with_reducible first | exact bwR _ _ | assumption | refine bdn ?_ | refine bwA ?_ ?_ _ | refine bwD ?_ | refine bwS ?_ ?_ _) | omega | (simp <;> omega))) hb1
  have k0 : w1.cell? ⟨w.heap.size, 0, none⟩ = some (.string nk) := gkeep hb1 (World.cell?_alloc_new _ _ _ _) (by simp)
  have k1 : w1.cell? ⟨w.heap.size, 1, none⟩ = some (.slice ao al ac) := gkeep hb1 (World.cell?_alloc_new _ _ _ _) (by simp)
  have k2 : w1.cell? ⟨w.heap.size, 2, none⟩ = some (.slice ko kl kc) := gkeep hb1 (World.cell?_alloc_new _ _ _ _) (by simp)
  have z1 : w.heap.size < w1.heap.size := Nat.lt_of_lt_of_le (by simp) hb1.size
  clear hb1
  go_wp2_with fail
  refine (H_cF.out _ (by repeat' (first | (with_reducible first | exact bwR _ _ | assumption | refine bdn ?_ | refine bwA ?_ ?_ _ | refine bwD ?_ | refine bwS ?_ ?_ _) | omega | (simp <;> omega)))).mono ?_
  rintro _ w2 ⟨o2, l2, c2, rfl, hl2, hb2, hfw⟩
  have hfl : l2 = 0 ∨ ∃ xs, SlA EFl w2 o2 l2 c2 xs ∧ (∀ x ∈ xs, SlA EAt w1 x.ao x.al x.ac x.ats) ∧ xs.map fv = allF nr (-1) 1 0 := hfw
  clear hfw
  have hB2 : Below w.heap.size w w2 := below_via hB1 hb2
  have z2 : w.heap.size < w2.heap.size := Nat.lt_of_lt_of_le z1 hb2.size
  have m0 : w2.cell? ⟨w.heap.size, 0, none⟩ = some (.string nk) := (hb2.cell (p := ⟨w.heap.size, 0, none⟩) z1).trans k0
  have m1 : w2.cell? ⟨w.heap.size, 1, none⟩ = some (.slice ao al ac) := (hb2.cell (p := ⟨w.heap.size, 1, none⟩) z1).trans k1
  have m2 : w2.cell? ⟨w.heap.size, 2, none⟩ = some (.slice ko kl kc) := (hb2.cell (p := ⟨w.heap.size, 2, none⟩) z1).trans k2
  have hb2' : Below w1.heap.size w1 w2 := hb2
  clear hb2 k0 k1 k2
  by_cases hl0 : l2 = 0
  · subst hl0
    clear hfl
    go_wp2_with fail
    go_returns
    exact ⟨rfl, by repeat' (first | (with_reducible first | exact bwR _ _ | assumption | refine bdn ?_ | refine bwA ?_ ?_ _ | refine bwD ?_ | refine bwS ?_ ?_ _) | omega | (simp <;> omega))⟩
  have hfl2 := hfl.resolve_left hl0
  obtain ⟨xs, hsx, hax, hvals⟩ := hfl2
  have hl0' : ((l2 : Int) == 0) = false := by simp; omega
  clear hfl
  have H_hsx := Lib.hid hsx
  clear hsx
  have H_hax := Lib.hid hax
  clear hax
  have H_hvals := Lib.hid hvals
  clear hvals
  by_cases h60 : 60 < l2
  · have g60 : (60 : Int) < (l2 : Int) := by omega
    go_wp2_with fail
    go_returns
    exact ⟨rfl, by repeat' (first | (with_reducible first | exact bwR _ _ | assumption | refine bdn ?_ | refine bwA ?_ ?_ _ | refine bwD ?_ | refine bwS ?_ ?_ _) | omega | (simp <;> omega))⟩
  have g60 : ¬ (60 : Int) < (l2 : Int) := by omega
  by_cases hs : 200 < S.size
  · have gs : (200 : Int) < (S.size : Int) := by omega
    go_wp2_with fail
    go_returns
    exact ⟨rfl, by repeat' (first | (with_reducible first | exact bwR _ _ | assumption | refine bdn ?_ | refine bwA ?_ ?_ _ | refine bwD ?_ | refine bwS ?_ ?_ _) | omega | (simp <;> omega))⟩
  have gs : ¬ (200 : Int) < (S.size : Int) := by omega
  have cR2 := H_cR.out (by omega)
  have cQ2 := H_cQ.out (by omega)
  clear H_cR H_cQ H_cP H_cF
  cases hrd : readP S.data.toList with
  | none =>
    rw [hrd] at cR2 cQ2
    have H_cR2 := Lib.hid cR2
    clear cR2
    have H_cQ2 := Lib.hid cQ2
    clear cQ2
    have H_hrd := Lib.hid hrd
    clear hrd
    go_wp2_with fail
    refine (H_cR2.out _ hB2).mono ?_
    rintro en w3 ⟨hb3, rfl⟩
    have hB3 : Below w.heap.size w w3 := below_via hB2 hb3
    have z3 : w2.heap.size ≤ w3.heap.size := hb3.size
    clear hb3 m0 m1 m2
    go_wp2_with fail
    refine (H_cQ2.out _).mono ?_
    rintro en w4 ⟨hb4, vq, rfl⟩
    have hB4 : Below w.heap.size w w4 := below_via (by repeat' (first | (with_reducible first | exact bwR _ _ | assumption | refine bdn ?_ | refine bwA ?_ ?_ _ | refine bwD ?_ | refine bwS ?_ ?_ _) | omega | (simp <;> omega))) hb4
    have y4 : w3.heap.size < w4.heap.size := Nat.lt_of_lt_of_le (by simp) hb4.size
    have a0 : w4.cell? ⟨w3.heap.size, 0, none⟩ = some (.slice none 0 0) := gkeep hb4 (World.cell?_alloc_new _ _ _ _) (by simp)
    have a1 : w4.cell? ⟨w3.heap.size, 1, none⟩ = some (.string ⟨#[]⟩) := gkeep hb4 (World.cell?_alloc_new _ _ _ _) (by simp)
    clear hb4
    go_wp2_with fail
    refine (H_cC.out _ (by repeat' (first | (with_reducible first | exact bwR _ _ | assumption | refine bdn ?_ | refine bwA ?_ ?_ _ | refine bwD ?_ | refine bwS ?_ ?_ _) | omega | (simp <;> omega)))).mono ?_
    rintro _ w5 ⟨rfl, hb5⟩
    have hB5 : Below w.heap.size w w5 := below_via (by repeat' (first | (with_reducible first | exact bwR _ _ | assumption | refine bdn ?_ | refine bwA ?_ ?_ _ | refine bwD ?_ | refine bwS ?_ ?_ _) | omega | (simp <;> omega))) hb5
    have y5 : w4.heap.size < w5.heap.size := Nat.lt_of_lt_of_le (by simp) hb5.size
    have b0 : w5.cell? ⟨w4.heap.size, 0, none⟩ = some (.slice none 0 0) := gkeep hb5 (World.cell?_alloc_new _ _ _ _) (by simp)
    have b1 : w5.cell? ⟨w4.heap.size, 1, none⟩ = some (.string ⟨#[]⟩) := gkeep hb5 (World.cell?_alloc_new _ _ _ _) (by simp)
    have c0 : w5.cell? ⟨w3.heap.size, 0, none⟩ = some (.slice none 0 0) := (hb5.cell (p := ⟨w3.heap.size, 0, none⟩) (by simp; omega)).trans ((World.cell?_alloc_lt _ _ _ y4).trans a0)
    have c1 : w5.cell? ⟨w3.heap.size, 1, none⟩ = some (.string ⟨#[]⟩) := (hb5.cell (p := ⟨w3.heap.size, 1, none⟩) (by simp; omega)).trans ((World.cell?_alloc_lt _ _ _ y4).trans a1)
    have y35 : w3.heap.size < w5.heap.size := Nat.lt_trans y4 y5
    clear hb5 a0 a1
    go_wp2_with fail
    refine (text_any _ _ _).mono ?_
    rintro _ w6 ⟨rfl, hb6⟩
    have hB6 : Below w.heap.size w w6 := below_via hB5 hb6
    have e0 := (hb6.cell (p := ⟨w3.heap.size, 0, none⟩) y35).trans c0
    have e1 := (hb6.cell (p := ⟨w3.heap.size, 1, none⟩) y35).trans c1
    have f0 := (hb6.cell (p := ⟨w4.heap.size, 0, none⟩) y5).trans b0
    have f1 := (hb6.cell (p := ⟨w4.heap.size, 1, none⟩) y5).trans b1
    have y6 : w4.heap.size < w6.heap.size := Nat.lt_of_lt_of_le y5 hb6.size
    clear hb6 b0 b1 c0 c1
    have cW := weight_any 130 139 0 (.slice none 0 0) ⟨#[]⟩ [] w6 ⟨[], OwnR.nil _ _ _ _, (fun x hx => by cases hx), rfl⟩ (by decide)
    rw [show wtL [] = 0 from rfl] at cW
    have H_cW := Lib.hid cW
    clear cW
    go_wp2_with fail
    refine (H_cW.out).mono ?_
    rintro _ w7 ⟨rfl, hb7⟩
    have hB7 : Below w.heap.size w w7 := below_via hB6 hb7
    have g0 := (hb7.cell (p := ⟨w4.heap.size, 0, none⟩) y6).trans f0
    have g1 := (hb7.cell (p := ⟨w4.heap.size, 1, none⟩) y6).trans f1
    clear hb7 e0 e1 f0 f1
    go_wp2_with fail
    refine (fits_nil _ _ _ _).mono ?_
    rintro _ w8 ⟨rfl, hb8⟩
    have hB8 : Below w.heap.size w w8 := below_via hB7 hb8
    clear hb8
    go_wp2_with fail
    go_returns
    exact ⟨rfl, by repeat' (first | (with_reducible first | exact bwR _ _ | assumption | refine bdn ?_ | refine bwA ?_ ?_ _ | refine bwD ?_ | refine bwS ?_ ?_ _) | omega | (simp <;> omega))⟩
  | some ls =>
    rw [hrd] at cR2 cQ2
    have hwt := readP_wt hrd
    have hne := (readP_inv hrd).1
    have hok := readP_ok hrd
    obtain ⟨WT, hWT⟩ : ∃ u, wtL ls = u := ⟨_, rfl⟩
    have H_cR2 := Lib.hid cR2
    clear cR2
    have H_cQ2 := Lib.hid cQ2
    clear cQ2
    have H_hrd := Lib.hid hrd
    clear hrd
    have H_hok := Lib.hid hok
    clear hok
    have H_hne := Lib.hid hne
    clear hne
    go_wp2_with fail
    refine (H_cR2.out _ hB2).mono ?_
    rintro en w3 ⟨hb3, v3, rfl, hSel⟩
    obtain ⟨os, qs, cs, rfl⟩ : ∃ o q c, v3 = .slice o q c := by
      obtain ⟨ys, h1, _, _⟩ := hSel
      obtain ⟨o, c, h⟩ := Pk.ow_form h1
      exact ⟨o, _, c, h⟩
    have hB3 : Below w.heap.size w w3 := below_via hB2 hb3
    have z3 : w.heap.size < w3.heap.size := Nat.lt_of_lt_of_le z2 hb3.size
    have hbS : bs S.data.toList = S := bs_of _
    rw [hbS]
    have m0 := (hb3.cell (p := ⟨w.heap.size, 0, none⟩) z2).trans m0
    have m1 := (hb3.cell (p := ⟨w.heap.size, 1, none⟩) z2).trans m1
    have m2 := (hb3.cell (p := ⟨w.heap.size, 2, none⟩) z2).trans m2
    have hb3' : Below w2.heap.size w2 w3 := hb3
    clear hb3 H_cR2 hbS
    have H_hSel := Lib.hid hSel
    clear hSel
    have H_hb3' := Lib.hid hb3'
    clear hb3'
    go_wp2_with fail
    refine (H_cQ2.out _).mono ?_
    rintro en w4 ⟨hb4, vq, ys, rfl, hq1, hq2, hq3⟩
    obtain ⟨oq, cq, rfl⟩ := Pk.ow_form hq1
    have hQS : SlA ESr w4 oq ys.length cq ys := Pk.sla_of hq1
    have hQW : ∀ x ∈ ys, SlA EWs w4 x.wo x.wl x.wc x.ws := fun x hx => Pk.sla_of (hq2 x hx)
    have hB4 : Below w.heap.size w w4 := below_via (by repeat' (first | (with_reducible first | exact bwR _ _ | assumption | refine bdn ?_ | refine bwA ?_ ?_ _ | refine bwD ?_ | refine bwS ?_ ?_ _) | omega | (simp <;> omega))) hb4
    have y4 : w3.heap.size < w4.heap.size := Nat.lt_of_lt_of_le (by simp) hb4.size
    have hb34 : Below w3.heap.size w3 w4 := below_via (by repeat' (first | (with_reducible first | exact bwR _ _ | assumption | refine bdn ?_ | refine bwA ?_ ?_ _ | refine bwD ?_ | refine bwS ?_ ?_ _) | omega | (simp <;> omega))) hb4
    have a0 : w4.cell? ⟨w3.heap.size, 0, none⟩ = some (.slice os qs cs) := gkeep hb4 (World.cell?_alloc_new _ _ _ _) (by simp)
    have a1 : w4.cell? ⟨w3.heap.size, 1, none⟩ = some (.string S) := gkeep hb4 (World.cell?_alloc_new _ _ _ _) (by simp)
    have hPB : ∀ W, Below w4.heap.size w4 W → W.cell? ⟨w3.heap.size, 0, none⟩ = some (.slice os qs cs) ∧ W.cell? ⟨w3.heap.size, 1, none⟩ = some (.string S) ∧ W.cell? ⟨w.heap.size, 0, none⟩ = some (.string nk) ∧ W.cell? ⟨w.heap.size, 1, none⟩ = some (.slice ao al ac) ∧ W.cell? ⟨w.heap.size, 2, none⟩ = some (.slice ko kl kc) ∧ Below w.heap.size w W := fun W hb =>
      ⟨(hb.cell (p := ⟨w3.heap.size, 0, none⟩) y4).trans a0, (hb.cell (p := ⟨w3.heap.size, 1, none⟩) y4).trans a1, ((below_via hb34 hb).cell (p := ⟨w.heap.size, 0, none⟩) z3).trans m0, ((below_via hb34 hb).cell (p := ⟨w.heap.size, 1, none⟩) z3).trans m1, ((below_via hb34 hb).cell (p := ⟨w.heap.size, 2, none⟩) z3).trans m2, below_via hB4 hb⟩
    have hSel4 := H_hSel.out.keep hb34
    have hSS : (S.toList == S.toList) = true := beq_self_eq_true _
    have hSN : (S.toList != S.toList) = false := bne_self_eq_false _
    have cWt := fun (W : World) (hb : Below w4.heap.size w4 W) => weight_any 130 139 w2.heap.size (.slice os qs cs) S ls W (hSel4.keep hb) hwt
    have cWo := fun (W : World) (hb : Below w4.heap.size w4 W) => rweight_any oq ys.length cq ys W (hQS.keep hb rfl) (fun x hx => (hQW x hx).keep hb rfl) (by rw [hq3]; exact hwt)
    rw [hWT] at cWt
    rw [hq3, hWT] at cWo
    clear hb4 hq1 hq2 H_cQ2 H_hSel m0 m1 m2
    obtain ⟨_, _, _, _, _, _⟩ := hPB w4 (Below.refl _ _)
    have H_hPB := Lib.hid hPB
    clear hPB
    have H_hQS := Lib.hid hQS
    clear hQS
    have H_hQW := Lib.hid hQW
    clear hQW
    have H_hq3 := Lib.hid hq3
    clear hq3
    have H_hSel4 := Lib.hid hSel4
    clear hSel4
    have H_cWt := Lib.hid cWt
    clear cWt
    have H_cWo := Lib.hid cWo
    clear cWo
    have H_hWT := Lib.hid hWT
    clear hWT
    go_wp2_with fail
    refine (text_any _ _ _).mono ?_
    rintro _ w5 ⟨rfl, hb5⟩
    have hb45 : Below w4.heap.size w4 w5 := hb5
    obtain ⟨p0, p1, n0, n1, n2, hB5⟩ := H_hPB.out w5 hb45
    clear hb5 a0 a1
    go_wp2_with fail
    refine (H_cWt.out _ hb45).mono ?_
    rintro _ w6 ⟨rfl, hb6⟩
    have hb46 : Below w4.heap.size w4 w6 := below_via hb45 hb6
    clear hb6 p0 p1 n0 n1 n2
    obtain ⟨p0, p1, n0, n1, n2, hB6⟩ := H_hPB.out w6 hb46
    go_wp2_with fail
    refine (H_cWo.out _ hb46).mono ?_
    rintro _ w7 ⟨rfl, hb7⟩
    have hb47 : Below w4.heap.size w4 w7 := below_via hb46 hb7
    clear hb7 p0 p1 n0 n1 n2
    obtain ⟨p0, p1, n0, n1, n2, hB7⟩ := H_hPB.out w7 hb47
    have hWW : ((WT : Int) != (WT : Int)) = false := bne_self_eq_false _
    go_wp2_with fail
    refine (fits_nil _ _ _ _).mono ?_
    rintro _ w8 ⟨rfl, hb8⟩
    have hb48 : Below w4.heap.size w4 w8 := below_via hb47 hb8
    clear hb8 p0 p1 n0 n1 n2
    obtain ⟨p0, p1, n0, n1, n2, hB8⟩ := H_hPB.out w8 hb48
    go_wp2_with fail
    refine (all_nil _ _ _).mono ?_
    rintro _ w9 ⟨rfl, hb9⟩
    have hb49 : Below w4.heap.size w4 w9 := below_via hb48 hb9
    clear hb9 p0 p1 n0 n1 n2 hB5 hB6 hB7 hB8 hb45 hb46 hb47 hb48
    clear w5 w6 w7 w8
    obtain ⟨p0, p1, n0, n1, n2, hB9⟩ := H_hPB.out w9 hb49
    go_wp2_with fail
    refine (H_cN.out _ hB9).mono ?_
    rintro en w10 ⟨hb10, hN⟩
    have hb410 : Below w4.heap.size w4 w10 := below_via hb49 hb10
    clear hb10 p0 p1 n0 n1 n2
    obtain ⟨p0, p1, n0, n1, n2, hB10⟩ := H_hPB.out w10 hb410
    by_cases hc : (chkN nr 0 1).2 = 0
    case neg =>
      rw [if_neg hc] at hN
      obtain ⟨t', a', rfl, _⟩ := hN
      clear hc
      go_wp2_with fail
      go_returns
      exact ⟨rfl, by repeat' (first | (with_reducible first | exact bwR _ _ | assumption | refine bdn ?_ | refine bwA ?_ ?_ _ | refine bwD ?_ | refine bwS ?_ ?_ _) | omega | (simp <;> omega))⟩
    rw [if_pos hc] at hN
    obtain ⟨bd, F, d, rfl, hF, hD, hcnt⟩ := hN
    clear hF H_cN H_cWt H_cWo H_cC
    have hcl : l2 = nr.cnt := by
      have h := congrArg List.length H_hvals.out
      rw [List.length_map, allF_len] at h
      exact H_hsx.out.1.trans h
    have hb210 : Below w2.heap.size w2 w10 := below_via H_hb3'.out (below_via hb34 hb410)
    have cDo := docof_any o2 l2 c2 xs w1 w10 (H_hsx.out.keep hb210 rfl) H_hax.out (below_via hb2' hb210) (by omega) (fun x hx => ?ats) (fun i hi => fl_par H_hvals.out hi)
    case ats => exact fl_ats H_hvals.out hc hx
    rw [H_hvals.out] at cDo
    have hat : ∀ n e, elAt (treeE nr (-1) 0) n = some e → ∀ a ∈ e.attrs, a.2.size ≤ 100000 := fun n e he a ha => by
      have := treeE_vl nr 0 1 (-1) 0 hc _ (elAt_mem he) a ha
      omega
    have hnm : ∀ n e, elAt (treeE nr (-1) 0) n = some e → e.name ≠ ⟨#[]⟩ := fun n e he h0 => by
      have := nmOk_ne (treeE_nm nr 0 1 (-1) 0 hc _ (elAt_mem he))
      exact this (by rw [h0])
    have H_cDo := Lib.hid cDo
    clear cDo
    have H_hat := Lib.hid hat
    clear hat
    have H_hnm := Lib.hid hnm
    clear hnm
    have H_hD := Lib.hid hD
    clear hD
    have H_hc := Lib.hid hc
    clear hc
    have H_hcl := Lib.hid hcl
    clear hcl
    go_wp2_with fail
    refine (H_cDo.out).mono ?_
    rintro _ w11 ⟨b, vd, lr, rfl, hR, hre, hb11⟩
    have hb1011 : Below w10.heap.size w10 w11 := hb11
    have hb411 : Below w4.heap.size w4 w11 := below_via hb410 hb11
    have hln := rx_len hre
    have hlx : ∀ i (hi : i < lr.length), ∃ e, elAt (treeE nr (-1) 0) i = some e ∧ lr[i].nm = e.name ∧ lr[i].ats = e.attrs ∧ lr[i].par = e.parent ∧ lr[i].kids = e.kids ∧ lr[i].inn = true := fun i hi => rx_of hre hi
    have hg := H_hD.out.good
    have hpos : 0 < lr.length := by rw [hln, ← H_hcl.out]; omega
    have h1k : lr.length ≤ 1000 := by rw [hln, ← H_hcl.out]; omega
    have hlt : ∀ p e, elAt (treeE nr (-1) 0) p = some e → p < lr.length := fun p e he => by rw [hln]; exact tree_lt he
    have hEl : (treeE nr (-1) 0).length = l2 := by rw [tree_len]; exact H_hcl.out.symm
    have hall := hg.all_len
    have hmem := fun x => hg.all_mem x
    rw [hEl] at hall
    have cFt := fun (W : World) (hb : Below w11.heap.size w11 W) => rfitting_any w10.heap.size b vd lr (treeE nr (-1) 0) nr.cnt d oq ys.length cq ys W (hR.keep hb) hpos h1k hg (fun i hi => by obtain ⟨e, h1, h2, h3, h4, _, h6⟩ := hlx i hi; exact ⟨e, h1, h2, h3, h4, h6⟩) hlt H_hat.out (H_hQS.out.keep (below_via hb411 hb) rfl) (fun x hx => ⟨(H_hQW.out x hx).keep (below_via hb411 hb) rfl, H_hok.out _ (by rw [← H_hq3.out]; exact List.mem_map.2 ⟨x, hx, rfl⟩)⟩)
    have cAl := fun (W : World) (hb : Below w11.heap.size w11 W) => rall_any w10.heap.size b vd lr (treeE nr (-1) 0) nr.cnt d W (hR.keep hb) hpos h1k hg (by rw [hEl]; omega) (fun i hi => by obtain ⟨e, h1, _, _, _, h5, _⟩ := hlx i hi; exact ⟨e, h1, h5⟩) hlt
    rw [hln, ← H_hcl.out] at cFt
    rw [H_hq3.out] at cFt
    have cFi := fun (k : Nat) (e : El) (he : elAt (treeE nr (-1) 0) k = some e) (W : World) (hb : Below w10.heap.size w10 W) => selfits_any m bd nr.cnt F (treeE nr (-1) 0) d 130 139 w2.heap.size (.slice os qs cs) S ls k e W (H_hD.out.keep hb) H_hat.out (gkeep (below_via hB10 hb) H_hm.out rfl) (H_hSel4.out.keep (below_via hb410 hb)) H_hne.out he (H_hnm.out k e he)
    have cFo := fun (z : Int) (hz : I64 z) (h0 : nameZ (treeE nr (-1) 0) z = ⟨#[]⟩) (W : World) (hb : Below w10.heap.size w10 W) => selfits_none bd nr.cnt F (treeE nr (-1) 0) d (.slice os qs cs) S z W (H_hD.out.keep hb) hz h0
    have cPa := fun (W : World) (hb : Below w10.heap.size w10 W) => pall_any m bd nr.cnt F (treeE nr (-1) 0) d 130 139 w2.heap.size os qs cs S ls W (H_hD.out.keep hb) H_hat.out (gkeep (below_via hB10 hb) H_hm.out rfl) (H_hSel4.out.keep (below_via hb410 hb)) H_hne.out H_hnm.out
    have hfk : ∀ k, fitK (treeE nr (-1) 0) ls ys.length k = fitsL (treeE nr (-1) 0) ls k := fun k => by
      rw [show ys.length = ls.length by rw [← H_hq3.out, List.length_map]]; exact fitK_all H_hne.out k
    have hz1 : nameZ (treeE nr (-1) 0) (l2 : Int) = ⟨#[]⟩ := by
      unfold nameZ
      rw [atZ_nat]
      cases he : elAt (treeE nr (-1) 0) l2 with
      | none => rfl
      | some e => have := tree_lt he; have := H_hcl.out; omega
    have hz2 : nameZ (treeE nr (-1) 0) (-1) = ⟨#[]⟩ := rfl
    have cZ1 := cFo _ (i64_nat (by omega : l2 ≤ 1000000000)) hz1
    have cZ2 := cFo (-1) (by unfold I64; omega) hz2
    obtain ⟨E, hE'⟩ : ∃ u, treeE nr (-1) 0 = u := ⟨_, rfl⟩
    rw [hE'] at hmem hall cFt cAl cFi cPa hfk hEl
    clear cFo hz1 hz2 hlx hg hlt hb11 hR hre hpos h1k hln H_hnm H_hat H_hQS H_hQW H_hok
    clear p0 p1 n0 n1 n2
    obtain ⟨p0, p1, n0, n1, n2, hB11⟩ := H_hPB.out w11 hb411
    have H_cFt := Lib.hid cFt
    clear cFt
    have H_cAl := Lib.hid cAl
    clear cAl
    have H_cFi := Lib.hid cFi
    clear cFi
    have H_cPa := Lib.hid cPa
    clear cPa
    have H_cZ1 := Lib.hid cZ1
    clear cZ1
    have H_cZ2 := Lib.hid cZ2
    clear cZ2
    have H_hmem := Lib.hid hmem
    clear hmem
    have H_hfk := Lib.hid hfk
    clear hfk
    have H_hE' := Lib.hid hE'
    clear hE'
    have H_hEl := Lib.hid hEl
    clear hEl
    go_wp2_with fail
    with_reducible refine (H_cFt.out _ (Below.refl _ _)).mono ?_
    rintro _ w12 ⟨gf, rfl, hgf, hgf2, hrow, hb12⟩
    have hb1112 : Below w11.heap.size w11 w12 := hb12
    clear hb12 p0 p1 n0 n1 n2 hgf
    obtain ⟨p0, p1, n0, n1, n2, hB12⟩ := H_hPB.out w12 (below_via hb411 hb1112)
    have H_hrow := Lib.hid hrow
    clear hrow
    go_wp2_with fail
    refine (H_cAl.out _ hb1112).mono ?_
    rintro _ w13 ⟨va, rfl, hva, hb13⟩
    obtain ⟨oA, cA, rfl⟩ := Pk.ow_form hva
    have hSA : SlA EIn w13 oA (below E 10 0).length cA (below E 10 0) := Pk.sla_of hva
    have hb1113 : Below w11.heap.size w11 w13 := below_via hb1112 hb13
    have hrow13 := H_hrow.out.of_block (hb13.block gf hgf2)
    have hgf3 : gf < w13.heap.size := Nat.lt_of_lt_of_le hgf2 hb13.size
    obtain ⟨L, hL⟩ : ∃ u, below E 10 0 = u := ⟨_, rfl⟩
    rw [hL] at hSA hall
    rw [hL, hall]
    rw [hall] at hSA
    have hLl := hall
    have hLm : ∀ i (h : i < L.length), ∃ e, elAt E L[i] = some e ∧ L[i] < l2 := fun i h => by
      obtain ⟨e, he⟩ := (H_hmem.out L[i]).2 (by rw [hL]; exact List.getElem_mem h)
      exact ⟨e, he, by rw [H_hcl.out]; exact tree_lt (by rw [H_hE'.out]; exact he)⟩
    have hrow13' : w13.rowIs gf 4 l2 (bR (fitsL E ls)) := hrow13.congr fun j _ => by unfold bR; rw [H_hfk.out]
    have hb413 := below_via hb411 hb1113
    have hb1013 := below_via hb1011 hb1113
    clear hb13 hva hall p0 p1 n0 n1 n2 H_hrow hrow13
    obtain ⟨p0, p1, n0, n1, n2, hB13⟩ := H_hPB.out w13 hb413
    obtain ⟨i0, hi, hz0, hz1, hz2⟩ := info_parts infoIntD
    have H_hSA := Lib.hid hSA
    clear hSA
    have H_hL := Lib.hid hL
    clear hL
    have H_hLl := Lib.hid hLl
    clear hLl
    have H_hLm := Lib.hid hLm
    clear hLm
    have H_hrow13' := Lib.hid hrow13'
    clear hrow13'
    have H_hi := Lib.hid hi
    clear hi
    have H_hz0 := Lib.hid hz0
    clear hz0
    have H_hz1 := Lib.hid hz1
    clear hz1
    have H_hz2 := Lib.hid hz2
    clear hz2
    go_wp2_with fail
    go_loopw [16, 17] (fun t16 t17 wr => ∃ (k : Nat) (v : Value), k ≤ l2 ∧ t17 = .int .i64 k ∧ t16 = v ∧ RowKit.Hid (OwnR EIn wr w13.heap.size 3 v ((L.take k).filter (fitsL E ls))) ∧ Below w13.heap.size w13 wr) (fun _ t17 _ => l2 - (intOf t17).toNat)
    case atStart => exact ⟨0, _, Nat.zero_le _, rfl, rfl, Lib.hid (OwnR.nil _ _ _ _), by repeat' (first | (with_reducible first | exact bwR _ _ | assumption | refine bdn ?_ | refine bwA ?_ ?_ _ | refine bwD ?_ | refine bwS ?_ ?_ _) | omega | (simp <;> omega))⟩
    case round =>
      obtain ⟨k, v, hk, rfl, rfl, H_v, hB⟩ := hrel
      have hb10r : Below w10.heap.size w10 wr := below_via hb1013 hB
      obtain ⟨p0, p1, _, _, _, hBr⟩ := H_hPB.out wr (below_via hb413 hB)
      by_cases hlt : k < l2
      · have hk' : k < L.length := by rw [H_hLl.out]; exact hlt
        obtain ⟨g, off, rfl, hgx, hrx⟩ := H_hSA.out.2.2.2.resolve_left (by intro h; rw [h] at hk'; simp at hk')
        obtain ⟨e, he, hx⟩ := H_hLm.out k hk'
        have q0 : wr.cell? ⟨g, off + k, none⟩ = some (.int .i64 (L[k] : Int)) := by
          have h := (hrx.keep hB hgx) k hk' 0 _ rfl
          simpa [EIn] using h
        have hfl := filter_snoc hk' (fitsL E ls)
        obtain ⟨x, hxe⟩ : ∃ u, L[k] = u := ⟨_, rfl⟩
        rw [hxe] at q0 he hx hfl
        have q1 : wr.cell? ⟨gf, x, none⟩ = some (.bool (fitsL E ls x)) := (H_hrow13'.out.of_block (hB.block gf hgf3)).cell hx
        have cFx := fun (W : World) (hb : Below wr.heap.size wr W) => H_cFi.out x e he W (below_via hb10r hb)
        obtain ⟨bx, hbx⟩ : ∃ u, fitsL E ls x = u := ⟨_, rfl⟩
        rw [hbx] at q1 cFx hfl
        have gx0 : (0 : Int) ≤ (x : Int) := by omega
        have gx1 : (x : Int) < (l2 : Int) := by omega
        have gk : IntKind.i64.wrap ((k : Int) + 1) = ((k + 1 : Nat) : Int) := IntWalk.i64_in _ (by omega)
        have hgr : g < wr.heap.size := Nat.lt_of_lt_of_le hgx hB.size
        have hgfr : gf < wr.heap.size := Nat.lt_of_lt_of_le hgf3 hB.size
        have hw3r : w3.heap.size < wr.heap.size := World.block_lt_of_cell? _ _ p0
        have SK : ∀ W, Below wr.heap.size wr W → Below wr.heap.size wr W ∧ W.cell? ⟨w3.heap.size, 0, none⟩ = some (.slice os qs cs) ∧ W.cell? ⟨w3.heap.size, 1, none⟩ = some (.string S) ∧ W.cell? ⟨g, off + k, none⟩ = some (.int .i64 x) ∧ W.cell? ⟨gf, x, none⟩ = some (.bool bx) := fun W h =>
          ⟨h, (h.cell (p := ⟨w3.heap.size, 0, none⟩) hw3r).trans p0, (h.cell (p := ⟨w3.heap.size, 1, none⟩) hw3r).trans p1, (h.cell (p := ⟨g, off + k, none⟩) hgr).trans q0, (h.cell (p := ⟨gf, x, none⟩) hgfr).trans q1⟩
        have hvk := fun (W : World) (h : Below wr.heap.size wr W) => H_v.out.keep h
        obtain ⟨fl, hflv⟩ : ∃ u, (L.take k).filter (fitsL E ls) = u := ⟨_, rfl⟩
        rw [hflv] at hvk hfl
        have hfll : fl.length ≤ 100000 := by
          rw [← hflv]
          refine Nat.le_trans (List.length_filter_le _ _) ?_
          rw [List.length_take]; omega
        obtain ⟨ov, cv, rfl⟩ := Pk.ow_form (hvk wr (Below.refl _ _))
        clear hrx
        have H_cFx := Lib.hid cFx
        clear cFx
        have H_hfl := Lib.hid hfl
        clear hfl
        have H_hbx := Lib.hid hbx
        clear hbx
        have H_hxe := Lib.hid hxe
        clear hxe
        have H_he := Lib.hid he
        clear he
        have H_SK := Lib.hid SK
        clear SK
        have H_hvk := Lib.hid hvk
        clear hvk
        have H_hflv := Lib.hid hflv
        clear hflv
        have H_hfll := Lib.hid hfll
        clear hfll
        go_wp2_with fail
        go_region_held3 (fun W => Below wr.heap.size wr W ∧ W.cell? ⟨w3.heap.size, 0, none⟩ = some (.slice os qs cs) ∧ W.cell? ⟨w3.heap.size, 1, none⟩ = some (.string S) ∧ W.cell? ⟨g, off + k, none⟩ = some (.int .i64 x) ∧ W.cell? ⟨gf, x, none⟩ = some (.bool bx)) (exact H_SK.out _ (by repeat' (first | (with_reducible first | exact bwR _ _ | assumption | refine bdn ?_ | refine bwA ?_ ?_ _ | refine bwD ?_ | refine bwS ?_ ?_ _) | omega | (simp <;> omega))))
          (first | (go_at_call 31; go_must ((with_reducible refine (H_cFx.out _ ?hb).mono ?_); (case hb => exact by repeat' (first | (with_reducible first | exact bwR _ _ | assumption | refine bdn ?_ | refine bwA ?_ ?_ _ | refine bwD ?_ | refine bwS ?_ ?_ _) | omega | (simp <;> omega))); rintro en wF ⟨rfl, hF⟩; have hbF : Below wr.heap.size wr wF := below_via (by repeat' (first | (with_reducible first | exact bwR _ _ | assumption | refine bdn ?_ | refine bwA ?_ ?_ _ | refine bwD ?_ | refine bwS ?_ ?_ _) | omega | (simp <;> omega))) hF)))
        all_goals
          obtain ⟨_, r0, r1, r2, r3⟩ := H_SK.out _ hbF
          have hB' : Below w13.heap.size w13 wF := below_via hB hbF
          have hvF := H_hvk.out _ hbF
          clear p0 p1 q0 q1
          rcases bx with _ | _
          · have hfl' := H_hfl.out
            rw [if_neg (by decide), List.append_nil] at hfl'
            have H_hfl' := Lib.hid hfl'
            clear hfl'
            have H_hvF := Lib.hid hvF
            clear hvF
            go_wp2_with fail
            go_roundw
            case rel => exact ⟨k + 1, _, by omega, by go_num, rfl, Lib.hid (by rw [H_hfl'.out]; exact H_hvF.out), hB'⟩
            case measure => simp [intOf]; omega
          · have hfl' := H_hfl.out
            rw [if_pos rfl] at hfl'
            have H_hfl' := Lib.hid hfl'
            clear hfl'
            have H_hvF := Lib.hid hvF
            clear hvF
            go_wp2_with (at_builtin; refine wp_append_told rfl (.tmp 138) (.tmp 143) 60 rfl EIn w13.heap.size 3 i0 _ 8 Tryz.underlying60 H_hi.out H_hz0.out H_hz1.out H_hz2.out rfl (by decide) _ fl rfl _ _ 1 1 [x] rfl rfl ?a1 ?a2 ?a3 ?a4 ?_)
            case a1 => have := H_hfll.out; first | omega | (show fl.length + 1 ≤ 1000000; omega)
            case a2 => exact H_hvF.out.alloc _
            case a3 => exact row_one (vs := #[.int .i64 (x : Int)]) rfl (fun j => World.cell?_alloc_new _ _ _ _)
            case a4 => have := hB'.size; simp; omega
            intro v7 w7 hv7 hA7 hg7 ho7
            have hB7 : Below w13.heap.size w13 w7 := (hB'.alloc hB'.size _).trans hA7
            clear hA7 hg7 ho7
            have H_hv7 := Lib.hid hv7
            clear hv7
            go_wp2_with fail
            go_roundw
            case rel => exact ⟨k + 1, _, by omega, by go_num, rfl, Lib.hid (by rw [H_hfl'.out]; exact H_hv7.out), hB7⟩
            case measure => simp [intOf]; omega
      · obtain rfl : k = l2 := by omega
        have htk : L.take k = L := by rw [← H_hLl.out, List.take_length]
        have hvk := H_v.out
        rw [htk] at hvk
        have hPa := H_cPa.out wr hb10r
        rw [H_hL.out] at hPa
        obtain ⟨fl, hfl⟩ : ∃ u, L.filter (fitsL E ls) = u := ⟨_, rfl⟩
        rw [hfl] at hvk
        obtain ⟨ov, cv, rfl⟩ := Pk.ow_form hvk
        have hvk' := fun (W : World) (h : Below wr.heap.size wr W) => Pk.sla_of (hvk.keep h)
        rw [hfl] at hPa
        have hfll : fl.length ≤ 1000000 := by
          rw [← hfl]
          refine Nat.le_trans (List.length_filter_le _ _) ?_
          rw [H_hLl.out]; omega
        have hw3r : w3.heap.size < wr.heap.size := World.block_lt_of_cell? _ _ p0
        have hPB2 : ∀ W, Below wr.heap.size wr W → W.cell? ⟨w3.heap.size, 0, none⟩ = some (.slice os qs cs) ∧ W.cell? ⟨w3.heap.size, 1, none⟩ = some (.string S) := fun W h => ⟨(h.cell (p := ⟨w3.heap.size, 0, none⟩) hw3r).trans p0, (h.cell (p := ⟨w3.heap.size, 1, none⟩) hw3r).trans p1⟩
        have H_hPa := Lib.hid hPa
        clear hPa
        have H_hvk' := Lib.hid hvk'
        clear hvk'
        have H_hfl := Lib.hid hfl
        clear hfl
        have H_hvk := Lib.hid hvk
        clear hvk
        have H_hfll := Lib.hid hfll
        clear hfll
        have H_htk := Lib.hid htk
        clear htk
        have H_hPB2 := Lib.hid hPB2
        clear hPB2
        go_wp2_with fail
        with_reducible refine (H_hPa.out).mono ?_
        rintro _ wP ⟨vP, rfl, hoP, hbP⟩
        obtain ⟨oP, cP', rfl⟩ := Pk.ow_form hoP
        have hbrP : Below wr.heap.size wr wP := hbP
        have cSm := sameints_sl oP ov fl.length fl.length cP' cv fl fl wP (Pk.sla_of hoP) (H_hvk'.out wP hbrP) H_hfll.out
        rw [decide_eq_true rfl] at cSm
        clear hoP hbP p0 p1
        have H_cSm := Lib.hid cSm
        clear cSm
        go_wp2_with fail
        with_reducible refine (H_cSm.out).mono ?_
        rintro _ wQ ⟨rfl, hbQ⟩
        have hbrQ : Below wr.heap.size wr wQ := below_via hbrP hbQ
        clear hbQ
        obtain ⟨p0, p1⟩ := H_hPB2.out wQ hbrQ
        go_wp2_with fail
        with_reducible refine (H_cZ1.out _ (below_via hb10r hbrQ)).mono ?_
        rintro _ wR ⟨rfl, hbR⟩
        have hbrR : Below wr.heap.size wr wR := below_via hbrQ hbR
        clear hbR p0 p1
        obtain ⟨p0, p1⟩ := H_hPB2.out wR hbrR
        go_wp2_with fail
        with_reducible refine (H_cZ2.out _ (below_via hb10r hbrR)).mono ?_
        rintro _ wT ⟨rfl, hbT⟩
        have hbrT : Below w.heap.size w wT := below_via hBr (below_via hbrR hbT)
        clear hbT
        go_wp2_with fail
        go_returns
        exact ⟨rfl, by repeat' (first | (with_reducible first | exact bwR _ _ | assumption | refine bdn ?_ | refine bwA ?_ ?_ _ | refine bwD ?_ | refine bwS ?_ ?_ _) | omega | (simp <;> omega))⟩
end Go.Proofs.YtenegeddcbccdaaGreatDoor
