/-
  The law StyleNone, walked.
-/
import Derived.Test.YtnpieocpniakpaaDoorSy8
namespace Lead.Sy
open Go Go.RowKit Lead Lead.Dc Lead.Pk
theorem ofZ_congr {E : Els} {us vs : List Ru} {n : Nat} {nm : By} (h : ∀ p ∈ upZ E (n : Int), ruledP E us p nm = ruledP E vs p nm) : ofZ E us (n : Int) nm = ofZ E vs (n : Int) nm := by
  unfold ofZ
  rw [Int.toNat_natCast]
  cases atZ E (n : Int) with
  | none => rfl
  | some _ => exact ofP_congr h
theorem up_step {E : Els} {next : Nat} {d : Nat → Nat} (g : Good E next d) {p : Nat} {e : El} (he : elAt E p = some e) {l : List St} {L : List Nat} {b : Bool} (h : b = false → ∀ q ∈ L, q ∈ upZ E (p : Int) ∨ fitsL E l q = false) (hf : fitsL E l p = false) :
    b = false → ∀ q ∈ L, q ∈ upZ E e.parent ∨ fitsL E l q = false := by
  intro hb q hq
  rcases h hb q hq with h1 | h1
  · rw [upZ_nat, ups_eq g he] at h1
    rcases List.mem_cons.1 h1 with rfl | h1
    · exact .inr hf
    · exact .inl h1
  · exact .inr h1
theorem more_list (s W a b : ByteArray) : (s ++ W ++ ⟨#[32, 123, 32, 102, 105, 108, 108, 58, 32]⟩ ++ a ++ ⟨#[32, 125, 10]⟩ ++ W ++ ⟨#[32, 123, 32, 102, 105, 108, 108, 58, 32]⟩ ++ b ++ ⟨#[32, 125, 10]⟩).data.toList =
    s.data.toList ++ W.data.toList ++ midL ++ a.data.toList ++ lnE ++ W.data.toList ++ midL ++ b.data.toList ++ lnE := by simp [midL, lnE]
theorem last_list (s W b : ByteArray) : (s ++ W ++ ⟨#[32, 123, 32, 102, 105, 108, 108, 58, 32]⟩ ++ b ++ ⟨#[32, 125, 10]⟩).data.toList = s.data.toList ++ W.data.toList ++ midL ++ b.data.toList ++ lnE := by simp [midL, lnE]
end Lead.Sy
namespace Go.Proofs.YtnpieocpniakpaaDoor
open Go.RowKit Go.WideMaps Go.Maps Lead Lead.Dc Lead.Pk Lead.Sy
set_option maxHeartbeats 16000000 in
set_option maxRecDepth 100000 in
theorem lawnone_any (ea : Nat → Addr) (m : Int) (n : NT) (s W0 a b : ByteArray) (w : World) (hn : NodeOk w n) (hG : SGs ea m w) :
    Calls Tryd.prog 3 #[.agg n.vals.toArray, .string s, .string W0, .string a, .string b] w fun e w' => e = .returned (.bool true) ∧ Below w.heap.size w w' := by
  obtain ⟨ao, al, ac, ko, kl, kc, hv, _⟩ := hn.attrsAt
  have cP := fun (W : World) (hb : Below w.heap.size w W) => styled_any ea m W (hG.keep hb)
  have cF := fun (W : World) (hb : Below w.heap.size w W) => flatsof_any n W (hn.keep hb rfl)
  have cN := fun (W : World) (hb : Below w.heap.size w W) => new_any ea n W (hn.keep hb rfl) (hG.c.keep hb rfl)
  have cR := fun (x : ByteArray) (hx : x.size ≤ 100000) (W : World) (hb : Below w.heap.size w W) => sread_sg ea m x.data.toList W (by rw [show x.data.toList.length = x.size from Array.length_toList]; exact hx) (hG.keep hb)
  simp only [bs_of] at cR
  rw [hv] at cF cN ⊢
  obtain ⟨nk, hnk⟩ : ∃ u, n.name = u := ⟨_, rfl⟩
  obtain ⟨nr, hnr⟩ : ∃ u, n.rt = u := ⟨_, rfl⟩
  rw [hnk] at cF cN ⊢
  rw [hnr] at cN cF
  clear hv hn hnk hnr
  have H_cP := Lib.hid cP
  clear cP
  have H_cF := Lib.hid cF
  clear cF
  have H_cN := Lib.hid cN
  clear cN
  have H_cR := Lib.hid cR
  clear cR
  have H_hG := Lib.hid hG
  clear hG
  go_enter Tryd.func3, Tryd.ntmps3
  go_wp2_with fail
  refine (H_cP.out _ (by repeat' (first | (with_reducible first | exact bwR _ _ | assumption | refine bdn ?_ | refine bwA ?_ ?_ _ | refine bwD ?_ | refine bwS ?_ ?_ _) | omega | (simp <;> omega)))).mono ?_
  rintro _ w1 ⟨rfl, hb1⟩
  have hB1 : Below w.heap.size w w1 := below_via (by repeat' (first | (with_reducible first | exact bwR _ _ | assumption | refine bdn ?_ | refine bwA ?_ ?_ _ | refine bwD ?_ | refine bwS ?_ ?_ _) | omega | (simp <;> omega))) hb1
  have k0 : w1.cell? ⟨w.heap.size, 0, none⟩ = some (.string nk) := gkeep hb1 (World.cell?_alloc_new _ _ _ _) (by simp)
  have k1 : w1.cell? ⟨w.heap.size, 1, none⟩ = some (.slice ao al ac) := gkeep hb1 (World.cell?_alloc_new _ _ _ _) (by simp)
  have k2 : w1.cell? ⟨w.heap.size, 2, none⟩ = some (.slice ko kl kc) := gkeep hb1 (World.cell?_alloc_new _ _ _ _) (by simp)
  have z1 : w.heap.size < w1.heap.size := Nat.lt_of_lt_of_le (by simp) hb1.size
  clear hb1
  go_wp2_with fail
  refine (H_cF.out _ (by repeat' (first | (with_reducible first | exact bwR _ _ | assumption | refine bdn ?_ | refine bwA ?_ ?_ _ | refine bwD ?_ | refine bwS ?_ ?_ _) | omega | (simp <;> omega)))).mono ?_
  rintro _ w2 ⟨o2, l2, c2, rfl, hl2, hb2, hfw⟩
  have hcl : l2 = 0 ∨ l2 = nr.cnt := hfw.imp id (fun ⟨xs, a1, _, a3⟩ => by
    have h := congrArg List.length a3
    rw [List.length_map, allF_len] at h
    exact a1.1.trans h)
  clear hfw
  have hB2 : Below w.heap.size w w2 := below_via hB1 hb2
  have z2 : w.heap.size < w2.heap.size := Nat.lt_of_lt_of_le z1 hb2.size
  have m0 : w2.cell? ⟨w.heap.size, 0, none⟩ = some (.string nk) := (hb2.cell (p := ⟨w.heap.size, 0, none⟩) z1).trans k0
  have m1 : w2.cell? ⟨w.heap.size, 1, none⟩ = some (.slice ao al ac) := (hb2.cell (p := ⟨w.heap.size, 1, none⟩) z1).trans k1
  have m2 : w2.cell? ⟨w.heap.size, 2, none⟩ = some (.slice ko kl kc) := (hb2.cell (p := ⟨w.heap.size, 2, none⟩) z1).trans k2
  clear hb2 hB1 z1 k0 k1 k2
  clear w1
  by_cases hl0 : l2 = 0
  · subst hl0
    go_wp2_with fail
    go_returns
    exact ⟨rfl, by repeat' (first | (with_reducible first | exact bwR _ _ | assumption | refine bdn ?_ | refine bwA ?_ ?_ _ | refine bwD ?_ | refine bwS ?_ ?_ _) | omega | (simp <;> omega))⟩
  have hl0' : ((l2 : Int) == 0) = false := by simp; omega
  by_cases h60 : 40 < l2
  · have g60 : (40 : Int) < (l2 : Int) := by omega
    go_wp2_with fail
    go_returns
    exact ⟨rfl, by repeat' (first | (with_reducible first | exact bwR _ _ | assumption | refine bdn ?_ | refine bwA ?_ ?_ _ | refine bwD ?_ | refine bwS ?_ ?_ _) | omega | (simp <;> omega))⟩
  have g60 : ¬ (40 : Int) < (l2 : Int) := by omega
  by_cases hs : 1000 < s.size
  · have gs : (1000 : Int) < (s.size : Int) := by omega
    go_wp2_with fail
    go_returns
    exact ⟨rfl, by repeat' (first | (with_reducible first | exact bwR _ _ | assumption | refine bdn ?_ | refine bwA ?_ ?_ _ | refine bwD ?_ | refine bwS ?_ ?_ _) | omega | (simp <;> omega))⟩
  have gs : ¬ (1000 : Int) < (s.size : Int) := by omega
  by_cases hW : 100 < W0.size
  · have gW : (100 : Int) < (W0.size : Int) := by omega
    go_wp2_with fail
    go_returns
    exact ⟨rfl, by repeat' (first | (with_reducible first | exact bwR _ _ | assumption | refine bdn ?_ | refine bwA ?_ ?_ _ | refine bwD ?_ | refine bwS ?_ ?_ _) | omega | (simp <;> omega))⟩
  have gW : ¬ (100 : Int) < (W0.size : Int) := by omega
  by_cases ha : 60 < a.size
  · have ga : (60 : Int) < (a.size : Int) := by omega
    go_wp2_with fail
    go_returns
    exact ⟨rfl, by repeat' (first | (with_reducible first | exact bwR _ _ | assumption | refine bdn ?_ | refine bwA ?_ ?_ _ | refine bwD ?_ | refine bwS ?_ ?_ _) | omega | (simp <;> omega))⟩
  have ga : ¬ (60 : Int) < (a.size : Int) := by omega
  by_cases hb : 60 < b.size
  · have gb : (60 : Int) < (b.size : Int) := by omega
    go_wp2_with fail
    go_returns
    exact ⟨rfl, by repeat' (first | (with_reducible first | exact bwR _ _ | assumption | refine bdn ?_ | refine bwA ?_ ?_ _ | refine bwD ?_ | refine bwS ?_ ?_ _) | omega | (simp <;> omega))⟩
  have gb : ¬ (60 : Int) < (b.size : Int) := by omega
  go_wp2_with fail
  refine (H_cN.out _ (by repeat' (first | (with_reducible first | exact bwR _ _ | assumption | refine bdn ?_ | refine bwA ?_ ?_ _ | refine bwD ?_ | refine bwS ?_ ?_ _) | omega | (simp <;> omega)))).mono ?_
  rintro en w3 ⟨hb3, hN⟩
  have hB3 : Below w.heap.size w w3 := below_via hB2 hb3
  by_cases hc : (chkN nr 0 1).2 = 0
  case neg =>
    rw [if_neg hc] at hN
    obtain ⟨t', a', rfl, _⟩ := hN
    clear hc
    go_wp2_with fail
    go_returns
    exact ⟨rfl, by repeat' (first | (with_reducible first | exact bwR _ _ | assumption | refine bdn ?_ | refine bwA ?_ ?_ _ | refine bwD ?_ | refine bwS ?_ ?_ _) | omega | (simp <;> omega))⟩
  rw [if_pos hc] at hN
  obtain ⟨bd, F, d, rfl, hF, hD, hcnt⟩ := hN
  clear hF hb3 m0 m1 m2 hcnt
  have hcl2 := hcl.resolve_left hl0
  clear hcl H_cN H_cF H_cP
  have cA := H_cR.out s (by omega)
  have cB := H_cR.out (s ++ W0 ++ ⟨#[32, 123, 32, 102, 105, 108, 108, 58, 32]⟩ ++ a ++ ⟨#[32, 125, 10]⟩ ++ W0 ++ ⟨#[32, 123, 32, 102, 105, 108, 108, 58, 32]⟩ ++ b ++ ⟨#[32, 125, 10]⟩) (by
    simp only [ByteArray.size_append, show (ByteArray.mk #[32, 123, 32, 102, 105, 108, 108, 58, 32]).size = 9 from rfl, show (ByteArray.mk #[32, 125, 10]).size = 3 from rfl]; omega)
  have cC := H_cR.out (s ++ W0 ++ ⟨#[32, 123, 32, 102, 105, 108, 108, 58, 32]⟩ ++ b ++ ⟨#[32, 125, 10]⟩) (by
    simp only [ByteArray.size_append, show (ByteArray.mk #[32, 123, 32, 102, 105, 108, 108, 58, 32]).size = 9 from rfl, show (ByteArray.mk #[32, 125, 10]).size = 3 from rfl]; omega)
  clear H_cR
  have hat : ∀ n e, elAt (treeE nr (-1) 0) n = some e → ∀ a ∈ e.attrs, a.2.size ≤ 100000 := fun n e he a ha => by
    have := treeE_vl nr 0 1 (-1) 0 hc _ (elAt_mem he) a ha
    omega
  have hnm : ∀ n e, elAt (treeE nr (-1) 0) n = some e → e.name ≠ ⟨#[]⟩ := fun n e he h0 => by
    have := nmOk_ne (treeE_nm nr 0 1 (-1) 0 hc _ (elAt_mem he))
    exact this (by rw [h0])
  have hel : ∀ i, i < l2 → ∃ e, elAt (treeE nr (-1) 0) i = some e := fun i hi => by
    obtain ⟨e, h1, _, _, _⟩ := tree_at nr (i := i) (by omega)
    exact ⟨e, h1⟩
  obtain ⟨E, hE⟩ : ∃ u, treeE nr (-1) 0 = u := ⟨_, rfl⟩
  rw [hE] at hat hnm hel hD
  have hg := hD.good
  have H_cA := Lib.hid cA
  clear cA
  have H_cB := Lib.hid cB
  clear cB
  have H_cC := Lib.hid cC
  clear cC
  have H_hat := Lib.hid hat
  clear hat
  have H_hnm := Lib.hid hnm
  clear hnm
  have H_hel := Lib.hid hel
  clear hel
  have H_hD := Lib.hid hD
  clear hD
  have H_hc := Lib.hid hc
  clear hc
  have H_hcl2 := Lib.hid hcl2
  clear hcl2
  have H_hE := Lib.hid hE
  clear hE
  have H_hg := Lib.hid hg
  clear hg
  go_wp2_with fail
  refine (H_cA.out _ hB3).mono ?_
  intro en w4 hR
  obtain ⟨hb4, o4, l4, c4, x4, rfl, hd4⟩ := readsh_form hR
  have hB4 : Below w.heap.size w w4 := below_via hB3 hb4
  have H_d4 := Lib.hid hd4
  clear hR hd4
  go_wp2_with fail
  refine (H_cB.out _ hB4).mono ?_
  intro en w5 hR
  obtain ⟨hb5, o5, l5, c5, x5, rfl, hd5⟩ := readsh_form hR
  have hB5 : Below w.heap.size w w5 := below_via hB4 hb5
  rw [more_list] at hd5
  have H_d5 := Lib.hid hd5
  clear hR hd5
  go_wp2_with fail
  refine (H_cC.out _ hB5).mono ?_
  intro en w6 hR
  obtain ⟨hb6, o6, l6, c6, x6, rfl, hd6⟩ := readsh_form hR
  have hB6 : Below w.heap.size w w6 := below_via hB5 hb6
  rw [last_list] at hd6
  have H_d6 := Lib.hid hd6
  clear hR hd6
  have hD6 := H_hD.out.keep (below_via hb4 (below_via hb5 hb6))
  have H_hb4 := Lib.hid hb4
  clear hb4
  have H_hb5 := Lib.hid hb5
  clear hb5
  have H_hb6 := Lib.hid hb6
  clear hb6
  have H_hD6 := Lib.hid hD6
  clear hD6
  rcases H_d4.out with ⟨t', a', rfl⟩ | ⟨rfl, hs4, hsh4, hl4⟩
  · clear H_d4 H_d5 H_d6
    go_wp2_with fail
    go_returns
    exact ⟨rfl, by repeat' (first | (with_reducible first | exact bwR _ _ | assumption | refine bdn ?_ | refine bwA ?_ ?_ _ | refine bwD ?_ | refine bwS ?_ ?_ _) | omega | (simp <;> omega))⟩
  rcases H_d5.out with ⟨t', a', rfl⟩ | ⟨rfl, hs5, hsh5, hl5⟩
  · clear H_d4 H_d5 H_d6
    go_wp2_with fail
    go_returns
    exact ⟨rfl, by repeat' (first | (with_reducible first | exact bwR _ _ | assumption | refine bdn ?_ | refine bwA ?_ ?_ _ | refine bwD ?_ | refine bwS ?_ ?_ _) | omega | (simp <;> omega))⟩
  rcases H_d6.out with ⟨t', a', rfl⟩ | ⟨rfl, hs6, hsh6, hl6⟩
  · clear H_d4 H_d5 H_d6
    go_wp2_with fail
    go_returns
    exact ⟨rfl, by repeat' (first | (with_reducible first | exact bwR _ _ | assumption | refine bdn ?_ | refine bwA ?_ ?_ _ | refine bwD ?_ | refine bwS ?_ ?_ _) | omega | (simp <;> omega))⟩
  clear H_d4 H_d5 H_d6
  have hu4 := shU_ok hs4
  have hu5 := shU_ok hs5
  have hu6 := shU_ok hs6
  have hm4 : l4 ≤ 40 := by have := (shC_ok hs4).2.2.2.1; omega
  have gl2 : IntKind.i64.wrap ((l4 : Int) + 2) = ((l4 + 2 : Nat) : Int) := IntWalk.i64_in _ (by omega)
  have gl1 : IntKind.i64.wrap ((l4 : Int) + 1) = ((l4 + 1 : Nat) : Int) := IntWalk.i64_in _ (by omega)
  by_cases h52 : l5 = l4 + 2
  case neg =>
    have g52 : ((l5 : Int) == ((l4 + 2 : Nat) : Int)) = false := by rw [beq_eq_false_iff_ne]; omega
    clear hs4 hs5 hs6 hl4 hl5 hl6 hu4 hu5 hu6 hsh4 hsh5 hsh6
    have H_h52 := Lib.hid h52
    clear h52
    go_wp2_with fail
    go_returns
    exact ⟨rfl, by repeat' (first | (with_reducible first | exact bwR _ _ | assumption | refine bdn ?_ | refine bwA ?_ ?_ _ | refine bwD ?_ | refine bwS ?_ ?_ _) | omega | (simp <;> omega))⟩
  by_cases h61 : l6 = l4 + 1
  case neg =>
    have g61 : ((l6 : Int) == ((l4 + 1 : Nat) : Int)) = false := by rw [beq_eq_false_iff_ne]; omega
    clear hs4 hs5 hs6 hl4 hl5 hl6 hu4 hu5 hu6 hsh4 hsh5 hsh6
    subst h52
    have H_h61 := Lib.hid h61
    clear h61
    go_wp2_with fail
    go_returns
    exact ⟨rfl, by repeat' (first | (with_reducible first | exact bwR _ _ | assumption | refine bdn ?_ | refine bwA ?_ ?_ _ | refine bwD ?_ | refine bwS ?_ ?_ _) | omega | (simp <;> omega))⟩
  obtain ⟨r1, r2, q1, q2, q3, q4, q5⟩ := more_rules (s := s.data.toList) (W := W0.data.toList) (a := a.data.toList) (b := b.data.toList) hs4 hs5 hs6 (by omega)
  obtain ⟨us, hus⟩ : ∃ u, shU s.data.toList = u := ⟨_, rfl⟩
  rw [hus] at q1 q2 hsh4 hu4 hl4
  rw [q1] at hsh5 hu5
  rw [q2] at hsh6 hu6
  have v1 : ∀ i : Nat, ofZ E (us ++ [r1, r2]) (i : Int) nFill = ofZ E (us ++ [r2]) (i : Int) nFill := fun i => ofZ_congr fun p _ => ruledP_two E us q3 (q4.trans q5.symm) p nFill
  have v2 : ∀ i : Nat, ofZ E (us ++ [r1, r2]) (i : Int) nLevel = ofZ E us (i : Int) nLevel := fun i => ofZ_congr fun p _ => ruledP_other E us (by rw [q4]; decide) (by rw [q5]; decide) p
  have v3 : ∀ i : Nat, (∀ p ∈ upZ E (i : Int), fitsL E r2.st p = false) → ofZ E (us ++ [r1, r2]) (i : Int) nFill = ofZ E us (i : Int) nFill := fun i h => ofZ_congr fun p hp => ruledP_not E us nFill (by rw [q3]; exact h p hp) (h p hp)
  have hr2 := hu6 r2 (by simp)
  have HC : ∀ W, Below w6.heap.size w6 W → Below w.heap.size w W ∧ DokG Tryd.prog TT W bd F E nr.cnt d ∧ W.cell? ⟨7, 0, none⟩ = some (.int .i64 m) ∧ ShOk 89 99 43 w3.heap.size W (.slice o4 l4 c4) us ∧
      ShOk 89 99 43 w4.heap.size W (.slice o5 l5 c5) (us ++ [r1, r2]) ∧ ShOk 89 99 43 w5.heap.size W (.slice o6 l6 c6) (us ++ [r2]) := fun W hW =>
    ⟨below_via hB6 hW, H_hD6.out.keep hW, gkeep (below_via hB6 hW) H_hG.out.m rfl, hsh4.keep (below_via H_hb5.out (below_via H_hb6.out hW)), hsh5.keep (below_via H_hb6.out hW), hsh6.keep hW⟩
  obtain ⟨xs, hx1, hx2, hx3⟩ := hsh6
  have hSl := sla_of hx1
  have hxl : xs.length = l6 := hSl.1.symm
  have hjl : l4 < xs.length := by omega
  have hxr : (xs[l4]).u = r2 := by
    have h : (xs.map RuX.u)[l4]? = (us ++ [r2])[l4]? := by rw [hx3]
    rw [List.getElem?_map, List.getElem?_eq_getElem hjl, List.getElem?_append_right (by omega), show l4 - us.length = 0 by omega] at h
    simpa using h
  have hsel := hx2 _ (List.getElem_mem hjl)
  obtain ⟨g, off, rfl, hgw, hrow⟩ := hSl.2.2.2.resolve_left (by intro h; rw [h] at hjl; simp at hjl)
  have hcell := fun (W : World) (hb : Below w6.heap.size w6 W) (q : Nat) (v : Value) (hq : (ERu.enc xs[l4])[q]? = some v) => (hrow.keep hb hgw) l4 hjl q v hq
  obtain ⟨x, hx⟩ : ∃ x, xs[l4] = x := ⟨_, rfl⟩
  rw [hx] at hcell hsel hxr
  obtain ⟨so, sl, sc, u⟩ := x
  obtain rfl : u = r2 := hxr
  obtain ⟨TX, hTX⟩ : ∃ t, bs u.tx = t := ⟨_, rfl⟩
  have HR : ∀ W, Below w6.heap.size w6 W → W.cell? ⟨g, off + l4 * 4, none⟩ = some (.slice so sl sc) ∧ W.cell? ⟨g, off + l4 * 4 + 1, none⟩ = some (.string TX) := fun W hW => ⟨hcell W hW 0 _ rfl, by rw [← hTX]; exact hcell W hW 1 _ rfl⟩
  have hsel' := fun (W : World) (hb : Below w6.heap.size w6 W) => SelOk.keep hsel hb
  have y6 := hB6.size
  clear q1 q2 q3 q4 q5 hs4 hs5 hs6 hsh4 hsh5 hl4 hl5 hl6 hcell hrow hx hx1 hx2 hx3 hSl hxl hjl hsel hus
  subst h52 h61
  have gl6 : (l4 : Int) < ((l4 + 1 : Nat) : Int) := by omega
  have H_HC := Lib.hid HC
  clear HC
  have H_HR := Lib.hid HR
  clear HR
  have H_hsel' := Lib.hid hsel'
  clear hsel'
  have H_v1 := Lib.hid v1
  clear v1
  have H_v2 := Lib.hid v2
  clear v2
  have H_v3 := Lib.hid v3
  clear v3
  have H_hr2 := Lib.hid hr2
  clear hr2
  have H_hu4 := Lib.hid hu4
  clear hu4
  have H_hu5 := Lib.hid hu5
  clear hu5
  have H_hu6 := Lib.hid hu6
  clear hu6
  have H_hTX := Lib.hid hTX
  clear hTX
  go_wp2_with fail
  go_loopw [21] (fun t21 wr => ∃ i : Nat, i ≤ l2 ∧ t21 = .int .i64 i ∧ Below w6.heap.size w6 wr) (fun t21 _ => l2 - (intOf t21).toNat)
  case atStart => exact ⟨0, Nat.zero_le _, rfl, by repeat' (first | (with_reducible first | exact bwR _ _ | assumption | refine bdn ?_ | refine bwA ?_ ?_ _ | refine bwD ?_ | refine bwS ?_ ?_ _) | omega | (simp <;> omega))⟩
  case round =>
    obtain ⟨i, hi, rfl, hB⟩ := hrel
    have hBw : Below w.heap.size w wr := (H_HC.out wr hB).1
    by_cases hlt : i < l2
    · obtain ⟨e, he⟩ := H_hel.out i hlt
      have gi : IntKind.i64.wrap ((i : Int) + 1) = ((i + 1 : Nat) : Int) := IntWalk.i64_in _ (by omega)
      have hi64 : I64 (i : Int) := i64_nat (by omega)
      have cO5 := fun (nm : By) (W : World) (hb : Below w6.heap.size w6 W) => of_any m bd nr.cnt F E d _ _ _ (i : Int) nm W (H_HC.out W hb).2.1 H_hat.out H_hnm.out (H_HC.out W hb).2.2.1 (H_HC.out W hb).2.2.2.2.1 H_hu5.out hi64
      have cO6 := fun (nm : By) (W : World) (hb : Below w6.heap.size w6 W) => of_any m bd nr.cnt F E d _ _ _ (i : Int) nm W (H_HC.out W hb).2.1 H_hat.out H_hnm.out (H_HC.out W hb).2.2.1 (H_HC.out W hb).2.2.2.2.2 H_hu6.out hi64
      have cO4 := fun (nm : By) (W : World) (hb : Below w6.heap.size w6 W) => of_any m bd nr.cnt F E d _ _ _ (i : Int) nm W (H_HC.out W hb).2.1 H_hat.out H_hnm.out (H_HC.out W hb).2.2.1 (H_HC.out W hb).2.2.2.1 H_hu4.out hi64
      have c5f := cO5 nFill
      have c5l := cO5 nLevel
      have c6f := cO6 nFill
      have c4f := cO4 nFill
      have c4l := cO4 nLevel
      rw [H_v1.out i] at c5f
      rw [H_v2.out i] at c5l
      have hv3 := H_v3.out i
      rw [H_v1.out i] at hv3
      have b1 : bs nFill = ⟨#[102, 105, 108, 108]⟩ := rfl
      have b2 : bs nLevel = ⟨#[108, 101, 118, 101, 108]⟩ := rfl
      rw [b1] at c5f c6f c4f
      rw [b2] at c5l c4l
      obtain ⟨VF, hVF⟩ : ∃ v, ofZ E (us ++ [u]) (i : Int) nFill = v := ⟨_, rfl⟩
      obtain ⟨VL, hVL⟩ : ∃ v, ofZ E us (i : Int) nLevel = v := ⟨_, rfl⟩
      obtain ⟨VU, hVU⟩ : ∃ v, ofZ E us (i : Int) nFill = v := ⟨_, rfl⟩
      rw [hVF] at c5f c6f hv3
      rw [hVL] at c5l c4l
      rw [hVU] at c4f hv3
      have qf : (VF.toList == VF.toList) = true := by simp
      have ql : (VL.toList == VL.toList) = true := by simp
      clear cO4 cO5 cO6 b1 b2
      have H_he := Lib.hid he
      clear he
      have H_hi64 := Lib.hid hi64
      clear hi64
      have H_c5f := Lib.hid c5f
      clear c5f
      have H_c5l := Lib.hid c5l
      clear c5l
      have H_c6f := Lib.hid c6f
      clear c6f
      have H_c4f := Lib.hid c4f
      clear c4f
      have H_c4l := Lib.hid c4l
      clear c4l
      have H_hv3 := Lib.hid hv3
      clear hv3
      have H_hVF := Lib.hid hVF
      clear hVF
      have H_hVL := Lib.hid hVL
      clear hVL
      have H_hVU := Lib.hid hVU
      clear hVU
      go_wp2_with fail
      refine (H_c5f.out _ (by repeat' (first | (with_reducible first | exact bwR _ _ | assumption | refine bdn ?_ | refine bwA ?_ ?_ _ | refine bwD ?_ | refine bwS ?_ ?_ _) | omega | (simp <;> omega)))).mono ?_
      rintro _ wa ⟨rfl, hba⟩
      have hBa : Below w6.heap.size w6 wa := below_via hB hba
      clear hba
      go_wp2_with fail
      refine (H_c6f.out _ hBa).mono ?_
      rintro _ wb ⟨rfl, hbb⟩
      have hBb : Below w6.heap.size w6 wb := below_via hBa hbb
      clear hbb
      go_wp2_with fail
      refine (H_c5l.out _ hBb).mono ?_
      rintro _ wc ⟨rfl, hbc⟩
      have hBc : Below w6.heap.size w6 wc := below_via hBb hbc
      clear hbc
      go_wp2_with fail
      refine (H_c4l.out _ hBc).mono ?_
      rintro _ wd ⟨rfl, hbd⟩
      have hBd : Below w6.heap.size w6 wd := below_via hBc hbd
      clear hbd hBa hBb hBc hB hBw
      go_wp2_with fail
      go_loopw [22, 23] (fun t22 t23 wr => ∃ (y : Int) (b : Bool), t23 = .int .i64 y ∧ t22 = .bool b ∧ RowKit.Hid (parOk E y ∧ (b = false → ∀ p ∈ upZ E (i : Int), p ∈ upZ E y ∨ fitsL E u.st p = false)) ∧ Below w6.heap.size w6 wr) (fun _ t23 _ => if 0 ≤ intOf t23 then d (intOf t23).toNat else 0)
      case atStart => exact ⟨(i : Int), false, rfl, rfl, Lib.hid ⟨.inr ⟨i, e, rfl, H_he.out⟩, fun _ p hp => .inl hp⟩, hBd⟩
      case round =>
        clear hBd
        obtain ⟨y, b, rfl, rfl, H_y, hB⟩ := hrel
        have hBw : Below w.heap.size w wr := (H_HC.out wr hB).1
        rcases H_y.out.1 with rfl | ⟨p, f, rfl, hfp⟩
        · cases b with
          | true =>
            go_wp2_with fail
            go_roundw
            case rel => exact ⟨i + 1, by omega, by go_num, hB⟩
            case measure => simp [intOf]; omega
          | false =>
            obtain rfl : VF = VU := H_hv3.out (fun p hp => (H_y.out.2 rfl p hp).resolve_left (by rw [upZ_neg]; exact fun h => by cases h))
            go_wp2_with fail
            refine (H_c5f.out _ hB).mono ?_
            rintro _ wa ⟨rfl, hba⟩
            have hBa : Below w6.heap.size w6 wa := below_via hB hba
            clear hba
            go_wp2_with fail
            refine (H_c4f.out _ hBa).mono ?_
            rintro _ wb ⟨rfl, hbb⟩
            have hBb : Below w6.heap.size w6 wb := below_via hBa hbb
            clear hbb
            go_wp2_with fail
            go_roundw
            case rel => exact ⟨i + 1, by omega, by go_num, hBb⟩
            case measure => simp [intOf]; omega
        · have hp0 : (0 : Int) ≤ (p : Int) := by omega
          have hpq := par_ok H_hg.out hfp
          have hup := fun (hf : fitsL E u.st p = false) => up_step H_hg.out hfp H_y.out.2 hf
          obtain ⟨c0, c1⟩ := H_HR.out wr hB
          have cFp := fun (W : World) (hb : Below w6.heap.size w6 W) => selfits_any m bd nr.cnt F E d 89 99 w5.heap.size (.slice so sl sc) TX u.st p f W (H_HC.out W hb).2.1 H_hat.out (H_HC.out W hb).2.2.1 (H_hsel'.out W hb) H_hr2.out.1 hfp (H_hnm.out p f hfp)
          have cPp := fun (W : World) (hb : Below w6.heap.size w6 W) => parent_any bd nr.cnt (p : Int) F E d W (H_HC.out W hb).2.1 (i64_nat (by have h := (H_HC.out W hb).2.1; have := h.good.lt p f hfp; have := h.big; omega))
          rw [parZ_nat hfp] at cPp
          obtain ⟨fi, hfi⟩ : ∃ t, fitsL E u.st p = t := ⟨_, rfl⟩
          obtain ⟨z', hz'⟩ : ∃ t, f.parent = t := ⟨_, rfl⟩
          rw [hz'] at cPp hpq hup
          rw [hfi] at cFp hup
          have H_hpq := Lib.hid hpq
          clear hpq
          have H_hup := Lib.hid hup
          clear hup
          have H_cFp := Lib.hid cFp
          clear cFp
          have H_cPp := Lib.hid cPp
          clear cPp
          have H_hfi := Lib.hid hfi
          clear hfi
          have H_hz' := Lib.hid hz'
          clear hz'
          have H_hfp := Lib.hid hfp
          clear hfp
          go_wp2_with fail
          refine (H_cFp.out _ (by repeat' (first | (with_reducible first | exact bwR _ _ | assumption | refine bdn ?_ | refine bwA ?_ ?_ _ | refine bwD ?_ | refine bwS ?_ ?_ _) | omega | (simp <;> omega)))).mono ?_
          rintro _ wa ⟨rfl, hba⟩
          have hBa : Below w6.heap.size w6 wa := below_via hB hba
          clear hba c0 c1
          cases fi with
          | true =>
            go_wp2_with fail
            refine (H_cPp.out _ hBa).mono ?_
            rintro _ wb ⟨rfl, hbb⟩
            have hBb : Below w6.heap.size w6 wb := below_via hBa hbb
            clear hbb
            go_wp2_with fail
            go_roundw
            case rel => exact ⟨z', true, rfl, rfl, Lib.hid ⟨H_hpq.out.1, fun h => by cases h⟩, hBb⟩
            case measure =>
              have h := H_hpq.out.2
              by_cases h0 : 0 ≤ z'
              · simp only [h0, if_true] at h; simpa [intOf, h0] using h
              · simp only [h0, if_false] at h; simpa [intOf, h0] using h
          | false =>
            go_wp2_with fail
            refine (H_cPp.out _ hBa).mono ?_
            rintro _ wb ⟨rfl, hbb⟩
            have hBb : Below w6.heap.size w6 wb := below_via hBa hbb
            clear hbb
            go_wp2_with fail
            go_roundw
            case rel => exact ⟨z', b, rfl, rfl, Lib.hid ⟨H_hpq.out.1, H_hup.out trivial⟩, hBb⟩
            case measure =>
              have h := H_hpq.out.2
              by_cases h0 : 0 ≤ z'
              · simp only [h0, if_true] at h; simpa [intOf, h0] using h
              · simp only [h0, if_false] at h; simpa [intOf, h0] using h
    · obtain rfl : l2 = i := by omega
      go_wp2_with fail
      go_returns
      exact ⟨rfl, by repeat' (first | (with_reducible first | exact bwR _ _ | assumption | refine bdn ?_ | refine bwA ?_ ?_ _ | refine bwD ?_ | refine bwS ?_ ?_ _) | omega | (simp <;> omega))⟩
end Go.Proofs.YtnpieocpniakpaaDoor
