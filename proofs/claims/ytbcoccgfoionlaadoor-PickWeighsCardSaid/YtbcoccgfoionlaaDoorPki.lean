/-
  The law PickWeighs, walked.
-/
import Derived.Test.YtbcoccgfoionlaaDoorPkh
import Derived.Test.YtbcoccgfoionlaaDoorDo7
import Derived.Test.YtbcoccgfoionlaaDoorFl2
import Derived.Test.YtbcoccgfoionlaaDoorCut1
namespace Lead.Pk
open Go Go.RowKit Lead Lead.Dc
theorem bs_app (a b : ByteArray) : bs ((a ++ b).data.toList) = a ++ b := bs_of _
theorem app_list (a b : ByteArray) : (a ++ b).data.toList = a.data.toList ++ b.data.toList := by simp
theorem ownS_form {w : World} {base : Nat} {e : TypeId} {v : Value} {ss : List (List UInt8)} (h : OwnS w base e v ss) : ∃ o c, v = .slice o ss.length c := by
  obtain ⟨_, h2⟩ := h
  rcases h2 with ⟨h2, h3⟩ | ⟨g, cap, cur, h3, _⟩
  · exact ⟨none, 0, by rw [h2, h3]⟩
  · exact ⟨_, _, h3⟩
/-- Is there more that is asked, in one word? -/
def askB (c : UInt8) (t : By) : Bool := !isSg c || decide (1 < (cutL 32 t).length)
theorem askB_no {c : UInt8} {t : By} (h : isSg c = false) : askB c t = true := by unfold askB; rw [h]; rfl
theorem askB_out {c : UInt8} {t : By} (h : askB c t = false) : isSg c = true ∧ 32 ∉ t := by
  unfold askB at h
  rw [Bool.or_eq_false_iff] at h
  refine ⟨by simpa using h.1, cut_one (y := 32) ?_⟩
  have := of_decide_eq_false h.2
  omega
theorem askB_yes {c : UInt8} {t : By} (h : isSg c = true) : askB c t = decide (1 < (cutL 32 t).length) := by unfold askB; rw [h]; rfl
/-- What Read answers, its error aside. -/
theorem read_form {TS TW TE : TypeId} {ea : Nat → Addr} {s : By} {o : Option (List St)} {w w' : World} {en : Ending} (h : ReadIs TS TW TE ea s o w en w') :
    Below w.heap.size w w' ∧ ∃ vo q c t e, en = .returned (.tuple #[.agg #[.slice vo q c, .string t], e]) ∧ ((∃ a, e = .iface TE (.pointer a)) ∨ (e = .nilIface ∧ ∃ l, o = some l ∧ SelOk TS TW w.heap.size w' (.slice vo q c) l)) := by
  obtain ⟨hb, h⟩ := h
  refine ⟨hb, ?_⟩
  cases o with
  | none => exact ⟨none, 0, 0, _, _, h, .inl ⟨_, rfl⟩⟩
  | some l =>
    obtain ⟨v, h1, h2⟩ := h
    have h2' := h2
    obtain ⟨xs, h3, _, _⟩ := h2
    obtain ⟨o', c, rfl⟩ := ow_form h3
    exact ⟨o', _, c, _, _, h1, .inr ⟨rfl, l, rfl, h2'⟩⟩
end Lead.Pk
namespace Go.Proofs.YtbcoccgfoionlaaDoor
open Go.RowKit Go.WideMaps Go.Maps Lead Lead.Dc Lead.Pk
set_option maxHeartbeats 8000000 in
set_option maxRecDepth 100000 in
theorem lawweighs_any (ea : Nat → Addr) (m : Int) (n : NT) (s t : ByteArray) (w : World) (hn : NodeOk w n) (hE : w.cell? ⟨6, 0, none⟩ = some (.iface 168 (.pointer (some (ea 1))))) (hG : CGs ea w) (hm : w.cell? ⟨12, 0, none⟩ = some (.int .i64 m)) :
    Calls Tryd.prog 4 #[.agg n.vals.toArray, .string s, .string t] w fun e w' => e = .returned (.bool true) ∧ Below w.heap.size w w' := by
  obtain ⟨ao, al, ac, ko, kl, kc, hv, _⟩ := hn.attrsAt
  have cP := fun (W : World) (hb : Below w.heap.size w W) => picked_any ea m W (gkeep hb hE rfl) (gkeep hb hm rfl)
  have cF := fun (W : World) (hb : Below w.heap.size w W) => flatsof_any n W (hn.keep hb rfl)
  have cN := fun (W : World) (hb : Below w.heap.size w W) => new_any ea n W (hn.keep hb rfl) (hG.keep hb rfl)
  have cR := fun (x : ByteArray) (hx : x.size ≤ 100000) (W : World) (hb : Below w.heap.size w W) => pread_any ea m x.data.toList W (by rw [show x.data.toList.length = x.size from Array.length_toList]; exact hx) (gkeep hb hE rfl) (gkeep hb hm rfl)
  simp only [bs_of] at cR
  rw [hv] at cF cN ⊢
  obtain ⟨nk, hnk⟩ : ∃ u, n.name = u := ⟨_, rfl⟩
  obtain ⟨nr, hnr⟩ : ∃ u, n.rt = u := ⟨_, rfl⟩
  rw [hnk] at cF cN ⊢
  rw [hnr] at cN cF
  clear hv hn hnk hnr
  have H_cP := Lib.hid cP
  clear cP
  have H_cF := Lib.hid cF
  clear cF
  have H_cN := Lib.hid cN
  clear cN
  have H_cR := Lib.hid cR
  clear cR
  have H_hG := Lib.hid hG
  clear hG
  have H_hE := Lib.hid hE
  clear hE
  have H_hm := Lib.hid hm
  clear hm
  go_enter Tryd.func4, Tryd.ntmps4
  go_wp2_with fail
  refine (H_cP.out _ (by repeat' (first | (with_reducible first | exact bwR _ _ | assumption | refine bdn ?_ | refine bwA ?_ ?_ _ | refine bwD ?_ | refine bwS ?_ ?_ _) | omega | (simp <;> omega)))).mono ?_
  rintro _ w1 ⟨rfl, hb1⟩
  have hB1 : Below w.heap.size w w1 := below_via (by repeat' (first | (with_reducible first | exact bwR _ _ | assumption | refine bdn ?_ | refine bwA ?_ ?_ _ | refine bwD ?_ | refine bwS ?_ ?_ _) | omega | (simp <;> omega))) hb1
  have k0 : w1.cell? ⟨w.heap.size, 0, none⟩ = some (.string nk) := gkeep hb1 (World.cell?_alloc_new _ _ _ _) (by simp)
  have k1 : w1.cell? ⟨w.heap.size, 1, none⟩ = some (.slice ao al ac) := gkeep hb1 (World.cell?_alloc_new _ _ _ _) (by simp)
  have k2 : w1.cell? ⟨w.heap.size, 2, none⟩ = some (.slice ko kl kc) := gkeep hb1 (World.cell?_alloc_new _ _ _ _) (by simp)
  have z1 : w.heap.size < w1.heap.size := Nat.lt_of_lt_of_le (by simp) hb1.size
  clear hb1
  go_wp2_with fail
  refine (H_cF.out _ (by repeat' (first | (with_reducible first | exact bwR _ _ | assumption | refine bdn ?_ | refine bwA ?_ ?_ _ | refine bwD ?_ | refine bwS ?_ ?_ _) | omega | (simp <;> omega)))).mono ?_
  rintro _ w2 ⟨o2, l2, c2, rfl, hl2, hb2, hfw⟩
  clear hfw
  have hB2 : Below w.heap.size w w2 := below_via hB1 hb2
  have z2 : w.heap.size < w2.heap.size := Nat.lt_of_lt_of_le z1 hb2.size
  have m0 : w2.cell? ⟨w.heap.size, 0, none⟩ = some (.string nk) := (hb2.cell (p := ⟨w.heap.size, 0, none⟩) z1).trans k0
  have m1 : w2.cell? ⟨w.heap.size, 1, none⟩ = some (.slice ao al ac) := (hb2.cell (p := ⟨w.heap.size, 1, none⟩) z1).trans k1
  have m2 : w2.cell? ⟨w.heap.size, 2, none⟩ = some (.slice ko kl kc) := (hb2.cell (p := ⟨w.heap.size, 2, none⟩) z1).trans k2
  clear hb2 hB1 z1 k0 k1 k2
  clear w1
  by_cases hl0 : l2 = 0
  · subst hl0
    go_wp2_with fail
    go_returns
    exact ⟨rfl, by repeat' (first | (with_reducible first | exact bwR _ _ | assumption | refine bdn ?_ | refine bwA ?_ ?_ _ | refine bwD ?_ | refine bwS ?_ ?_ _) | omega | (simp <;> omega))⟩
  have hl0' : ((l2 : Int) == 0) = false := by simp; omega
  by_cases h60 : 60 < l2
  · have g60 : (60 : Int) < (l2 : Int) := by omega
    go_wp2_with fail
    go_returns
    exact ⟨rfl, by repeat' (first | (with_reducible first | exact bwR _ _ | assumption | refine bdn ?_ | refine bwA ?_ ?_ _ | refine bwD ?_ | refine bwS ?_ ?_ _) | omega | (simp <;> omega))⟩
  have g60 : ¬ (60 : Int) < (l2 : Int) := by omega
  by_cases hs : 150 < s.size
  · have gs : (150 : Int) < (s.size : Int) := by omega
    go_wp2_with fail
    go_returns
    exact ⟨rfl, by repeat' (first | (with_reducible first | exact bwR _ _ | assumption | refine bdn ?_ | refine bwA ?_ ?_ _ | refine bwD ?_ | refine bwS ?_ ?_ _) | omega | (simp <;> omega))⟩
  have gs : ¬ (150 : Int) < (s.size : Int) := by omega
  by_cases ht : 60 < t.size
  · have gt : (60 : Int) < (t.size : Int) := by omega
    go_wp2_with fail
    go_returns
    exact ⟨rfl, by repeat' (first | (with_reducible first | exact bwR _ _ | assumption | refine bdn ?_ | refine bwA ?_ ?_ _ | refine bwD ?_ | refine bwS ?_ ?_ _) | omega | (simp <;> omega))⟩
  have gt : ¬ (60 : Int) < (t.size : Int) := by omega
  go_wp2_with fail
  refine (H_cN.out _ (by repeat' (first | (with_reducible first | exact bwR _ _ | assumption | refine bdn ?_ | refine bwA ?_ ?_ _ | refine bwD ?_ | refine bwS ?_ ?_ _) | omega | (simp <;> omega)))).mono ?_
  rintro en w3 ⟨hb3, hN⟩
  have hB3 : Below w.heap.size w w3 := below_via hB2 hb3
  by_cases hc : (chkN nr 0 1).2 = 0
  case neg =>
    rw [if_neg hc] at hN
    obtain ⟨t', a', rfl, _⟩ := hN
    clear hc
    go_wp2_with fail
    go_returns
    exact ⟨rfl, by repeat' (first | (with_reducible first | exact bwR _ _ | assumption | refine bdn ?_ | refine bwA ?_ ?_ _ | refine bwD ?_ | refine bwS ?_ ?_ _) | omega | (simp <;> omega))⟩
  rw [if_pos hc] at hN
  obtain ⟨bd, F, d, rfl, hF, hD, hcnt⟩ := hN
  clear hF hb3 m0 m1 m2
  have cA := H_cR.out s (by omega)
  have cB := H_cR.out (s ++ t) (by rw [ByteArray.size_append]; omega)
  have cC := H_cR.out (s ++ t ++ t) (by rw [ByteArray.size_append, ByteArray.size_append]; omega)
  clear H_cN H_cF H_cP H_cR
  have H_cA := Lib.hid cA
  clear cA
  have H_cB := Lib.hid cB
  clear cB
  have H_cC := Lib.hid cC
  clear cC
  have H_hD := Lib.hid hD
  clear hD
  have H_hc := Lib.hid hc
  clear hc
  have H_hcnt := Lib.hid hcnt
  clear hcnt
  go_wp2_with fail
  refine (H_cA.out _ hB3).mono ?_
  intro en w4 hR
  obtain ⟨hb4, oa, qa, ca, ta, ea', rfl, hA⟩ := read_form hR
  clear hR
  have hB4 : Below w.heap.size w w4 := below_via hB3 hb4
  have y4 := hB4.size
  have H_A := Lib.hid (show (∃ a, ea' = .iface 168 (.pointer a)) ∨ (ea' = .nilIface ∧ ∃ l, readP s.data.toList = some l ∧ SelOk 79 83 w3.heap.size w4 (.slice oa qa ca) l) from hA)
  clear hA
  have hb4' : Below w3.heap.size w3 w4 := hb4
  clear hb4
  go_wp2_with fail
  refine (H_cB.out _ (by repeat' (first | (with_reducible first | exact bwR _ _ | assumption | refine bdn ?_ | refine bwA ?_ ?_ _ | refine bwD ?_ | refine bwS ?_ ?_ _) | omega | (simp <;> omega)))).mono ?_
  intro en w5 hR
  obtain ⟨hb5, ob, qb, cb, tb, eb', rfl, hA⟩ := read_form hR
  clear hR
  have hB5 : Below w.heap.size w w5 := below_via (by repeat' (first | (with_reducible first | exact bwR _ _ | assumption | refine bdn ?_ | refine bwA ?_ ?_ _ | refine bwD ?_ | refine bwS ?_ ?_ _) | omega | (simp <;> omega))) hb5
  have y5 := hB5.size
  have hb5' : Below w4.heap.size w4 w5 := below_via (by repeat' (first | (with_reducible first | exact bwR _ _ | assumption | refine bdn ?_ | refine bwA ?_ ?_ _ | refine bwD ?_ | refine bwS ?_ ?_ _) | omega | (simp <;> omega))) hb5
  have H_B := Lib.hid (show (∃ a, eb' = .iface 168 (.pointer a)) ∨ (eb' = .nilIface ∧ ∃ l, readP (s ++ t).data.toList = some l ∧ ∃ base, SelOk 79 83 base w5 (.slice ob qb cb) l) from hA.imp id (fun ⟨h1, l, h2, h3⟩ => ⟨h1, l, h2, _, h3⟩))
  have a0 : w5.cell? ⟨w4.heap.size, 0, none⟩ = some (.slice oa qa ca) := gkeep hb5 (World.cell?_alloc_new _ _ _ _) (by simp)
  have a1 : w5.cell? ⟨w4.heap.size, 1, none⟩ = some (.string ta) := gkeep hb5 (World.cell?_alloc_new _ _ _ _) (by simp)
  have z5 : w4.heap.size < w5.heap.size := Nat.lt_of_lt_of_le (by simp) hb5.size
  clear hA hb5
  go_wp2_with fail
  refine (H_cC.out _ (by repeat' (first | (with_reducible first | exact bwR _ _ | assumption | refine bdn ?_ | refine bwA ?_ ?_ _ | refine bwD ?_ | refine bwS ?_ ?_ _) | omega | (simp <;> omega)))).mono ?_
  intro en w6 hR
  obtain ⟨hb6, oc, qc, cc, tc, ec', rfl, hA⟩ := read_form hR
  clear hR
  have hB6 : Below w.heap.size w w6 := below_via (by repeat' (first | (with_reducible first | exact bwR _ _ | assumption | refine bdn ?_ | refine bwA ?_ ?_ _ | refine bwD ?_ | refine bwS ?_ ?_ _) | omega | (simp <;> omega))) hb6
  have y6 := hB6.size
  have hb6' : Below w5.heap.size w5 w6 := below_via (by repeat' (first | (with_reducible first | exact bwR _ _ | assumption | refine bdn ?_ | refine bwA ?_ ?_ _ | refine bwD ?_ | refine bwS ?_ ?_ _) | omega | (simp <;> omega))) hb6
  have H_C := Lib.hid (show (∃ a, ec' = .iface 168 (.pointer a)) ∨ (ec' = .nilIface ∧ ∃ l, readP (s ++ t ++ t).data.toList = some l ∧ ∃ base, SelOk 79 83 base w6 (.slice oc qc cc) l) from hA.imp id (fun ⟨h1, l, h2, h3⟩ => ⟨h1, l, h2, _, h3⟩))
  have b0 : w6.cell? ⟨w5.heap.size, 0, none⟩ = some (.slice ob qb cb) := gkeep hb6 (World.cell?_alloc_new _ _ _ _) (by simp)
  have b1 : w6.cell? ⟨w5.heap.size, 1, none⟩ = some (.string tb) := gkeep hb6 (World.cell?_alloc_new _ _ _ _) (by simp)
  have a2 : w6.cell? ⟨w4.heap.size, 0, none⟩ = some (.slice oa qa ca) := (hb6'.cell (p := ⟨w4.heap.size, 0, none⟩) z5).trans a0
  have a3 : w6.cell? ⟨w4.heap.size, 1, none⟩ = some (.string ta) := (hb6'.cell (p := ⟨w4.heap.size, 1, none⟩) z5).trans a1
  have z6 : w5.heap.size < w6.heap.size := Nat.lt_of_lt_of_le (by simp) hb6.size
  have z46 : w4.heap.size < w6.heap.size := Nat.lt_trans z5 z6
  clear hA hb6 a0 a1 H_cA H_cB H_cC hB4 hB5
  have HK : ∀ W, Below (w6.heap.size + 1) (w6.alloc (.cells #[.slice oc qc cc, .string tc] 46)) W → Below w.heap.size w W ∧ (W.cell? ⟨w4.heap.size, 0, none⟩ = some (.slice oa qa ca) ∧ W.cell? ⟨w4.heap.size, 1, none⟩ = some (.string ta)) ∧ (W.cell? ⟨w5.heap.size, 0, none⟩ = some (.slice ob qb cb) ∧ W.cell? ⟨w5.heap.size, 1, none⟩ = some (.string tb)) ∧ W.cell? ⟨w6.heap.size, 0, none⟩ = some (.slice oc qc cc) ∧ W.cell? ⟨w6.heap.size, 1, none⟩ = some (.string tc) := by
    intro W hW
    have hu : Below w6.heap.size w6 W := below_via ((Below.refl _ _).alloc (Nat.le_refl _) _) (by rw [World.size_alloc]; exact hW)
    exact ⟨hB6.trans (hu.mono hB6.size), ⟨(hu.cell (p := ⟨w4.heap.size, 0, none⟩) z46).trans a2, (hu.cell (p := ⟨w4.heap.size, 1, none⟩) z46).trans a3⟩, ⟨(hu.cell (p := ⟨w5.heap.size, 0, none⟩) z6).trans b0, (hu.cell (p := ⟨w5.heap.size, 1, none⟩) z6).trans b1⟩,
      (hW.cell (p := ⟨w6.heap.size, 0, none⟩) (Nat.lt_succ_self _)).trans (World.cell?_alloc_new _ _ _ _), (hW.cell (p := ⟨w6.heap.size, 1, none⟩) (Nat.lt_succ_self _)).trans (World.cell?_alloc_new _ _ _ _)⟩
  rcases H_A.out with ⟨p, rfl⟩ | ⟨rfl, la, hla, hva⟩
  · clear HK H_A H_B H_C
    go_wp2_with fail
    go_returns
    exact ⟨rfl, by repeat' (first | (with_reducible first | exact bwR _ _ | assumption | refine bdn ?_ | refine bwA ?_ ?_ _ | refine bwD ?_ | refine bwS ?_ ?_ _) | omega | (simp <;> omega))⟩
  rcases H_B.out with ⟨p, rfl⟩ | ⟨rfl, lb, hlb, bb, hvb⟩
  · clear HK H_A H_B H_C
    go_wp2_with fail
    go_returns
    exact ⟨rfl, by repeat' (first | (with_reducible first | exact bwR _ _ | assumption | refine bdn ?_ | refine bwA ?_ ?_ _ | refine bwD ?_ | refine bwS ?_ ?_ _) | omega | (simp <;> omega))⟩
  rcases H_C.out with ⟨p, rfl⟩ | ⟨rfl, lc, hlc, bc, hvc⟩
  · clear HK H_A H_B H_C
    go_wp2_with fail
    go_returns
    exact ⟨rfl, by repeat' (first | (with_reducible first | exact bwR _ _ | assumption | refine bdn ?_ | refine bwA ?_ ?_ _ | refine bwD ?_ | refine bwS ?_ ?_ _) | omega | (simp <;> omega))⟩
  clear H_A H_B H_C
  by_cases ht0 : t.toList = []
  · have gt0 : (t.toList == []) = true := by simp [ht0]
    clear HK ht0
    go_wp2_with fail
    go_returns
    exact ⟨rfl, by repeat' (first | (with_reducible first | exact bwR _ _ | assumption | refine bdn ?_ | refine bwA ?_ ?_ _ | refine bwD ?_ | refine bwS ?_ ?_ _) | omega | (simp <;> omega))⟩
  have gt0 : (t.toList == []) = false := by simp [ht0]
  have htl : 0 < t.size := by
    have h : t.data.toList ≠ [] := by rw [← ByteArray.toList_eq]; exact ht0
    rw [show t.size = t.data.toList.length from Array.length_toList.symm]
    exact List.length_pos_iff.2 h
  obtain ⟨c0, r0, hcr⟩ : ∃ c0 r0, t.data.toList = c0 :: r0 := by
    cases h : t.data.toList with
    | nil => exact absurd (by rw [ByteArray.toList_eq]; exact h) ht0
    | cons c r => exact ⟨c, r, rfl⟩
  have hc0 : t[0]'htl = c0 := by
    have h := Lib.data_getElem? t 0 htl
    rw [hcr] at h
    injection h with h; exact h.symm
  have H_hla := Lib.hid hla
  clear hla
  have H_hlb := Lib.hid hlb
  clear hlb
  have H_hlc := Lib.hid hlc
  clear hlc
  have H_hva := Lib.hid hva
  clear hva
  have H_hvb := Lib.hid hvb
  clear hvb
  have H_hvc := Lib.hid hvc
  clear hvc
  have H_HK := Lib.hid HK
  clear HK
  have H_ht0 := Lib.hid ht0
  clear ht0
  have H_hcr := Lib.hid hcr
  clear hcr
  go_upto_region 13 with fail
  go_cut [110] (fun s110 wx => s110 = .bool (askB c0 t.data.toList) ∧ Below (w6.heap.size + 1) (w6.alloc (.cells #[.slice oc qc cc, .string tc] 46)) wx)
  case first =>
    by_cases h35 : c0 = 35
    · have g1 : ((c0.toNat : Int) == 35) = true := by rw [h35]; rfl
      have p1 : (c0.toNat : Int) = 35 := by rw [h35]; rfl
      have H_sg := Lib.hid (show isSg c0 = true by rw [h35]; rfl)
      clear h35
      go_wp2_with fail
      refine (rcut_any t 32 _ (by omega)).mono ?_
      rintro _ w7 ⟨v, rfl, ho, hb7⟩
      obtain ⟨oz, cz, rfl⟩ := ownS_form ho
      clear ho
      go_wp2_with fail
      go_meet
      refine ⟨?_, by rw [World.size_alloc] at hb7; exact hb7⟩
      rw [askB_yes H_sg.out]
      exact congrArg Value.bool (decide_eq_decide.2 (by omega))
    have p1 : ¬ (c0.toNat : Int) = 35 := by
      intro h
      exact h35 (UInt8.toNat.inj (by show c0.toNat = 35; omega))
    have g1 : ((c0.toNat : Int) == 35) = false := by
      rw [beq_eq_false_iff_ne]
      intro h
      exact h35 (UInt8.toNat.inj (by show c0.toNat = 35; omega))
    by_cases h46 : c0 = 46
    · have g2 : ((c0.toNat : Int) == 46) = true := by rw [h46]; rfl
      have p2 : (c0.toNat : Int) = 46 := by rw [h46]; rfl
      have H_sg := Lib.hid (show isSg c0 = true by rw [h46]; rfl)
      clear h46 h35
      go_wp2_with fail
      refine (rcut_any t 32 _ (by omega)).mono ?_
      rintro _ w7 ⟨v, rfl, ho, hb7⟩
      obtain ⟨oz, cz, rfl⟩ := ownS_form ho
      clear ho
      go_wp2_with fail
      go_meet
      refine ⟨?_, by rw [World.size_alloc] at hb7; exact hb7⟩
      rw [askB_yes H_sg.out]
      exact congrArg Value.bool (decide_eq_decide.2 (by omega))
    have p2 : ¬ (c0.toNat : Int) = 46 := by
      intro h
      exact h46 (UInt8.toNat.inj (by show c0.toNat = 46; omega))
    have g2 : ((c0.toNat : Int) == 46) = false := by
      rw [beq_eq_false_iff_ne]
      intro h
      exact h46 (UInt8.toNat.inj (by show c0.toNat = 46; omega))
    by_cases h91 : c0 = 91
    · have g3 : ((c0.toNat : Int) == 91) = true := by rw [h91]; rfl
      have p3 : (c0.toNat : Int) = 91 := by rw [h91]; rfl
      have H_sg := Lib.hid (show isSg c0 = true by rw [h91]; rfl)
      clear h46 h35 h91
      go_wp2_with fail
      refine (rcut_any t 32 _ (by omega)).mono ?_
      rintro _ w7 ⟨v, rfl, ho, hb7⟩
      obtain ⟨oz, cz, rfl⟩ := ownS_form ho
      clear ho
      go_wp2_with fail
      go_meet
      refine ⟨?_, by rw [World.size_alloc] at hb7; exact hb7⟩
      rw [askB_yes H_sg.out]
      exact congrArg Value.bool (decide_eq_decide.2 (by omega))
    have p3 : ¬ (c0.toNat : Int) = 91 := by
      intro h
      exact h91 (UInt8.toNat.inj (by show c0.toNat = 91; omega))
    have g3 : ((c0.toNat : Int) == 91) = false := by
      rw [beq_eq_false_iff_ne]
      intro h
      exact h91 (UInt8.toNat.inj (by show c0.toNat = 91; omega))
    have H_sg := Lib.hid (show isSg c0 = false by unfold isSg; rw [decide_eq_false h35, decide_eq_false h46, decide_eq_false h91]; rfl)
    clear h35 h46 h91
    go_wp2_with fail
    go_meet
    exact ⟨by simp [askB_no H_sg.out], by repeat' (first | (with_reducible first | exact bwR _ _ | assumption | refine bdn ?_ | refine bwA ?_ ?_ _ | refine bwD ?_ | refine bwS ?_ ?_ _) | omega | (simp <;> omega))⟩
  case rest =>
    obtain ⟨rfl, hbc⟩ := hcut
    have hBc := (H_HK.out _ hbc).1
    have yc := hBc.size
    cases hask : askB c0 t.data.toList with
    | true =>
      clear hbc
      go_wp2_with fail
      go_returns
      exact ⟨rfl, by repeat' (first | (with_reducible first | exact bwR _ _ | assumption | refine bdn ?_ | refine bwA ?_ ?_ _ | refine bwD ?_ | refine bwS ?_ ?_ _) | omega | (simp <;> omega))⟩
    | false =>
      obtain ⟨hsg, h32⟩ := askB_out hask
      have hdk : hdOk t.data.toList = true := by rw [H_hcr.out]; exact hsg
      have hne : t.data.toList ≠ [] := by rw [H_hcr.out]; simp
      have hlb' := H_hlb.out
      have hlc' := H_hlc.out
      rw [app_list] at hlb' hlc'
      rw [app_list] at hlc'
      have hw1 := wt_more hdk hne h32 H_hla.out hlb'
      have hw2 := wt_more hdk hne h32 hlb' hlc'
      have hba := readP_wt H_hla.out
      have hbb := readP_wt hlb'
      have hbc' := readP_wt hlc'
      have hfit := fun x => weighs_fits hdk hne h32 H_hla.out hlb' hlc' (treeE nr (-1) 0) x
      have hna := (readP_inv H_hla.out).1
      have hnb := (readP_inv hlb').1
      have hnc := (readP_inv hlc').1
      have HC : ∀ W, Below wc.heap.size wc W → ((W.cell? ⟨w4.heap.size, 0, none⟩ = some (.slice oa qa ca) ∧ W.cell? ⟨w4.heap.size, 1, none⟩ = some (.string ta)) ∧ (W.cell? ⟨w5.heap.size, 0, none⟩ = some (.slice ob qb cb) ∧ W.cell? ⟨w5.heap.size, 1, none⟩ = some (.string tb)) ∧ W.cell? ⟨w6.heap.size, 0, none⟩ = some (.slice oc qc cc) ∧ W.cell? ⟨w6.heap.size, 1, none⟩ = some (.string tc)) ∧ Below w.heap.size w W ∧ SelOk 79 83 w3.heap.size W (.slice oa qa ca) la ∧ SelOk 79 83 bb W (.slice ob qb cb) lb ∧ SelOk 79 83 bc W (.slice oc qc cc) lc ∧ DokG Tryd.prog TT W bd F (treeE nr (-1) 0) nr.cnt d := by
        intro W hW
        have hbc1 : Below (w6.alloc (.cells #[.slice oc qc cc, .string tc] 46)).heap.size (w6.alloc (.cells #[.slice oc qc cc, .string tc] 46)) wc := by rw [World.size_alloc]; exact hbc
        have hW0 := below_via hbc1 hW
        have hu : Below w6.heap.size w6 W := below_via ((Below.refl _ _).alloc (Nat.le_refl _) _) hW0
        have h5 : Below w5.heap.size w5 W := below_via hb6' hu
        have h4 : Below w4.heap.size w4 W := below_via hb5' h5
        have h3 : Below w3.heap.size w3 W := below_via hb4' h4
        have hk := H_HK.out W (by rw [World.size_alloc] at hW0; exact hW0)
        exact ⟨hk.2, hk.1, H_hva.out.keep h4, H_hvb.out.keep h5, H_hvc.out.keep hu, H_hD.out.keep h3⟩
      have cWa := fun (W : World) (hb : Below wc.heap.size wc W) => weight_any 79 83 _ _ ta la W (HC W hb).2.2.1 hba
      have cWb := fun (W : World) (hb : Below wc.heap.size wc W) => weight_any 79 83 _ _ tb lb W (HC W hb).2.2.2.1 hbb
      have cWc := fun (W : World) (hb : Below wc.heap.size wc W) => weight_any 79 83 _ _ tc lc W (HC W hb).2.2.2.2.1 hbc'
      obtain ⟨WA, hWA⟩ : ∃ u, wtL la = u := ⟨_, rfl⟩
      obtain ⟨WB, hWB⟩ : ∃ u, wtL lb = u := ⟨_, rfl⟩
      obtain ⟨WC, hWC⟩ : ∃ u, wtL lc = u := ⟨_, rfl⟩
      rw [hWA] at cWa hw1
      rw [hWB] at cWb hw1 hw2
      rw [hWC] at cWc hw2
      have d1 : decide ((WB : Int) ≤ (WA : Int)) = false := decide_eq_false (by omega)
      have d2 : decide ((WC : Int) ≤ (WB : Int)) = false := decide_eq_false (by omega)
      have d3 : ¬ WB ≤ WA := by omega
      have d4 : ¬ WC ≤ WB := by omega
      have d5 : ¬ (WB : Int) ≤ (WA : Int) := by omega
      have d6 : ¬ (WC : Int) ≤ (WB : Int) := by omega
      clear hba hbb hbc' hWA hWB hWC hw1 hw2 hb4' hb5' hb6' b0 b1 a2 a3
      have H_HC := Lib.hid HC
      clear HC
      have H_cWa := Lib.hid cWa
      clear cWa
      have H_cWb := Lib.hid cWb
      clear cWb
      have H_cWc := Lib.hid cWc
      clear cWc
      have H_hfit := Lib.hid hfit
      clear hfit
      have H_hna := Lib.hid hna
      clear hna
      have H_hnb := Lib.hid hnb
      clear hnb
      have H_hnc := Lib.hid hnc
      clear hnc
      have H_hask := Lib.hid hask
      clear hask
      have H_hsg := Lib.hid hsg
      clear hsg
      have H_h32 := Lib.hid h32
      clear h32
      have H_hdk := Lib.hid hdk
      clear hdk
      have H_hne := Lib.hid hne
      clear hne
      have H_hlb' := Lib.hid hlb'
      clear hlb'
      have H_hlc' := Lib.hid hlc'
      clear hlc'
      clear hbc
      go_wp2_with fail
      refine wp_region_held_drew (S := fun W => Below wc.heap.size wc W) (by kernel_rfl) (by repeat' (first | (with_reducible first | exact bwR _ _ | assumption | refine bdn ?_ | refine bwA ?_ ?_ _ | refine bwD ?_ | refine bwS ?_ ?_ _) | omega | (simp <;> omega))) (fun hHeld => ?_)
      refine wpAnyH_take (i := 0) (v := ?_) rfl (by kernel_rfl) (by kernel_rfl) (by kernel_rfl) (fun _ _ _ h => h) (Or.inl ⟨by rfl, ?_⟩) (by assumption) ?_
      rotate_left
      · (intro W hW; have hf := (H_HC.out W hW).1; go_simp; try (with_reducible rfl))
      try simp only [List.getElem_toArray, List.getElem_cons_zero, Act.put, List.setIfInBounds_toArray, List.set_cons_zero, List.set_cons_succ]
      refine wpAnyH_take (i := 2) (v := ?_) rfl (by kernel_rfl) (by kernel_rfl) (by kernel_rfl) (fun _ _ _ h => h) (Or.inl ⟨by rfl, ?_⟩) (by assumption) ?_
      rotate_left
      · (intro W hW; have hf := (H_HC.out W hW).1; go_simp; try (with_reducible rfl))
      try simp only [List.getElem_toArray, List.getElem_cons_zero, List.getElem_cons_succ, Act.put, List.setIfInBounds_toArray, List.set_cons_zero, List.set_cons_succ]
      refine wpAnyH_ready (rs := [1]) (by kernel_rfl) (by simp) ?_
      refine AllReadyH.cons rfl (fun K hK => ?_) AllReadyH.nil
      go_simp
      go_at_call 17
      refine (H_cWb.out _ hHeld).mono ?_
      rintro _ w9 ⟨rfl, hb9⟩
      have hO : Below wc.heap.size wc w9 := below_via hHeld hb9
      clear hHeld hb9
      refine hK.out _ _ hO (fun hHeld => ?_)
      clear hK K hO
      try simp only [List.getElem_toArray, List.getElem_cons_zero, List.getElem_cons_succ, Act.put, List.setIfInBounds_toArray, List.set_cons_zero, List.set_cons_succ]
      refine wpAnyH_ready (rs := [3]) (by kernel_rfl) (by simp) ?_
      refine AllReadyH.cons rfl (fun K hK => ?_) AllReadyH.nil
      go_simp
      go_at_call 17
      refine (H_cWa.out _ hHeld).mono ?_
      rintro _ w9 ⟨rfl, hb9⟩
      have hO : Below wc.heap.size wc w9 := below_via hHeld hb9
      clear hHeld hb9
      refine hK.out _ _ hO (fun hHeld => ?_)
      clear hK K hO
      try simp only [List.getElem_toArray, List.getElem_cons_zero, List.getElem_cons_succ, Act.put, List.setIfInBounds_toArray, List.set_cons_zero, List.set_cons_succ]
      refine wpAnyH_take (i := 4) (v := ?_) rfl (by kernel_rfl) (by kernel_rfl) (by kernel_rfl) (fun _ _ _ h => h) (Or.inl ⟨by rfl, ?_⟩) (by assumption) ?_
      rotate_left
      · (intro W hW; have hf := (H_HC.out W hW).1; go_simp; try (with_reducible rfl))
      try simp only [List.getElem_toArray, List.getElem_cons_zero, List.getElem_cons_succ, Act.put, List.setIfInBounds_toArray, List.set_cons_zero, List.set_cons_succ]
      refine wpAnyH_take (i := 5) (v := ?_) rfl (by kernel_rfl) (by kernel_rfl) (by kernel_rfl) (fun _ _ _ h => h) (Or.inl ⟨by rfl, ?_⟩) (by assumption) ?_
      rotate_left
      · (intro W hW; have hf := (H_HC.out W hW).1; go_simp; try (with_reducible rfl))
      try simp only [List.getElem_toArray, List.getElem_cons_zero, List.getElem_cons_succ, Act.put, List.setIfInBounds_toArray, List.set_cons_zero, List.set_cons_succ]
      refine wpAnyH_take (i := 6) (v := ?_) rfl (by kernel_rfl) (by kernel_rfl) (by kernel_rfl) (fun _ _ _ h => h) (Or.inl ⟨by rfl, ?_⟩) (by assumption) ?_
      rotate_left
      · (intro W hW; have hf := (H_HC.out W hW).1; go_simp; try (with_reducible rfl))
      try simp only [List.getElem_toArray, List.getElem_cons_zero, List.getElem_cons_succ, Act.put, List.setIfInBounds_toArray, List.set_cons_zero, List.set_cons_succ]
      refine wpAnyH_take (i := 8) (v := ?_) rfl (by kernel_rfl) (by kernel_rfl) (by kernel_rfl) (fun _ _ _ h => h) (Or.inl ⟨by rfl, ?_⟩) (by assumption) ?_
      rotate_left
      · (intro W hW; have hf := (H_HC.out W hW).1; go_simp; try (with_reducible rfl))
      try simp only [List.getElem_toArray, List.getElem_cons_zero, List.getElem_cons_succ, Act.put, List.setIfInBounds_toArray, List.set_cons_zero, List.set_cons_succ]
      refine wpAnyH_ready (rs := [7]) (by kernel_rfl) (by simp) ?_
      refine AllReadyH.cons rfl (fun K hK => ?_) AllReadyH.nil
      go_simp
      go_at_call 17
      refine (H_cWc.out _ hHeld).mono ?_
      rintro _ w9 ⟨rfl, hb9⟩
      have hO : Below wc.heap.size wc w9 := below_via hHeld hb9
      clear hHeld hb9
      refine hK.out _ _ hO (fun hHeld => ?_)
      clear hK K hO
      try simp only [List.getElem_toArray, List.getElem_cons_zero, List.getElem_cons_succ, Act.put, List.setIfInBounds_toArray, List.set_cons_zero, List.set_cons_succ]
      refine wpAnyH_ready (rs := [9]) (by kernel_rfl) (by simp) ?_
      refine AllReadyH.cons rfl (fun K hK => ?_) AllReadyH.nil
      go_simp
      go_at_call 17
      refine (H_cWb.out _ hHeld).mono ?_
      rintro _ w9 ⟨rfl, hb9⟩
      have hO : Below wc.heap.size wc w9 := below_via hHeld hb9
      clear hHeld hb9
      refine hK.out _ _ hO (fun hHeld => ?_)
      clear hK K hO
      try simp only [List.getElem_toArray, List.getElem_cons_zero, List.getElem_cons_succ, Act.put, List.setIfInBounds_toArray, List.set_cons_zero, List.set_cons_succ]
      refine wpAnyH_take (i := 10) (v := ?_) rfl (by kernel_rfl) (by kernel_rfl) (by kernel_rfl) (fun _ _ _ h => h) (Or.inl ⟨by rfl, ?_⟩) (by assumption) ?_
      rotate_left
      · (intro W hW; have hf := (H_HC.out W hW).1; go_simp; try (with_reducible rfl))
      try simp only [List.getElem_toArray, List.getElem_cons_zero, List.getElem_cons_succ, Act.put, List.setIfInBounds_toArray, List.set_cons_zero, List.set_cons_succ]
      refine wpAnyH_take (i := 11) (v := ?_) rfl (by kernel_rfl) (by kernel_rfl) (by kernel_rfl) (fun _ _ _ h => h) (Or.inl ⟨by rfl, ?_⟩) (by assumption) ?_
      rotate_left
      · (intro W hW; have hf := (H_HC.out W hW).1; go_simp; try (with_reducible rfl))
      try simp only [List.getElem_toArray, List.getElem_cons_zero, List.getElem_cons_succ, Act.put, List.setIfInBounds_toArray, List.set_cons_zero, List.set_cons_succ]
      refine wpAnyH_done (by kernel_rfl) ?_ _
      have hD9 := (H_HC.out w9 hHeld).2.2.2.2.2
      have cAll := all_any bd nr.cnt F (treeE nr (-1) 0) d w9 hD9
      have hgood := hD9.good
      have hel : ∀ i (h : i < (below (treeE nr (-1) 0) 10 0).length), ∃ e, elAt (treeE nr (-1) 0) (below (treeE nr (-1) 0) 10 0)[i] = some e ∧ e.name ≠ ⟨#[]⟩ := fun i h => by
        obtain ⟨e, he⟩ := (hgood.all_mem _).2 (List.getElem_mem h)
        refine ⟨e, he, fun h0 => ?_⟩
        have := nmOk_ne (treeE_nm nr 0 1 (-1) 0 H_hc.out _ (elAt_mem he))
        exact this (by rw [h0])
      have hat : ∀ n e, elAt (treeE nr (-1) 0) n = some e → ∀ a ∈ e.attrs, a.2.size ≤ 100000 := fun n e he a ha => by
        have := treeE_vl nr 0 1 (-1) 0 H_hc.out _ (elAt_mem he) a ha
        omega
      have hlen := hgood.all_len
      have hlen2 := hD9.len
      clear hgood hD9
      obtain ⟨E, hE⟩ : ∃ u, treeE nr (-1) 0 = u := ⟨_, rfl⟩
      rw [hE] at cAll hel hat hlen hlen2
      have hfit := H_hfit.out
      have HC := H_HC.out
      rw [hE] at hfit HC
      clear H_hfit H_HC
      obtain ⟨L, hL⟩ : ∃ u, below E 10 0 = u := ⟨_, rfl⟩
      rw [hL] at cAll hel hlen
      have y9 := hHeld.size
      clear d1 d2 d3 d4 d5 d6 H_cWa H_cWb H_cWc
      have H_cAll := Lib.hid cAll
      clear cAll
      have H_hel := Lib.hid hel
      clear hel
      have H_hat := Lib.hid hat
      clear hat
      have H_hfit := Lib.hid hfit
      clear hfit
      have H_HC := Lib.hid HC
      clear HC
      have H_hL := Lib.hid hL
      clear hL
      have H_hE := Lib.hid hE
      clear hE
      have H_hlen := Lib.hid hlen
      clear hlen
      have H_hlen2 := Lib.hid hlen2
      clear hlen2
      go_wp2_with fail
      refine (H_cAll.out).mono ?_
      rintro _ wx ⟨v, rfl, hv, hbx⟩
      have hX : Below wc.heap.size wc wx := below_via hHeld hbx
      obtain ⟨o, c, rfl⟩ := ow_form hv
      have hSl := sla_of hv
      obtain ⟨nL, hnL⟩ : ∃ u, L.length = u := ⟨_, rfl⟩
      rw [hnL] at hSl
      have hnb : nL ≤ 1000000 := by have := H_hlen.out; have := H_hlen2.out; omega
      rw [hnL]
      clear hv hbx hHeld H_cAll
      have H_hSl := Lib.hid hSl
      clear hSl
      have H_hnL := Lib.hid hnL
      clear hnL
      go_wp2_with fail
      go_loopw [18] (fun t18 wr => ∃ k : Nat, k ≤ nL ∧ t18 = .int .i64 k ∧ Below wx.heap.size wx wr) (fun t18 _ => nL - (intOf t18).toNat)
      case atStart => exact ⟨0, Nat.zero_le _, rfl, by repeat' (first | (with_reducible first | exact bwR _ _ | assumption | refine bdn ?_ | refine bwA ?_ ?_ _ | refine bwD ?_ | refine bwS ?_ ?_ _) | omega | (simp <;> omega))⟩
      case round =>
        obtain ⟨k, hk, rfl, hB⟩ := hrel
        have hBr : Below wc.heap.size wc wr := below_via hX hB
        have hBw : Below w.heap.size w wr := (H_HC.out wr hBr).2.1
        by_cases hlt : k < nL
        · have hk' : k < L.length := by rw [H_hnL.out]; exact hlt
          obtain ⟨g, off, rfl, hgx, hrow⟩ := H_hSl.out.2.2.2.resolve_left (by intro h; rw [h] at hk'; simp at hk')
          obtain ⟨e, he, hen⟩ := H_hel.out k hk'
          have q := fun (W : World) (hb : Below wr.heap.size wr W) => (hrow.keep (below_via hB hb) hgx) k hk' 0 _ rfl
          have hfx := H_hfit.out L[k]
          obtain ⟨x, hx⟩ : ∃ u, L[k] = u := ⟨_, rfl⟩
          rw [hx] at he hfx
          have HR : ∀ W, Below wr.heap.size wr W → ((W.cell? ⟨w4.heap.size, 0, none⟩ = some (.slice oa qa ca) ∧ W.cell? ⟨w4.heap.size, 1, none⟩ = some (.string ta)) ∧ (W.cell? ⟨w5.heap.size, 0, none⟩ = some (.slice ob qb cb) ∧ W.cell? ⟨w5.heap.size, 1, none⟩ = some (.string tb)) ∧ W.cell? ⟨w6.heap.size, 0, none⟩ = some (.slice oc qc cc) ∧ W.cell? ⟨w6.heap.size, 1, none⟩ = some (.string tc)) ∧ W.cell? ⟨g, off + k, none⟩ = some (.int .i64 (x : Int)) := fun W hb => by
            refine ⟨(H_HC.out W (below_via hBr hb)).1, ?_⟩
            have h := q W hb
            rw [hx] at h
            simpa [EIn] using h
          have cFa := fun (W : World) (hb : Below wr.heap.size wr W) => selfits_any m bd nr.cnt F E d 79 83 _ _ ta la x e W (H_HC.out W (below_via hBr hb)).2.2.2.2.2 H_hat.out (gkeep ((H_HC.out W (below_via hBr hb)).2.1) H_hm.out rfl) (H_HC.out W (below_via hBr hb)).2.2.1 H_hna.out he hen
          have cFb := fun (W : World) (hb : Below wr.heap.size wr W) => selfits_any m bd nr.cnt F E d 79 83 _ _ tb lb x e W (H_HC.out W (below_via hBr hb)).2.2.2.2.2 H_hat.out (gkeep ((H_HC.out W (below_via hBr hb)).2.1) H_hm.out rfl) (H_HC.out W (below_via hBr hb)).2.2.2.1 H_hnb.out he hen
          have cFc := fun (W : World) (hb : Below wr.heap.size wr W) => selfits_any m bd nr.cnt F E d 79 83 _ _ tc lc x e W (H_HC.out W (below_via hBr hb)).2.2.2.2.2 H_hat.out (gkeep ((H_HC.out W (below_via hBr hb)).2.1) H_hm.out rfl) (H_HC.out W (below_via hBr hb)).2.2.2.2.1 H_hnc.out he hen
          obtain ⟨p, hp⟩ : ∃ u, fitsL E la x = u := ⟨_, rfl⟩
          obtain ⟨qq, hqq⟩ : ∃ u, fitsL E lb x = u := ⟨_, rfl⟩
          obtain ⟨rr, hrr⟩ : ∃ u, fitsL E lc x = u := ⟨_, rfl⟩
          rw [hp, hqq, hrr] at hfx
          rw [hp] at cFa
          rw [hqq] at cFb
          rw [hrr] at cFc
          obtain ⟨hf1, rfl⟩ := hfx
          have gk : IntKind.i64.wrap ((k : Int) + 1) = ((k + 1 : Nat) : Int) := IntWalk.i64_in _ (by omega)
          have hf0 := HR wr (Below.refl _ _)
          clear hrow q
          have H_cFa := Lib.hid cFa
          clear cFa
          have H_cFb := Lib.hid cFb
          clear cFb
          have H_cFc := Lib.hid cFc
          clear cFc
          have H_HR := Lib.hid HR
          clear HR
          have H_hf1 := Lib.hid hf1
          clear hf1
          have H_hp := Lib.hid hp
          clear hp
          have H_hqq := Lib.hid hqq
          clear hqq
          have H_hrr := Lib.hid hrr
          clear hrr
          have H_he := Lib.hid he
          clear he
          have H_hen := Lib.hid hen
          clear hen
          have H_hx := Lib.hid hx
          clear hx
          go_wp2_with fail
          refine wp_region_held_drew (S := fun W => Below wr.heap.size wr W) (by kernel_rfl) (by repeat' (first | (with_reducible first | exact bwR _ _ | assumption | refine bdn ?_ | refine bwA ?_ ?_ _ | refine bwD ?_ | refine bwS ?_ ?_ _) | omega | (simp <;> omega))) (fun hHeld => ?_)
          refine wpAnyH_take (i := 0) (v := ?_) rfl (by kernel_rfl) (by kernel_rfl) (by kernel_rfl) (fun _ _ _ h => h) (Or.inl ⟨by rfl, ?_⟩) (by assumption) ?_
          rotate_left
          · (intro W hW; have hf := H_HR.out W hW; go_simp; try (with_reducible rfl))
          try simp only [List.getElem_toArray, List.getElem_cons_zero, Act.put, List.setIfInBounds_toArray, List.set_cons_zero, List.set_cons_succ]
          refine wpAnyH_take (i := 1) (v := ?_) rfl (by kernel_rfl) (by kernel_rfl) (by kernel_rfl) (fun _ _ _ h => h) (Or.inl ⟨by rfl, ?_⟩) (by assumption) ?_
          rotate_left
          · (intro W hW; have hf := H_HR.out W hW; go_simp; try (with_reducible rfl))
          try simp only [List.getElem_toArray, List.getElem_cons_zero, List.getElem_cons_succ, Act.put, List.setIfInBounds_toArray, List.set_cons_zero, List.set_cons_succ]
          refine wpAnyH_take (i := 2) (v := ?_) rfl (by kernel_rfl) (by kernel_rfl) (by kernel_rfl) (fun _ _ _ h => h) (Or.inl ⟨by rfl, ?_⟩) (by assumption) ?_
          rotate_left
          · (intro W hW; have hf := H_HR.out W hW; go_simp; try (with_reducible rfl))
          try simp only [List.getElem_toArray, List.getElem_cons_zero, List.getElem_cons_succ, Act.put, List.setIfInBounds_toArray, List.set_cons_zero, List.set_cons_succ]
          refine wpAnyH_take (i := 3) (v := ?_) rfl (by kernel_rfl) (by kernel_rfl) (by kernel_rfl) (fun _ _ _ h => h) (Or.inl ⟨by rfl, ?_⟩) (by assumption) ?_
          rotate_left
          · (intro W hW; have hf := H_HR.out W hW; go_simp; try (with_reducible rfl))
          try simp only [List.getElem_toArray, List.getElem_cons_zero, List.getElem_cons_succ, Act.put, List.setIfInBounds_toArray, List.set_cons_zero, List.set_cons_succ]
          refine wpAnyH_take (i := 4) (v := ?_) rfl (by kernel_rfl) (by kernel_rfl) (by kernel_rfl) (fun _ _ _ h => h) (Or.inl ⟨by rfl, ?_⟩) (by assumption) ?_
          rotate_left
          · (intro W hW; have hf := H_HR.out W hW; go_simp; try (with_reducible rfl))
          try simp only [List.getElem_toArray, List.getElem_cons_zero, List.getElem_cons_succ, Act.put, List.setIfInBounds_toArray, List.set_cons_zero, List.set_cons_succ]
          refine wpAnyH_take (i := 5) (v := ?_) rfl (by kernel_rfl) (by kernel_rfl) (by kernel_rfl) (fun _ _ _ h => h) (Or.inl ⟨by rfl, ?_⟩) (by assumption) ?_
          rotate_left
          · (intro W hW; have hf := H_HR.out W hW; go_simp; try (with_reducible rfl))
          try simp only [List.getElem_toArray, List.getElem_cons_zero, List.getElem_cons_succ, Act.put, List.setIfInBounds_toArray, List.set_cons_zero, List.set_cons_succ]
          refine wpAnyH_ready (rs := [6]) (by kernel_rfl) (by simp) ?_
          refine AllReadyH.cons rfl (fun K hK => ?_) AllReadyH.nil
          go_simp
          go_at_call 19
          refine (H_cFa.out _ hHeld).mono ?_
          rintro _ w10 ⟨rfl, hb9⟩
          have hO : Below wr.heap.size wr w10 := below_via hHeld hb9
          clear hHeld hb9
          refine hK.out _ _ hO (fun hHeld => ?_)
          clear hK K hO
          try simp only [List.getElem_toArray, List.getElem_cons_zero, List.getElem_cons_succ, Act.put, List.setIfInBounds_toArray, List.set_cons_zero, List.set_cons_succ]
          refine wpAnyH_take (i := 7) (v := ?_) rfl (by kernel_rfl) (by kernel_rfl) (by kernel_rfl) (fun _ _ _ h => h) (Or.inl ⟨by rfl, ?_⟩) (by assumption) ?_
          rotate_left
          · (intro W hW; have hf := H_HR.out W hW; go_simp; try (with_reducible rfl))
          try simp only [List.getElem_toArray, List.getElem_cons_zero, List.getElem_cons_succ, Act.put, List.setIfInBounds_toArray, List.set_cons_zero, List.set_cons_succ]
          refine wpAnyH_done (by kernel_rfl) ?_ _
          go_wp2_with fail
          refine wp_region_held_drew (S := fun W => Below wr.heap.size wr W) (by kernel_rfl) (by repeat' (first | (with_reducible first | exact bwR _ _ | assumption | refine bdn ?_ | refine bwA ?_ ?_ _ | refine bwD ?_ | refine bwS ?_ ?_ _) | omega | (simp <;> omega))) (fun hHeld => ?_)
          refine wpAnyH_take (i := 0) (v := ?_) rfl (by kernel_rfl) (by kernel_rfl) (by kernel_rfl) (fun _ _ _ h => h) (Or.inl ⟨by rfl, ?_⟩) (by assumption) ?_
          rotate_left
          · (intro W hW; have hf := H_HR.out W hW; go_simp; try (with_reducible rfl))
          try simp only [List.getElem_toArray, List.getElem_cons_zero, Act.put, List.setIfInBounds_toArray, List.set_cons_zero, List.set_cons_succ]
          refine wpAnyH_take (i := 1) (v := ?_) rfl (by kernel_rfl) (by kernel_rfl) (by kernel_rfl) (fun _ _ _ h => h) (Or.inl ⟨by rfl, ?_⟩) (by assumption) ?_
          rotate_left
          · (intro W hW; have hf := H_HR.out W hW; go_simp; try (with_reducible rfl))
          try simp only [List.getElem_toArray, List.getElem_cons_zero, List.getElem_cons_succ, Act.put, List.setIfInBounds_toArray, List.set_cons_zero, List.set_cons_succ]
          refine wpAnyH_take (i := 2) (v := ?_) rfl (by kernel_rfl) (by kernel_rfl) (by kernel_rfl) (fun _ _ _ h => h) (Or.inl ⟨by rfl, ?_⟩) (by assumption) ?_
          rotate_left
          · (intro W hW; have hf := H_HR.out W hW; go_simp; try (with_reducible rfl))
          try simp only [List.getElem_toArray, List.getElem_cons_zero, List.getElem_cons_succ, Act.put, List.setIfInBounds_toArray, List.set_cons_zero, List.set_cons_succ]
          refine wpAnyH_take (i := 3) (v := ?_) rfl (by kernel_rfl) (by kernel_rfl) (by kernel_rfl) (fun _ _ _ h => h) (Or.inl ⟨by rfl, ?_⟩) (by assumption) ?_
          rotate_left
          · (intro W hW; have hf := H_HR.out W hW; go_simp; try (with_reducible rfl))
          try simp only [List.getElem_toArray, List.getElem_cons_zero, List.getElem_cons_succ, Act.put, List.setIfInBounds_toArray, List.set_cons_zero, List.set_cons_succ]
          refine wpAnyH_take (i := 4) (v := ?_) rfl (by kernel_rfl) (by kernel_rfl) (by kernel_rfl) (fun _ _ _ h => h) (Or.inl ⟨by rfl, ?_⟩) (by assumption) ?_
          rotate_left
          · (intro W hW; have hf := H_HR.out W hW; go_simp; try (with_reducible rfl))
          try simp only [List.getElem_toArray, List.getElem_cons_zero, List.getElem_cons_succ, Act.put, List.setIfInBounds_toArray, List.set_cons_zero, List.set_cons_succ]
          refine wpAnyH_take (i := 5) (v := ?_) rfl (by kernel_rfl) (by kernel_rfl) (by kernel_rfl) (fun _ _ _ h => h) (Or.inl ⟨by rfl, ?_⟩) (by assumption) ?_
          rotate_left
          · (intro W hW; have hf := H_HR.out W hW; go_simp; try (with_reducible rfl))
          try simp only [List.getElem_toArray, List.getElem_cons_zero, List.getElem_cons_succ, Act.put, List.setIfInBounds_toArray, List.set_cons_zero, List.set_cons_succ]
          refine wpAnyH_ready (rs := [6]) (by kernel_rfl) (by simp) ?_
          refine AllReadyH.cons rfl (fun K hK => ?_) AllReadyH.nil
          go_simp
          go_at_call 19
          refine (H_cFb.out _ hHeld).mono ?_
          rintro _ w11 ⟨rfl, hb9⟩
          have hO : Below wr.heap.size wr w11 := below_via hHeld hb9
          clear hHeld hb9
          refine hK.out _ _ hO (fun hHeld => ?_)
          clear hK K hO
          try simp only [List.getElem_toArray, List.getElem_cons_zero, List.getElem_cons_succ, Act.put, List.setIfInBounds_toArray, List.set_cons_zero, List.set_cons_succ]
          refine wpAnyH_take (i := 7) (v := ?_) rfl (by kernel_rfl) (by kernel_rfl) (by kernel_rfl) (fun _ _ _ h => h) (Or.inl ⟨by rfl, ?_⟩) (by assumption) ?_
          rotate_left
          · (intro W hW; have hf := H_HR.out W hW; go_simp; try (with_reducible rfl))
          try simp only [List.getElem_toArray, List.getElem_cons_zero, List.getElem_cons_succ, Act.put, List.setIfInBounds_toArray, List.set_cons_zero, List.set_cons_succ]
          refine wpAnyH_done (by kernel_rfl) ?_ _
          go_wp2_with fail
          refine wp_region_held_drew (S := fun W => Below wr.heap.size wr W) (by kernel_rfl) (by repeat' (first | (with_reducible first | exact bwR _ _ | assumption | refine bdn ?_ | refine bwA ?_ ?_ _ | refine bwD ?_ | refine bwS ?_ ?_ _) | omega | (simp <;> omega))) (fun hHeld => ?_)
          refine wpAnyH_take (i := 0) (v := ?_) rfl (by kernel_rfl) (by kernel_rfl) (by kernel_rfl) (fun _ _ _ h => h) (Or.inl ⟨by rfl, ?_⟩) (by assumption) ?_
          rotate_left
          · (intro W hW; have hf := H_HR.out W hW; go_simp; try (with_reducible rfl))
          try simp only [List.getElem_toArray, List.getElem_cons_zero, Act.put, List.setIfInBounds_toArray, List.set_cons_zero, List.set_cons_succ]
          refine wpAnyH_take (i := 1) (v := ?_) rfl (by kernel_rfl) (by kernel_rfl) (by kernel_rfl) (fun _ _ _ h => h) (Or.inl ⟨by rfl, ?_⟩) (by assumption) ?_
          rotate_left
          · (intro W hW; have hf := H_HR.out W hW; go_simp; try (with_reducible rfl))
          try simp only [List.getElem_toArray, List.getElem_cons_zero, List.getElem_cons_succ, Act.put, List.setIfInBounds_toArray, List.set_cons_zero, List.set_cons_succ]
          refine wpAnyH_take (i := 2) (v := ?_) rfl (by kernel_rfl) (by kernel_rfl) (by kernel_rfl) (fun _ _ _ h => h) (Or.inl ⟨by rfl, ?_⟩) (by assumption) ?_
          rotate_left
          · (intro W hW; have hf := H_HR.out W hW; go_simp; try (with_reducible rfl))
          try simp only [List.getElem_toArray, List.getElem_cons_zero, List.getElem_cons_succ, Act.put, List.setIfInBounds_toArray, List.set_cons_zero, List.set_cons_succ]
          refine wpAnyH_take (i := 3) (v := ?_) rfl (by kernel_rfl) (by kernel_rfl) (by kernel_rfl) (fun _ _ _ h => h) (Or.inl ⟨by rfl, ?_⟩) (by assumption) ?_
          rotate_left
          · (intro W hW; have hf := H_HR.out W hW; go_simp; try (with_reducible rfl))
          try simp only [List.getElem_toArray, List.getElem_cons_zero, List.getElem_cons_succ, Act.put, List.setIfInBounds_toArray, List.set_cons_zero, List.set_cons_succ]
          refine wpAnyH_take (i := 4) (v := ?_) rfl (by kernel_rfl) (by kernel_rfl) (by kernel_rfl) (fun _ _ _ h => h) (Or.inl ⟨by rfl, ?_⟩) (by assumption) ?_
          rotate_left
          · (intro W hW; have hf := H_HR.out W hW; go_simp; try (with_reducible rfl))
          try simp only [List.getElem_toArray, List.getElem_cons_zero, List.getElem_cons_succ, Act.put, List.setIfInBounds_toArray, List.set_cons_zero, List.set_cons_succ]
          refine wpAnyH_take (i := 5) (v := ?_) rfl (by kernel_rfl) (by kernel_rfl) (by kernel_rfl) (fun _ _ _ h => h) (Or.inl ⟨by rfl, ?_⟩) (by assumption) ?_
          rotate_left
          · (intro W hW; have hf := H_HR.out W hW; go_simp; try (with_reducible rfl))
          try simp only [List.getElem_toArray, List.getElem_cons_zero, List.getElem_cons_succ, Act.put, List.setIfInBounds_toArray, List.set_cons_zero, List.set_cons_succ]
          refine wpAnyH_ready (rs := [6]) (by kernel_rfl) (by simp) ?_
          refine AllReadyH.cons rfl (fun K hK => ?_) AllReadyH.nil
          go_simp
          go_at_call 19
          refine (H_cFc.out _ hHeld).mono ?_
          rintro _ w12 ⟨rfl, hb9⟩
          have hO : Below wr.heap.size wr w12 := below_via hHeld hb9
          clear hHeld hb9
          refine hK.out _ _ hO (fun hHeld => ?_)
          clear hK K hO
          try simp only [List.getElem_toArray, List.getElem_cons_zero, List.getElem_cons_succ, Act.put, List.setIfInBounds_toArray, List.set_cons_zero, List.set_cons_succ]
          refine wpAnyH_take (i := 7) (v := ?_) rfl (by kernel_rfl) (by kernel_rfl) (by kernel_rfl) (fun _ _ _ h => h) (Or.inl ⟨by rfl, ?_⟩) (by assumption) ?_
          rotate_left
          · (intro W hW; have hf := H_HR.out W hW; go_simp; try (with_reducible rfl))
          try simp only [List.getElem_toArray, List.getElem_cons_zero, List.getElem_cons_succ, Act.put, List.setIfInBounds_toArray, List.set_cons_zero, List.set_cons_succ]
          refine wpAnyH_done (by kernel_rfl) ?_ _
          cases p with
          | false =>
            cases qq with
            | true => exact absurd (H_hf1.out rfl) (by decide)
            | false =>
              go_wp2_with fail
              go_roundw
              case rel => exact ⟨k + 1, by omega, by go_num, below_via hB hHeld⟩
              case measure => simp [intOf]; omega
          | true =>
            cases qq with
            | true =>
              go_wp2_with fail
              go_roundw
              case rel => exact ⟨k + 1, by omega, by go_num, below_via hB hHeld⟩
              case measure => simp [intOf]; omega
            | false =>
              go_wp2_with fail
              go_roundw
              case rel => exact ⟨k + 1, by omega, by go_num, below_via hB hHeld⟩
              case measure => simp [intOf]; omega
        · obtain rfl : nL = k := by omega
          go_wp2_with fail
          go_returns
          exact ⟨rfl, by repeat' (first | (with_reducible first | exact bwR _ _ | assumption | refine bdn ?_ | refine bwA ?_ ?_ _ | refine bwD ?_ | refine bwS ?_ ?_ _) | omega | (simp <;> omega))⟩
end Go.Proofs.YtbcoccgfoionlaaDoor
