/-
  The law DocOne, walked.
-/
import Derived.Test.YtccojeglidbpoaaDoorLo0
namespace Go.Proofs.YtccojeglidbpoaaDoor
open Go.RowKit Go.WideMaps Go.Maps Lead Lead.Dc
set_option maxHeartbeats 8000000 in
set_option maxRecDepth 100000 in
theorem lawone_any (ea : Nat → Addr) (n : NT) (oa : Option Addr) (len cap : Nat) (acts : List AcX) (w : World) (hn : NodeOk w n) (ha : SlA EAc w oa len cap acts) (hai : ∀ a ∈ acts, I64 a.id ∧ I64 a.to ∧ I64 a.at') (hG : DGs ea w) :
    Calls Tryd.prog 3 #[.agg n.vals.toArray, .slice oa len cap] w fun e w' => e = .returned (.bool true) ∧ Below w.heap.size w w' := by
  obtain ⟨ao, al, ac, ko, kl, kc, hv, _⟩ := hn.attrsAt
  have cD := fun (W : World) (hb : Below w.heap.size w W) => docked_any ea W (hG.keep hb rfl)
  have cF := fun (W : World) (hb : Below w.heap.size w W) => flatsof_any n W (hn.keep hb rfl)
  have cN := fun (W : World) (hb : Below w.heap.size w W) => new_any ea n W (hn.keep hb rfl) (hG.keep hb rfl)
  have hlen : (len : Int) ≤ 60 ∨ ¬ (len : Int) ≤ 60 := by omega
  rw [hv] at cF cN ⊢
  obtain ⟨nk, hnk⟩ : ∃ u, n.name = u := ⟨_, rfl⟩
  obtain ⟨nr, hnr⟩ : ∃ u, n.rt = u := ⟨_, rfl⟩
  rw [hnk] at cF cN ⊢
  rw [hnr] at cN
  clear hv hn hnk hnr
  have H_cD := Lib.hid cD
  clear cD
  have H_cF := Lib.hid cF
  clear cF
  have H_cN := Lib.hid cN
  clear cN
  have H_ha := Lib.hid ha
  clear ha
  have H_hai := Lib.hid hai
  clear hai
  have H_hG := Lib.hid hG
  clear hG
  go_enter Tryd.func3, Tryd.ntmps3
  go_wp2_with fail
  refine (H_cD.out _ (by repeat' (first | (with_reducible first | exact bwR _ _ | assumption | refine bdn ?_ | refine bwA ?_ ?_ _ | refine bwD ?_ | refine bwS ?_ ?_ _) | omega | (simp <;> omega)))).mono ?_
  rintro _ w1 ⟨rfl, hb1⟩
  have hB1 : Below w.heap.size w w1 := below_via (by repeat' (first | (with_reducible first | exact bwR _ _ | assumption | refine bdn ?_ | refine bwA ?_ ?_ _ | refine bwD ?_ | refine bwS ?_ ?_ _) | omega | (simp <;> omega))) hb1
  have k0 : w1.cell? ⟨w.heap.size, 0, none⟩ = some (.string nk) := gkeep hb1 (World.cell?_alloc_new _ _ _ _) (by simp)
  have k1 : w1.cell? ⟨w.heap.size, 1, none⟩ = some (.slice ao al ac) := gkeep hb1 (World.cell?_alloc_new _ _ _ _) (by simp)
  have k2 : w1.cell? ⟨w.heap.size, 2, none⟩ = some (.slice ko kl kc) := gkeep hb1 (World.cell?_alloc_new _ _ _ _) (by simp)
  have z1 : w.heap.size < w1.heap.size := Nat.lt_of_lt_of_le (by simp) hb1.size
  clear hb1
  go_wp2_with fail
  refine (H_cF.out _ (by repeat' (first | (with_reducible first | exact bwR _ _ | assumption | refine bdn ?_ | refine bwA ?_ ?_ _ | refine bwD ?_ | refine bwS ?_ ?_ _) | omega | (simp <;> omega)))).mono ?_
  rintro _ w2 ⟨o2, l2, c2, rfl, hl2, hb2⟩
  have hB2 : Below w.heap.size w w2 := below_via hB1 hb2
  have z2 : w.heap.size < w2.heap.size := Nat.lt_of_lt_of_le z1 hb2.size
  have m0 : w2.cell? ⟨w.heap.size, 0, none⟩ = some (.string nk) := (hb2.cell (p := ⟨w.heap.size, 0, none⟩) z1).trans k0
  have m1 : w2.cell? ⟨w.heap.size, 1, none⟩ = some (.slice ao al ac) := (hb2.cell (p := ⟨w.heap.size, 1, none⟩) z1).trans k1
  have m2 : w2.cell? ⟨w.heap.size, 2, none⟩ = some (.slice ko kl kc) := (hb2.cell (p := ⟨w.heap.size, 2, none⟩) z1).trans k2
  clear hb2 hB1 z1 k0 k1 k2
  clear w1
  by_cases hl0 : l2 = 0
  · subst hl0
    go_wp2_with fail
    go_returns
    exact ⟨rfl, by repeat' (first | (with_reducible first | exact bwR _ _ | assumption | refine bdn ?_ | refine bwA ?_ ?_ _ | refine bwD ?_ | refine bwS ?_ ?_ _) | omega | (simp <;> omega))⟩
  have hl0' : ((l2 : Int) == 0) = false := by simp; omega
  by_cases h60 : 60 < len
  · have g60 : (60 : Int) < (len : Int) := by omega
    go_wp2_with fail
    go_returns
    exact ⟨rfl, by repeat' (first | (with_reducible first | exact bwR _ _ | assumption | refine bdn ?_ | refine bwA ?_ ?_ _ | refine bwD ?_ | refine bwS ?_ ?_ _) | omega | (simp <;> omega))⟩
  have g60 : ¬ (60 : Int) < (len : Int) := by omega
  go_wp2_with fail
  refine (H_cN.out _ (by repeat' (first | (with_reducible first | exact bwR _ _ | assumption | refine bdn ?_ | refine bwA ?_ ?_ _ | refine bwD ?_ | refine bwS ?_ ?_ _) | omega | (simp <;> omega)))).mono ?_
  rintro en w3 ⟨hb3, hN⟩
  have hB3 : Below w.heap.size w w3 := below_via hB2 hb3
  by_cases hc : (chkN nr 0 1).2 = 0
  case neg =>
    rw [if_neg hc] at hN
    obtain ⟨t', a', rfl, _⟩ := hN
    clear hc
    go_wp2_with fail
    go_returns
    exact ⟨rfl, by repeat' (first | (with_reducible first | exact bwR _ _ | assumption | refine bdn ?_ | refine bwA ?_ ?_ _ | refine bwD ?_ | refine bwS ?_ ?_ _) | omega | (simp <;> omega))⟩
  rw [if_pos hc] at hN
  obtain ⟨bd, F, d, rfl, hF, hD, hcnt⟩ := hN
  have hS0 : LoSt Tryd.prog TT w2.heap.size bd w2 w3 (treeE nr (-1) 0) nr.cnt 0 d F := ⟨hD, hF, by omega, hb3, rfl⟩
  clear hc hF hD hcnt hb3 hlen
  have H_hS0 := Lib.hid hS0
  clear hS0
  go_wp2_with fail
  go_loopw [9] (fun t9 wr => ∃ (k : Nat) (E : Els) (next : Nat) (d : Nat → Nat) (F : Nat → Prop), k ≤ len ∧ t9 = .int .i64 k ∧ RowKit.Hid (LoSt Tryd.prog TT w2.heap.size bd w2 wr E next k d F)) (fun t9 _ => len - (intOf t9).toNat)
  case atStart => exact ⟨0, _, _, _, _, Nat.zero_le _, rfl, H_hS0⟩
  case round =>
    obtain ⟨k, E, next, d, F, hk, rfl, H_S⟩ := hrel
    clear m0 m1 m2 H_cD H_cF H_cN H_hS0 hB3
    have hBr : Below w.heap.size w wr := hB2.trans (H_S.out.bel.mono (by omega))
    by_cases hlt : k < len
    · have hk' : k < acts.length := by have := H_ha.out.1; omega
      obtain ⟨b, off, rfl, hbw, hr⟩ := H_ha.out.2.2.2.resolve_left (by intro h; rw [h] at hk'; simp at hk')
      have hcell := fun (q : Nat) (v : Value) (hq : (EAc.enc acts[k])[q]? = some v) => (hr.keep hBr hbw) k hk' q v hq
      obtain ⟨xi, xt, xa⟩ := H_hai.out _ (List.getElem_mem hk')
      obtain ⟨x, hx⟩ : ∃ x, acts[k] = x := ⟨_, rfl⟩
      rw [hx] at hcell xi xt xa
      clear hx hr
      obtain ⟨nm, id, to, at', s4, s5⟩ := x
      have q0 : wr.cell? ⟨b, off + k * 6, none⟩ = some (.string nm) := hcell 0 _ rfl
      have q1 : wr.cell? ⟨b, off + k * 6 + 1, none⟩ = some (.int .i64 id) := hcell 1 _ rfl
      have q2 : wr.cell? ⟨b, off + k * 6 + 2, none⟩ = some (.int .i64 to) := hcell 2 _ rfl
      have q3 : wr.cell? ⟨b, off + k * 6 + 3, none⟩ = some (.int .i64 at') := hcell 3 _ rfl
      have q4 : wr.cell? ⟨b, off + k * 6 + 4, none⟩ = some (.string s4) := hcell 4 _ rfl
      have q5 : wr.cell? ⟨b, off + k * 6 + 5, none⟩ = some (.string s5) := hcell 5 _ rfl
      clear hcell
      have hDw := H_S.out.dok
      have hGw := fun (W : World) (hb : Below w.heap.size w W) => H_hG.out.keep hb rfl
      have hnb : next < 1000000 := by have := H_S.out.few; omega
      by_cases hadd : (nm.toList == [97, 100, 100]) = true
      · have cA := fun (W : World) (hb : Below wr.heap.size wr W) => add_any ea bd next id at' ⟨#[120]⟩ F E d W (hDw.keep hb) (hGw W (hBr.trans (hb.mono hBr.size))) hnb xi xa
        clear hDw hGw
        have H_cA := Lib.hid cA
        clear cA
        go_wp2_with fail
        refine (H_cA.out _ (by repeat' (first | (with_reducible first | exact bwR _ _ | assumption | refine bdn ?_ | refine bwA ?_ ?_ _ | refine bwD ?_ | refine bwS ?_ ?_ _) | omega | (simp <;> omega)))).mono ?_
        rintro en w4 hA
        obtain ⟨y1, y2, E', next', d', rfl, hn', hSt⟩ := hA.any
        obtain ⟨F', hS'⟩ := H_S.out.next (by repeat' (first | (with_reducible first | exact bwR _ _ | assumption | refine bdn ?_ | refine bwA ?_ ?_ _ | refine bwD ?_ | refine bwS ?_ ?_ _) | omega | (simp <;> omega))) hSt hn'
        clear hA hSt
        have H_hS' := Lib.hid hS'
        clear hS'
        go_wp2_with fail
        go_roundw
        case rel => exact ⟨k + 1, E', next', d', F', by omega, by go_num, H_hS'⟩
        case measure => simp [intOf]; omega
      · have hadd' : (nm.toList == [97, 100, 100]) = false := by simpa using hadd
        clear hadd
        by_cases hrem : (nm.toList == [114, 101, 109, 111, 118, 101]) = true
        · have cR := fun (W : World) (hb : Below wr.heap.size wr W) => rem_any ea bd next id F E d W (hDw.keep hb) (hGw W (hBr.trans (hb.mono hBr.size))) xi
          clear hDw hGw
          have H_cR := Lib.hid cR
          clear cR
          go_wp2_with fail
          refine (H_cR.out _ (by repeat' (first | (with_reducible first | exact bwR _ _ | assumption | refine bdn ?_ | refine bwA ?_ ?_ _ | refine bwD ?_ | refine bwS ?_ ?_ _) | omega | (simp <;> omega)))).mono ?_
          rintro en w4 hA
          obtain ⟨y1, E', d', rfl, hSt⟩ := hA.any
          obtain ⟨F', hS'⟩ := H_S.out.next (by repeat' (first | (with_reducible first | exact bwR _ _ | assumption | refine bdn ?_ | refine bwA ?_ ?_ _ | refine bwD ?_ | refine bwS ?_ ?_ _) | omega | (simp <;> omega))) hSt (Nat.le_succ _)
          clear hA hSt
          have H_hS' := Lib.hid hS'
          clear hS'
          go_wp2_with fail
          go_roundw
          case rel => exact ⟨k + 1, E', next, d', F', by omega, by go_num, H_hS'⟩
          case measure => simp [intOf]; omega
        · have hrem' : (nm.toList == [114, 101, 109, 111, 118, 101]) = false := by simpa using hrem
          clear hrem
          obtain ⟨hparI0, _⟩ := parZ_i64 hDw.good hDw.big id
          have hparI := hparI0
          obtain ⟨par, hpar⟩ : ∃ u, parZ E id = u := ⟨_, rfl⟩
          have cP := fun (W : World) (hb : Below wr.heap.size wr W) => parent_any bd next id F E d W (hDw.keep hb) xi
          have cAl := fun (W : World) (hb : Below wr.heap.size wr W) => all_any bd next F E d W (hDw.keep hb)
          have cK := fun (W : World) (hb : Below wr.heap.size wr W) => kids_any bd next par F E d W (hDw.keep hb) (by rw [← hpar]; exact hparI0)
          have cM := fun (W : World) (hb : Below wr.heap.size wr W) => mov_any ea bd next id to at' F E d W (hDw.keep hb) (hGw W (hBr.trans (hb.mono hBr.size))) xi xt xa
          have hhome := fun (j : Nat) (h : movC E d id to at' = 0) (hj : ∀ a : Nat, id = (a : Int) → a ∈ kidsZ E par → j = (kidsZ E par).idxOf a) => mov_home hDw.good h (j := j) (by rw [hpar]; exact hj)
          have hFlt : ∀ j, F j → j < wr.heap.size := fun j hj => hDw.lt hj
          have hAl : (below E 10 0).length ≤ 1000000 := by
            obtain ⟨r, h1, h2, _⟩ := hDw.good.all_list
            have := hDw.len
            rw [h1, List.length_cons]; omega
          rw [hpar] at cP hhome hparI
          have hkl : (kidsZ E par).length ≤ 1000000 := by
            rcases atZ_cases E par with h | ⟨q, qe, hq, hqe⟩
            · unfold kidsZ; rw [h]; simp
            · rw [hq, kidsZ_nat hqe]; have := hDw.good.kids_len hqe; have := hDw.len; omega
          obtain ⟨all, hall⟩ : ∃ u, below E 10 0 = u := ⟨_, rfl⟩
          obtain ⟨ks, hks⟩ : ∃ u, kidsZ E par = u := ⟨_, rfl⟩
          rw [hks] at cK hhome hkl
          rw [hall] at cAl hAl
          clear hDw hparI0
          have H_cP := Lib.hid cP
          clear cP
          have H_cAl := Lib.hid cAl
          clear cAl
          have H_cK := Lib.hid cK
          clear cK
          have H_cM := Lib.hid cM
          clear cM
          have H_hhome := Lib.hid hhome
          clear hhome
          have H_hGw := Lib.hid hGw
          clear hGw
          have H_hFlt := Lib.hid hFlt
          clear hFlt
          have H_hAl := Lib.hid hAl
          clear hAl
          have H_hparI := Lib.hid hparI
          clear hparI
          have H_hall := Lib.hid hall
          clear hall
          have H_hkl := Lib.hid hkl
          clear hkl
          have H_hpar := Lib.hid hpar
          clear hpar
          go_wp2_with fail
          refine (H_cP.out _ (by repeat' (first | (with_reducible first | exact bwR _ _ | assumption | refine bdn ?_ | refine bwA ?_ ?_ _ | refine bwD ?_ | refine bwS ?_ ?_ _) | omega | (simp <;> omega)))).mono ?_
          rintro _ w5 ⟨rfl, hb5⟩
          have e1 : w5.cell? ⟨wr.heap.size, 1, none⟩ = some (.int .i64 id) := gkeep hb5 (World.cell?_alloc_new _ _ _ _) (by simp)
          have e2 : w5.cell? ⟨wr.heap.size, 2, none⟩ = some (.int .i64 to) := gkeep hb5 (World.cell?_alloc_new _ _ _ _) (by simp)
          have e3 : w5.cell? ⟨wr.heap.size, 3, none⟩ = some (.int .i64 at') := gkeep hb5 (World.cell?_alloc_new _ _ _ _) (by simp)
          have hB5 : Below wr.heap.size wr w5 := below_via (by repeat' (first | (with_reducible first | exact bwR _ _ | assumption | refine bdn ?_ | refine bwA ?_ ?_ _ | refine bwD ?_ | refine bwS ?_ ?_ _) | omega | (simp <;> omega))) hb5
          have z5 : wr.heap.size < w5.heap.size := Nat.lt_of_lt_of_le (by simp) hb5.size
          clear hb5 q0 q1 q2 q3 q4 q5
          go_wp2_with fail
          refine (H_cAl.out _ (by repeat' (first | (with_reducible first | exact bwR _ _ | assumption | refine bdn ?_ | refine bwA ?_ ?_ _ | refine bwD ?_ | refine bwS ?_ ?_ _) | omega | (simp <;> omega)))).mono ?_
          rintro _ w6 ⟨v6, rfl, hA6, hb6⟩
          obtain ⟨oA, lA, cA, rfl, hsA⟩ := OwnQ.sl (.inl hA6)
          obtain rfl : lA = all.length := hsA.1
          have hB6 : Below wr.heap.size wr w6 := below_via hB5 hb6
          have e1 : w6.cell? ⟨wr.heap.size, 1, none⟩ = some (.int .i64 id) := (hb6.cell (p := ⟨wr.heap.size, 1, none⟩) z5).trans e1
          have e2 : w6.cell? ⟨wr.heap.size, 2, none⟩ = some (.int .i64 to) := (hb6.cell (p := ⟨wr.heap.size, 2, none⟩) z5).trans e2
          have e3 : w6.cell? ⟨wr.heap.size, 3, none⟩ = some (.int .i64 at') := (hb6.cell (p := ⟨wr.heap.size, 3, none⟩) z5).trans e3
          have z6 : wr.heap.size < w6.heap.size := Nat.lt_of_lt_of_le z5 hb6.size
          have H_hA6 := Lib.hid hA6
          clear hA6
          clear hsA hb6
          go_wp2_with fail
          refine (H_cK.out _ (by repeat' (first | (with_reducible first | exact bwR _ _ | assumption | refine bdn ?_ | refine bwA ?_ ?_ _ | refine bwD ?_ | refine bwS ?_ ?_ _) | omega | (simp <;> omega)))).mono ?_
          rintro _ w7 ⟨v7, rfl, hK7, hb7⟩
          obtain ⟨oK, lK, cK7, rfl, hsK⟩ := OwnQ.sl (.inl hK7)
          have hB7 : Below wr.heap.size wr w7 := below_via hB6 hb7
          have hA7 := (H_hA6.out.keep hb7).base (Nat.le_of_lt z5)
          have e1 : w7.cell? ⟨wr.heap.size, 1, none⟩ = some (.int .i64 id) := (hb7.cell (p := ⟨wr.heap.size, 1, none⟩) z6).trans e1
          have e2 : w7.cell? ⟨wr.heap.size, 2, none⟩ = some (.int .i64 to) := (hb7.cell (p := ⟨wr.heap.size, 2, none⟩) z6).trans e2
          have e3 : w7.cell? ⟨wr.heap.size, 3, none⟩ = some (.int .i64 at') := (hb7.cell (p := ⟨wr.heap.size, 3, none⟩) z6).trans e3
          have z7 : wr.heap.size < w7.heap.size := Nat.lt_of_lt_of_le z6 hb7.size
          clear hK7 hb7 H_hA6 z5 z6 hB5 hB6
          have H_hA7 := Lib.hid hA7
          clear hA7
          have H_hsK := Lib.hid hsK
          clear hsK
          obtain ⟨wo, rfl⟩ : ∃ u, u = wr := ⟨_, rfl⟩
          have hlK : lK ≤ 1000000 := by
            have h1 := H_hsK.out.1
            have h2 := H_hkl.out
            omega
          go_wp2_with fail
          go_loopw [13] (fun t13 wr => ∃ j : Nat, j ≤ lK ∧ t13 = .int .i64 j ∧ RowKit.Hid (∀ i, i < j → ∀ h : i < ks.length, (ks[i] : Int) ≠ id) ∧ Below w7.heap.size w7 wr) (fun t13 _ => lK - (intOf t13).toNat)
          case atStart => exact ⟨0, Nat.zero_le _, rfl, fun i hi => absurd hi (Nat.not_lt_zero _), by repeat' (first | (with_reducible first | exact bwR _ _ | assumption | refine bdn ?_ | refine bwA ?_ ?_ _ | refine bwD ?_ | refine bwS ?_ ?_ _) | omega | (simp <;> omega))⟩
          case round =>
            obtain ⟨j, hj, rfl, H_scan, hB8⟩ := hrel
            by_cases hjl : j < lK
            · have hjk : j < ks.length := by rw [← H_hsK.out.1]; exact hjl
              obtain ⟨gb, off, rfl, hgl, hra⟩ := H_hsK.out.2.2.2.resolve_left (by intro h; rw [h] at hjk; simp at hjk)
              have r0 : wr.cell? ⟨gb, off + j, none⟩ = some (.int .i64 (ks[j] : Int)) := by
                have h := (hra.keep hB8 hgl) j hjk 0 _ rfl
                simpa [EIn] using h
              have d1 : wr.cell? ⟨wo.heap.size, 1, none⟩ = some (.int .i64 id) := (hB8.cell (p := ⟨wo.heap.size, 1, none⟩) z7).trans e1
              by_cases hxe : (ks[j] : Int) = id
              · have hstop : ∀ h : j < ks.length, (ks[j] : Int) = id := fun _ => hxe
                rw [hxe] at r0
                clear hra hxe
                go_wp2_with fail
                go_region
                all_goals
                  clear r0 d1
                  have hB8o : Below wo.heap.size wo wr := hB7.trans (hB8.mono (Nat.le_of_lt z7))
                  have z8 : wo.heap.size < wr.heap.size := Nat.lt_of_lt_of_le z7 hB8.size
                  have e1 : wr.cell? ⟨wo.heap.size, 1, none⟩ = some (.int .i64 id) := (hB8.cell (p := ⟨wo.heap.size, 1, none⟩) z7).trans e1
                  have e2 : wr.cell? ⟨wo.heap.size, 2, none⟩ = some (.int .i64 to) := (hB8.cell (p := ⟨wo.heap.size, 2, none⟩) z7).trans e2
                  have e3 : wr.cell? ⟨wo.heap.size, 3, none⟩ = some (.int .i64 at') := (hB8.cell (p := ⟨wo.heap.size, 3, none⟩) z7).trans e3
                  have hidx : ∀ a : Nat, id = (a : Int) → a ∈ ks → j = ks.idxOf a := fun a hia hk => by
                    subst hia
                    exact scan_idx H_scan.out (by rw [← H_hsK.out.1]; exact hj) hstop hk
                  have hjI : I64 (j : Int) := i64_nat (by omega)
                  have H_hidx := Lib.hid hidx
                  clear hidx
                  have H_hstop := Lib.hid hstop
                  clear hstop
                  have H_hjI := Lib.hid hjI
                  clear hjI
                  go_wp2_with fail
                  refine (H_cM.out _ (by repeat' (first | (with_reducible first | exact bwR _ _ | assumption | refine bdn ?_ | refine bwA ?_ ?_ _ | refine bwD ?_ | refine bwS ?_ ?_ _) | omega | (simp <;> omega)))).mono ?_
                  rintro en w8 hM
                  unfold MovIs at hM
                  rw [H_hpar.out] at hM
                  by_cases hm0 : movC E d id to at' = 0
                  · rw [if_pos hm0] at hM
                    obtain ⟨rfl, hSt⟩ := hM
                    obtain ⟨F8, hS8, hF8, hT8⟩ := H_S.out.turn (by repeat' (first | (with_reducible first | exact bwR _ _ | assumption | refine bdn ?_ | refine bwA ?_ ?_ _ | refine bwD ?_ | refine bwS ?_ ?_ _) | omega | (simp <;> omega))) hSt
                    by_cases hev : k % 2 = 0
                    · have g1 : (k : Int) % 2 = 0 := by omega
                      have g2 : ((k % 2 : Nat) : Int) = 0 := by omega
                      obtain ⟨hho1, hho2⟩ := H_hhome.out j hm0 H_hidx.out
                      have hnF : ¬ F wo.heap.size := fun h => by have := H_hFlt.out _ h; omega
                      have e1 : w8.cell? ⟨wo.heap.size, 1, none⟩ = some (.int .i64 id) := by
                        rw [hT8.cell (p := ⟨wo.heap.size, 1, none⟩) (by first | exact z8 | simpa using z8) hnF]
                        first | exact e1 | simpa using e1
                      have hAW := H_hA7.out.keep hB8
                      have hA8 : OwnR EIn w8 wo.heap.size 3 (.slice oA all.length cA) all := own_kept hAW (fun b hb => hT8.block b (hAW.lt b hb).2 (fun h => by have := H_hFlt.out _ h; have := (hAW.lt b hb).1; omega))
                      have cM2 := mov_any ea bd next id par (j : Int) F8 _ _ w8 hS8.dok (H_hGw.out w8 (hB2.trans (hS8.bel.mono (Nat.le_of_lt z2)))) xi H_hparI.out H_hjI.out
                      have hwr : w8.heap.size ≥ wr.heap.size := hT8.size
                      clear hSt hho1
                      have H_hS8 := Lib.hid hS8
                      clear hS8
                      have H_hF8 := Lib.hid hF8
                      clear hF8
                      have H_hA8 := Lib.hid hA8
                      clear hA8
                      have H_cM2 := Lib.hid cM2
                      clear cM2
                      have H_hAW := Lib.hid hAW
                      clear hAW
                      go_wp2_with fail
                      refine H_cM2.out.mono ?_
                      rintro en w9 hM2
                      unfold MovIs at hM2
                      rw [if_pos (H_hhome.out j hm0 H_hidx.out).1, hho2] at hM2
                      obtain ⟨rfl, hSt9⟩ := hM2
                      obtain ⟨F9, hS9, hF9, hT9⟩ := H_hS8.out.turn (Below.refl _ _) hSt9
                      have hA9 : OwnR EIn w9 wo.heap.size 3 (.slice oA all.length cA) all := own_kept H_hA8.out (fun b hb => hT9.block b (H_hA8.out.lt b hb).2 (fun h => by
                        rcases H_hF8.out b h with h' | h'
                        · have := H_hFlt.out _ h'; have := (H_hA8.out.lt b hb).1; omega
                        · have := (H_hAW.out.lt b hb).2
                          have h2 : wr.heap.size ≤ b := h'
                          omega))
                      have cA2 := all_any bd next F9 E _ w9 hS9.dok
                      rw [H_hall.out] at cA2
                      clear hSt9 hF9 hT9 hho2
                      have H_hS9 := Lib.hid hS9
                      clear hS9
                      have H_hA9 := Lib.hid hA9
                      clear hA9
                      have H_cA2 := Lib.hid cA2
                      clear cA2
                      go_wp2_with fail
                      refine H_cA2.out.mono ?_
                      rintro _ w10 ⟨v10, rfl, hA10, hb10⟩
                      obtain ⟨oB, lB, cB, rfl, hsB⟩ := OwnQ.sl (.inl hA10)
                      obtain rfl : lB = all.length := hsB.1
                      have cS := fun (W : World) (hb : Below w10.heap.size w10 W) => sameints_eq oB oA all.length cB cA all W (hsB.keep hb rfl) (own_sla ((H_hA9.out.keep hb10).keep hb)) H_hAl.out
                      clear hsB hA10
                      have H_cS := Lib.hid cS
                      clear cS
                      go_wp2_with fail
                      refine (H_cS.out _ (by repeat' (first | (with_reducible first | exact bwR _ _ | assumption | refine bdn ?_ | refine bwA ?_ ?_ _ | refine bwD ?_ | refine bwS ?_ ?_ _) | omega | (simp <;> omega)))).mono ?_
                      rintro _ w11 ⟨rfl, hb11⟩
                      have hS11 := H_hS9.out.keep (below_via hb10 hb11)
                      clear hb10 hb11
                      have H_hS11 := Lib.hid hS11
                      clear hS11
                      go_wp2_with fail
                      go_roundw
                      case rel => exact ⟨k + 1, _, next, _, F9, by omega, by go_num, H_hS11⟩
                      case measure => simp [intOf]; omega
                    · have g1 : ¬ (k : Int) % 2 = 0 := by omega
                      have g2 : ¬ ((k % 2 : Nat) : Int) = 0 := by omega
                      have hS11 := hS8.keep (Below.refl _ _)
                      clear hS8 hF8 hT8 hSt
                      have H_hS11 := Lib.hid hS11
                      clear hS11
                      go_wp2_with fail
                      go_roundw
                      case rel => exact ⟨k + 1, _, next, _, F8, by omega, by go_num, H_hS11⟩
                      case measure => simp [intOf]; omega
                  · rw [if_neg hm0] at hM
                    obtain ⟨rfl, hSt⟩ := hM
                    obtain ⟨F8, hS8, hF8, hT8⟩ := H_S.out.turn (by repeat' (first | (with_reducible first | exact bwR _ _ | assumption | refine bdn ?_ | refine bwA ?_ ?_ _ | refine bwD ?_ | refine bwS ?_ ?_ _) | omega | (simp <;> omega))) hSt
                    have hS11 := hS8.keep (Below.refl _ _)
                    clear hS8 hF8 hT8 hSt
                    have H_hS11 := Lib.hid hS11
                    clear hS11
                    go_wp2_with fail
                    go_roundw
                    case rel => exact ⟨k + 1, _, next, _, F8, by omega, by go_num, H_hS11⟩
                    case measure => simp [intOf]; omega
              · obtain ⟨y, hy⟩ : ∃ y, ks[j] = y := ⟨_, rfl⟩
                have hnext : ∀ i, i < j + 1 → ∀ h : i < ks.length, (ks[i] : Int) ≠ id := fun i hi h => by
                  rcases Nat.lt_or_ge i j with h' | h'
                  · exact H_scan.out i h' h
                  · obtain rfl : i = j := by omega
                    exact hxe
                rw [hy] at r0 hxe
                have hne : ((y : Int) != id) = true := by simp; exact hxe
                clear hra hy
                have H_hnext := Lib.hid hnext
                clear hnext
                go_wp2_with fail
                go_region
                all_goals
                  go_wp2_with fail
                  go_roundw
                  case rel => exact ⟨j + 1, by omega, by go_num, H_hnext, by repeat' (first | (with_reducible first | exact bwR _ _ | assumption | refine bdn ?_ | refine bwA ?_ ?_ _ | refine bwD ?_ | refine bwS ?_ ?_ _) | omega | (simp <;> omega))⟩
                  case measure => simp [intOf]; omega
            · obtain rfl : j = lK := by omega
              have hstop : ∀ h : j < ks.length, (ks[j] : Int) = id := fun h => absurd h (by rw [← H_hsK.out.1]; omega)
              go_wp2_with fail
              go_region
              all_goals
                have hB8o : Below wo.heap.size wo wr := hB7.trans (hB8.mono (Nat.le_of_lt z7))
                have z8 : wo.heap.size < wr.heap.size := Nat.lt_of_lt_of_le z7 hB8.size
                have e1 : wr.cell? ⟨wo.heap.size, 1, none⟩ = some (.int .i64 id) := (hB8.cell (p := ⟨wo.heap.size, 1, none⟩) z7).trans e1
                have e2 : wr.cell? ⟨wo.heap.size, 2, none⟩ = some (.int .i64 to) := (hB8.cell (p := ⟨wo.heap.size, 2, none⟩) z7).trans e2
                have e3 : wr.cell? ⟨wo.heap.size, 3, none⟩ = some (.int .i64 at') := (hB8.cell (p := ⟨wo.heap.size, 3, none⟩) z7).trans e3
                have hidx : ∀ a : Nat, id = (a : Int) → a ∈ ks → j = ks.idxOf a := fun a hia hk => by
                  subst hia
                  exact scan_idx H_scan.out (by rw [← H_hsK.out.1]; exact hj) hstop hk
                have hjI : I64 (j : Int) := i64_nat (by omega)
                have H_hidx := Lib.hid hidx
                clear hidx
                have H_hstop := Lib.hid hstop
                clear hstop
                have H_hjI := Lib.hid hjI
                clear hjI
                go_wp2_with fail
                refine (H_cM.out _ (by repeat' (first | (with_reducible first | exact bwR _ _ | assumption | refine bdn ?_ | refine bwA ?_ ?_ _ | refine bwD ?_ | refine bwS ?_ ?_ _) | omega | (simp <;> omega)))).mono ?_
                rintro en w8 hM
                unfold MovIs at hM
                rw [H_hpar.out] at hM
                by_cases hm0 : movC E d id to at' = 0
                · rw [if_pos hm0] at hM
                  obtain ⟨rfl, hSt⟩ := hM
                  obtain ⟨F8, hS8, hF8, hT8⟩ := H_S.out.turn (by repeat' (first | (with_reducible first | exact bwR _ _ | assumption | refine bdn ?_ | refine bwA ?_ ?_ _ | refine bwD ?_ | refine bwS ?_ ?_ _) | omega | (simp <;> omega))) hSt
                  by_cases hev : k % 2 = 0
                  · have g1 : (k : Int) % 2 = 0 := by omega
                    have g2 : ((k % 2 : Nat) : Int) = 0 := by omega
                    obtain ⟨hho1, hho2⟩ := H_hhome.out j hm0 H_hidx.out
                    have hnF : ¬ F wo.heap.size := fun h => by have := H_hFlt.out _ h; omega
                    have e1 : w8.cell? ⟨wo.heap.size, 1, none⟩ = some (.int .i64 id) := by
                      rw [hT8.cell (p := ⟨wo.heap.size, 1, none⟩) (by first | exact z8 | simpa using z8) hnF]
                      first | exact e1 | simpa using e1
                    have hAW := H_hA7.out.keep hB8
                    have hA8 : OwnR EIn w8 wo.heap.size 3 (.slice oA all.length cA) all := own_kept hAW (fun b hb => hT8.block b (hAW.lt b hb).2 (fun h => by have := H_hFlt.out _ h; have := (hAW.lt b hb).1; omega))
                    have cM2 := mov_any ea bd next id par (j : Int) F8 _ _ w8 hS8.dok (H_hGw.out w8 (hB2.trans (hS8.bel.mono (Nat.le_of_lt z2)))) xi H_hparI.out H_hjI.out
                    have hwr : w8.heap.size ≥ wr.heap.size := hT8.size
                    clear hSt hho1
                    have H_hS8 := Lib.hid hS8
                    clear hS8
                    have H_hF8 := Lib.hid hF8
                    clear hF8
                    have H_hA8 := Lib.hid hA8
                    clear hA8
                    have H_cM2 := Lib.hid cM2
                    clear cM2
                    have H_hAW := Lib.hid hAW
                    clear hAW
                    go_wp2_with fail
                    refine H_cM2.out.mono ?_
                    rintro en w9 hM2
                    unfold MovIs at hM2
                    rw [if_pos (H_hhome.out j hm0 H_hidx.out).1, hho2] at hM2
                    obtain ⟨rfl, hSt9⟩ := hM2
                    obtain ⟨F9, hS9, hF9, hT9⟩ := H_hS8.out.turn (Below.refl _ _) hSt9
                    have hA9 : OwnR EIn w9 wo.heap.size 3 (.slice oA all.length cA) all := own_kept H_hA8.out (fun b hb => hT9.block b (H_hA8.out.lt b hb).2 (fun h => by
                      rcases H_hF8.out b h with h' | h'
                      · have := H_hFlt.out _ h'; have := (H_hA8.out.lt b hb).1; omega
                      · have := (H_hAW.out.lt b hb).2
                        have h2 : wr.heap.size ≤ b := h'
                        omega))
                    have cA2 := all_any bd next F9 E _ w9 hS9.dok
                    rw [H_hall.out] at cA2
                    clear hSt9 hF9 hT9 hho2
                    have H_hS9 := Lib.hid hS9
                    clear hS9
                    have H_hA9 := Lib.hid hA9
                    clear hA9
                    have H_cA2 := Lib.hid cA2
                    clear cA2
                    go_wp2_with fail
                    refine H_cA2.out.mono ?_
                    rintro _ w10 ⟨v10, rfl, hA10, hb10⟩
                    obtain ⟨oB, lB, cB, rfl, hsB⟩ := OwnQ.sl (.inl hA10)
                    obtain rfl : lB = all.length := hsB.1
                    have cS := fun (W : World) (hb : Below w10.heap.size w10 W) => sameints_eq oB oA all.length cB cA all W (hsB.keep hb rfl) (own_sla ((H_hA9.out.keep hb10).keep hb)) H_hAl.out
                    clear hsB hA10
                    have H_cS := Lib.hid cS
                    clear cS
                    go_wp2_with fail
                    refine (H_cS.out _ (by repeat' (first | (with_reducible first | exact bwR _ _ | assumption | refine bdn ?_ | refine bwA ?_ ?_ _ | refine bwD ?_ | refine bwS ?_ ?_ _) | omega | (simp <;> omega)))).mono ?_
                    rintro _ w11 ⟨rfl, hb11⟩
                    have hS11 := H_hS9.out.keep (below_via hb10 hb11)
                    clear hb10 hb11
                    have H_hS11 := Lib.hid hS11
                    clear hS11
                    go_wp2_with fail
                    go_roundw
                    case rel => exact ⟨k + 1, _, next, _, F9, by omega, by go_num, H_hS11⟩
                    case measure => simp [intOf]; omega
                  · have g1 : ¬ (k : Int) % 2 = 0 := by omega
                    have g2 : ¬ ((k % 2 : Nat) : Int) = 0 := by omega
                    have hS11 := hS8.keep (Below.refl _ _)
                    clear hS8 hF8 hT8 hSt
                    have H_hS11 := Lib.hid hS11
                    clear hS11
                    go_wp2_with fail
                    go_roundw
                    case rel => exact ⟨k + 1, _, next, _, F8, by omega, by go_num, H_hS11⟩
                    case measure => simp [intOf]; omega
                · rw [if_neg hm0] at hM
                  obtain ⟨rfl, hSt⟩ := hM
                  obtain ⟨F8, hS8, hF8, hT8⟩ := H_S.out.turn (by repeat' (first | (with_reducible first | exact bwR _ _ | assumption | refine bdn ?_ | refine bwA ?_ ?_ _ | refine bwD ?_ | refine bwS ?_ ?_ _) | omega | (simp <;> omega))) hSt
                  have hS11 := hS8.keep (Below.refl _ _)
                  clear hS8 hF8 hT8 hSt
                  have H_hS11 := Lib.hid hS11
                  clear hS11
                  go_wp2_with fail
                  go_roundw
                  case rel => exact ⟨k + 1, _, next, _, F8, by omega, by go_num, H_hS11⟩
                  case measure => simp [intOf]; omega
    · obtain rfl : k = len := by omega
      clear H_hai H_hG H_ha
      have hD := H_S.out.dok
      have hBw : Below w.heap.size w wr := hB2.trans (H_S.out.bel.mono (Nat.le_of_lt z2))
      have cAl := all_any bd next F E d wr hD
      have cC := fun (W : World) (hb : Below wr.heap.size wr W) => count_any bd next F E d W (hD.keep hb)
      have cP := fun (z : Int) (hz : I64 z) (W : World) (hb : Below wr.heap.size wr W) => parent_any bd next z F E d W (hD.keep hb) hz
      have cK := fun (z : Int) (hz : I64 z) (W : World) (hb : Below wr.heap.size wr W) => kids_any bd next z F E d W (hD.keep hb) hz
      have hgood := hD.good
      have hbig := hD.big
      have hEl := hD.len
      have hEl0 := hD.len
      obtain ⟨r, hr1, hr2, hr3⟩ := hgood.all_list
      obtain ⟨e0, he0, hp0⟩ := hgood.root
      have hpar0 : parZ E ((0 : Nat) : Int) = -1 := (parZ_nat he0).trans hp0
      have cP0 := cP 0 (by unfold I64; omega)
      rw [show (0 : Int) = ((0 : Nat) : Int) from rfl, hpar0] at cP0
      generalize below E 10 0 = all at cAl hr1
      have hNl : E.length = all.length := by rw [hr1, List.length_cons]; exact hr2.symm
      have hall : ∀ i, 1 ≤ i → ∀ h : i < all.length, all[i] ≠ 0 ∧ ∃ e, elAt E all[i] = some e := fun i hi h => by
        have hm : all[i] ∈ r := by
          simp only [hr1]
          rw [List.getElem_cons, dif_neg (by omega)]
          exact List.getElem_mem _
        exact hr3 _ hm
      have hall0 : ∀ h : 0 < all.length, all[0] = 0 := fun h => by simp only [hr1]; rfl
      have hNp : 0 < all.length := by rw [hr1]; simp
      rw [hNl] at cC hEl
      clear hD hr1 hr2 hr3 hNl he0 hp0
      have hN0 : ((all.length : Int) == 0) = false := by simp; intro h; rw [h] at hNp; simp at hNp
      have H_cAl := Lib.hid cAl
      clear cAl
      have H_cC := Lib.hid cC
      clear cC
      have H_cP := Lib.hid cP
      clear cP
      have H_cK := Lib.hid cK
      clear cK
      have H_cP0 := Lib.hid cP0
      clear cP0
      have H_hgood := Lib.hid hgood
      clear hgood
      have H_hall := Lib.hid hall
      clear hall
      have H_hall0 := Lib.hid hall0
      clear hall0
      go_wp2_with fail
      refine H_cAl.out.mono ?_
      rintro _ w5 ⟨v5, rfl, hA5, hb5⟩
      obtain ⟨gA, cA, rfl, hg1, hg2, _, _, hrow⟩ := hA5.form.resolve_left (fun h => by rw [h.2] at hNp; simp at hNp)
      have z5 := hb5.size
      have hx0 : w5.cell? ⟨gA, 0, none⟩ = some (.int .i64 0) := by
        have h := hrow 0 hNp 0 _ rfl
        rw [H_hall0.out hNp] at h
        exact h
      clear hA5
      have H_hrow := Lib.hid hrow
      clear hrow
      obtain ⟨ws, hws⟩ : ∃ u, u = wr := ⟨_, rfl⟩
      subst hws
      go_wp2_with fail
      refine (H_cC.out _ (by repeat' (first | (with_reducible first | exact bwR _ _ | assumption | refine bdn ?_ | refine bwA ?_ ?_ _ | refine bwD ?_ | refine bwS ?_ ?_ _) | omega | (simp <;> omega)))).mono ?_
      rintro _ w6 ⟨rfl, hb6⟩
      have hB6 : Below w5.heap.size w5 w6 := hb6
      have hB6s : Below ws.heap.size ws w6 := hb5.trans (hb6.mono z5)
      have hx0 : w6.cell? ⟨gA, 0, none⟩ = some (.int .i64 0) := (hb6.cell (p := ⟨gA, 0, none⟩) hg2).trans hx0
      have z6 : gA < w6.heap.size := Nat.lt_of_lt_of_le hg2 hb6.size
      clear hb6
      go_wp2_with fail
      refine (H_cP0.out _ (by repeat' (first | (with_reducible first | exact bwR _ _ | assumption | refine bdn ?_ | refine bwA ?_ ?_ _ | refine bwD ?_ | refine bwS ?_ ?_ _) | omega | (simp <;> omega)))).mono ?_
      rintro _ w7 ⟨rfl, hb7⟩
      have hB7 : Below w5.heap.size w5 w7 := below_via (by repeat' (first | (with_reducible first | exact bwR _ _ | assumption | refine bdn ?_ | refine bwA ?_ ?_ _ | refine bwD ?_ | refine bwS ?_ ?_ _) | omega | (simp <;> omega))) hb7
      have hws7 : ∀ W, Below w5.heap.size w5 W → Below ws.heap.size ws W := fun W h => hb5.trans (h.mono z5)
      clear hb7 hB6 hB6s z6 hx0 H_cC H_cP0 H_cAl
      clear hx0
      clear w6
      have H_hws7 := Lib.hid hws7
      clear hws7
      go_wp2_with fail
      go_loopw [16] (fun t16 wr => ∃ i : Nat, 1 ≤ i ∧ i ≤ all.length ∧ t16 = .int .i64 i ∧ Below w5.heap.size w5 wr) (fun t16 _ => all.length - (intOf t16).toNat)
      case atStart => exact ⟨1, Nat.le_refl _, hNp, rfl, by repeat' (first | (with_reducible first | exact bwR _ _ | assumption | refine bdn ?_ | refine bwA ?_ ?_ _ | refine bwD ?_ | refine bwS ?_ ?_ _) | omega | (simp <;> omega))⟩
      case round =>
        obtain ⟨i, hi1, hi2, rfl, hBi⟩ := hrel
        by_cases hil : i < all.length
        · obtain ⟨x0, ex, hex⟩ := H_hall.out i hi1 hil
          have q0 : wr.cell? ⟨gA, i, none⟩ = some (.int .i64 (all[i] : Int)) := by
            have h : wr.cell? ⟨gA, 0 + i * 1 + 0, none⟩ = some (.int .i64 (all[i] : Int)) := (H_hrow.out.keep hBi hg2) i hil 0 _ rfl
            simpa using h
          obtain ⟨x, hx⟩ : ∃ x, all[i] = x := ⟨_, rfl⟩
          rw [hx] at q0 x0 hex
          clear hx
          obtain ⟨p, pe, hp, hpe, hk⟩ := H_hgood.out.up x ex hex x0
          have hxI : I64 (x : Int) := i64_nat (by have := H_hgood.out.lt x ex hex; omega)
          have hpI : I64 (p : Int) := i64_nat (by have := H_hgood.out.lt p pe hpe; omega)
          have cPx := H_cP.out (x : Int) hxI
          rw [parZ_nat hex, hp] at cPx
          have cKp := H_cK.out (p : Int) hpI
          rw [kidsZ_nat hpe] at cKp
          have hcnt := cnt_one (H_hgood.out.nd p pe hpe) hk
          have hdx := H_hgood.out.dm x ex hex
          have hkl : pe.kids.length ≤ 1000000 := by exact Nat.le_trans (H_hgood.out.kids_len hpe) hEl0
          clear hp hpe hk
          obtain ⟨ks, hks⟩ : ∃ u, pe.kids = u := ⟨_, rfl⟩
          rw [hks] at cKp hcnt hkl
          clear hks
          have H_cPx := Lib.hid cPx
          clear cPx
          have H_cKp := Lib.hid cKp
          clear cKp
          have H_hcnt := Lib.hid hcnt
          clear hcnt
          have H_hdx := Lib.hid hdx
          clear hdx
          have H_hex := Lib.hid hex
          clear hex
          obtain ⟨wo, rfl⟩ : ∃ u, u = wr := ⟨_, rfl⟩
          go_wp2_with fail
          refine (H_cPx.out _ (H_hws7.out _ (by repeat' (first | (with_reducible first | exact bwR _ _ | assumption | refine bdn ?_ | refine bwA ?_ ?_ _ | refine bwD ?_ | refine bwS ?_ ?_ _) | omega | (simp <;> omega))))).mono ?_
          rintro _ w8 ⟨rfl, hb8⟩
          have hB8 : Below w5.heap.size w5 w8 := below_via (by repeat' (first | (with_reducible first | exact bwR _ _ | assumption | refine bdn ?_ | refine bwA ?_ ?_ _ | refine bwD ?_ | refine bwS ?_ ?_ _) | omega | (simp <;> omega))) hb8
          clear hb8
          go_wp2_with fail
          refine (H_cKp.out _ (H_hws7.out _ (by repeat' (first | (with_reducible first | exact bwR _ _ | assumption | refine bdn ?_ | refine bwA ?_ ?_ _ | refine bwD ?_ | refine bwS ?_ ?_ _) | omega | (simp <;> omega))))).mono ?_
          rintro _ w9 ⟨v9, rfl, hK9, hb9⟩
          obtain ⟨oK, lK, cK9, rfl, hsK⟩ := OwnQ.sl (.inl hK9)
          have hB9 : Below w5.heap.size w5 w9 := below_via hB8 hb9
          have z9 := hB9.size
          have hlK : lK ≤ 1000000 := by have := hsK.1; omega
          clear hb9 hK9 hB8
          clear w8
          have H_hsK := Lib.hid hsK
          clear hsK
          go_wp2_with fail
          go_loopw [18, 19] (fun t18 t19 wr => ∃ j c : Nat, j ≤ lK ∧ t19 = .int .i64 j ∧ c ≤ j ∧ t18 = .int .i64 c ∧ RowKit.Hid ((ks.take j).count x = c) ∧ Below w9.heap.size w9 wr) (fun _ t19 _ => lK - (intOf t19).toNat)
          case atStart => exact ⟨0, 0, Nat.zero_le _, rfl, Nat.le_refl _, rfl, rfl, by repeat' (first | (with_reducible first | exact bwR _ _ | assumption | refine bdn ?_ | refine bwA ?_ ?_ _ | refine bwD ?_ | refine bwS ?_ ?_ _) | omega | (simp <;> omega))⟩
          case round =>
            obtain ⟨j, c, hj, rfl, hcj, rfl, H_c, hBj⟩ := hrel
            have hB5j : Below w5.heap.size w5 wr := hB9.trans (hBj.mono z9)
            have q0 : wr.cell? ⟨gA, i, none⟩ = some (.int .i64 (x : Int)) := fl_cell hBi hB5j hg2 q0
            by_cases hjl : j < lK
            · have hjk : j < ks.length := by rw [← H_hsK.out.1]; exact hjl
              obtain ⟨gb, off, rfl, hgl, hra⟩ := H_hsK.out.2.2.2.resolve_left (by intro h; rw [h] at hjk; simp at hjk)
              have r0 : wr.cell? ⟨gb, off + j, none⟩ = some (.int .i64 (ks[j] : Int)) := by
                have h := (hra.keep hBj hgl) j hjk 0 _ rfl
                simpa [EIn] using h
              have hct := cnt_takeN (x := x) hjk
              rw [H_c.out] at hct
              by_cases hxe : ks[j] = x
              · rw [if_pos hxe] at hct
                rw [hxe] at r0
                have exx : ((x : Int) == x) = true := by simp
                clear hxe hra
                have H_hct := Lib.hid hct
                clear hct
                go_wp2_with fail
                go_region
                all_goals
                  go_wp2_with fail
                  go_roundw
                  case rel => exact ⟨j + 1, c + 1, by omega, by go_num, by omega, by go_num, H_hct, by repeat' (first | (with_reducible first | exact bwR _ _ | assumption | refine bdn ?_ | refine bwA ?_ ?_ _ | refine bwD ?_ | refine bwS ?_ ?_ _) | omega | (simp <;> omega))⟩
                  case measure => simp [intOf]; omega
              · rw [if_neg hxe] at hct
                obtain ⟨y, hy⟩ : ∃ y, ks[j] = y := ⟨_, rfl⟩
                rw [hy] at r0 hxe
                have exx : ((y : Int) == x) = false := by simp; omega
                clear hxe hra hy
                have H_hct := Lib.hid hct
                clear hct
                go_wp2_with fail
                go_region
                all_goals
                  go_wp2_with fail
                  go_roundw
                  case rel => exact ⟨j + 1, c, by omega, by go_num, by omega, rfl, H_hct, by repeat' (first | (with_reducible first | exact bwR _ _ | assumption | refine bdn ?_ | refine bwA ?_ ?_ _ | refine bwD ?_ | refine bwS ?_ ?_ _) | omega | (simp <;> omega))⟩
                  case measure => simp [intOf]; omega
            · obtain rfl : j = lK := by omega
              have hc1 : c = 1 := by
                rw [← H_c.out, List.take_of_length_le (by rw [← H_hsK.out.1]; exact Nat.le_refl _)]
                exact H_hcnt.out
              have gc : ((c : Int) != 1) = false := by rw [hc1]; rfl
              clear H_c hc1
              obtain ⟨wq, rfl⟩ : ∃ u, u = wr := ⟨_, rfl⟩
              go_wp2_with fail
              go_loopw [20, 21] (fun t20 t21 wr => ∃ y dp : Nat, RowKit.Hid (∃ ey, elAt E y = some ey) ∧ t21 = .int .i64 y ∧ t20 = .int .i64 dp ∧ RowKit.Hid (dp + d y = d x) ∧ Below w5.heap.size w5 wr) (fun _ t21 _ => d (intOf t21).toNat)
              case atStart => exact ⟨x, 0, ⟨_, H_hex.out⟩, rfl, rfl, Nat.zero_add _, by repeat' (first | (with_reducible first | exact bwR _ _ | assumption | refine bdn ?_ | refine bwA ?_ ?_ _ | refine bwD ?_ | refine bwS ?_ ?_ _) | omega | (simp <;> omega))⟩
              case round =>
                obtain ⟨y, dp, H_y, rfl, rfl, H_dp, hBy⟩ := hrel
                have hdp := H_dp.out
                have hdx2 := H_hdx.out
                obtain ⟨ey, hey⟩ := H_y.out
                by_cases hy0 : y = 0
                · subst hy0
                  have hd0 := H_hgood.out.d0
                  have hdp9 : dp ≤ 9 := by omega
                  have gdp : ¬ (10 : Int) ≤ (dp : Int) := by omega
                  clear hdp hdx2 hd0 hey H_y H_dp
                  go_wp2_with fail
                  go_roundw
                  case rel => exact ⟨i + 1, by omega, by omega, by go_num, by repeat' (first | (with_reducible first | exact bwR _ _ | assumption | refine bdn ?_ | refine bwA ?_ ?_ _ | refine bwD ?_ | refine bwS ?_ ?_ _) | omega | (simp <;> omega))⟩
                  case measure => simp [intOf]; omega
                · obtain ⟨p2, pe2, h1, h2, h3⟩ := up_step H_hgood.out hey hy0
                  have cPy := H_cP.out (y : Int) (i64_nat (by have := H_hgood.out.lt y ey hey; omega))
                  rw [h1] at cPy
                  have g1 : (0 : Int) < (y : Int) := by omega
                  have hdp9 : dp ≤ 9 := by omega
                  have g2 : (dp : Int) ≤ 10 := by omega
                  have hnx : (dp + 1) + d p2 = d x := by omega
                  have hlt2 : d p2 < d y := by omega
                  clear hdp hdx2 hey H_y H_dp h1 h3
                  have H_cPy := Lib.hid cPy
                  clear cPy
                  have H_hnx := Lib.hid hnx
                  clear hnx
                  have H_hlt2 := Lib.hid hlt2
                  clear hlt2
                  have H_h2 := Lib.hid h2
                  clear h2
                  obtain ⟨wz, rfl⟩ : ∃ u, u = wr := ⟨_, rfl⟩
                  go_wp2_with fail
                  refine (H_cPy.out _ (H_hws7.out _ (by repeat' (first | (with_reducible first | exact bwR _ _ | assumption | refine bdn ?_ | refine bwA ?_ ?_ _ | refine bwD ?_ | refine bwS ?_ ?_ _) | omega | (simp <;> omega))))).mono ?_
                  rintro _ w12 ⟨rfl, hb12⟩
                  have hB12 : Below w5.heap.size w5 w12 := below_via hBy hb12
                  clear hb12
                  go_wp2_with fail
                  go_roundw
                  case rel => exact ⟨p2, dp + 1, ⟨_, H_h2.out⟩, rfl, by go_num, H_hnx, by repeat' (first | (with_reducible first | exact bwR _ _ | assumption | refine bdn ?_ | refine bwA ?_ ?_ _ | refine bwD ?_ | refine bwS ?_ ?_ _) | omega | (simp <;> omega))⟩
                  case measure => simp [intOf]; exact H_hlt2.out
        · obtain rfl : i = all.length := by omega
          have hBe : Below w.heap.size w wr := hBw.trans ((H_hws7.out _ hBi).mono hBw.size)
          go_wp2_with fail
          go_returns
          exact ⟨rfl, by repeat' (first | (with_reducible first | exact bwR _ _ | assumption | refine bdn ?_ | refine bwA ?_ ?_ _ | refine bwD ?_ | refine bwS ?_ ?_ _) | omega | (simp <;> omega))⟩
end Go.Proofs.YtccojeglidbpoaaDoor
