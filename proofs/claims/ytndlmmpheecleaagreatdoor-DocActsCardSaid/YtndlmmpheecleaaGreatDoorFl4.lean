/-
  Walks over the statements' helpers: FlatsOf, its bounds told.
-/
import Derived.Test.YtndlmmpheecleaaGreatDoorFz
namespace Go.Proofs.YtndlmmpheecleaaGreatDoor
open Go.RowKit Go.WideMaps Go.Maps Lead Lead.Dc
/-- A flat within the law's bounds. -/
def FlOk (x : FlX) : Prop := x.nm.size ≤ 100 ∧ x.ats.length ≤ 20 ∧ ∀ a ∈ x.ats, a.1.size ≤ 100 ∧ a.2.size ≤ 300
def FlatsRet2 (w : World) (L : List FlatV) (en : Ending) (w' : World) : Prop := ∃ o l c, en = .returned (.slice o l c) ∧ l ≤ 150 ∧ Below w.heap.size w w' ∧ (l = 0 ∨ ∃ xs, SlA EFl w' o l c xs ∧ (∀ x ∈ xs, SlA EAt w x.ao x.al x.ac x.ats) ∧ xs.map fv = L ∧ ∀ x ∈ xs, FlOk x)
set_option maxHeartbeats 4000000 in
set_option maxRecDepth 100000 in
theorem flatsof2_any (n : NT) (w : World) (hn : NodeOk w n) :
    Calls Tryz.prog 6 #[.agg n.vals.toArray] w (FlatsRet2 w (allF n.rt (-1) 1 0)) := by
  obtain ⟨ao, al, ac, ko, kl, kc, hv, _⟩ := hn.attrsAt
  have hcall := flats_any w (SizeOf.sizeOf n + 1) n (.slice none 0 0) [] (-1) 1 (w.alloc (.cells n.vals.toArray 25)) (Nat.lt_succ_self _) (OwnR.nil _ _ _ _) (by decide) (fun x hx => by cases hx) (fun b hb => by cases hb) (by decide) ((Below.refl _ _).alloc (Nat.le_refl _) _) hn
  rw [hv] at hcall ⊢
  obtain ⟨nk, hnk⟩ : ∃ u, n.name = u := ⟨_, rfl⟩
  rw [hnk] at hcall ⊢
  clear hv hn hnk
  have H_hcall := Lib.hid hcall
  clear hcall
  go_enter Tryz.func6, Tryz.ntmps6
  go_wp2_with fail
  refine H_hcall.out.mono ?_
  rintro en w1 ⟨o, l, c, rfl, hl, hcase, hT⟩
  have hB0 : Below w.heap.size w w1 := below_via (by repeat' (first | (with_reducible first | exact bwR _ _ | assumption | refine bdn ?_ | refine bwA ?_ ?_ _ | refine bwD ?_ | refine bwS ?_ ?_ _) | omega | (simp <;> omega))) (hT.below (Nat.le_refl _) (fun b hb => by cases hb))
  have t1 := hB0.size
  clear hT
  by_cases h150 : 150 < l
  · have g3 : (150 : Int) < (l : Int) := by omega
    clear hcase
    go_wp2_with fail
    go_returns
    exact ⟨_, _, _, rfl, by decide, by repeat' (first | (with_reducible first | exact bwR _ _ | assumption | refine bdn ?_ | refine bwA ?_ ?_ _ | refine bwD ?_ | refine bwS ?_ ?_ _) | omega | (simp <;> omega)), .inl rfl⟩
  · have g3 : ¬ (150 : Int) < (l : Int) := by omega
    obtain ⟨xs, hu1, hu2, hu3, _, hu5⟩ := hcase.resolve_left h150
    have hsla := own_sla hu1
    clear hcase
    have hrow : ∀ k, k < l → ∃ g, o = some ⟨g, 0, none⟩ ∧ g < w1.heap.size ∧ RowIn EFl w1 g 0 xs := by
      intro k hk
      rcases hu1.form with ⟨h, h'⟩ | ⟨g, cap, h, h1, h2, _, _, h3⟩
      · rw [h'] at hu2; simp at hu2; omega
      · injection h with h4 h5 h6
        exact ⟨g, h4, h2, h3⟩
    clear hu1
    have H_hu3 := Lib.hid hu3
    clear hu3
    have H_hrow := Lib.hid hrow
    clear hrow
    have H_hsla := Lib.hid hsla
    clear hsla
    have H_hu5 := Lib.hid hu5
    clear hu5
    go_wp2_with fail
    go_loopw [4, 5, 6] (fun t4 t5 t6 wr => ∃ k s : Nat, k ≤ l ∧ t5 = .int .i64 k ∧ s ≤ 4000 ∧ t4 = .int .i64 s ∧ Below w1.heap.size w1 wr ∧ RowKit.Hid (∀ i (h : i < xs.length), i < k → FlOk xs[i])) (fun _ t5 _ _ => l - (intOf t5).toNat)
    case atStart => exact ⟨0, 0, Nat.zero_le _, rfl, by decide, rfl, by repeat' (first | (with_reducible first | exact bwR _ _ | assumption | refine bdn ?_ | refine bwA ?_ ?_ _ | refine bwD ?_ | refine bwS ?_ ?_ _) | omega | (simp <;> omega)), Lib.hid (fun i _ hi => absurd hi (Nat.not_lt_zero _))⟩
    case round =>
      obtain ⟨k, s, hk, rfl, hs, rfl, hB, H_K⟩ := hrel
      have hBw : Below w.heap.size w wr := hB0.trans (hB.mono t1)
      by_cases hlt : k < l
      · have hk' : k < xs.length := by omega
        obtain ⟨g, rfl, hgl, hr⟩ := H_hrow.out k hlt
        have hsl := H_hu3.out _ (List.getElem_mem hk')
        have hcell := fun (q : Nat) (v : Value) (hq : (EFl.enc xs[k])[q]? = some v) => (hr.keep hB hgl) k hk' q v hq
        obtain ⟨x, hx⟩ : ∃ x, xs[k] = x := ⟨_, rfl⟩
        rw [hx] at hcell hsl
        clear hr
        obtain ⟨nm, ao', al', ac', ats, par, dp⟩ := x
        have H_hx := Lib.hid hx
        clear hx
        have q0 : wr.cell? ⟨g, k * 4, none⟩ = some (.string nm) := by
          have h : wr.cell? ⟨g, 0 + k * 4 + 0, none⟩ = some (.string nm) := hcell 0 _ rfl
          simpa using h
        have q1 : wr.cell? ⟨g, k * 4 + 1, none⟩ = some (.slice ao' al' ac') := by
          have h : wr.cell? ⟨g, 0 + k * 4 + 1, none⟩ = some (.slice ao' al' ac') := hcell 1 _ rfl
          simpa using h
        clear hcell
        by_cases hn1 : 100 < nm.size
        · have g4 : (100 : Int) < (nm.size : Int) := by omega
          go_wp2_with fail
          go_returns
          exact ⟨_, _, _, rfl, by decide, by repeat' (first | (with_reducible first | exact bwR _ _ | assumption | refine bdn ?_ | refine bwA ?_ ?_ _ | refine bwD ?_ | refine bwS ?_ ?_ _) | omega | (simp <;> omega)), .inl rfl⟩
        · have g4 : ¬ (100 : Int) < (nm.size : Int) := by omega
          by_cases hn2 : 20 < al'
          · have g5 : (20 : Int) < (al' : Int) := by omega
            go_wp2_with fail
            go_returns
            exact ⟨_, _, _, rfl, by decide, by repeat' (first | (with_reducible first | exact bwR _ _ | assumption | refine bdn ?_ | refine bwA ?_ ?_ _ | refine bwD ?_ | refine bwS ?_ ?_ _) | omega | (simp <;> omega)), .inl rfl⟩
          · have g5 : ¬ (20 : Int) < (al' : Int) := by omega
            have gs : IntKind.i64.wrap ((s : Int) + (nm.size : Int)) = ((s + nm.size : Nat) : Int) := IntWalk.i64_in _ (by omega)
            have hsl' : SlA EAt w ao' al' ac' ats := hsl
            clear hsl
            have H_hsl' := Lib.hid hsl'
            clear hsl'
            go_wp2_with fail
            obtain ⟨wo, rfl⟩ : ∃ u, u = wr := ⟨_, rfl⟩
            go_loopw [4, 6] (fun t4 t6 wr => ∃ j s2 : Nat, j ≤ al' ∧ t6 = .int .i64 j ∧ s2 ≤ 4100 + 400 * j ∧ t4 = .int .i64 s2 ∧ Below w1.heap.size w1 wr ∧ RowKit.Hid (∀ i (h : i < ats.length), i < j → ats[i].1.size ≤ 100 ∧ ats[i].2.size ≤ 300)) (fun _ t6 _ => al' - (intOf t6).toNat)
            case atStart => exact ⟨0, s + nm.size, Nat.zero_le _, rfl, by omega, by go_num, hB, Lib.hid (fun i _ hi => absurd hi (Nat.not_lt_zero _))⟩
            case round =>
              obtain ⟨j, s2, hj, rfl, hs2, rfl, hB2, H_J⟩ := hrel
              have hBw2 : Below w.heap.size w wr := hB0.trans (hB2.mono t1)
              have q0 : wr.cell? ⟨g, k * 4, none⟩ = some (.string nm) := fl_cell hB hB2 hgl q0
              have q1 : wr.cell? ⟨g, k * 4 + 1, none⟩ = some (.slice ao' al' ac') := fl_cell hB hB2 hgl q1
              by_cases hlj : j < al'
              · have hj' : j < ats.length := by have := H_hsl'.out.1; omega
                obtain ⟨b, off, rfl, hbw, hra⟩ := H_hsl'.out.2.2.2.resolve_left (by intro h; rw [h] at hj'; simp at hj')
                have hcell := fun (q : Nat) (v : Value) (hq : (EAt.enc ats[j])[q]? = some v) => (hra.keep (hB0.trans (hB2.mono t1)) hbw) j hj' q v hq
                have r0 : wr.cell? ⟨b, off + j * 2, none⟩ = some (.string ats[j].1) := hcell 0 _ rfl
                have r1 : wr.cell? ⟨b, off + j * 2 + 1, none⟩ = some (.string ats[j].2) := hcell 1 _ rfl
                obtain ⟨a1, ha1⟩ : ∃ x, ats[j].1 = x := ⟨_, rfl⟩
                obtain ⟨a2, ha2⟩ : ∃ x, ats[j].2 = x := ⟨_, rfl⟩
                rw [ha1] at r0
                rw [ha2] at r1
                clear hcell hra
                have H_ha1 := Lib.hid ha1
                clear ha1
                have H_ha2 := Lib.hid ha2
                clear ha2
                by_cases hx1 : 100 < a1.size
                · have g6 : (100 : Int) < (a1.size : Int) := by omega
                  go_wp2_with fail
                  go_returns
                  exact ⟨_, _, _, rfl, by decide, by repeat' (first | (with_reducible first | exact bwR _ _ | assumption | refine bdn ?_ | refine bwA ?_ ?_ _ | refine bwD ?_ | refine bwS ?_ ?_ _) | omega | (simp <;> omega)), .inl rfl⟩
                · have g6 : ¬ (100 : Int) < (a1.size : Int) := by omega
                  by_cases hx2 : 300 < a2.size
                  · have g7 : (300 : Int) < (a2.size : Int) := by omega
                    go_wp2_with fail
                    go_returns
                    exact ⟨_, _, _, rfl, by decide, by repeat' (first | (with_reducible first | exact bwR _ _ | assumption | refine bdn ?_ | refine bwA ?_ ?_ _ | refine bwD ?_ | refine bwS ?_ ?_ _) | omega | (simp <;> omega)), .inl rfl⟩
                  · have g7 : ¬ (300 : Int) < (a2.size : Int) := by omega
                    have hJ2 : ∀ i (h : i < ats.length), i < j + 1 → ats[i].1.size ≤ 100 ∧ ats[i].2.size ≤ 300 := fun i h hi => by
                      by_cases he : i = j
                      · subst he; rw [H_ha1.out, H_ha2.out]; omega
                      · exact H_J.out i h (by omega)
                    have H_hJ2 := Lib.hid hJ2
                    clear hJ2
                    have gs1 : IntKind.i64.wrap ((s2 : Int) + (a1.size : Int)) = ((s2 + a1.size : Nat) : Int) := IntWalk.i64_in _ (by omega)
                    have gs2 : IntKind.i64.wrap (((s2 + a1.size : Nat) : Int) + (a2.size : Int)) = ((s2 + a1.size + a2.size : Nat) : Int) := IntWalk.i64_in _ (by omega)
                    go_wp2_with fail
                    go_region
                    all_goals
                      go_wp2_with fail
                      go_roundw
                      case rel => exact ⟨j + 1, s2 + a1.size + a2.size, by omega, by go_num, by omega, by go_num, by repeat' (first | (with_reducible first | exact bwR _ _ | assumption | refine bdn ?_ | refine bwA ?_ ?_ _ | refine bwD ?_ | refine bwS ?_ ?_ _) | omega | (simp <;> omega)), H_hJ2⟩
                      case measure => simp [intOf]; omega
              · obtain rfl : j = al' := by omega
                by_cases h4 : 4000 < s2
                · have g8 : (4000 : Int) < (s2 : Int) := by omega
                  go_wp2_with fail
                  go_returns
                  exact ⟨_, _, _, rfl, by decide, by repeat' (first | (with_reducible first | exact bwR _ _ | assumption | refine bdn ?_ | refine bwA ?_ ?_ _ | refine bwD ?_ | refine bwS ?_ ?_ _) | omega | (simp <;> omega)), .inl rfl⟩
                · have g8 : ¬ (4000 : Int) < (s2 : Int) := by omega
                  have hK2 : ∀ i (h : i < xs.length), i < k + 1 → FlOk xs[i] := fun i h hi => by
                    by_cases he : i = k
                    · subst he
                      rw [H_hx.out]
                      have hal := H_hsl'.out.1
                      refine ⟨by show nm.size ≤ 100; omega, by show ats.length ≤ 20; omega, fun a ha => ?_⟩
                      obtain ⟨m, hm, rfl⟩ := List.mem_iff_getElem.1 (show a ∈ ats from ha)
                      exact H_J.out m hm (by omega)
                    · exact H_K.out i h (by omega)
                  have H_hK2 := Lib.hid hK2
                  clear hK2
                  go_wp2_with fail
                  go_roundw
                  case rel => exact ⟨k + 1, s2, by omega, by go_num, by omega, rfl, hB2, H_hK2⟩
                  case measure => simp [intOf]; omega
      · obtain rfl : k = l := by omega
        go_wp2_with fail
        go_returns
        exact ⟨_, _, _, rfl, by omega, hB0.trans (hB.mono t1), .inr ⟨xs, H_hsla.out.keep hB rfl, H_hu3.out, H_hu5.out, fun x hx => by
          obtain ⟨m, hm, rfl⟩ := List.mem_iff_getElem.1 hx
          exact H_K.out m hm (by omega)⟩⟩
end Go.Proofs.YtndlmmpheecleaaGreatDoor
