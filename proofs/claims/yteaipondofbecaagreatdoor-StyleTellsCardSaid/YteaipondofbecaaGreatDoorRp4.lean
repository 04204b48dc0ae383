/-
  Walks over the reference's selectors: WeightOf.
-/
import Derived.Test.YteaipondofbecaaGreatDoorRc7
import Derived.Test.YteaipondofbecaaGreatDoorPk9
namespace Go.Proofs.YteaipondofbecaaGreatDoor
open Go.RowKit Lead Lead.Dc Lead.Pk Lead.Rc
set_option maxHeartbeats 4000000 in
theorem rweight_any (lo : Option Addr) (ll lc : Nat) (xs : List SrX) (w : World) (hS : SlA ESr w lo ll lc xs) (h2 : ∀ x ∈ xs, SlA EWs w x.wo x.wl x.wc x.ws) (hb : wtL (xs.map SrX.st) ≤ 100000) :
    Calls Tryz.prog 89 #[.slice lo ll lc] w fun en w' => en = .returned (.int .i64 (wtL (xs.map SrX.st) : Int)) ∧ Below w.heap.size w w' := by
  obtain ⟨n, hn⟩ : ∃ u, ll = u := ⟨_, rfl⟩
  subst hn
  have hn : xs.length = ll := hS.1.symm
  obtain ⟨n, hnn⟩ : ∃ u, ll = u := ⟨_, rfl⟩
  rw [hnn] at hS hn ⊢
  have hm : n ≤ 9223372036854775807 := by have h := hS.2.2.1; have h' := hS.2.1; unfold maxLen at h; omega
  have hW : ∀ k, wtL ((xs.take k).map SrX.st) ≤ 100000 := fun k => by
    have := sum_le wtS (xs.map SrX.st) k
    rw [← List.map_take] at this
    exact Nat.le_trans this hb
  clear hnn
  have H_h2 := Lib.hid h2
  clear h2
  have H_hS := Lib.hid hS
  clear hS
  have H_hn := Lib.hid hn
  clear hn
  have H_hW := Lib.hid hW
  clear hW
  have H_hb := Lib.hid hb
  clear hb
  go_enter Tryz.func89, Tryz.ntmps89
  go_wp2_with fail
  go_loopw [3, 4] (fun t3 t11 wr => ∃ k : Nat, k ≤ n ∧ t11 = .int .i64 k ∧ t3 = .int .i64 (wtL ((xs.take k).map SrX.st) : Nat) ∧ Below w.heap.size w wr) (fun _ t11 _ => n - (intOf t11).toNat)
  case atStart => exact ⟨0, Nat.zero_le _, rfl, rfl, by repeat' (first | (with_reducible first | exact bwR _ _ | assumption | refine bdn ?_ | refine bwA ?_ ?_ _ | refine bwD ?_ | refine bwS ?_ ?_ _) | omega | (simp <;> omega))⟩
  case round =>
    obtain ⟨k, hk, rfl, rfl, hB⟩ := hrel
    have hzr := hB.size
    by_cases hlt : k < n
    · have hk' : k < xs.length := by rw [H_hn.out]; exact hlt
      obtain ⟨b, off, rfl, hbw, hr⟩ := H_hS.out.2.2.2.resolve_left (by intro h; rw [h] at hk'; simp at hk')
      have hcell := fun (W : World) (hW : Below w.heap.size w W) (q : Nat) (v : Value) (hq : (ESr.enc xs[k])[q]? = some v) => (hr.keep hW hbw) k hk' q v hq
      have hws := H_h2.out _ (List.getElem_mem hk')
      have hst := sum_take wtS (xs.map SrX.st) (k := k) (by rw [List.length_map]; exact hk')
      rw [← List.map_take, ← List.map_take, List.getElem_map] at hst
      have hWk := H_hW.out k
      have hWk1 := H_hW.out (k + 1)
      obtain ⟨x, hx⟩ : ∃ x, xs[k] = x := ⟨_, rfl⟩
      rw [hx] at hcell hws hst
      obtain ⟨nm, wo, wl, wc, ws, right⟩ := x
      have hcq : ∀ W, Below w.heap.size w W → W.cell? ⟨b, off + k * 3, none⟩ = some (.string (bs nm)) ∧ W.cell? ⟨b, off + k * 3 + 1, none⟩ = some (.slice wo wl wc) ∧ W.cell? ⟨b, off + k * 3 + 2, none⟩ = some (.bool right) := fun W hW => ⟨hcell W hW 0 _ rfl, hcell W hW 1 _ rfl, hcell W hW 2 _ rfl⟩
      obtain ⟨q0, q1, q2⟩ := hcq wr hB
      have hS2 : SlA EWs w wo wl wc ws := hws
      have glk : (k : Int) < (n : Int) := by omega
      have H_hcq := Lib.hid hcq
      clear hcq
      have hst2 : wtL ((xs.take (k + 1)).map SrX.st) = wtL ((xs.take k).map SrX.st) + (wtN nm + (ws.map wtW).sum) := hst
      obtain ⟨G, hG⟩ : ∃ u, wtL ((xs.take k).map SrX.st) = u := ⟨_, rfl⟩
      rw [hst2] at hWk1
      rw [hG] at hWk hWk1 hst2
      rw [hG]
      have hsumle := sum_le wtW ws
      have gk : IntKind.i64.wrap ((k : Int) + 1) = ((k + 1 : Nat) : Int) := IntWalk.i64_in _ (by omega)
      clear hcell hx hst hr hws
      have hx0 : ((bs nm).toList == []) = decide (nm = []) := by
        rw [ByteArray.toList_eq, bs_list, Bool.eq_iff_iff]; simp
      have hx42 : ((bs nm).toList == [42]) = decide (nm = [42]) := by
        rw [ByteArray.toList_eq, bs_list, Bool.eq_iff_iff]; simp
      have hwN : wtN nm = if nm ≠ [] ∧ nm ≠ [42] then 1 else 0 := rfl
      by_cases hn0 : nm = []
      · rw [decide_eq_true hn0] at hx0
        have hN : wtN nm = 0 := by rw [hwN, if_neg (fun h => h.1 hn0)]
        rw [hN] at hst2 hWk1
        try clear hn0 
        try clear hn42
        clear hwN hN
        have H_hst2 := Lib.hid hst2
        clear hst2
        have H_hS2 := Lib.hid hS2
        clear hS2
        have hmw : wl ≤ 9223372036854775807 := by have h := H_hS2.out.2.2.1; have h' := H_hS2.out.2.1; unfold maxLen at h; omega
        obtain ⟨wo5, hwo5⟩ : ∃ u, u = wr := ⟨_, rfl⟩
        subst hwo5
        go_wp2_with fail
        go_loopw [3, 5] (fun t3 t28 wr => ∃ i : Nat, i ≤ wl ∧ t28 = .int .i64 i ∧ t3 = .int .i64 ((G + 0 + ((ws.take i).map wtW).sum : Nat) : Int) ∧ Below w.heap.size w wr) (fun _ t28 _ => wl - (intOf t28).toNat)
        case atStart => exact ⟨0, Nat.zero_le _, rfl, by simp, by repeat' (first | (with_reducible first | exact bwR _ _ | assumption | refine bdn ?_ | refine bwA ?_ ?_ _ | refine bwD ?_ | refine bwS ?_ ?_ _) | omega | (simp <;> omega))⟩
        case round =>
          obtain ⟨i, hi, rfl, rfl, hB2⟩ := hrel
          have hzr2 := hB2.size
          obtain ⟨s0, s1, s2⟩ := H_hcq.out wr hB2
          by_cases hli : i < wl
          · have hi' : i < ws.length := by have := H_hS2.out.1; omega
            obtain ⟨b2, off2, rfl, hbw2, hr2⟩ := H_hS2.out.2.2.2.resolve_left (by intro h; rw [h] at hi'; simp at hi')
            have hrr := hr2.keep hB2 hbw2
            have p0 : wr.cell? ⟨b2, off2 + i, none⟩ = some (.string (bs (ws[i].sign :: ws[i].name))) := by
              have h := hrr i hi' 0 _ rfl
              simpa [EWs] using h
            have hti := sum_take wtW ws hi'
            have hle1 := hsumle (i + 1)
            have hle0 := hsumle i
            obtain ⟨x2, hx2⟩ : ∃ u, ws[i] = u := ⟨_, rfl⟩
            rw [hx2] at p0 hti
            obtain ⟨A, hA⟩ : ∃ u, ((ws.take i).map wtW).sum = u := ⟨_, rfl⟩
            rw [hA] at hti hle0
            rw [hti] at hle1
            rw [hA]
            obtain ⟨sg, wn⟩ := x2
            have p0' : wr.cell? ⟨b2, off2 + i, none⟩ = some (.string (bs (sg :: wn))) := p0
            clear p0
            obtain ⟨S, hSe⟩ : ∃ u, bs (sg :: wn) = u := ⟨_, rfl⟩
            rw [hSe] at p0'
            have hsz : 0 < S.size := by rw [← hSe]; simp [bs, ByteArray.size]
            have hSd : S.data.toList = sg :: wn := by rw [← hSe]; rfl
            have hc0 : S[0]'hsz = sg := by
              have h := Lib.data_getElem? S 0 hsz
              rw [hSd] at h
              injection h with h
              exact h.symm
            have gSz : (0 : Int) < (S.size : Int) := by omega
            have gA : IntKind.i64.wrap (((G + 0 + A : Nat) : Int) + 10) = ((G + 0 + (A + 10) : Nat) : Int) := (IntWalk.i64_in _ (by omega)).trans (by omega)
            clear hSe
            have gi : IntKind.i64.wrap ((i : Int) + 1) = ((i + 1 : Nat) : Int) := IntWalk.i64_in _ (by omega)
            clear hrr hr2 hx2
            by_cases h35 : sg = 35
            · have g1 : ((sg.toNat : Int) == 35) = true := by rw [h35]; rfl
              have hw : wtW ⟨sg, wn⟩ = 100 := by unfold wtW; rw [if_pos h35]
              rw [hw] at hti hle1
              have gs : IntKind.i64.wrap (((G + 0 + (A + 10) : Nat) : Int) + 90) = ((G + 0 + (A + 100) : Nat) : Int) := (IntWalk.i64_in _ (by omega)).trans (by omega)
              have H_h35 := Lib.hid h35
              clear h35
              have H_hw := Lib.hid hw
              clear hw
              have H_hti := Lib.hid hti
              clear hti
              go_wp2_with fail
              go_roundw
              case rel => exact ⟨i + 1, by omega, by go_num, by rw [H_hti.out]; exact congrArg (Value.int .i64) (by omega), by repeat' (first | (with_reducible first | exact bwR _ _ | assumption | refine bdn ?_ | refine bwA ?_ ?_ _ | refine bwD ?_ | refine bwS ?_ ?_ _) | omega | (simp <;> omega))⟩
              case measure => simp [intOf]; omega
            · have g1 : ((sg.toNat : Int) == 35) = false := by
                rw [beq_eq_false_iff_ne]
                intro h
                exact h35 (UInt8.toNat.inj (by show sg.toNat = 35; omega))
              have hw : wtW ⟨sg, wn⟩ = 10 := by unfold wtW; rw [if_neg h35]
              rw [hw] at hti hle1
              have H_h35 := Lib.hid h35
              clear h35
              have H_hw := Lib.hid hw
              clear hw
              have H_hti := Lib.hid hti
              clear hti
              go_wp2_with fail
              go_roundw
              case rel => exact ⟨i + 1, by omega, by go_num, by rw [H_hti.out]; exact congrArg (Value.int .i64) (by omega), by repeat' (first | (with_reducible first | exact bwR _ _ | assumption | refine bdn ?_ | refine bwA ?_ ?_ _ | refine bwD ?_ | refine bwS ?_ ?_ _) | omega | (simp <;> omega))⟩
              case measure => simp [intOf]; omega
          · obtain rfl : wl = i := by omega
            have hti : ws.take wl = ws := List.take_of_length_le (by have := H_hS2.out.1; omega)
            rw [hti]
            have h2 := H_hst2.out
            have h3 : G + 0 + (ws.map wtW).sum = wtL ((xs.take (k + 1)).map SrX.st) := by rw [h2]; omega
            rw [h3]
            have H_h2 := Lib.hid h2
            clear h2
            have H_h3 := Lib.hid h3
            clear h3
            go_wp2_with fail
            go_roundw
            case rel => exact ⟨k + 1, by omega, by go_num, rfl, hB2⟩
            case measure => simp [intOf]; omega
      · rw [decide_eq_false hn0] at hx0
        by_cases hn42 : nm = [42]
        · rw [decide_eq_true hn42] at hx42
          have hN : wtN nm = 0 := by rw [hwN, if_neg (fun h => h.2 hn42)]
          rw [hN] at hst2 hWk1
          try clear hn0 
          try clear hn42
          clear hwN hN
          have H_hst2 := Lib.hid hst2
          clear hst2
          have H_hS2 := Lib.hid hS2
          clear hS2
          have hmw : wl ≤ 9223372036854775807 := by have h := H_hS2.out.2.2.1; have h' := H_hS2.out.2.1; unfold maxLen at h; omega
          obtain ⟨wo5, hwo5⟩ : ∃ u, u = wr := ⟨_, rfl⟩
          subst hwo5
          go_wp2_with fail
          go_loopw [3, 5] (fun t3 t28 wr => ∃ i : Nat, i ≤ wl ∧ t28 = .int .i64 i ∧ t3 = .int .i64 ((G + 0 + ((ws.take i).map wtW).sum : Nat) : Int) ∧ Below w.heap.size w wr) (fun _ t28 _ => wl - (intOf t28).toNat)
          case atStart => exact ⟨0, Nat.zero_le _, rfl, by simp, by repeat' (first | (with_reducible first | exact bwR _ _ | assumption | refine bdn ?_ | refine bwA ?_ ?_ _ | refine bwD ?_ | refine bwS ?_ ?_ _) | omega | (simp <;> omega))⟩
          case round =>
            obtain ⟨i, hi, rfl, rfl, hB2⟩ := hrel
            have hzr2 := hB2.size
            obtain ⟨s0, s1, s2⟩ := H_hcq.out wr hB2
            by_cases hli : i < wl
            · have hi' : i < ws.length := by have := H_hS2.out.1; omega
              obtain ⟨b2, off2, rfl, hbw2, hr2⟩ := H_hS2.out.2.2.2.resolve_left (by intro h; rw [h] at hi'; simp at hi')
              have hrr := hr2.keep hB2 hbw2
              have p0 : wr.cell? ⟨b2, off2 + i, none⟩ = some (.string (bs (ws[i].sign :: ws[i].name))) := by
                have h := hrr i hi' 0 _ rfl
                simpa [EWs] using h
              have hti := sum_take wtW ws hi'
              have hle1 := hsumle (i + 1)
              have hle0 := hsumle i
              obtain ⟨x2, hx2⟩ : ∃ u, ws[i] = u := ⟨_, rfl⟩
              rw [hx2] at p0 hti
              obtain ⟨A, hA⟩ : ∃ u, ((ws.take i).map wtW).sum = u := ⟨_, rfl⟩
              rw [hA] at hti hle0
              rw [hti] at hle1
              rw [hA]
              obtain ⟨sg, wn⟩ := x2
              have p0' : wr.cell? ⟨b2, off2 + i, none⟩ = some (.string (bs (sg :: wn))) := p0
              clear p0
              obtain ⟨S, hSe⟩ : ∃ u, bs (sg :: wn) = u := ⟨_, rfl⟩
              rw [hSe] at p0'
              have hsz : 0 < S.size := by rw [← hSe]; simp [bs, ByteArray.size]
              have hSd : S.data.toList = sg :: wn := by rw [← hSe]; rfl
              have hc0 : S[0]'hsz = sg := by
                have h := Lib.data_getElem? S 0 hsz
                rw [hSd] at h
                injection h with h
                exact h.symm
              have gSz : (0 : Int) < (S.size : Int) := by omega
              have gA : IntKind.i64.wrap (((G + 0 + A : Nat) : Int) + 10) = ((G + 0 + (A + 10) : Nat) : Int) := (IntWalk.i64_in _ (by omega)).trans (by omega)
              clear hSe
              have gi : IntKind.i64.wrap ((i : Int) + 1) = ((i + 1 : Nat) : Int) := IntWalk.i64_in _ (by omega)
              clear hrr hr2 hx2
              by_cases h35 : sg = 35
              · have g1 : ((sg.toNat : Int) == 35) = true := by rw [h35]; rfl
                have hw : wtW ⟨sg, wn⟩ = 100 := by unfold wtW; rw [if_pos h35]
                rw [hw] at hti hle1
                have gs : IntKind.i64.wrap (((G + 0 + (A + 10) : Nat) : Int) + 90) = ((G + 0 + (A + 100) : Nat) : Int) := (IntWalk.i64_in _ (by omega)).trans (by omega)
                have H_h35 := Lib.hid h35
                clear h35
                have H_hw := Lib.hid hw
                clear hw
                have H_hti := Lib.hid hti
                clear hti
                go_wp2_with fail
                go_roundw
                case rel => exact ⟨i + 1, by omega, by go_num, by rw [H_hti.out]; exact congrArg (Value.int .i64) (by omega), by repeat' (first | (with_reducible first | exact bwR _ _ | assumption | refine bdn ?_ | refine bwA ?_ ?_ _ | refine bwD ?_ | refine bwS ?_ ?_ _) | omega | (simp <;> omega))⟩
                case measure => simp [intOf]; omega
              · have g1 : ((sg.toNat : Int) == 35) = false := by
                  rw [beq_eq_false_iff_ne]
                  intro h
                  exact h35 (UInt8.toNat.inj (by show sg.toNat = 35; omega))
                have hw : wtW ⟨sg, wn⟩ = 10 := by unfold wtW; rw [if_neg h35]
                rw [hw] at hti hle1
                have H_h35 := Lib.hid h35
                clear h35
                have H_hw := Lib.hid hw
                clear hw
                have H_hti := Lib.hid hti
                clear hti
                go_wp2_with fail
                go_roundw
                case rel => exact ⟨i + 1, by omega, by go_num, by rw [H_hti.out]; exact congrArg (Value.int .i64) (by omega), by repeat' (first | (with_reducible first | exact bwR _ _ | assumption | refine bdn ?_ | refine bwA ?_ ?_ _ | refine bwD ?_ | refine bwS ?_ ?_ _) | omega | (simp <;> omega))⟩
                case measure => simp [intOf]; omega
            · obtain rfl : wl = i := by omega
              have hti : ws.take wl = ws := List.take_of_length_le (by have := H_hS2.out.1; omega)
              rw [hti]
              have h2 := H_hst2.out
              have h3 : G + 0 + (ws.map wtW).sum = wtL ((xs.take (k + 1)).map SrX.st) := by rw [h2]; omega
              rw [h3]
              have H_h2 := Lib.hid h2
              clear h2
              have H_h3 := Lib.hid h3
              clear h3
              go_wp2_with fail
              go_roundw
              case rel => exact ⟨k + 1, by omega, by go_num, rfl, hB2⟩
              case measure => simp [intOf]; omega
        · rw [decide_eq_false hn42] at hx42
          have hN : wtN nm = 1 := by rw [hwN, if_pos ⟨hn0, hn42⟩]
          have gg : IntKind.i64.wrap ((G : Int) + 1) = ((G + 1 : Nat) : Int) := IntWalk.i64_in _ (by omega)
          rw [hN] at hst2 hWk1
          try clear hn0 
          try clear hn42
          clear hwN hN
          have H_hst2 := Lib.hid hst2
          clear hst2
          have H_hS2 := Lib.hid hS2
          clear hS2
          have hmw : wl ≤ 9223372036854775807 := by have h := H_hS2.out.2.2.1; have h' := H_hS2.out.2.1; unfold maxLen at h; omega
          obtain ⟨wo5, hwo5⟩ : ∃ u, u = wr := ⟨_, rfl⟩
          subst hwo5
          go_wp2_with fail
          go_loopw [3, 5] (fun t3 t28 wr => ∃ i : Nat, i ≤ wl ∧ t28 = .int .i64 i ∧ t3 = .int .i64 ((G + 1 + ((ws.take i).map wtW).sum : Nat) : Int) ∧ Below w.heap.size w wr) (fun _ t28 _ => wl - (intOf t28).toNat)
          case atStart => exact ⟨0, Nat.zero_le _, rfl, by simp, by repeat' (first | (with_reducible first | exact bwR _ _ | assumption | refine bdn ?_ | refine bwA ?_ ?_ _ | refine bwD ?_ | refine bwS ?_ ?_ _) | omega | (simp <;> omega))⟩
          case round =>
            obtain ⟨i, hi, rfl, rfl, hB2⟩ := hrel
            have hzr2 := hB2.size
            obtain ⟨s0, s1, s2⟩ := H_hcq.out wr hB2
            by_cases hli : i < wl
            · have hi' : i < ws.length := by have := H_hS2.out.1; omega
              obtain ⟨b2, off2, rfl, hbw2, hr2⟩ := H_hS2.out.2.2.2.resolve_left (by intro h; rw [h] at hi'; simp at hi')
              have hrr := hr2.keep hB2 hbw2
              have p0 : wr.cell? ⟨b2, off2 + i, none⟩ = some (.string (bs (ws[i].sign :: ws[i].name))) := by
                have h := hrr i hi' 0 _ rfl
                simpa [EWs] using h
              have hti := sum_take wtW ws hi'
              have hle1 := hsumle (i + 1)
              have hle0 := hsumle i
              obtain ⟨x2, hx2⟩ : ∃ u, ws[i] = u := ⟨_, rfl⟩
              rw [hx2] at p0 hti
              obtain ⟨A, hA⟩ : ∃ u, ((ws.take i).map wtW).sum = u := ⟨_, rfl⟩
              rw [hA] at hti hle0
              rw [hti] at hle1
              rw [hA]
              obtain ⟨sg, wn⟩ := x2
              have p0' : wr.cell? ⟨b2, off2 + i, none⟩ = some (.string (bs (sg :: wn))) := p0
              clear p0
              obtain ⟨S, hSe⟩ : ∃ u, bs (sg :: wn) = u := ⟨_, rfl⟩
              rw [hSe] at p0'
              have hsz : 0 < S.size := by rw [← hSe]; simp [bs, ByteArray.size]
              have hSd : S.data.toList = sg :: wn := by rw [← hSe]; rfl
              have hc0 : S[0]'hsz = sg := by
                have h := Lib.data_getElem? S 0 hsz
                rw [hSd] at h
                injection h with h
                exact h.symm
              have gSz : (0 : Int) < (S.size : Int) := by omega
              have gA : IntKind.i64.wrap (((G + 1 + A : Nat) : Int) + 10) = ((G + 1 + (A + 10) : Nat) : Int) := (IntWalk.i64_in _ (by omega)).trans (by omega)
              clear hSe
              have gi : IntKind.i64.wrap ((i : Int) + 1) = ((i + 1 : Nat) : Int) := IntWalk.i64_in _ (by omega)
              clear hrr hr2 hx2
              by_cases h35 : sg = 35
              · have g1 : ((sg.toNat : Int) == 35) = true := by rw [h35]; rfl
                have hw : wtW ⟨sg, wn⟩ = 100 := by unfold wtW; rw [if_pos h35]
                rw [hw] at hti hle1
                have gs : IntKind.i64.wrap (((G + 1 + (A + 10) : Nat) : Int) + 90) = ((G + 1 + (A + 100) : Nat) : Int) := (IntWalk.i64_in _ (by omega)).trans (by omega)
                have H_h35 := Lib.hid h35
                clear h35
                have H_hw := Lib.hid hw
                clear hw
                have H_hti := Lib.hid hti
                clear hti
                go_wp2_with fail
                go_roundw
                case rel => exact ⟨i + 1, by omega, by go_num, by rw [H_hti.out]; exact congrArg (Value.int .i64) (by omega), by repeat' (first | (with_reducible first | exact bwR _ _ | assumption | refine bdn ?_ | refine bwA ?_ ?_ _ | refine bwD ?_ | refine bwS ?_ ?_ _) | omega | (simp <;> omega))⟩
                case measure => simp [intOf]; omega
              · have g1 : ((sg.toNat : Int) == 35) = false := by
                  rw [beq_eq_false_iff_ne]
                  intro h
                  exact h35 (UInt8.toNat.inj (by show sg.toNat = 35; omega))
                have hw : wtW ⟨sg, wn⟩ = 10 := by unfold wtW; rw [if_neg h35]
                rw [hw] at hti hle1
                have H_h35 := Lib.hid h35
                clear h35
                have H_hw := Lib.hid hw
                clear hw
                have H_hti := Lib.hid hti
                clear hti
                go_wp2_with fail
                go_roundw
                case rel => exact ⟨i + 1, by omega, by go_num, by rw [H_hti.out]; exact congrArg (Value.int .i64) (by omega), by repeat' (first | (with_reducible first | exact bwR _ _ | assumption | refine bdn ?_ | refine bwA ?_ ?_ _ | refine bwD ?_ | refine bwS ?_ ?_ _) | omega | (simp <;> omega))⟩
                case measure => simp [intOf]; omega
            · obtain rfl : wl = i := by omega
              have hti : ws.take wl = ws := List.take_of_length_le (by have := H_hS2.out.1; omega)
              rw [hti]
              have h2 := H_hst2.out
              have h3 : G + 1 + (ws.map wtW).sum = wtL ((xs.take (k + 1)).map SrX.st) := by rw [h2]; omega
              rw [h3]
              have H_h2 := Lib.hid h2
              clear h2
              have H_h3 := Lib.hid h3
              clear h3
              go_wp2_with fail
              go_roundw
              case rel => exact ⟨k + 1, by omega, by go_num, rfl, hB2⟩
              case measure => simp [intOf]; omega
    · obtain rfl : n = k := by omega
      have ht : xs.take n = xs := List.take_of_length_le (by rw [H_hn.out]; exact Nat.le_refl _)
      rw [ht]
      go_wp2_with fail
      go_returns
      exact ⟨rfl, hB⟩
end Go.Proofs.YteaipondofbecaaGreatDoor
