/-
  Walks over the document's answer to chapter 9: centre, RowOf, PaintOf.
-/
import Derived.Test.YtaidgecpglikpaaDoorPc2
import Derived.Test.YtaidgecpglikpaaDoorPn8
import Derived.Test.YtaidgecpglikpaaDoorApn
namespace Go.Proofs.YtaidgecpglikpaaDoor
open Go.RowKit Lead
theorem rcentre_any (x y : Nat) (w : World) (hx : x ≤ 1000) (hy : y ≤ 1000) :
    Calls Tryd.prog 34 #[.int .i64 x, .int .i64 y] w fun e w' => e = .returned (.agg #[.int .i64 (cen x y).xn, .int .i64 (cen x y).xd, .int .i64 (cen x y).yn, .int .i64 (cen x y).yd]) ∧ Below w.heap.size w w' := by
  have i1 : IntKind.i64.wrap (2 * (x : Int)) = 2 * (x : Int) := IntWalk.i64_in _ (by omega)
  have i2 : IntKind.i64.wrap (2 * (x : Int) + 1) = 2 * (x : Int) + 1 := IntWalk.i64_in _ (by omega)
  have i3 : IntKind.i64.wrap (2 * (y : Int)) = 2 * (y : Int) := IntWalk.i64_in _ (by omega)
  have i4 : IntKind.i64.wrap (2 * (y : Int) + 1) = 2 * (y : Int) + 1 := IntWalk.i64_in _ (by omega)
  go_enter Tryd.func34, Tryd.ntmps34
  go_wp2_with fail
  refine bodyPost_ret (by simp [results, Tryd.results34, go_sem, *]; try rfl) rfl ?_
  exact ⟨rfl, by repeat' (first | (with_reducible first | exact bwR _ _ | assumption | refine bdn ?_ | refine bwA ?_ ?_ _ | refine bwD ?_ | refine bwS ?_ ?_ _) | omega | (simp <;> omega))⟩
set_option maxHeartbeats 4000000 in
set_option maxRecDepth 100000 in
theorem rrowof_any (l : List Pc) (oa : Option Addr) (len cap n y : Nat) (w : World) (hs : ArgPc w oa len cap l) (h8 : len ≤ 8) (hall : ∀ p ∈ l, pkC p.k = 0) (h40 : n ≤ 40) (hy : y < 40) :
    Calls Tryd.prog 17 #[.slice oa len cap, .int .i64 n, .int .i64 y] w fun e w' => ∃ v, e = .returned v ∧ OwnR ESt w' w.heap.size 9 v (refRow (l.map Pc.k) n y) ∧ Below w.heap.size w w' := by
  obtain ⟨hl, hlc, hm, hSl, hcase⟩ := hs
  obtain ⟨i0, hi, hz0, hz1, hz2⟩ := info_parts infoStr
  have H_hl := Lib.hid hl
  clear hl
  have H_hSl := Lib.hid hSl
  clear hSl
  have H_hcase := Lib.hid hcase
  clear hcase
  have H_hall := Lib.hid hall
  clear hall
  have H_hi := Lib.hid hi
  clear hi
  have H_hz0 := Lib.hid hz0
  clear hz0
  have H_hz1 := Lib.hid hz1
  clear hz1
  have H_hz2 := Lib.hid hz2
  clear hz2
  go_enter Tryd.func17, Tryd.ntmps17
  go_wp2_with fail
  go_loopw [7, 8] (fun t7 t8 wr => ∃ x : Nat, x ≤ n ∧ t8 = .int .i64 x ∧ OwnR ESt wr w.heap.size 9 t7 (refRow (l.map Pc.k) x y) ∧ Below w.heap.size w wr) (fun _ t8 _ => n - (intOf t8).toNat)
  case atStart => exact ⟨0, Nat.zero_le _, rfl, OwnR.nil _ _ _ _, by repeat' (first | (with_reducible first | exact bwR _ _ | assumption | refine bdn ?_ | refine bwA ?_ ?_ _ | refine bwD ?_ | refine bwS ?_ ?_ _) | omega | (simp <;> omega))⟩
  case round =>
    obtain ⟨x, hx, rfl, hown, hB⟩ := hrel
    have hzr := hB.size
    by_cases hlt : x < n
    · obtain ⟨wo, rfl⟩ : ∃ u, u = wr := ⟨_, rfl⟩
      have H_hown := Lib.hid hown
      clear hown
      go_wp2_with fail
      go_loopw [9, 10] (fun t9 t10 wi => ∃ k : Nat, k ≤ len ∧ t10 = .int .i64 k ∧ t9 = .string (cellR ((l.take k).map Pc.k) x y) ∧ Below wo.heap.size wo wi) (fun _ t10 _ => len - (intOf t10).toNat)
      case atStart => exact ⟨0, Nat.zero_le _, rfl, rfl, Below.refl _ _⟩
      case round =>
        obtain ⟨k, hk, rfl, rfl, hBi⟩ := hrel
        have hzi := hBi.size
        have hBw : Below w.heap.size w wr := hB.trans (hBi.mono hzr)
        by_cases hlk : k < len
        · have hk' : k < l.length := by have := H_hl.out; omega
          obtain ⟨b, off, rfl, hbl, hrow⟩ : ∃ b off, oa = some ⟨b, off, none⟩ ∧ b < w.heap.size ∧ RowIn EPc w b off l := by
            rcases H_hcase.out with ⟨_, h, _⟩ | h
            · omega
            · exact h
          obtain ⟨q0, q1, q2, q3, q4⟩ := pc_cells (hrow.keep hBw hbl) hk'
          have hSk := (H_hSl.out _ (List.getElem_mem hk')).keep hBw rfl
          have hpk := H_hall.out _ (List.getElem_mem hk')
          have hst : cellR ((l.take (k + 1)).map Pc.k) x y = if hitB l[k].k (cen x y) = true then l[k].fill else cellR ((l.take k).map Pc.k) x y := by
            have hkm : k < (l.map Pc.k).length := by simpa using hk'
            have h := cellR_at (l.map Pc.k) x y hkm
            rw [← List.map_take, ← List.map_take] at h
            rw [h]
            simp only [List.getElem_map]
            rfl
          obtain ⟨p, hpe⟩ : ∃ p, l[k] = p := ⟨_, rfl⟩
          rw [hpe] at q0 q1 q2 q3 q4 hSk hpk hst
          clear hpe hrow
          obtain ⟨node, poa, plen, pcap, ps, fill, rule, level⟩ := p
          simp only at q0 q1 q2 q3 q4 hSk
          have hbb : b < wr.heap.size := by omega
          obtain ⟨s, hs⟩ : ∃ s, cellR ((l.take k).map Pc.k) x y = s := ⟨_, rfl⟩
          obtain ⟨hit, hhit⟩ : ∃ b, hitB ⟨ps, fill, rule⟩ (cen x y) = b := ⟨_, rfl⟩
          have hst : cellR ((l.take (k + 1)).map Pc.k) x y = if hit = true then fill else s := by rw [hst, hs, ← hhit]; rfl
          rw [hs]
          have SK : ∀ W, Below wr.heap.size wr W → Below wr.heap.size wr W ∧ W.cell? ⟨b, off + k * 5 + 1, none⟩ = some (.slice poa plen pcap) ∧ W.cell? ⟨b, off + k * 5 + 3, none⟩ = some (.string rule) :=
            fun W h => ⟨h, gkeep h q1 rfl, gkeep h q3 rfl⟩
          clear hs
          have H_hSk := Lib.hid hSk
          clear hSk
          have H_hpk := Lib.hid hpk
          clear hpk
          have H_hst := Lib.hid hst
          clear hst
          have H_hhit := Lib.hid hhit
          clear hhit
          have H_SK := Lib.hid SK
          clear SK
          go_wp2_with fail
          go_region_held3 (fun W => Below wr.heap.size wr W ∧ W.cell? ⟨b, off + k * 5 + 1, none⟩ = some (.slice poa plen pcap) ∧ W.cell? ⟨b, off + k * 5 + 3, none⟩ = some (.string rule)) (exact H_SK.out _ (by repeat' (first | (with_reducible first | exact bwR _ _ | assumption | refine bdn ?_ | refine bwA ?_ ?_ _ | refine bwD ?_ | refine bwS ?_ ?_ _) | omega | (simp <;> omega))))
            (first | (go_at_call 34; go_must ((with_reducible refine (rcentre_any x y _ (by omega) (by omega)).mono ?_); rintro en wU ⟨rfl, hU⟩; have hbU : Below wr.heap.size wr wU := below_via (by repeat' (first | (with_reducible first | exact bwR _ _ | assumption | refine bdn ?_ | refine bwA ?_ ?_ _ | refine bwD ?_ | refine bwS ?_ ?_ _) | omega | (simp <;> omega))) hU; have tU := hbU.size)) | (go_at_call 33; go_must ((refine (rholds_q ps poa plen pcap rule fill (cen x y) hit _ ?hs H_hpk.out (mid_ok x y (by omega) hy) H_hhit.out).mono ?_); (case hs => exact H_hSk.out.keep (B := wr.heap.size) (by repeat' (first | (with_reducible first | exact bwR _ _ | assumption | refine bdn ?_ | refine bwA ?_ ?_ _ | refine bwD ?_ | refine bwS ?_ ?_ _) | omega | (simp <;> omega))) rfl); rintro en wH ⟨rfl, hH⟩; have hbH : Below wr.heap.size wr wH := below_via (by repeat' (first | (with_reducible first | exact bwR _ _ | assumption | refine bdn ?_ | refine bwA ?_ ?_ _ | refine bwD ?_ | refine bwS ?_ ?_ _) | omega | (simp <;> omega))) hH; have tH := hbH.size)))
          all_goals
            have p2 := (hbH.cell (p := ⟨b, off + k * 5 + 2, none⟩) hbb).trans q2
            have hbH1 : b < wH.heap.size := by omega
            have hBo : Below wo.heap.size wo wH := hBi.trans (hbH.mono hzi)
            clear q0 q1 q2 q3 q4
            rcases hit with _ | _
            · go_wp2_with fail
              go_roundw
              case rel => exact ⟨k + 1, by omega, by go_num, by rw [H_hst.out]; rfl, hBo⟩
              case measure => simp [intOf]; omega
            · go_wp2_with fail
              go_roundw
              case rel => exact ⟨k + 1, by omega, by go_num, by rw [H_hst.out]; rfl, hBo⟩
              case measure => simp [intOf]; omega
        · obtain rfl : k = len := by omega
          have hfull : l.take k = l := List.take_of_length_le (by have := H_hl.out; omega)
          rw [hfull]
          have hsucc := refRow_succ (l.map Pc.k) x y
          obtain ⟨s, hs⟩ : ∃ s, cellR (l.map Pc.k) x y = s := ⟨_, rfl⟩
          rw [hs] at hsucc ⊢
          have hown' : OwnR ESt wr w.heap.size 9 u7 (refRow (l.map Pc.k) x y) := H_hown.out.keep hBi
          have hrl := refRow_len (l.map Pc.k) x y
          clear hfull hs
          have H_hsucc := Lib.hid hsucc
          clear hsucc
          have H_hown' := Lib.hid hown'
          clear hown'
          have H_hrl := Lib.hid hrl
          clear hrl
          go_wp2_with (at_builtin; refine wp_append_told rfl (.tmp 43) (.tmp 45) 25 rfl ESt w.heap.size 9 i0 _ 16 Tryd.underlying25 H_hi.out H_hz0.out H_hz1.out H_hz2.out rfl (by decide) _ (refRow (l.map Pc.k) x y) rfl _ _ 1 1 [s] rfl rfl ?a1 ?a2 ?a3 ?a4 ?_)
          case a1 => rw [H_hrl.out]; simp; omega
          case a2 => exact H_hown'.out.alloc _
          case a3 => exact row_one (vs := #[.string s]) rfl (fun j => World.cell?_alloc_new _ _ _ _)
          case a4 => simp; omega
          intro v' w11 hv11 hA11 _ _
          rw [← H_hsucc.out] at hv11
          have hB11 : Below w.heap.size w w11 := (hBw.alloc (by omega) _).trans hA11
          have H_hv11 := Lib.hid hv11
          clear hv11
          clear hA11
          go_wp2_with fail
          go_roundw
          case rel => exact ⟨x + 1, by omega, by go_num, H_hv11.out, hB11⟩
          case measure => simp [intOf]; omega
    · obtain rfl : x = n := by omega
      have H_hown := Lib.hid hown
      clear hown
      go_wp2_with fail
      go_returns
      exact ⟨_, rfl, H_hown.out, hB⟩
set_option maxHeartbeats 4000000 in
set_option maxRecDepth 100000 in
theorem rpaintof_any (l : List Pc) (oa : Option Addr) (len cap n m : Nat) (w : World) (hs : ArgPc w oa len cap l) (h8 : len ≤ 8) (hall : ∀ p ∈ l, pkC p.k = 0) (h1 : 1 ≤ n) (h40 : n ≤ 40) (hm40 : m ≤ 40) :
    Calls Tryd.prog 12 #[.slice oa len cap, .int .i64 n, .int .i64 m] w fun e w' => ∃ v, e = .returned v ∧ OwnR ESt w' w.heap.size 9 v (cellsP (l.map Pc.k) n m) ∧ Below w.heap.size w w' := by
  obtain ⟨i0, hi, hz0, hz1, hz2⟩ := info_parts infoStr
  have H_hs := Lib.hid hs
  clear hs
  have H_hall := Lib.hid hall
  clear hall
  have H_hi := Lib.hid hi
  clear hi
  have H_hz0 := Lib.hid hz0
  clear hz0
  have H_hz1 := Lib.hid hz1
  clear hz1
  have H_hz2 := Lib.hid hz2
  clear hz2
  go_enter Tryd.func12, Tryd.ntmps12
  go_wp2_with fail
  go_loopw [7, 8] (fun t7 t8 wr => ∃ j : Nat, j ≤ m ∧ t8 = .int .i64 j ∧ OwnR ESt wr w.heap.size 9 t7 (cellsP (l.map Pc.k) n j) ∧ Below w.heap.size w wr) (fun _ t8 _ => m - (intOf t8).toNat)
  case atStart => exact ⟨0, Nat.zero_le _, rfl, OwnR.nil _ _ _ _, by repeat' (first | (with_reducible first | exact bwR _ _ | assumption | refine bdn ?_ | refine bwA ?_ ?_ _ | refine bwD ?_ | refine bwS ?_ ?_ _) | omega | (simp <;> omega))⟩
  case round =>
    obtain ⟨j, hj, rfl, hown, hB⟩ := hrel
    have hzr := hB.size
    by_cases hlt : j < m
    · have hstep := cellsP_step (l.map Pc.k) n j
      have hcl := cellsP_len (l.map Pc.k) n j
      have hcn : j * n ≤ 40 * 40 := Nat.mul_le_mul (by omega) h40
      have H_hown := Lib.hid hown
      clear hown
      have H_hstep := Lib.hid hstep
      clear hstep
      have H_hcl := Lib.hid hcl
      clear hcl
      go_wp2_with fail
      refine (rrowof_any l oa len cap n j wr (H_hs.out.keep hB rfl) h8 H_hall.out h40 (by omega)).mono ?_
      rintro _ w1 ⟨v1, rfl, hv1, hB1⟩
      rw [← rowP_ref] at hv1
      have hrl : (rowP (l.map Pc.k) j (dots n)).length = n := by rw [rowP_len]; simp [dots]
      have t1 := hB1.size
      have hB1w : Below w.heap.size w w1 := below_via hB hB1
      have hown1 : OwnR ESt w1 w.heap.size 9 _ (cellsP (l.map Pc.k) n j) := H_hown.out.keep hB1
      obtain ⟨g, cp, rfl, hg, hg2, hrow⟩ : ∃ g cp, v1 = .slice (some ⟨g, 0, none⟩) n cp ∧ wr.heap.size ≤ g ∧ g < w1.heap.size ∧ RowIn ESt w1 g 0 (rowP (l.map Pc.k) j (dots n)) := by
        rcases hv1.form with ⟨_, h⟩ | ⟨g, cp, h, h2, h3, _, _, h4⟩
        · rw [h] at hrl; simp at hrl; omega
        · rw [hrl] at h; exact ⟨g, cp, h, h2, h3, h4⟩
      clear hv1
      have H_hown1 := Lib.hid hown1
      clear hown1
      have H_hrow := Lib.hid hrow
      clear hrow
      have H_hrl := Lib.hid hrl
      clear hrl
      go_wp2_with (at_builtin; refine wp_append_told rfl (.tmp 14) (.tmp 18) 25 rfl ESt w.heap.size 9 i0 _ 16 Tryd.underlying25 H_hi.out H_hz0.out H_hz1.out H_hz2.out rfl (by decide) _ (cellsP (l.map Pc.k) n j) rfl g 0 n cp (rowP (l.map Pc.k) j (dots n)) rfl ?a0 ?a1 ?a2 ?a3 ?a4 ?_)
      case a0 => exact H_hrl.out.symm
      case a1 => rw [H_hrl.out, H_hcl.out]; omega
      case a2 => exact H_hown1.out
      case a3 => exact H_hrow.out
      case a4 => omega
      intro v' w11 hv11 hA11 _ _
      rw [← H_hstep.out] at hv11
      have hB11 : Below w.heap.size w w11 := hB1w.trans hA11
      have H_hv11 := Lib.hid hv11
      clear hv11
      clear hA11
      go_wp2_with fail
      go_roundw
      case rel => exact ⟨j + 1, by omega, by go_num, H_hv11.out, hB11⟩
      case measure => simp [intOf]; omega
    · obtain rfl : j = m := by omega
      have H_hown := Lib.hid hown
      clear hown
      go_wp2_with fail
      go_returns
      exact ⟨_, rfl, H_hown.out, hB⟩
end Go.Proofs.YtaidgecpglikpaaDoor
