/-
  Several texts as one: Sho, Sbx.
-/
import Derived.Test.YtpdaenldmgpkjaaGreatDoorSmA
import Derived.Test.YtpdaenldmgpkjaaGreatDoorShq
import Derived.Test.YtpdaenldmgpkjaaGreatDoorDec6
import Derived.Test.YtpdaenldmgpkjaaGreatDoorRef3
import Derived.Test.YtpdaenldmgpkjaaGreatDoorPa
import Derived.Test.YtpdaenldmgpkjaaGreatDoorFa
/-
  Walks over the document's answer to chapter 7: ShapeOf; plain: a shape out of a text.
-/
namespace Go.Proofs.YtpdaenldmgpkjaaGreatDoor
open Go.RowKit Lead Lead.Ow
theorem res_shapeof (tmps : Array Value) (w0 : World) (g : Nat) (v x y : Value) (h4 : tmps[2]?.getD undef = v) (h5 : tmps[3]?.getD undef = .pointer (some ⟨g, 0, none⟩)) (hc : ∀ j, w0.cell? ⟨g, j, none⟩ = (#[x, y] : Array Value)[j]?) :
    (results Tryz.f20 tmps).run Tryz.prog w0 = .ok (.tuple #[v, .agg #[x, y]]) w0 := by
  simp [results, Tryz.results20, go_sem, h4, h5, hc]
set_option maxHeartbeats 1000000 in
theorem rshapeof_empty (s : ByteArray) (w : World) (h1 : (s.toList == []) = true) :
    Calls Tryz.prog 20 #[.string s] w (RetPF 102 (0, none) [] w) := by
  go_enter Tryz.func20, Tryz.ntmps20
  go_wp2_with fail
  refine (rfine_any _).mono ?_
  rintro _ w1 ⟨rfl, hb1⟩
  have o0 : ∀ j, w1.cell? ⟨w.heap.size, j, none⟩ = (#[Value.int .i64 0, .int .i64 0] : Array Value)[j]? := fun j => (hb1.cell (p := ⟨w.heap.size, j, none⟩) (by simp)).trans (World.cell?_alloc_new _ _ _ _)
  have n0 : ∀ j, w1.frozen? ⟨w.heap.size, j, none⟩ = false := fun j => (hb1.frozen (p := ⟨w.heap.size, j, none⟩) (by simp)).trans (World.frozen?_alloc_at _ _ _ _ rfl)
  have hB1 : Below w.heap.size w w1 := below_via (by repeat' (first | (with_reducible first | exact bwR _ _ | assumption | refine bdn ?_ | refine bwA ?_ ?_ _ | refine bwD ?_ | refine bwS ?_ ?_ _) | omega | (simp <;> omega))) hb1
  have y0 : w.heap.size < w1.heap.size := Nat.lt_of_lt_of_le (by simp) hb1.size
  clear hb1
  go_wp2_with fail
  with_reducible refine bodyPost_ret (res_shapeof _ _ (w.heap.size) (.slice none 0 0) _ _ ?h4 ?h5 (set2 o0 _ _)) rfl ?_
  case h4 => simp
  case h5 => simp
  exact ⟨_, rfl, OwnP.nil _ _ _, by repeat' (first | (with_reducible first | exact bwR _ _ | assumption | refine bdn ?_ | refine bwA ?_ ?_ _ | refine bwD ?_ | refine bwS ?_ ?_ _) | omega | (simp <;> omega))⟩
set_option maxHeartbeats 4000000 in
set_option maxRecDepth 100000 in
theorem rshapeof_some (s : ByteArray) (w : World) (h1 : (s.toList == []) = false) (hs : s.size ≤ 10000) :
    Calls Tryz.prog 20 #[.string s] w (RetPF 102 (readC s.data.toList) (readL s.data.toList) w) := by
  have hne : s.data.toList ≠ [] := by
    rcases tst2 s [] with ⟨k, _⟩ | ⟨_, k⟩
    · rw [h1] at k; exact absurd k (by decide)
    · exact k
  obtain ⟨ws, hws⟩ : ∃ u, cutL 32 s.data.toList = u := ⟨_, rfl⟩
  have hwl : ws.length ≤ 10001 := by rw [← hws]; have := cutL_len2 32 s.data.toList; rw [size_list2] at this; omega
  have hwz : ∀ x ∈ ws, x.length ≤ 10000 := fun x hx => by rw [← hws] at hx; have := cutL_mem2 hx; rw [size_list2] at this; omega
  obtain ⟨cC, hcC⟩ : ∃ u, readC s.data.toList = u := ⟨_, rfl⟩
  obtain ⟨cL, hcL⟩ : ∃ u, readL s.data.toList = u := ⟨_, rfl⟩
  have hbadw : ∀ x ∈ ws, ptB x = false → cC = (1, none) ∧ cL = [] := fun x hx h => by
    rw [← hcC, ← hcL]; exact readC_bad hne (by rw [hws]; exact hx) h
  have hokw : (∀ x ∈ ws, ptB x = true) → cC = shC (ws.map ptV) ∧ (cC = (0, none) → cL = ws.map ptV) ∧ (cC.1 ≠ 0 → cL = []) := fun h => by
    rw [← hcC, ← hcL]
    refine ⟨?_, fun h0 => ?_, readL_no⟩
    · rw [readC_ok hne (by rw [hws]; exact h), hws]
    · rw [readL_ok hne h0, hws]
  have hcut := fun (W : World) => rcut_any s 32 W (by omega)
  simp only [hws] at hcut
  rw [hcC, hcL]
  obtain ⟨i0, hi, hz0, hz1, hz2⟩ := info_parts info26
  have H_hne := Lib.hid hne
  clear hne
  have H_hws := Lib.hid hws
  clear hws
  have H_hwl := Lib.hid hwl
  clear hwl
  have H_hwz := Lib.hid hwz
  clear hwz
  have H_hcC := Lib.hid hcC
  clear hcC
  have H_hcL := Lib.hid hcL
  clear hcL
  have H_hbadw := Lib.hid hbadw
  clear hbadw
  have H_hokw := Lib.hid hokw
  clear hokw
  have H_hcut := Lib.hid hcut
  clear hcut
  have H_hi := Lib.hid hi
  clear hi
  have H_hz0 := Lib.hid hz0
  clear hz0
  have H_hz1 := Lib.hid hz1
  clear hz1
  have H_hz2 := Lib.hid hz2
  clear hz2
  go_enter Tryz.func20, Tryz.ntmps20
  go_wp2_with fail
  refine (H_hcut.out _).mono ?_
  rintro _ w1 ⟨v, rfl, hv, hb1⟩
  have hrow := ownS_row hv
  obtain ⟨ow, cw, rfl, _, hsl⟩ := own_open hrow
  have hB1 : Below w.heap.size w w1 := below_via (by repeat' (first | (with_reducible first | exact bwR _ _ | assumption | refine bdn ?_ | refine bwA ?_ ?_ _ | refine bwD ?_ | refine bwS ?_ ?_ _) | omega | (simp <;> omega))) hb1
  have p0 : ∀ j, w1.cell? ⟨w.heap.size, j, none⟩ = (#[Value.int .i64 0, .int .i64 0] : Array Value)[j]? := fun j => (hb1.cell (p := ⟨w.heap.size, j, none⟩) (by simp)).trans (World.cell?_alloc_new _ _ _ _)
  have k0 : ∀ j, w1.frozen? ⟨w.heap.size, j, none⟩ = false := fun j => (hb1.frozen (p := ⟨w.heap.size, j, none⟩) (by simp)).trans (World.frozen?_alloc_at _ _ _ _ rfl)
  have y1 : w.heap.size < w1.heap.size := Nat.lt_of_lt_of_le (by simp) hb1.size
  obtain ⟨N, hN⟩ : ∃ u, ws.length = u := ⟨_, rfl⟩
  have hN9 : N ≤ 10001 := by rw [← hN]; exact H_hwl.out
  rw [hN]
  clear hv hrow hb1
  have H_hsl := Lib.hid hsl
  clear hsl
  have H_hN := Lib.hid hN
  clear hN
  go_wp2_with fail
  go_loopw [4, 6] (fun t4 t6 wr => ∃ (k : Nat) (v4 : Value), k ≤ N ∧ t6 = .int .i64 k ∧ t4 = v4 ∧ RowKit.Hid (∀ x ∈ ws.take k, ptB x = true) ∧ RowKit.Hid (OwnR EPt wr w1.heap.size 102 v4 ((ws.take k).map ptV)) ∧ Below w1.heap.size w1 wr) (fun _ t6 _ => N - (intOf t6).toNat)
  case atStart => exact ⟨0, _, Nat.zero_le _, rfl, rfl, Lib.hid (fun x hx => by simp at hx), Lib.hid (OwnR.nil _ _ _ _), Below.refl _ _⟩
  case round =>
    obtain ⟨k, v4, hk, rfl, rfl, H_all, H_own, hB⟩ := hrel
    have hBr : Below w.heap.size w wr := hB1.trans (hB.mono (Nat.le_of_lt y1))
    obtain ⟨A, hA⟩ : ∃ u, (ws.take k).map ptV = u := ⟨_, rfl⟩
    rw [hA] at H_own
    have H_hA := Lib.hid hA
    clear hA
    by_cases hlt : k < N
    · have hk' : k < ws.length := by rw [H_hN.out]; exact hlt
      obtain ⟨gw, offw, rfl, hgw, hrw⟩ := H_hsl.out.resolve_left (by intro h; rw [h] at hk'; simp at hk')
      have hq : wr.cell? ⟨gw, offw + k, none⟩ = some (.string ⟨(ws[k]).toArray⟩) := by
        have h := (hrw.keep hB hgw) k hk' 0 _ rfl
        simpa [ESs] using h
      have hmem := List.getElem_mem hk'
      have htk : ws.take (k + 1) = ws.take k ++ [ws[k]] := by rw [List.take_succ_eq_append_getElem hk']
      have hwd := H_hwz.out _ hmem
      have hbadk := H_hbadw.out _ hmem
      obtain ⟨wd, hwdE⟩ : ∃ u, ws[k] = u := ⟨_, rfl⟩
      rw [hwdE] at hq hbadk htk hwd
      clear hmem hrw
      have hcut2 := fun (W : World) => rcut_any ⟨wd.toArray⟩ 44 W (by show wd.toArray.size ≤ 100000; simp; omega)
      have hcl := cutL_len2 44 wd
      have hcz := fun x (hx : x ∈ cutL 44 wd) => cutL_mem2 hx
      have htwo := fun c0 c1 (h : cutL 44 wd = [c0, c1]) => ptB_two h
      have hcv := fun c0 c1 (h : cutL 44 wd = [c0, c1]) (hb : ptB wd = true) => ptV_cut h hb
      have hnot := fun (h : (cutL 44 wd).length ≠ 2) => ptB_not h
      obtain ⟨cs, hcs⟩ : ∃ u, cutL 44 wd = u := ⟨_, rfl⟩
      simp only [show (⟨wd.toArray⟩ : ByteArray).data.toList = wd from rfl, hcs] at hcut2
      rw [hcs] at hcl
      simp only [hcs] at hcz htwo hcv hnot
      have H_hbadk := Lib.hid hbadk
      clear hbadk
      have H_htk := Lib.hid htk
      clear htk
      have H_hwdE := Lib.hid hwdE
      clear hwdE
      have H_hcut2 := Lib.hid hcut2
      clear hcut2
      have H_hcl := Lib.hid hcl
      clear hcl
      have H_hcz := Lib.hid hcz
      clear hcz
      have H_htwo := Lib.hid htwo
      clear htwo
      have H_hcv := Lib.hid hcv
      clear hcv
      have H_hnot := Lib.hid hnot
      clear hnot
      have H_hcs := Lib.hid hcs
      clear hcs
      go_wp2_with fail
      refine (H_hcut2.out _).mono ?_
      rintro _ w3 ⟨v3, rfl, hv3, hb3⟩
      have hrow3 := ownS_row hv3
      obtain ⟨oc, cc, rfl, _, hsl3⟩ := own_open hrow3
      have hB3 : Below w1.heap.size w1 w3 := below_via hB hb3
      obtain ⟨M, hM⟩ : ∃ u, cs.length = u := ⟨_, rfl⟩
      rw [hM]
      clear hv3 hrow3
      have H_hb3 := Lib.hid hb3
      clear hb3
      have H_hsl3 := Lib.hid hsl3
      clear hsl3
      by_cases h2 : M = 2
      · subst h2
        have g2 : (((2 : Nat) : Int) != 2) = false := by decide
        obtain ⟨c0, c1, rfl⟩ : ∃ c0 c1, cs = [c0, c1] := by
          match cs, hM with
          | [c0, c1], _ => exact ⟨c0, c1, rfl⟩
        obtain ⟨gc, offc, rfl, hgc, hrc⟩ := H_hsl3.out.resolve_left (by intro h; simp at h)
        have q0 : w3.cell? ⟨gc, offc, none⟩ = some (.string ⟨c0.toArray⟩) := by
          have h := hrc 0 (by simp) 0 _ rfl
          simpa [ESs] using h
        have q1 : w3.cell? ⟨gc, offc + 1, none⟩ = some (.string ⟨c1.toArray⟩) := by
          have h := hrc 1 (by simp) 0 _ rfl
          simpa [ESs] using h
        have l0 := H_hcz.out c0 (by simp)
        have l1 := H_hcz.out c1 (by simp)
        have cF0 := fun (W : World) => rfracof_any ⟨c0.toArray⟩ W (by show c0.toArray.size ≤ 100000; simp; omega)
        have cF1 := fun (W : World) => rfracof_any ⟨c1.toArray⟩ W (by show c1.toArray.size ≤ 100000; simp; omega)
        simp only [show (⟨c0.toArray⟩ : ByteArray).data.toList = c0 from rfl] at cF0
        simp only [show (⟨c1.toArray⟩ : ByteArray).data.toList = c1 from rfl] at cF1
        have htw := H_htwo.out c0 c1 rfl
        have hcvv := H_hcv.out c0 c1 rfl
        obtain ⟨d0, hd0⟩ : ∃ u, rdC c0 = u := ⟨_, rfl⟩
        obtain ⟨d1, hd1⟩ : ∃ u, rdC c1 = u := ⟨_, rfl⟩
        have hd0l : d0 ≤ 11 := by rw [← hd0]; exact rdC_le2 c0
        have hd1l : d1 ≤ 11 := by rw [← hd1]; exact rdC_le2 c1
        rw [hd0] at htw
        rw [hd1] at htw
        simp only [hd0] at cF0
        simp only [hd1] at cF1
        have gw1 : IntKind.i64.wrap ((d0 : Int) + (d1 : Int)) = ((d0 + d1 : Nat) : Int) := IntWalk.i64_in _ (by omega)
        clear hrc l0 l1
        have H_cF0 := Lib.hid cF0
        clear cF0
        have H_cF1 := Lib.hid cF1
        clear cF1
        have H_htw := Lib.hid htw
        clear htw
        have H_hcvv := Lib.hid hcvv
        clear hcvv
        have H_hd0 := Lib.hid hd0
        clear hd0
        have H_hd1 := Lib.hid hd1
        clear hd1
        go_wp2_with fail
        refine (H_cF0.out _).mono ?_
        rintro _ w4 ⟨rfl, hb4⟩
        unfold frN
        have hB4 : Below w1.heap.size w1 w4 := below_via hB3 hb4
        have q1' : w4.cell? ⟨gc, offc + 1, none⟩ = some (.string ⟨c1.toArray⟩) := (hb4.cell (p := ⟨gc, offc + 1, none⟩) hgc).trans q1
        have hgc4 : gc < w4.heap.size := Nat.lt_of_lt_of_le hgc hb4.size
        have H_hb4 := Lib.hid hb4
        clear hb4 q0 q1
        go_wp2_with fail
        refine (H_cF1.out _).mono ?_
        rintro _ w5 ⟨rfl, hb5⟩
        have hs4 := hB4.size
        have hB5 : Below w1.heap.size w1 w5 := below_via (by repeat' (first | (with_reducible first | exact bwR _ _ | assumption | refine bdn ?_ | refine bwA ?_ ?_ _ | refine bwD ?_ | refine bwS ?_ ?_ _) | omega | (simp <;> omega))) hb5
        have a0 : ∀ j, w5.cell? ⟨w4.heap.size, j, none⟩ = (#[Value.int .i64 (z0 d0 (rdN c0)), .int .i64 (z0 d0 (rdD c0))] : Array Value)[j]? := fun j => (hb5.cell (p := ⟨w4.heap.size, j, none⟩) (by simp)).trans (World.cell?_alloc_new _ _ _ _)
        have y4 : w4.heap.size < w5.heap.size := Nat.lt_of_lt_of_le (by simp) hb5.size
        have h34 := below_via H_hb3.out H_hb4.out
        have H_own5 := Lib.hid (H_own.out.keep (below_via (h34.alloc h34.size _) hb5))
        have hs5 := hB5.size
        clear h34 hb5 q1'
        unfold frN
        by_cases hd : d0 = 0 ∧ d1 = 0
        · obtain ⟨rfl, rfl⟩ := hd
          have hpt : ptB wd = true := by rw [H_htw.out]; exact decide_eq_true ⟨rfl, rfl⟩
          have hv := (H_hcvv.out hpt).1
          have hall2 : ∀ x ∈ ws.take (k + 1), ptB x = true := fun x hx => by
            rw [H_htk.out] at hx
            rcases List.mem_append.1 hx with hx | hx
            · exact H_all.out x hx
            · rw [List.mem_singleton.1 hx]; exact hpt
          have hmap2 : (ws.take (k + 1)).map ptV = A ++ [⟨rdN c0, rdD c0, rdN c1, rdD c1⟩] := by rw [H_htk.out, List.map_append, List.map_singleton, hv, H_hA.out]
          have hlk : A.length = k := by rw [← H_hA.out, List.length_map, List.length_take]; omega
          obtain ⟨xn, hxn⟩ : ∃ u, rdN c0 = u := ⟨_, rfl⟩
          obtain ⟨xd, hxd⟩ : ∃ u, rdD c0 = u := ⟨_, rfl⟩
          obtain ⟨yn, hyn⟩ : ∃ u, rdN c1 = u := ⟨_, rfl⟩
          obtain ⟨yd, hyd⟩ : ∃ u, rdD c1 = u := ⟨_, rfl⟩
          simp only [z0_0 rfl, hxn, hxd, hyn, hyd] at a0 hmap2 ⊢
          have H_hall2 := Lib.hid hall2
          clear hall2
          have H_hmap2 := Lib.hid hmap2
          clear hmap2
          have H_hlk := Lib.hid hlk
          clear hlk
          have H_hpt := Lib.hid hpt
          clear hpt
          have H_hv := Lib.hid hv
          clear hv
          go_wp2_with (at_builtin; refine wp_append_told rfl (.tmp 52) (.tmp 56) 50 rfl EPt w1.heap.size 102 i0 _ 32 Tryz.underlying50 H_hi.out H_hz0.out H_hz1.out H_hz2.out rfl (by decide) _ A rfl _ 0 1 1 [⟨xn, xd, yn, yd⟩] rfl rfl ?a2 ?a3 ?a4 ?a5 ?_)
          case a2 => rw [H_hlk.out]; have := H_hwl.out; have := H_hN.out; (try simp only [List.length_cons, List.length_nil]); omega
          case a3 => exact (H_own5.out.alloc _).alloc _
          case a4 => exact row_one (vs := #[.int .i64 xn, .int .i64 xd, .int .i64 yn, .int .i64 yd]) rfl (fun j => World.cell?_alloc_at _ _ _ _ (by simp))
          case a5 => first | omega | (simp; omega)
          intro v7 w7 hv7 hA7 _ _
          rw [← H_hmap2.out] at hv7
          have hB7 : Below w1.heap.size w1 w7 := ((hB5.alloc hs5 _).alloc (by rw [World.size_alloc]; omega) _).trans hA7
          clear hA7
          have H_hv7 := Lib.hid hv7
          clear hv7
          go_wp2_with fail
          go_roundw
          case rel => exact ⟨k + 1, v7, by omega, by go_num, rfl, H_hall2, H_hv7, hB7⟩
          case measure => simp [intOf]; omega
        · have hsum : (0 : Int) < ((d0 + d1 : Nat) : Int) := by omega
          have hpt : ptB wd = false := by rw [H_htw.out]; exact decide_eq_false hd
          have bad := H_hbadk.out hpt
          have hB5a : Below w1.heap.size w1 (w5.alloc (.cells #[.int .i64 (z0 d1 (rdN c1)), .int .i64 (z0 d1 (rdD c1))] 49)) := hB5.alloc hB5.size _
          have H_bad := Lib.hid bad
          clear bad
          have H_hpt := Lib.hid hpt
          clear hpt
          go_wp2_with fail
          refine (rbare_any _ _).mono ?_
          rintro _ wz ⟨rfl, hbz⟩
          have hBz : Below w1.heap.size w1 wz := below_via (hB5a) hbz
          have hBw : Below w.heap.size w wz := hB1.trans (hBz.mono (Nat.le_of_lt y1))
          have o0 : ∀ j, wz.cell? ⟨w.heap.size, j, none⟩ = (#[Value.int .i64 0, .int .i64 0] : Array Value)[j]? := fun j => (hBz.cell (p := ⟨w.heap.size, j, none⟩) y1).trans (p0 j)
          have n0 : ∀ j, wz.frozen? ⟨w.heap.size, j, none⟩ = false := fun j => (hBz.frozen (p := ⟨w.heap.size, j, none⟩) y1).trans (k0 j)
          have y0 : w.heap.size < wz.heap.size := Nat.lt_of_lt_of_le y1 hBz.size
          clear hbz hBz
          go_wp2_with fail
          with_reducible refine bodyPost_ret (res_shapeof _ _ (w.heap.size) (.slice none 0 0) _ _ ?h4 ?h5 (set2 o0 _ _)) rfl ?_
          case h4 => simp
          case h5 => simp
          rw [H_bad.out.1, H_bad.out.2]
          exact ⟨_, rfl, OwnP.nil _ _ _, by repeat' (first | (with_reducible first | exact bwR _ _ | assumption | refine bdn ?_ | refine bwA ?_ ?_ _ | refine bwD ?_ | refine bwS ?_ ?_ _) | omega | (simp <;> omega))⟩
      · have g2 : ((M : Int) != 2) = true := by rw [bne_iff_ne]; omega
        have bad := H_hbadk.out (H_hnot.out (by rw [hM]; exact h2))
        have H_bad := Lib.hid bad
        clear bad
        go_wp2_with fail
        refine (rbare_any _ _).mono ?_
        rintro _ wz ⟨rfl, hbz⟩
        have hBz : Below w1.heap.size w1 wz := below_via (hB3) hbz
        have hBw : Below w.heap.size w wz := hB1.trans (hBz.mono (Nat.le_of_lt y1))
        have o0 : ∀ j, wz.cell? ⟨w.heap.size, j, none⟩ = (#[Value.int .i64 0, .int .i64 0] : Array Value)[j]? := fun j => (hBz.cell (p := ⟨w.heap.size, j, none⟩) y1).trans (p0 j)
        have n0 : ∀ j, wz.frozen? ⟨w.heap.size, j, none⟩ = false := fun j => (hBz.frozen (p := ⟨w.heap.size, j, none⟩) y1).trans (k0 j)
        have y0 : w.heap.size < wz.heap.size := Nat.lt_of_lt_of_le y1 hBz.size
        clear hbz hBz
        go_wp2_with fail
        with_reducible refine bodyPost_ret (res_shapeof _ _ (w.heap.size) (.slice none 0 0) _ _ ?h4 ?h5 (set2 o0 _ _)) rfl ?_
        case h4 => simp
        case h5 => simp
        rw [H_bad.out.1, H_bad.out.2]
        exact ⟨_, rfl, OwnP.nil _ _ _, by repeat' (first | (with_reducible first | exact bwR _ _ | assumption | refine bdn ?_ | refine bwA ?_ ?_ _ | refine bwD ?_ | refine bwS ?_ ?_ _) | omega | (simp <;> omega))⟩
    · obtain rfl : k = N := by omega
      have htk : ws.take k = ws := List.take_of_length_le (by rw [H_hN.out]; exact Nat.le_refl _)
      have hall : ∀ x ∈ ws, ptB x = true := fun x hx => H_all.out x (by rw [htk]; exact hx)
      have hown := H_own.out
      rw [← H_hA.out, htk] at hown
      obtain ⟨hc1, hc2, hc3⟩ := H_hokw.out hall
      have hI : ∀ p ∈ ws.map ptV, p.I := fun p hp => by obtain ⟨x, hx, rfl⟩ := List.mem_map.1 hp; exact ptV_I (hall x hx)
      have hownP := (show OwnP wr w1.heap.size 102 _ (ws.map ptV) from hown)
      obtain ⟨oo, co, rfl, hslp⟩ := hownP.slp hI
      obtain ⟨L, hL⟩ : ∃ u, (ws.map ptV).length = u := ⟨_, rfl⟩
      rw [hL] at hslp hownP ⊢
      obtain ⟨c, hc⟩ : ∃ c : Int, (cC.1 : Int) = c := ⟨_, rfl⟩
      obtain ⟨a, ha⟩ : ∃ a : Int, atI cC.2 = a := ⟨_, rfl⟩
      have cSF := rshapefault_c (ws.map ptV) oo L co c a wr hslp (by rw [← hc1]; exact hc) (by rw [← hc1]; exact ha)
      have hc00 : cC.1 = 0 → cC = (0, none) := fun h => by
        rcases shC_some (ws.map ptV) with k' | k'
        · rw [hc1, k']
        · exact absurd (by rw [← hc1]; exact h) k'
      clear hall hown hI hslp hc1
      have H_htk := Lib.hid htk
      clear htk
      have H_hownP := Lib.hid hownP
      clear hownP
      have H_hL := Lib.hid hL
      clear hL
      have H_hc := Lib.hid hc
      clear hc
      have H_ha := Lib.hid ha
      clear ha
      have H_cSF := Lib.hid cSF
      clear cSF
      have H_hc2 := Lib.hid hc2
      clear hc2
      have H_hc3 := Lib.hid hc3
      clear hc3
      have H_hc00 := Lib.hid hc00
      clear hc00
      go_wp2_with fail
      refine (H_cSF.out).mono ?_
      rintro _ wz ⟨rfl, hbz⟩
      have hBz : Below w1.heap.size w1 wz := below_via hB hbz
      have hBw : Below w.heap.size w wz := hB1.trans (hBz.mono (Nat.le_of_lt y1))
      have o0 : ∀ j, wz.cell? ⟨w.heap.size, j, none⟩ = (#[Value.int .i64 0, .int .i64 0] : Array Value)[j]? := fun j => (hBz.cell (p := ⟨w.heap.size, j, none⟩) y1).trans (p0 j)
      have n0 : ∀ j, wz.frozen? ⟨w.heap.size, j, none⟩ = false := fun j => (hBz.frozen (p := ⟨w.heap.size, j, none⟩) y1).trans (k0 j)
      have y0 : w.heap.size < wz.heap.size := Nat.lt_of_lt_of_le y1 hBz.size
      have hownz := Lib.hid (own_below H_hownP.out hbz)
      clear hbz hBz
      by_cases h0 : cC.1 = 0
      · obtain rfl : c = 0 := by have := H_hc.out; omega
        have hcc := H_hc00.out h0
        obtain rfl : a = -1 := by rw [← H_ha.out, hcc]; rfl
        have H_h0 := Lib.hid h0
        clear h0
        have H_hcc := Lib.hid hcc
        clear hcc
        go_wp2_with fail
        go_region
        all_goals
          go_wp2_with fail
          with_reducible refine bodyPost_ret (res_shapeof _ _ (w.heap.size) (.slice oo L co) _ _ ?h4 ?h5 (set2d o0 y0 _ _ _ _)) rfl ?_
          case h4 => simp
          case h5 => simp
          rw [H_hcc.out, H_hc2.out H_hcc.out]
          exact ⟨_, rfl, OwnP.base (show OwnP _ w1.heap.size _ _ _ from own_set2d (show OwnR EPt wz w1.heap.size _ _ _ from hownz.out) y1 _ _ _ _) hB1.size, by repeat' (first | (with_reducible first | exact bwR _ _ | assumption | refine bdn ?_ | refine bwA ?_ ?_ _ | refine bwD ?_ | refine bwS ?_ ?_ _) | omega | (simp <;> omega))⟩
      · have g1 : 0 < c := by have := H_hc.out; omega
        have H_h0 := Lib.hid h0
        clear h0
        go_wp2_with fail
        go_region
        all_goals
          go_wp2_with fail
          with_reducible refine bodyPost_ret (res_shapeof _ _ (w.heap.size) (.slice none 0 0) _ _ ?h4 ?h5 (set2d o0 y0 _ _ _ _)) rfl ?_
          case h4 => simp
          case h5 => simp
          rw [H_hc3.out H_h0.out]
          exact ⟨_, by rw [H_hc.out, H_ha.out], OwnP.nil _ _ _, by repeat' (first | (with_reducible first | exact bwR _ _ | assumption | refine bdn ?_ | refine bwA ?_ ?_ _ | refine bwD ?_ | refine bwS ?_ ?_ _) | omega | (simp <;> omega))⟩
theorem rshapeof_any (s : ByteArray) (w : World) (hs : s.size ≤ 10000) :
    Calls Tryz.prog 20 #[.string s] w (RetPF 102 (readC s.data.toList) (readL s.data.toList) w) := by
  rcases tst2 s [] with ⟨k, h⟩ | ⟨k, h⟩
  · rw [h, show readC [] = (0, none) from if_pos rfl, show readL [] = [] from if_pos rfl]
    exact rshapeof_empty s w k
  · exact rshapeof_some s w k hs
end Go.Proofs.YtpdaenldmgpkjaaGreatDoor

/-
  Walks over the document's answer to chapter 7: BoxOf.
-/
namespace Lead
open Go Go.RowKit
theorem boxL_n {x y u h : Fr} (hc : (boxC x y u h).1 ≠ 0) : boxL x y u h = [] := if_neg fun e => hc (by rw [e])
theorem lowC_le3 (x y : Int) : lowC x y ≤ 11 := by
  rcases lowC_cases x y with ⟨_, h⟩ | ⟨_, _, h⟩ | ⟨_, _, h⟩ <;> omega
theorem addK_eq {a b : Fr} (ha : a.c = 0) (hb : b.c = 0) : a.addK b = a.addC b := if_pos (both_R (a := a) (b := b) (chk_0 ha) (chk_0 hb))
end Lead
namespace Go.Proofs.YtpdaenldmgpkjaaGreatDoor
open Go.RowKit Lead
theorem res_boxof (tmps : Array Value) (w0 : World) (g : Nat) (v x y : Value) (h4 : tmps[2]?.getD undef = v) (h5 : tmps[3]?.getD undef = .pointer (some ⟨g, 0, none⟩)) (hc : ∀ j, w0.cell? ⟨g, j, none⟩ = (#[x, y] : Array Value)[j]?) :
    (results Tryz.f24 tmps).run Tryz.prog w0 = .ok (.tuple #[v, .agg #[x, y]]) w0 := by
  simp [results, Tryz.results24, go_sem, h4, h5, hc]
set_option maxHeartbeats 4000000 in
set_option maxRecDepth 100000 in
theorem rbox_bad (x y u h : Fr) (w : World) (ix : x.I) (iy : y.I) (iu : u.I) (ih : h.I) (hb : ¬ (x.c = 0 ∧ y.c = 0 ∧ u.c = 0 ∧ h.c = 0)) :
    Calls Tryz.prog 24 #[.agg #[.int .i64 x.n, .int .i64 x.d, .int .i64 y.n, .int .i64 y.d, .int .i64 u.n, .int .i64 u.d, .int .i64 h.n, .int .i64 h.d]] w (RetPF 102 (boxC x y u h) (boxL x y u h) w) := by
  rcases boxC_cases x y u h with ⟨h1, hc⟩ | ⟨h1, h2, hc⟩ | ⟨h1, h2, h3, hc⟩ | ⟨h1, h2, h3, h4, hc⟩ | ⟨h1, h2, h3, h4, h5, hc⟩ | ⟨h1, h2, h3, h4, h5, h6, hc⟩ | ⟨h1, h2, h3, h4, h5, h6, hc⟩
  · clear hb
    have hl := boxL_n (x := x) (y := y) (u := u) (h := h) (by rw [hc]; exact h1)
    rw [hc, hl]
    obtain ⟨c, hcc⟩ : ∃ c : Int, ((chk x.n x.d : Nat) : Int) = c := ⟨_, rfl⟩
    have hn : chk x.n x.d ≠ 0 := h1
    have g1 : 0 < c := by omega
    have H_hc := Lib.hid hc
    clear hc
    have H_hl := Lib.hid hl
    clear hl
    have H_hn := Lib.hid hn
    clear hn
    have H_hcc := Lib.hid hcc
    clear hcc
    go_enter Tryz.func24, Tryz.ntmps24
    go_wp2_with fail
    refine wp_loop_rounds 5 ?_
    rw [rounds_succ]
    go_wp2_with fail
    refine call_below (w := w) (by repeat' (first | (with_reducible first | exact bwR _ _ | assumption | refine bdn ?_ | refine bwA ?_ ?_ _ | refine bwD ?_ | refine bwS ?_ ?_ _) | omega | (simp <;> omega))) (fun HB => rfracerror_c x.n x.d c _ H_hcc.out ix.n ix.d) ?_
    intro w1 hb1 hz1 c1 d1
    have t1 := hb1.size
    try simp only [szA] at hz1 c1 d1
    try simp only [szD] at hz1 c1 d1
    try simp only [szS] at hz1 c1 d1
    try simp only [World.heap_drewN] at hz1 c1 d1
    try simp only [szA] at hz1 c1 d1
    try simp only [szD] at hz1 c1 d1
    try simp only [szS] at hz1 c1 d1
    have s1_0 : w.heap.size < w1.heap.size := by omega
    have o1_0 := fun j => c1 (w.heap.size) j (by omega)
    have f1_0 := fun j => d1 (w.heap.size) j (by omega)
    have s1_1 : w.heap.size + 1 < w1.heap.size := by omega
    have o1_1 := fun j => c1 (w.heap.size + 1) j (by omega)
    have f1_1 := fun j => d1 (w.heap.size + 1) j (by omega)
    clear c1 d1 hz1
    go_wp2_with fail
    refine bodyPost_ret (by simp [results, Tryz.results24, go_sem, *]; try rfl) rfl ?_
    exact ⟨_, by rw [← H_hcc.out]; rfl, OwnP.nil _ _ _, by repeat' (first | (with_reducible first | exact bwR _ _ | assumption | refine bdn ?_ | refine bwA ?_ ?_ _ | refine bwD ?_ | refine bwS ?_ ?_ _) | omega | (simp <;> omega))⟩
  · clear hb
    have H_h1 := Lib.hid h1
    clear h1
    have hl := boxL_n (x := x) (y := y) (u := u) (h := h) (by rw [hc]; exact h2)
    rw [hc, hl]
    obtain ⟨c, hcc⟩ : ∃ c : Int, ((chk y.n y.d : Nat) : Int) = c := ⟨_, rfl⟩
    have hn : chk y.n y.d ≠ 0 := h2
    have g1 : 0 < c := by omega
    have H_hc := Lib.hid hc
    clear hc
    have H_hl := Lib.hid hl
    clear hl
    have H_hn := Lib.hid hn
    clear hn
    have H_hcc := Lib.hid hcc
    clear hcc
    go_enter Tryz.func24, Tryz.ntmps24
    go_wp2_with fail
    refine wp_loop_rounds 5 ?_
    rw [rounds_succ]
    go_wp2_with fail
    refine call_below (w := w) (by repeat' (first | (with_reducible first | exact bwR _ _ | assumption | refine bdn ?_ | refine bwA ?_ ?_ _ | refine bwD ?_ | refine bwS ?_ ?_ _) | omega | (simp <;> omega))) (fun HB => rfracerror_0 x.n x.d _ H_h1.out ix.n ix.d) ?_
    intro w1 hb1 hz1 c1 d1
    have t1 := hb1.size
    try simp only [szA] at hz1 c1 d1
    try simp only [szD] at hz1 c1 d1
    try simp only [szS] at hz1 c1 d1
    try simp only [World.heap_drewN] at hz1 c1 d1
    try simp only [szA] at hz1 c1 d1
    try simp only [szD] at hz1 c1 d1
    try simp only [szS] at hz1 c1 d1
    have s1_0 : w.heap.size < w1.heap.size := by omega
    have o1_0 := fun j => c1 (w.heap.size) j (by omega)
    have f1_0 := fun j => d1 (w.heap.size) j (by omega)
    have s1_1 : w.heap.size + 1 < w1.heap.size := by omega
    have o1_1 := fun j => c1 (w.heap.size + 1) j (by omega)
    have f1_1 := fun j => d1 (w.heap.size + 1) j (by omega)
    clear c1 d1 hz1
    go_wp2_with fail
    rw [rounds_succ]
    go_wp2_with fail
    refine call_below (w := w) (by repeat' (first | (with_reducible first | exact bwR _ _ | assumption | refine bdn ?_ | refine bwA ?_ ?_ _ | refine bwD ?_ | refine bwS ?_ ?_ _) | omega | (simp <;> omega))) (fun HB => rfracerror_c y.n y.d c _ H_hcc.out iy.n iy.d) ?_
    intro w2 hb2 hz2 c2 d2
    have t2 := hb2.size
    try simp only [szA] at hz2 c2 d2
    try simp only [szD] at hz2 c2 d2
    try simp only [szS] at hz2 c2 d2
    try simp only [World.heap_drewN] at hz2 c2 d2
    try simp only [szA] at hz2 c2 d2
    try simp only [szD] at hz2 c2 d2
    try simp only [szS] at hz2 c2 d2
    have s2_0 : w.heap.size < w2.heap.size := by omega
    have o2_0 := fun j => c2 (w.heap.size) j (by omega)
    have f2_0 := fun j => d2 (w.heap.size) j (by omega)
    have s2_1 : w.heap.size + 1 < w2.heap.size := by omega
    have o2_1 := fun j => c2 (w.heap.size + 1) j (by omega)
    have f2_1 := fun j => d2 (w.heap.size + 1) j (by omega)
    clear c2 d2 hz2
    go_wp2_with fail
    refine bodyPost_ret (by simp [results, Tryz.results24, go_sem, *]; try rfl) rfl ?_
    exact ⟨_, by rw [← H_hcc.out]; rfl, OwnP.nil _ _ _, by repeat' (first | (with_reducible first | exact bwR _ _ | assumption | refine bdn ?_ | refine bwA ?_ ?_ _ | refine bwD ?_ | refine bwS ?_ ?_ _) | omega | (simp <;> omega))⟩
  · clear hb
    have H_h1 := Lib.hid h1
    clear h1
    have H_h2 := Lib.hid h2
    clear h2
    have hl := boxL_n (x := x) (y := y) (u := u) (h := h) (by rw [hc]; exact h3)
    rw [hc, hl]
    obtain ⟨c, hcc⟩ : ∃ c : Int, ((chk u.n u.d : Nat) : Int) = c := ⟨_, rfl⟩
    have hn : chk u.n u.d ≠ 0 := h3
    have g1 : 0 < c := by omega
    have H_hc := Lib.hid hc
    clear hc
    have H_hl := Lib.hid hl
    clear hl
    have H_hn := Lib.hid hn
    clear hn
    have H_hcc := Lib.hid hcc
    clear hcc
    go_enter Tryz.func24, Tryz.ntmps24
    go_wp2_with fail
    refine wp_loop_rounds 5 ?_
    rw [rounds_succ]
    go_wp2_with fail
    refine call_below (w := w) (by repeat' (first | (with_reducible first | exact bwR _ _ | assumption | refine bdn ?_ | refine bwA ?_ ?_ _ | refine bwD ?_ | refine bwS ?_ ?_ _) | omega | (simp <;> omega))) (fun HB => rfracerror_0 x.n x.d _ H_h1.out ix.n ix.d) ?_
    intro w1 hb1 hz1 c1 d1
    have t1 := hb1.size
    try simp only [szA] at hz1 c1 d1
    try simp only [szD] at hz1 c1 d1
    try simp only [szS] at hz1 c1 d1
    try simp only [World.heap_drewN] at hz1 c1 d1
    try simp only [szA] at hz1 c1 d1
    try simp only [szD] at hz1 c1 d1
    try simp only [szS] at hz1 c1 d1
    have s1_0 : w.heap.size < w1.heap.size := by omega
    have o1_0 := fun j => c1 (w.heap.size) j (by omega)
    have f1_0 := fun j => d1 (w.heap.size) j (by omega)
    have s1_1 : w.heap.size + 1 < w1.heap.size := by omega
    have o1_1 := fun j => c1 (w.heap.size + 1) j (by omega)
    have f1_1 := fun j => d1 (w.heap.size + 1) j (by omega)
    clear c1 d1 hz1
    go_wp2_with fail
    rw [rounds_succ]
    go_wp2_with fail
    refine call_below (w := w) (by repeat' (first | (with_reducible first | exact bwR _ _ | assumption | refine bdn ?_ | refine bwA ?_ ?_ _ | refine bwD ?_ | refine bwS ?_ ?_ _) | omega | (simp <;> omega))) (fun HB => rfracerror_0 y.n y.d _ H_h2.out iy.n iy.d) ?_
    intro w2 hb2 hz2 c2 d2
    have t2 := hb2.size
    try simp only [szA] at hz2 c2 d2
    try simp only [szD] at hz2 c2 d2
    try simp only [szS] at hz2 c2 d2
    try simp only [World.heap_drewN] at hz2 c2 d2
    try simp only [szA] at hz2 c2 d2
    try simp only [szD] at hz2 c2 d2
    try simp only [szS] at hz2 c2 d2
    have s2_0 : w.heap.size < w2.heap.size := by omega
    have o2_0 := fun j => c2 (w.heap.size) j (by omega)
    have f2_0 := fun j => d2 (w.heap.size) j (by omega)
    have s2_1 : w.heap.size + 1 < w2.heap.size := by omega
    have o2_1 := fun j => c2 (w.heap.size + 1) j (by omega)
    have f2_1 := fun j => d2 (w.heap.size + 1) j (by omega)
    clear c2 d2 hz2
    go_wp2_with fail
    rw [rounds_succ]
    go_wp2_with fail
    refine call_below (w := w) (by repeat' (first | (with_reducible first | exact bwR _ _ | assumption | refine bdn ?_ | refine bwA ?_ ?_ _ | refine bwD ?_ | refine bwS ?_ ?_ _) | omega | (simp <;> omega))) (fun HB => rfracerror_c u.n u.d c _ H_hcc.out iu.n iu.d) ?_
    intro w3 hb3 hz3 c3 d3
    have t3 := hb3.size
    try simp only [szA] at hz3 c3 d3
    try simp only [szD] at hz3 c3 d3
    try simp only [szS] at hz3 c3 d3
    try simp only [World.heap_drewN] at hz3 c3 d3
    try simp only [szA] at hz3 c3 d3
    try simp only [szD] at hz3 c3 d3
    try simp only [szS] at hz3 c3 d3
    have s3_0 : w.heap.size < w3.heap.size := by omega
    have o3_0 := fun j => c3 (w.heap.size) j (by omega)
    have f3_0 := fun j => d3 (w.heap.size) j (by omega)
    have s3_1 : w.heap.size + 1 < w3.heap.size := by omega
    have o3_1 := fun j => c3 (w.heap.size + 1) j (by omega)
    have f3_1 := fun j => d3 (w.heap.size + 1) j (by omega)
    clear c3 d3 hz3
    go_wp2_with fail
    refine bodyPost_ret (by simp [results, Tryz.results24, go_sem, *]; try rfl) rfl ?_
    exact ⟨_, by rw [← H_hcc.out]; rfl, OwnP.nil _ _ _, by repeat' (first | (with_reducible first | exact bwR _ _ | assumption | refine bdn ?_ | refine bwA ?_ ?_ _ | refine bwD ?_ | refine bwS ?_ ?_ _) | omega | (simp <;> omega))⟩
  · clear hb
    have H_h1 := Lib.hid h1
    clear h1
    have H_h2 := Lib.hid h2
    clear h2
    have H_h3 := Lib.hid h3
    clear h3
    have hl := boxL_n (x := x) (y := y) (u := u) (h := h) (by rw [hc]; exact h4)
    rw [hc, hl]
    obtain ⟨c, hcc⟩ : ∃ c : Int, ((chk h.n h.d : Nat) : Int) = c := ⟨_, rfl⟩
    have hn : chk h.n h.d ≠ 0 := h4
    have g1 : 0 < c := by omega
    have H_hc := Lib.hid hc
    clear hc
    have H_hl := Lib.hid hl
    clear hl
    have H_hn := Lib.hid hn
    clear hn
    have H_hcc := Lib.hid hcc
    clear hcc
    go_enter Tryz.func24, Tryz.ntmps24
    go_wp2_with fail
    refine wp_loop_rounds 5 ?_
    rw [rounds_succ]
    go_wp2_with fail
    refine call_below (w := w) (by repeat' (first | (with_reducible first | exact bwR _ _ | assumption | refine bdn ?_ | refine bwA ?_ ?_ _ | refine bwD ?_ | refine bwS ?_ ?_ _) | omega | (simp <;> omega))) (fun HB => rfracerror_0 x.n x.d _ H_h1.out ix.n ix.d) ?_
    intro w1 hb1 hz1 c1 d1
    have t1 := hb1.size
    try simp only [szA] at hz1 c1 d1
    try simp only [szD] at hz1 c1 d1
    try simp only [szS] at hz1 c1 d1
    try simp only [World.heap_drewN] at hz1 c1 d1
    try simp only [szA] at hz1 c1 d1
    try simp only [szD] at hz1 c1 d1
    try simp only [szS] at hz1 c1 d1
    have s1_0 : w.heap.size < w1.heap.size := by omega
    have o1_0 := fun j => c1 (w.heap.size) j (by omega)
    have f1_0 := fun j => d1 (w.heap.size) j (by omega)
    have s1_1 : w.heap.size + 1 < w1.heap.size := by omega
    have o1_1 := fun j => c1 (w.heap.size + 1) j (by omega)
    have f1_1 := fun j => d1 (w.heap.size + 1) j (by omega)
    clear c1 d1 hz1
    go_wp2_with fail
    rw [rounds_succ]
    go_wp2_with fail
    refine call_below (w := w) (by repeat' (first | (with_reducible first | exact bwR _ _ | assumption | refine bdn ?_ | refine bwA ?_ ?_ _ | refine bwD ?_ | refine bwS ?_ ?_ _) | omega | (simp <;> omega))) (fun HB => rfracerror_0 y.n y.d _ H_h2.out iy.n iy.d) ?_
    intro w2 hb2 hz2 c2 d2
    have t2 := hb2.size
    try simp only [szA] at hz2 c2 d2
    try simp only [szD] at hz2 c2 d2
    try simp only [szS] at hz2 c2 d2
    try simp only [World.heap_drewN] at hz2 c2 d2
    try simp only [szA] at hz2 c2 d2
    try simp only [szD] at hz2 c2 d2
    try simp only [szS] at hz2 c2 d2
    have s2_0 : w.heap.size < w2.heap.size := by omega
    have o2_0 := fun j => c2 (w.heap.size) j (by omega)
    have f2_0 := fun j => d2 (w.heap.size) j (by omega)
    have s2_1 : w.heap.size + 1 < w2.heap.size := by omega
    have o2_1 := fun j => c2 (w.heap.size + 1) j (by omega)
    have f2_1 := fun j => d2 (w.heap.size + 1) j (by omega)
    clear c2 d2 hz2
    go_wp2_with fail
    rw [rounds_succ]
    go_wp2_with fail
    refine call_below (w := w) (by repeat' (first | (with_reducible first | exact bwR _ _ | assumption | refine bdn ?_ | refine bwA ?_ ?_ _ | refine bwD ?_ | refine bwS ?_ ?_ _) | omega | (simp <;> omega))) (fun HB => rfracerror_0 u.n u.d _ H_h3.out iu.n iu.d) ?_
    intro w3 hb3 hz3 c3 d3
    have t3 := hb3.size
    try simp only [szA] at hz3 c3 d3
    try simp only [szD] at hz3 c3 d3
    try simp only [szS] at hz3 c3 d3
    try simp only [World.heap_drewN] at hz3 c3 d3
    try simp only [szA] at hz3 c3 d3
    try simp only [szD] at hz3 c3 d3
    try simp only [szS] at hz3 c3 d3
    have s3_0 : w.heap.size < w3.heap.size := by omega
    have o3_0 := fun j => c3 (w.heap.size) j (by omega)
    have f3_0 := fun j => d3 (w.heap.size) j (by omega)
    have s3_1 : w.heap.size + 1 < w3.heap.size := by omega
    have o3_1 := fun j => c3 (w.heap.size + 1) j (by omega)
    have f3_1 := fun j => d3 (w.heap.size + 1) j (by omega)
    clear c3 d3 hz3
    go_wp2_with fail
    rw [rounds_succ]
    go_wp2_with fail
    refine call_below (w := w) (by repeat' (first | (with_reducible first | exact bwR _ _ | assumption | refine bdn ?_ | refine bwA ?_ ?_ _ | refine bwD ?_ | refine bwS ?_ ?_ _) | omega | (simp <;> omega))) (fun HB => rfracerror_c h.n h.d c _ H_hcc.out ih.n ih.d) ?_
    intro w4 hb4 hz4 c4 d4
    have t4 := hb4.size
    try simp only [szA] at hz4 c4 d4
    try simp only [szD] at hz4 c4 d4
    try simp only [szS] at hz4 c4 d4
    try simp only [World.heap_drewN] at hz4 c4 d4
    try simp only [szA] at hz4 c4 d4
    try simp only [szD] at hz4 c4 d4
    try simp only [szS] at hz4 c4 d4
    have s4_0 : w.heap.size < w4.heap.size := by omega
    have o4_0 := fun j => c4 (w.heap.size) j (by omega)
    have f4_0 := fun j => d4 (w.heap.size) j (by omega)
    have s4_1 : w.heap.size + 1 < w4.heap.size := by omega
    have o4_1 := fun j => c4 (w.heap.size + 1) j (by omega)
    have f4_1 := fun j => d4 (w.heap.size + 1) j (by omega)
    clear c4 d4 hz4
    go_wp2_with fail
    refine bodyPost_ret (by simp [results, Tryz.results24, go_sem, *]; try rfl) rfl ?_
    exact ⟨_, by rw [← H_hcc.out]; rfl, OwnP.nil _ _ _, by repeat' (first | (with_reducible first | exact bwR _ _ | assumption | refine bdn ?_ | refine bwA ?_ ?_ _ | refine bwD ?_ | refine bwS ?_ ?_ _) | omega | (simp <;> omega))⟩
  all_goals exact absurd ⟨h1, h2, h3, h4⟩ hb
set_option maxHeartbeats 4000000 in
set_option maxRecDepth 100000 in
theorem rbox_good (x y u h : Fr) (w : World) (ix : x.I) (iy : y.I) (iu : u.I) (ih : h.I) (h1 : x.c = 0) (h2 : y.c = 0) (h3 : u.c = 0) (h4 : h.c = 0) :
    Calls Tryz.prog 24 #[.agg #[.int .i64 x.n, .int .i64 x.d, .int .i64 y.n, .int .i64 y.d, .int .i64 u.n, .int .i64 u.d, .int .i64 h.n, .int .i64 h.d]] w (RetPF 102 (boxC x y u h) (boxL x y u h) w) := by
  have e1 := addK_eq h1 h3
  have e2 := addK_eq h2 h4
  have hPI := fun a b => boxP_I (x := x) (y := y) (w := u) (h := h) ix iy a b
  obtain ⟨r, hr⟩ : ∃ r, x.add u = r := ⟨_, rfl⟩
  obtain ⟨q, hq⟩ : ∃ q, y.add h = q := ⟨_, rfl⟩
  obtain ⟨k1, hk1⟩ : ∃ k, x.addC u = k := ⟨_, rfl⟩
  obtain ⟨k2, hk2⟩ : ∃ k, y.addC h = k := ⟨_, rfl⟩
  have cA := fun (W : World) => rdo_add x u r W ix iu hr
  have cB := fun (W : World) => rdo_add y h q W iy ih hq
  rw [e1, hk1] at cA
  rw [e2, hk2] at cB
  have hbad : k1 ≠ 0 ∨ k2 ≠ 0 → boxC x y u h = (2, none) := fun hk => by
    unfold boxC; rw [if_neg (by omega), if_neg (by omega), if_neg (by omega), if_neg (by omega), if_pos (by omega)]
  have hbl : k1 ≠ 0 ∨ k2 ≠ 0 → boxL x y u h = [] := fun hk => boxL_n (by rw [hbad hk]; decide)
  have hgood : k1 = 0 → k2 = 0 → boxC x y u h = shC (boxP x y u h) := fun a b => by
    unfold boxC; rw [if_neg (by omega), if_neg (by omega), if_neg (by omega), if_neg (by omega), if_neg (by omega)]
  have hgl0 : k1 = 0 → k2 = 0 → shC (boxP x y u h) = (0, none) → boxL x y u h = boxP x y u h := fun a b k => if_pos (by rw [hgood a b, k])
  have hgl1 : k1 = 0 → k2 = 0 → (shC (boxP x y u h)).1 ≠ 0 → boxL x y u h = [] := fun a b k => boxL_n (by rw [hgood a b]; exact k)
  obtain ⟨cC, hcC⟩ : ∃ c, boxC x y u h = c := ⟨_, rfl⟩
  obtain ⟨cL, hcL⟩ : ∃ c, boxL x y u h = c := ⟨_, rfl⟩
  rw [hcC] at hbad hgood
  rw [hcL] at hbl hgl0 hgl1
  rw [hcC, hcL]
  have hk1l : k1 ≤ 11 := by rw [← hk1]; exact lowC_le3 _ _
  have hk2l : k2 ≤ 11 := by rw [← hk2]; exact lowC_le3 _ _
  have H_hk1l := Lib.hid hk1l
  clear hk1l
  have H_hk2l := Lib.hid hk2l
  clear hk2l
  have H_h1 := Lib.hid h1
  clear h1
  have H_h2 := Lib.hid h2
  clear h2
  have H_h3 := Lib.hid h3
  clear h3
  have H_h4 := Lib.hid h4
  clear h4
  have H_e1 := Lib.hid e1
  clear e1
  have H_e2 := Lib.hid e2
  clear e2
  have H_hPI := Lib.hid hPI
  clear hPI
  have H_hr := Lib.hid hr
  clear hr
  have H_hq := Lib.hid hq
  clear hq
  have H_hk1 := Lib.hid hk1
  clear hk1
  have H_hk2 := Lib.hid hk2
  clear hk2
  have H_cA := Lib.hid cA
  clear cA
  have H_cB := Lib.hid cB
  clear cB
  have H_hbad := Lib.hid hbad
  clear hbad
  have H_hbl := Lib.hid hbl
  clear hbl
  have H_hgood := Lib.hid hgood
  clear hgood
  have H_hgl0 := Lib.hid hgl0
  clear hgl0
  have H_hgl1 := Lib.hid hgl1
  clear hgl1
  have H_hcC := Lib.hid hcC
  clear hcC
  have H_hcL := Lib.hid hcL
  clear hcL
  go_enter Tryz.func24, Tryz.ntmps24
  go_wp2_with fail
  refine wp_loop_rounds 5 ?_
  rw [rounds_succ]
  go_wp2_with fail
  refine call_below (w := w) (by repeat' (first | (with_reducible first | exact bwR _ _ | assumption | refine bdn ?_ | refine bwA ?_ ?_ _ | refine bwD ?_ | refine bwS ?_ ?_ _) | omega | (simp <;> omega))) (fun HB => rfracerror_0 x.n x.d _ H_h1.out ix.n ix.d) ?_
  intro w1 hb1 hz1 c1 d1
  have t1 := hb1.size
  try simp only [szA] at hz1 c1 d1
  try simp only [szD] at hz1 c1 d1
  try simp only [szS] at hz1 c1 d1
  try simp only [World.heap_drewN] at hz1 c1 d1
  try simp only [szA] at hz1 c1 d1
  try simp only [szD] at hz1 c1 d1
  try simp only [szS] at hz1 c1 d1
  have s1_0 : w.heap.size < w1.heap.size := by omega
  have o1_0 := fun j => c1 (w.heap.size) j (by omega)
  have f1_0 := fun j => d1 (w.heap.size) j (by omega)
  have s1_1 : w.heap.size + 1 < w1.heap.size := by omega
  have o1_1 := fun j => c1 (w.heap.size + 1) j (by omega)
  have f1_1 := fun j => d1 (w.heap.size + 1) j (by omega)
  clear c1 d1 hz1
  go_wp2_with fail
  rw [rounds_succ]
  go_wp2_with fail
  refine call_below (w := w) (by repeat' (first | (with_reducible first | exact bwR _ _ | assumption | refine bdn ?_ | refine bwA ?_ ?_ _ | refine bwD ?_ | refine bwS ?_ ?_ _) | omega | (simp <;> omega))) (fun HB => rfracerror_0 y.n y.d _ H_h2.out iy.n iy.d) ?_
  intro w2 hb2 hz2 c2 d2
  have t2 := hb2.size
  try simp only [szA] at hz2 c2 d2
  try simp only [szD] at hz2 c2 d2
  try simp only [szS] at hz2 c2 d2
  try simp only [World.heap_drewN] at hz2 c2 d2
  try simp only [szA] at hz2 c2 d2
  try simp only [szD] at hz2 c2 d2
  try simp only [szS] at hz2 c2 d2
  have s2_0 : w.heap.size < w2.heap.size := by omega
  have o2_0 := fun j => c2 (w.heap.size) j (by omega)
  have f2_0 := fun j => d2 (w.heap.size) j (by omega)
  have s2_1 : w.heap.size + 1 < w2.heap.size := by omega
  have o2_1 := fun j => c2 (w.heap.size + 1) j (by omega)
  have f2_1 := fun j => d2 (w.heap.size + 1) j (by omega)
  clear c2 d2 hz2
  go_wp2_with fail
  rw [rounds_succ]
  go_wp2_with fail
  refine call_below (w := w) (by repeat' (first | (with_reducible first | exact bwR _ _ | assumption | refine bdn ?_ | refine bwA ?_ ?_ _ | refine bwD ?_ | refine bwS ?_ ?_ _) | omega | (simp <;> omega))) (fun HB => rfracerror_0 u.n u.d _ H_h3.out iu.n iu.d) ?_
  intro w3 hb3 hz3 c3 d3
  have t3 := hb3.size
  try simp only [szA] at hz3 c3 d3
  try simp only [szD] at hz3 c3 d3
  try simp only [szS] at hz3 c3 d3
  try simp only [World.heap_drewN] at hz3 c3 d3
  try simp only [szA] at hz3 c3 d3
  try simp only [szD] at hz3 c3 d3
  try simp only [szS] at hz3 c3 d3
  have s3_0 : w.heap.size < w3.heap.size := by omega
  have o3_0 := fun j => c3 (w.heap.size) j (by omega)
  have f3_0 := fun j => d3 (w.heap.size) j (by omega)
  have s3_1 : w.heap.size + 1 < w3.heap.size := by omega
  have o3_1 := fun j => c3 (w.heap.size + 1) j (by omega)
  have f3_1 := fun j => d3 (w.heap.size + 1) j (by omega)
  clear c3 d3 hz3
  go_wp2_with fail
  rw [rounds_succ]
  go_wp2_with fail
  refine call_below (w := w) (by repeat' (first | (with_reducible first | exact bwR _ _ | assumption | refine bdn ?_ | refine bwA ?_ ?_ _ | refine bwD ?_ | refine bwS ?_ ?_ _) | omega | (simp <;> omega))) (fun HB => rfracerror_0 h.n h.d _ H_h4.out ih.n ih.d) ?_
  intro w4 hb4 hz4 c4 d4
  have t4 := hb4.size
  try simp only [szA] at hz4 c4 d4
  try simp only [szD] at hz4 c4 d4
  try simp only [szS] at hz4 c4 d4
  try simp only [World.heap_drewN] at hz4 c4 d4
  try simp only [szA] at hz4 c4 d4
  try simp only [szD] at hz4 c4 d4
  try simp only [szS] at hz4 c4 d4
  have s4_0 : w.heap.size < w4.heap.size := by omega
  have o4_0 := fun j => c4 (w.heap.size) j (by omega)
  have f4_0 := fun j => d4 (w.heap.size) j (by omega)
  have s4_1 : w.heap.size + 1 < w4.heap.size := by omega
  have o4_1 := fun j => c4 (w.heap.size + 1) j (by omega)
  have f4_1 := fun j => d4 (w.heap.size + 1) j (by omega)
  clear c4 d4 hz4
  go_wp2_with fail
  rw [rounds_succ]
  go_wp2_with fail
  refine call_below (w := w) (by repeat' (first | (with_reducible first | exact bwR _ _ | assumption | refine bdn ?_ | refine bwA ?_ ?_ _ | refine bwD ?_ | refine bwS ?_ ?_ _) | omega | (simp <;> omega))) (fun HB => H_cA.out _) ?_
  intro w5 hb5 hz5 c5 d5
  have t5 := hb5.size
  try simp only [szA] at hz5 c5 d5
  try simp only [szD] at hz5 c5 d5
  try simp only [szS] at hz5 c5 d5
  try simp only [World.heap_drewN] at hz5 c5 d5
  try simp only [szA] at hz5 c5 d5
  try simp only [szD] at hz5 c5 d5
  try simp only [szS] at hz5 c5 d5
  have s5_0 : w.heap.size < w5.heap.size := by omega
  have o5_0 := fun j => c5 (w.heap.size) j (by omega)
  have f5_0 := fun j => d5 (w.heap.size) j (by omega)
  have s5_1 : w.heap.size + 1 < w5.heap.size := by omega
  have o5_1 := fun j => c5 (w.heap.size + 1) j (by omega)
  have f5_1 := fun j => d5 (w.heap.size + 1) j (by omega)
  clear c5 d5 hz5
  unfold frN
  go_wp2_with fail
  go_wp2_with fail
  refine call_below (w := w) (by repeat' (first | (with_reducible first | exact bwR _ _ | assumption | refine bdn ?_ | refine bwA ?_ ?_ _ | refine bwD ?_ | refine bwS ?_ ?_ _) | omega | (simp <;> omega))) (fun HB => H_cB.out _) ?_
  intro w6 hb6 hz6 c6 d6
  have t6 := hb6.size
  try simp only [szA] at hz6 c6 d6
  try simp only [szD] at hz6 c6 d6
  try simp only [szS] at hz6 c6 d6
  try simp only [World.heap_drewN] at hz6 c6 d6
  try simp only [szA] at hz6 c6 d6
  try simp only [szD] at hz6 c6 d6
  try simp only [szS] at hz6 c6 d6
  have s6_0 : w.heap.size < w6.heap.size := by omega
  have o6_0 := fun j => c6 (w.heap.size) j (by omega)
  have f6_0 := fun j => d6 (w.heap.size) j (by omega)
  have s6_1 : w.heap.size + 1 < w6.heap.size := by omega
  have o6_1 := fun j => c6 (w.heap.size + 1) j (by omega)
  have f6_1 := fun j => d6 (w.heap.size + 1) j (by omega)
  have s6_2 : w5.heap.size < w6.heap.size := by omega
  have o6_2 := fun j => c6 (w5.heap.size) j (by omega)
  have f6_2 := fun j => d6 (w5.heap.size) j (by omega)
  clear c6 d6 hz6
  unfold frN
  have gw1 : IntKind.i64.wrap ((k1 : Int) + (k2 : Int)) = ((k1 + k2 : Nat) : Int) := IntWalk.i64_in _ (by have := H_hk1l.out; have := H_hk2l.out; omega)
  by_cases hk : k1 = 0 ∧ k2 = 0
  · obtain ⟨rfl, rfl⟩ := hk
    have Z : ∀ i : Int, z0 0 i = i := fun i => z0_0 rfl
    simp only [Z] at o6_0 o6_1 o6_2 ⊢
    have q1 : ∀ j, w1.cell? ⟨w.heap.size + 1, j, none⟩ = (#[Value.int .i64 0, .int .i64 0] : Array Value)[j]? := fun j => (o1_1 j).trans (World.cell?_alloc_at _ _ _ _ (by simp))
    have q2 := fun j => (o2_1 j).trans (q1 j)
    have q3 := fun j => (o3_1 j).trans (q2 j)
    have q4 := fun j => (o4_1 j).trans (q3 j)
    have q5 := fun j => (o5_1 j).trans (q4 j)
    have q6 := fun j => (o6_1 j).trans ((World.cell?_alloc_past _ _ _ (by show w.heap.size + 1 < w5.heap.size; omega)).trans (q5 j))
    have n1 : ∀ j, w1.frozen? ⟨w.heap.size + 1, j, none⟩ = false := fun j => (f1_1 j).trans (World.frozen?_alloc_at _ _ _ _ (by simp))
    have n2 := fun j => (f2_1 j).trans (n1 j)
    have n3 := fun j => (f3_1 j).trans (n2 j)
    have n4 := fun j => (f4_1 j).trans (n3 j)
    have n5 := fun j => (f5_1 j).trans (n4 j)
    have n6 := fun j => (f6_1 j).trans ((World.frozen?_alloc_past _ _ _ (by show w.heap.size + 1 < w5.heap.size; omega)).trans (n5 j))
    clear q1 q2 q3 q4 q5 n1 n2 n3 n4 n5
    have hgd := H_hgood.out rfl rfl
    have hg0 := H_hgl0.out rfl rfl
    have hg1 := H_hgl1.out rfl rfl
    have hPI := H_hPI.out H_hk1.out H_hk2.out
    have hbp : boxP x y u h = [⟨x.n, x.d, y.n, y.d⟩, ⟨r.n, r.d, y.n, y.d⟩, ⟨r.n, r.d, q.n, q.d⟩, ⟨x.n, x.d, q.n, q.d⟩] := by unfold boxP; rw [H_hr.out, H_hq.out]
    rw [hbp] at hgd hg0 hg1 hPI
    have hown := own_lit1 w6 (.cells #[.int .i64 q.n, .int .i64 q.d] 49) 102 [⟨x.n, x.d, y.n, y.d⟩, ⟨r.n, r.d, y.n, y.d⟩, ⟨r.n, r.d, q.n, q.d⟩, ⟨x.n, x.d, q.n, q.d⟩] (show (4 : Nat) ≤ maxLen by unfold maxLen; decide)
    obtain ⟨oa, cap, hv, hslp⟩ := hown.slp hPI
    cases hv
    obtain ⟨ps, hps⟩ : ∃ u : List Pt, [(⟨x.n, x.d, y.n, y.d⟩ : Pt), ⟨r.n, r.d, y.n, y.d⟩, ⟨r.n, r.d, q.n, q.d⟩, ⟨x.n, x.d, q.n, q.d⟩] = u := ⟨_, rfl⟩
    rw [hps] at hgd hg0 hg1
    obtain ⟨c, hc⟩ : ∃ c : Int, (cC.1 : Int) = c := ⟨_, rfl⟩
    obtain ⟨a, ha⟩ : ∃ a : Int, atI cC.2 = a := ⟨_, rfl⟩
    have cSF := rshapefault_c _ _ _ _ c a _ hslp (by rw [hps, ← hgd]; exact hc) (by rw [hps, ← hgd]; exact ha)
    have hc00 : cC.1 = 0 → cC = (0, none) := fun h => by
      rcases shC_some ps with k' | k'
      · rw [hgd, k']
      · exact absurd (by rw [← hgd]; exact h) k'
    have hg0 := fun k => hg0 (hgd.symm.trans k)
    have hg1 := fun k => hg1 (by rw [← hgd]; exact k)
    clear hslp hPI hbp hgd
    have H_hown := Lib.hid hown
    clear hown
    have H_cSF := Lib.hid cSF
    clear cSF
    have H_hc00 := Lib.hid hc00
    clear hc00
    have H_hg0 := Lib.hid hg0
    clear hg0
    have H_hg1 := Lib.hid hg1
    clear hg1
    have H_hps := Lib.hid hps
    clear hps
    have H_hc := Lib.hid hc
    clear hc
    have H_ha := Lib.hid ha
    clear ha
    go_wp2_with fail
    refine (H_cSF.out).mono ?_
    rintro _ wz ⟨rfl, hbz⟩
    have hBz : Below w6.heap.size w6 wz := below_via (by repeat' (first | (with_reducible first | exact bwR _ _ | assumption | refine bdn ?_ | refine bwA ?_ ?_ _ | refine bwD ?_ | refine bwS ?_ ?_ _) | omega | (simp <;> omega))) hbz
    have hBw : Below w.heap.size w wz := hb6.trans (hBz.mono t6)
    have y6 : w.heap.size + 1 < w6.heap.size := by omega
    have o0 : ∀ j, wz.cell? ⟨w.heap.size + 1, j, none⟩ = (#[Value.int .i64 0, .int .i64 0] : Array Value)[j]? := fun j => (hBz.cell (p := ⟨w.heap.size + 1, j, none⟩) y6).trans (q6 j)
    have n0 : ∀ j, wz.frozen? ⟨w.heap.size + 1, j, none⟩ = false := fun j => (hBz.frozen (p := ⟨w.heap.size + 1, j, none⟩) y6).trans (n6 j)
    have y0 : w.heap.size + 1 < wz.heap.size := Nat.lt_of_lt_of_le y6 hBz.size
    have hownz := Lib.hid (own_below H_hown.out hbz)
    clear hbz hBz q6 n6 o1_0 o1_1 f1_0 f1_1 o2_0 o2_1 f2_0 f2_1 o3_0 o3_1 f3_0 f3_1 o4_0 o4_1 f4_0 f4_1 o5_0 o5_1 f5_0 f5_1 o6_0 o6_1 o6_2 f6_0 f6_1 f6_2
    by_cases h0 : cC.1 = 0
    · obtain rfl : c = 0 := by have := H_hc.out; omega
      have hcc := H_hc00.out h0
      obtain rfl : a = -1 := by rw [← H_ha.out, hcc]; rfl
      have H_h0 := Lib.hid h0
      clear h0
      have H_hcc := Lib.hid hcc
      clear hcc
      go_wp2_with fail
      go_region
      all_goals
        go_wp2_with fail
        with_reducible refine bodyPost_ret (res_boxof _ _ (w.heap.size + 1) (.slice (some ⟨w6.heap.size + 1, 0, none⟩) 4 4) _ _ ?h4 ?h5 (set2d o0 y0 _ _ _ _)) rfl ?_
        case h4 => simp
        case h5 => simp
        rw [H_hg0.out H_hcc.out, H_hcc.out, ← H_hps.out]
        exact ⟨_, rfl, OwnP.base (show OwnP _ w6.heap.size _ _ _ from own_set2d (show OwnR EPt wz w6.heap.size _ _ _ from hownz.out) y6 _ _ _ _) t6, by repeat' (first | (with_reducible first | exact bwR _ _ | assumption | refine bdn ?_ | refine bwA ?_ ?_ _ | refine bwD ?_ | refine bwS ?_ ?_ _) | omega | (simp <;> omega))⟩
    · have g1 : 0 < c := by have := H_hc.out; omega
      have H_h0 := Lib.hid h0
      clear h0
      go_wp2_with fail
      go_region
      all_goals
        go_wp2_with fail
        with_reducible refine bodyPost_ret (res_boxof _ _ (w.heap.size + 1) (.slice none 0 0) _ _ ?h4 ?h5 (set2d o0 y0 _ _ _ _)) rfl ?_
        case h4 => simp
        case h5 => simp
        rw [H_hg1.out H_h0.out]
        exact ⟨_, by rw [H_hc.out, H_ha.out], OwnP.nil _ _ _, by repeat' (first | (with_reducible first | exact bwR _ _ | assumption | refine bdn ?_ | refine bwA ?_ ?_ _ | refine bwD ?_ | refine bwS ?_ ?_ _) | omega | (simp <;> omega))⟩
  · have hsum : (0 : Int) < ((k1 + k2 : Nat) : Int) := by omega
    have hb1 := H_hbad.out (by omega)
    have hb2 := H_hbl.out (by omega)
    have H_hb1 := Lib.hid hb1
    clear hb1
    have H_hb2 := Lib.hid hb2
    clear hb2
    have H_hk := Lib.hid hk
    clear hk
    go_wp2_with fail
    refine call_below (w := w) (by repeat' (first | (with_reducible first | exact bwR _ _ | assumption | refine bdn ?_ | refine bwA ?_ ?_ _ | refine bwD ?_ | refine bwS ?_ ?_ _) | omega | (simp <;> omega))) (fun HB => rbare_any 2 _) ?_
    intro w7 hb7 hz7 c7 d7
    have t7 := hb7.size
    try simp only [szA] at hz7 c7 d7
    try simp only [szD] at hz7 c7 d7
    try simp only [szS] at hz7 c7 d7
    try simp only [World.heap_drewN] at hz7 c7 d7
    try simp only [szA] at hz7 c7 d7
    try simp only [szD] at hz7 c7 d7
    try simp only [szS] at hz7 c7 d7
    have s7_0 : w.heap.size < w7.heap.size := by omega
    have o7_0 := fun j => c7 (w.heap.size) j (by omega)
    have f7_0 := fun j => d7 (w.heap.size) j (by omega)
    have s7_1 : w.heap.size + 1 < w7.heap.size := by omega
    have o7_1 := fun j => c7 (w.heap.size + 1) j (by omega)
    have f7_1 := fun j => d7 (w.heap.size + 1) j (by omega)
    clear c7 d7 hz7
    go_wp2_with fail
    refine bodyPost_ret (by simp [results, Tryz.results24, go_sem, *]; try rfl) rfl ?_
    rw [H_hb1.out, H_hb2.out]
    exact ⟨_, rfl, OwnP.nil _ _ _, by repeat' (first | (with_reducible first | exact bwR _ _ | assumption | refine bdn ?_ | refine bwA ?_ ?_ _ | refine bwD ?_ | refine bwS ?_ ?_ _) | omega | (simp <;> omega))⟩
theorem rbox_any (x y u h : Fr) (w : World) (ix : x.I) (iy : y.I) (iu : u.I) (ih : h.I) :
    Calls Tryz.prog 24 #[.agg #[.int .i64 x.n, .int .i64 x.d, .int .i64 y.n, .int .i64 y.d, .int .i64 u.n, .int .i64 u.d, .int .i64 h.n, .int .i64 h.d]] w (RetPF 102 (boxC x y u h) (boxL x y u h) w) := by
  by_cases hb : x.c = 0 ∧ y.c = 0 ∧ u.c = 0 ∧ h.c = 0
  · exact rbox_good x y u h w ix iy iu ih hb.1 hb.2.1 hb.2.2.1 hb.2.2.2
  · exact rbox_bad x y u h w ix iy iu ih hb
end Go.Proofs.YtpdaenldmgpkjaaGreatDoor
