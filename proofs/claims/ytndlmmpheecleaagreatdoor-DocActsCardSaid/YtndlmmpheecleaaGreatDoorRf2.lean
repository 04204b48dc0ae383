/-
  Walks over the reference's document: Flats, the walk.
-/
import Derived.Test.YtndlmmpheecleaaGreatDoorUh
import Derived.Deep.DeepCutAuto
namespace Go.Proofs.YtndlmmpheecleaaGreatDoor
open Go.RowKit Lead Lead.Dc Lead.Rc
set_option maxHeartbeats 8000000 in
set_option maxRecDepth 100000 in
theorem rflats_any (base b : Nat) (v : Value) (l : List ReX) (E : Els) (next : Nat) (d : Nat → Nat) (w : World) (h : RDoc RT_ base w b v l) (hR : RelD l E next) (g : Lead.Dc.Good E next d) (hlen : E.length ≤ 1000) (hnx : next ≤ 1000) :
    Calls Tryz.prog 70 #[.pointer (some ⟨b, 0, none⟩)] w fun en w' => ∃ o c ys, en = .returned (.slice o (below E 10 0).length c) ∧ SlA EFl w' o (below E 10 0).length c ys ∧ (∀ y ∈ ys, SlA EAt w y.ao y.al y.ac y.ats) ∧ FlQ E (below E 10 0) ys ∧ Below w.heap.size w w' := by
  have hl0 : 0 < l.length := by
    obtain ⟨e0, he0, _⟩ := g.root
    exact (hR.el 0 e0 he0).1
  have cA := rall2_any base b v l E next d w h g hlen (fun n e he => by obtain ⟨h1, _, _, _, h2, _⟩ := hR.el n e he; exact ⟨h1, h2⟩)
  obtain ⟨gd, cap, hv, hgd, _⟩ := h.v_form hl0
  subst hv
  have hC := fun (W : World) (hW : Below w.heap.size w W) (n : Nat) (hn : n < l.length) => (h.keep hW).cells rfl hn
  have c0 := h.c0
  have hbl := h.lt
  have hAl : (below E 10 0).length ≤ 1000 := by rw [g.all_len]; exact hlen
  obtain ⟨iF, hiF, hzF0, hzF1, hzF2⟩ := info_parts infoFlF
  obtain ⟨N, hN⟩ : ∃ u, l.length = u := ⟨_, rfl⟩
  have hN1 : N ≤ 1000 := by rw [← hN, hR.len]; exact hnx
  have hmk := fun W => run_make_row' (P := Tryz.prog) 60 3 (.int .i64 0) 8 Tryz.underlying60 infoIntF rfl .i64 .i64 N (by omega) (by omega) W
  rw [hN] at c0 hl0
  have hnd := g.below_nodup 10 0
  have hin := fun n (hn : n ∈ below E 10 0) => (g.all_mem n).2 hn
  obtain ⟨A, hA⟩ : ∃ u, below E 10 0 = u := ⟨_, rfl⟩
  have hahead := fun (i a b' q : Nat) (e : El) => g.ahead (i := i) (a := a) (b := b') (q := q) (e := e)
  have hparin := fun (a b' : Nat) (e : El) => g.par_in (a := a) (b := b') (e := e)
  simp only [hA] at hahead hparin cA hnd hin hAl
  rw [hA]
  have hNs : (0 : Int) ≤ (N : Int) := by omega
  have H_h := Lib.hid h
  clear h
  have H_hR := Lib.hid hR
  clear hR
  have H_g := Lib.hid g
  clear g
  have H_hC := Lib.hid hC
  clear hC
  have H_hN := Lib.hid hN
  clear hN
  have H_hiF := Lib.hid hiF
  clear hiF
  have H_hzF0 := Lib.hid hzF0
  clear hzF0
  have H_hzF1 := Lib.hid hzF1
  clear hzF1
  have H_hzF2 := Lib.hid hzF2
  clear hzF2
  have H_hnd := Lib.hid hnd
  clear hnd
  have H_hin := Lib.hid hin
  clear hin
  have H_hA := Lib.hid hA
  clear hA
  have H_hahead := Lib.hid hahead
  clear hahead
  have H_hparin := Lib.hid hparin
  clear hparin
  go_enter Tryz.func70, Tryz.ntmps70
  go_wp2_with fail
  refine cA.mono ?_
  rintro _ w1 ⟨vA, rfl, hvA, hb1⟩
  obtain ⟨oA, cA', rfl⟩ := ow_form hvA
  have hSA := own_sla hvA
  have hB1 : Below w.heap.size w w1 := hb1
  clear hb1 cA
  have c01 := (hB1.cell (p := ⟨b, 0, none⟩) hbl).trans c0
  obtain ⟨gp, hgp⟩ : ∃ u, w1.heap.size = u := ⟨_, rfl⟩
  have hs1 := hB1.size
  have hpl := World.rowIs_made w1 (.int .i64 0) N 3
  have hB12 : Below w1.heap.size w1 (w1.alloc (.cells (madeCells #[.int .i64 0] N) 3)) := (Below.refl _ _).alloc (Nat.le_refl _) _
  rw [hgp] at hpl
  obtain ⟨w2, hw2⟩ : ∃ u, w1.alloc (.cells (madeCells #[.int .i64 0] N) 3) = u := ⟨_, rfl⟩
  rw [hw2] at hpl hB12
  have H_hSA := Lib.hid hSA
  clear hSA
  have H_hpl := Lib.hid hpl
  clear hpl
  clear hvA
  go_wp2_with fail
  go_loopw [5, 6] (fun t5 t6 wr => ∃ (i : Nat) (ys : List FlX) (v' : Value) (f : Nat → Value), i ≤ A.length ∧ t6 = .int .i64 i ∧ t5 = v' ∧ RowKit.Hid (OwnR EFl wr (gp + 1) 95 v' ys) ∧ RowKit.Hid (FlI E A i ys ∧ ∀ y ∈ ys, SlA EAt w y.ao y.al y.ac y.ats) ∧ RowKit.Hid (wr.rowIs gp 3 N f ∧ PlI A i f) ∧ Below gp w1 wr) (fun _ t6 _ => A.length - (intOf t6).toNat)
  case atStart => exact ⟨0, [], _, _, Nat.zero_le _, rfl, rfl, Lib.hid (OwnR.nil _ _ _ _), Lib.hid ⟨FlI.nil _ _, fun _ h => by cases h⟩, Lib.hid ⟨H_hpl.out, PlI.zero A⟩, by rw [← hgp]; exact hB12⟩
  case round =>
    obtain ⟨i, ys, v', f, hi, rfl, rfl, H_o, H_y, H_p, hB⟩ := hrel
    obtain ⟨oY, cY, rfl⟩ := ow_form H_o.out
    have hBw : Below w.heap.size w wr := hB1.trans (hB.mono (by omega))
    have hzr := hB.size
    have hBr : Below w1.heap.size w1 wr := by rw [hgp]; exact hB
    by_cases hlt : i < A.length
    · obtain ⟨gA, offA, rfl, hgA, hrA⟩ := H_hSA.out.2.2.2.resolve_left (by intro h; rw [h] at hlt; exact absurd hlt (Nat.not_lt_zero _))
      have q0 : wr.cell? ⟨gA, offA + i, none⟩ = some (.int .i64 (A[i] : Int)) := by
        have h := (hrA.keep hBr hgA) i hlt 0 _ rfl
        simpa [EIn] using h
      have hai : A[i]? = some A[i] := List.getElem?_eq_getElem hlt
      obtain ⟨e, he⟩ := H_hin.out _ (List.getElem_mem hlt)
      obtain ⟨a, ha⟩ : ∃ u, A[i] = u := ⟨_, rfl⟩
      rw [ha] at q0 hai he
      obtain ⟨hal, hx1, hx2, hx3, _, _⟩ := H_hR.out.el a e he
      have haN : a < N := by rw [← H_hN.out]; exact hal
      have hcx := H_hC.out wr hBw a hal
      have hsx := (H_h.out.sub _ (List.getElem_mem hal)).ats
      obtain ⟨x, hx⟩ : ∃ u, l[a] = u := ⟨_, rfl⟩
      rw [hx] at hcx hx1 hx2 hx3 hsx
      obtain ⟨nm, ao, al, ac, ats, par, ko, kl, kc, kids, inn⟩ := x
      obtain ⟨e0, e1, e2, e3, e4⟩ := hcx
      have hSx : SlA EAt w ao al ac ats := Rc.sla_of (show OwnR EAt w base 59 (.slice ao al ac) ats from hsx)
      have c0r := (hBw.cell (p := ⟨b, 0, none⟩) hbl).trans c0
      have gi : IntKind.i64.wrap ((i : Int) + 1) = ((i + 1 : Nat) : Int) := IntWalk.i64_in _ (by omega)
      have gil : (i : Int) < (A.length : Int) := by omega
      have hnm : nm = e.name := hx1
      have hat : ats = e.attrs := hx2
      have hpr : par = e.parent := hx3
      have hyl : ys.length = i := H_y.out.1.1
      have hgpr : gp < wr.heap.size := H_p.out.1.lt
      have zA : gA < wr.heap.size := by omega
      have zb : b < wr.heap.size := by omega
      have zd : gd < wr.heap.size := by omega
      clear hrA hsx hx1 hx2 hx3
      have H_hai := Lib.hid hai
      clear hai
      have H_he := Lib.hid he
      clear he
      have H_ha := Lib.hid ha
      clear ha
      have H_hx := Lib.hid hx
      clear hx
      have H_hSx := Lib.hid hSx
      clear hSx
      have H_hnm := Lib.hid hnm
      clear hnm
      have H_hat := Lib.hid hat
      clear hat
      have H_hpr := Lib.hid hpr
      clear hpr
      have H_hyl := Lib.hid hyl
      clear hyl
      go_upto_region 7 with fail
      go_cut [7] (fun s7 wx => ∃ be : Nat, s7 = .pointer (some ⟨be, 0, none⟩) ∧ wr.heap.size ≤ be ∧ Below wr.heap.size wr wx ∧ RowKit.Hid (wx.heap[be]? = some (.cells #[.string nm, .slice ao al ac, .int .i64 par, .slice ko kl kc, .bool inn] 62 (0, 0))))
      case first =>
        go_region
        all_goals
          go_wp2_with fail
          go_meet
          first
          | exact ⟨_, rfl, Nat.le_refl _, (Below.refl _ _).alloc (Nat.le_refl _) _, heap_alloc_new _ _⟩
          | exact ⟨_, rfl, Nat.le_refl _, ((Below.refl _ _).alloc (Nat.le_refl _) _).drew, heap_alloc_new _ _⟩
          | exact ⟨_, rfl, Nat.le_refl _, (Below.refl _ _).drew.alloc (Nat.le_refl _) _, heap_alloc_new _ _⟩
          | trace_state
      case rest =>
        obtain ⟨be, rfl, hbe, hBx, H_b⟩ := hcut
        rename World => wx
        have zx := Dc.hlt H_b.out
        have hpx := H_p.out.1.of_block (hBx.block _ hgpr)
        have fx := hpx.frozen
        have q0x := (hBx.cell (p := ⟨gA, offA + i, none⟩) (by have := hB.size; show gA < wr.heap.size; omega)).trans q0
        obtain ⟨zz, hzz⟩ := H_p.out.2.2 a
        have px := hpx.cell haN
        have hpS := hpx.set a (.int .i64 (i : Int))
        have hoS : OwnR EFl (wx.setCell ⟨gp, a, none⟩ (.int .i64 (i : Int))) (gp + 1) 95 (.slice oY ys.length cY) ys := own_kept (H_o.out.keep hBx) (fun k hk => heap_setCell_other _ ⟨gp, a, none⟩ k _ (by have := (H_o.out.lt k hk).1; show k ≠ gp; omega))
        have hbS := (heap_setCell_other wx ⟨gp, a, none⟩ be (.int .i64 (i : Int)) (by show be ≠ gp; omega)).trans H_b.out
        have hBS : Below gp w1 (wx.setCell ⟨gp, a, none⟩ (.int .i64 (i : Int))) := (hB.trans (hBx.mono (Nat.le_of_lt hgpr))).setCell (p := ⟨gp, a, none⟩) (Nat.le_refl _) _
        have hPn := PlI.next H_hnd.out H_p.out.2 H_hai.out
        have H_hpx := Lib.hid hpx
        clear hpx
        have H_hpS := Lib.hid hpS
        clear hpS
        have H_hoS := Lib.hid hoS
        clear hoS
        have H_hbS := Lib.hid hbS
        clear hbS
        have H_hBS := Lib.hid hBS
        clear hBS
        have H_hPn := Lib.hid hPn
        clear hPn
        clear q0 e0 e1 e2 e3 e4 c0r
        go_upto_region 9 with fail
        generalize wx.setCell ⟨gp, a, none⟩ (.int .i64 (i : Int)) = wS at H_hpS H_hoS H_hbS H_hBS ⊢
        have zS := Dc.hlt H_hbS.out
        have x0 := Dc.hcell (j := 0) H_hbS.out rfl
        have x1 := Dc.hcell (j := 1) H_hbS.out rfl
        have x2 := Dc.hcell (j := 2) H_hbS.out rfl
        have gpS := H_hpS.out.lt
        have hBSw : Below w.heap.size w wS := hB1.trans (H_hBS.out.mono (by omega))
        clear px fx q0x
        by_cases hp0 : par < 0
        · have g0 : ¬ (0 : Int) ≤ par := by omega
          go_upto_region 13 with fail
          have hBy : Below wS.heap.size wS (wS.alloc (.cells #[.string nm, .slice ao al ac, .int .i64 (-1), .int .i64 1] 95)) := (Below.refl _ _).alloc (Nat.le_refl _) _
          have hby : (wS.alloc (.cells #[.string nm, .slice ao al ac, .int .i64 (-1), .int .i64 1] 95)).heap[wS.heap.size]? = some (.cells #[.string nm, .slice ao al ac, .int .i64 (-1), .int .i64 1] 95 (0, 0)) := heap_alloc_new _ _
          generalize wS.alloc (.cells #[.string nm, .slice ao al ac, .int .i64 (-1), .int .i64 1] 95) = wy at hBy hby ⊢
          have hYn := H_y.out.1.next (y := ⟨nm, ao, al, ac, ats, -1, 1⟩) H_hai.out H_he.out H_hnm.out H_hat.out (fun _ => rfl) (fun b' q hb _ => by have := H_hpr.out; omega)
          obtain ⟨y0, y1, y2, y3⟩ : wy.cell? ⟨wS.heap.size, 0, none⟩ = some (.string nm) ∧ wy.cell? ⟨wS.heap.size, 1, none⟩ = some (.slice ao al ac) ∧ wy.cell? ⟨wS.heap.size, 2, none⟩ = some (.int .i64 ((-1))) ∧ wy.cell? ⟨wS.heap.size, 3, none⟩ = some (.int .i64 (1)) := ⟨Dc.hcell hby rfl, Dc.hcell hby rfl, Dc.hcell hby rfl, Dc.hcell hby rfl⟩
          have hoy := H_hoS.out.keep hBy
          have hpy := H_hpS.out.of_block (hBy.block _ gpS)
          have sy := hBy.size
          have hByw : Below gp w1 wy := H_hBS.out.trans (hBy.mono (Nat.le_of_lt gpS))
          have hyl1 : ys.length + 1 ≤ 1000000 := by have := H_hyl.out; omega
          have hYs : ∀ y ∈ ys ++ [(⟨nm, ao, al, ac, ats, (-1), 1⟩ : FlX)], SlA EAt w y.ao y.al y.ac y.ats := fun y hy => by
            rcases List.mem_append.1 hy with hy | hy
            · exact H_y.out.2 y hy
            · rw [List.mem_singleton.1 hy]; exact H_hSx.out
          clear x0 x1 x2
          have H_hby := Lib.hid hby
          clear hby
          have H_hoy := Lib.hid hoy
          clear hoy
          have H_hpy := Lib.hid hpy
          clear hpy
          have H_hByw := Lib.hid hByw
          clear hByw
          have H_hYn := Lib.hid hYn
          clear hYn
          have H_hYs := Lib.hid hYs
          clear hYs
          have H_hyl1 := Lib.hid hyl1
          clear hyl1
          go_wp2_with (at_builtin; refine wp_append_told rfl (.tmp 62) (.tmp 64) 28 rfl EFl (gp + 1) 95 iF _ 56 Tryz.underlying28 H_hiF.out H_hzF0.out H_hzF1.out H_hzF2.out rfl (by decide) _ ys rfl _ 0 1 1 [⟨nm, ao, al, ac, ats, (-1), 1⟩] rfl rfl ?a1 ?a2 ?a3 ?a4 ?_)
          case a1 => first | exact H_hyl1.out | (have := H_hyl1.out; omega) | (have := H_hyl1.out; simp; omega)
          case a2 => exact H_hoy.out.alloc _
          case a3 => exact row_one (vs := #[.string nm, .slice ao al ac, .int .i64 ((-1)), .int .i64 (1)]) rfl (fun j => World.cell?_alloc_new _ _ _ _)
          case a4 => first | omega | (simp; omega)
          intro v9 w9 hv9 hA9 hg9 ho9
          have hByz : Below gp w1 (wy.alloc (.cells #[.string nm, .slice ao al ac, .int .i64 ((-1)), .int .i64 (1)] 95)) := H_hByw.out.alloc (by omega) _
          have hp9 := (H_hpy.out.alloc (.cells #[.string nm, .slice ao al ac, .int .i64 ((-1)), .int .i64 (1)] 95)).of_block (hg9.block gp (by simp; omega) (fun h => by have := (H_hoy.out.lt gp h.symm).1; omega))
          have hB9 : Below gp w1 w9 := hByz.grown hg9 (by simp; omega) (fun k hk => by have := (H_hoy.out.lt k hk).1; omega)
          clear ho9 hg9 hA9 hByz
          have H_hv9 := Lib.hid hv9
          clear hv9
          have H_hp9 := Lib.hid hp9
          clear hp9
          go_wp2_with fail
          go_roundw
          case rel =>
            exact ⟨i + 1, _, _, _, by omega, by go_num, rfl, H_hv9, Lib.hid ⟨H_hYn.out, H_hYs.out⟩, Lib.hid ⟨H_hp9.out, H_hPn.out⟩, hB9⟩
          case measure => simp [intOf]; omega
        · have g0 : (0 : Int) ≤ par := by omega
          obtain ⟨p, hpp⟩ := Int.eq_ofNat_of_zero_le g0
          subst hpp
          obtain ⟨q, hq⟩ := H_hparin.out a p e H_he.out H_hpr.out.symm
          have hqi := H_hahead.out i a p q e H_hai.out H_he.out H_hpr.out.symm hq
          have hpN : p < N := by
            obtain ⟨pe, hpe⟩ := H_hin.out p (List.mem_of_getElem? hq)
            rw [← H_hN.out]
            exact (H_hR.out.el p pe hpe).1
          have pp := (H_hpS.out.cell hpN).trans (congrArg some (H_hPn.out.1 q p (by omega) hq))
          have hqy : q < ys.length := by have := H_hyl.out; omega
          obtain ⟨gY, zY, hoY, hrY⟩ : ∃ gY, gY < wS.heap.size ∧ oY = some ⟨gY, 0, none⟩ ∧ RowIn EFl wS gY 0 ys := by
            rcases H_hoS.out.form with ⟨_, h'⟩ | ⟨gY, cap', h1, _, h2, _, _, h3⟩
            · rw [h'] at hqy; exact absurd hqy (Nat.not_lt_zero _)
            · injection h1 with h4 h5 h6
              exact ⟨gY, h2, h4, h3⟩
          subst hoY
          obtain ⟨DP, hDP⟩ : ∃ u, ys[q].dp = u := ⟨_, rfl⟩
          have yd : wS.cell? ⟨gY, q * 4 + 3, none⟩ = some (.int .i64 DP) := by
            have h : wS.cell? ⟨gY, 0 + q * 4 + 3, none⟩ = some (.int .i64 ys[q].dp) := hrY q hqy 3 _ rfl
            rw [hDP] at h
            simpa using h
          clear hrY hDP
          have gpN : (p : Int) < (N : Int) := by omega
          have gqy : (q : Int) < (ys.length : Int) := by omega
          have gq0 : (0 : Int) ≤ (q : Int) := by omega
          have H_hq := Lib.hid hq
          clear hq
          go_upto_region 13 with fail
          obtain ⟨Z, hZ⟩ : ∃ u, wrap64 (DP + 1) = u := ⟨_, rfl⟩
          rw [hZ]
          have hBy : Below wS.heap.size wS (wS.alloc (.cells #[.string nm, .slice ao al ac, .int .i64 (q : Int), .int .i64 Z] 95)) := (Below.refl _ _).alloc (Nat.le_refl _) _
          have hby : (wS.alloc (.cells #[.string nm, .slice ao al ac, .int .i64 (q : Int), .int .i64 Z] 95)).heap[wS.heap.size]? = some (.cells #[.string nm, .slice ao al ac, .int .i64 (q : Int), .int .i64 Z] 95 (0, 0)) := heap_alloc_new _ _
          generalize wS.alloc (.cells #[.string nm, .slice ao al ac, .int .i64 (q : Int), .int .i64 Z] 95) = wy at hBy hby ⊢
          have hYn := H_y.out.1.next (y := ⟨nm, ao, al, ac, ats, (q : Int), Z⟩) H_hai.out H_he.out H_hnm.out H_hat.out (fun h => by have := H_hpr.out; omega) (fun b' q' hb hq' => by
            have hbp : b' = p := by have := H_hpr.out; omega
            subst hbp
            have hqq : q = q' := (List.getElem?_inj (List.getElem?_eq_some_iff.1 H_hq.out).1 H_hnd.out).1 (H_hq.out.trans hq'.symm)
            rw [hqq])
          clear yd pp hZ
          obtain ⟨y0, y1, y2, y3⟩ : wy.cell? ⟨wS.heap.size, 0, none⟩ = some (.string nm) ∧ wy.cell? ⟨wS.heap.size, 1, none⟩ = some (.slice ao al ac) ∧ wy.cell? ⟨wS.heap.size, 2, none⟩ = some (.int .i64 ((q : Int))) ∧ wy.cell? ⟨wS.heap.size, 3, none⟩ = some (.int .i64 (Z)) := ⟨Dc.hcell hby rfl, Dc.hcell hby rfl, Dc.hcell hby rfl, Dc.hcell hby rfl⟩
          have hoy := H_hoS.out.keep hBy
          have hpy := H_hpS.out.of_block (hBy.block _ gpS)
          have sy := hBy.size
          have hByw : Below gp w1 wy := H_hBS.out.trans (hBy.mono (Nat.le_of_lt gpS))
          have hyl1 : ys.length + 1 ≤ 1000000 := by have := H_hyl.out; omega
          have hYs : ∀ y ∈ ys ++ [(⟨nm, ao, al, ac, ats, (q : Int), Z⟩ : FlX)], SlA EAt w y.ao y.al y.ac y.ats := fun y hy => by
            rcases List.mem_append.1 hy with hy | hy
            · exact H_y.out.2 y hy
            · rw [List.mem_singleton.1 hy]; exact H_hSx.out
          clear x0 x1 x2
          have H_hby := Lib.hid hby
          clear hby
          have H_hoy := Lib.hid hoy
          clear hoy
          have H_hpy := Lib.hid hpy
          clear hpy
          have H_hByw := Lib.hid hByw
          clear hByw
          have H_hYn := Lib.hid hYn
          clear hYn
          have H_hYs := Lib.hid hYs
          clear hYs
          have H_hyl1 := Lib.hid hyl1
          clear hyl1
          go_wp2_with (at_builtin; refine wp_append_told rfl (.tmp 62) (.tmp 64) 28 rfl EFl (gp + 1) 95 iF _ 56 Tryz.underlying28 H_hiF.out H_hzF0.out H_hzF1.out H_hzF2.out rfl (by decide) _ ys rfl _ 0 1 1 [⟨nm, ao, al, ac, ats, (q : Int), Z⟩] rfl rfl ?a1 ?a2 ?a3 ?a4 ?_)
          case a1 => first | exact H_hyl1.out | (have := H_hyl1.out; omega) | (have := H_hyl1.out; simp; omega)
          case a2 => exact H_hoy.out.alloc _
          case a3 => exact row_one (vs := #[.string nm, .slice ao al ac, .int .i64 ((q : Int)), .int .i64 (Z)]) rfl (fun j => World.cell?_alloc_new _ _ _ _)
          case a4 => first | omega | (simp; omega)
          intro v9 w9 hv9 hA9 hg9 ho9
          have hByz : Below gp w1 (wy.alloc (.cells #[.string nm, .slice ao al ac, .int .i64 ((q : Int)), .int .i64 (Z)] 95)) := H_hByw.out.alloc (by omega) _
          have hp9 := (H_hpy.out.alloc (.cells #[.string nm, .slice ao al ac, .int .i64 ((q : Int)), .int .i64 (Z)] 95)).of_block (hg9.block gp (by simp; omega) (fun h => by have := (H_hoy.out.lt gp h.symm).1; omega))
          have hB9 : Below gp w1 w9 := hByz.grown hg9 (by simp; omega) (fun k hk => by have := (H_hoy.out.lt k hk).1; omega)
          clear ho9 hg9 hA9 hByz
          have H_hv9 := Lib.hid hv9
          clear hv9
          have H_hp9 := Lib.hid hp9
          clear hp9
          go_wp2_with fail
          go_roundw
          case rel =>
            exact ⟨i + 1, _, _, _, by omega, by go_num, rfl, H_hv9, Lib.hid ⟨H_hYn.out, H_hYs.out⟩, Lib.hid ⟨H_hp9.out, H_hPn.out⟩, hB9⟩
          case measure => simp [intOf]; omega
    · obtain rfl : i = A.length := by omega
      have hown := H_o.out
      have hsl := own_sla hown
      have hyl : ys.length = A.length := H_y.out.1.1
      rw [hyl] at hsl
      have H_hown := Lib.hid hown
      clear hown
      have H_hsl := Lib.hid hsl
      clear hsl
      have H_hyl := Lib.hid hyl
      clear hyl
      go_wp2_with fail
      go_returns
      exact ⟨oY, cY, ys, by first | rfl | (rw [H_hyl.out]; rfl), H_hsl.out, H_y.out.2, H_y.out.1.done, hBw⟩
end Go.Proofs.YtndlmmpheecleaaGreatDoor
