/-
  Walks over package shape: Check.
-/
import Derived.Test.YthpicnajemnfdaaDoorShape3
import Derived.Test.YthpicnajemnfdaaDoorPl2
namespace Go.Proofs.YthpicnajemnfdaaDoor
open Go.RowKit Lead

theorem shpoint_0 (ea : Nat → Addr) (xn xd yn yd : Int) (w : World) (h1 : I64 xn) (h2 : I64 xd) (h3 : I64 yn) (h4 : I64 yd) (hShape : w.cell? ⟨2, 0, none⟩ = some (.iface 87 (.pointer (some (ea 3))))) (hBound : w.cell? ⟨1, 0, none⟩ = some (.iface 87 (.pointer (some (ea 2))))) (h : ptC xn xd yn yd = 0) :
    Calls Tryd.prog 50 #[.agg #[.int .i64 xn, .int .i64 xd, .int .i64 yn, .int .i64 yd]] w fun e w' => e = .returned .nilIface ∧ Below w.heap.size w w' :=
  (shpoint_any ea xn xd yn yd w h1 h2 h3 h4 hShape hBound).mono fun e w' ⟨h5, h6⟩ => ⟨by rw [h5, evl_0 h], h6⟩
theorem shpoint_n (ea : Nat → Addr) (xn xd yn yd : Int) (w : World) (h1 : I64 xn) (h2 : I64 xd) (h3 : I64 yn) (h4 : I64 yd) (hShape : w.cell? ⟨2, 0, none⟩ = some (.iface 87 (.pointer (some (ea 3))))) (hBound : w.cell? ⟨1, 0, none⟩ = some (.iface 87 (.pointer (some (ea 2))))) (h : ptC xn xd yn yd ≠ 0) :
    Calls Tryd.prog 50 #[.agg #[.int .i64 xn, .int .i64 xd, .int .i64 yn, .int .i64 yd]] w fun e w' => e = .returned (.iface 87 (.pointer (some (ea (ptC xn xd yn yd))))) ∧ Below w.heap.size w w' :=
  (shpoint_any ea xn xd yn yd w h1 h2 h3 h4 hShape hBound).mono fun e w' ⟨h5, h6⟩ => ⟨by rw [h5, evl_n h], h6⟩

set_option maxHeartbeats 1000000 in
theorem shcheck_any (ea : Nat → Addr) (ps : List Pt) (oa : Option Addr) (len cap : Nat) (w : World) (hs : SlP w oa len cap ps) (hShape : w.cell? ⟨2, 0, none⟩ = some (.iface 87 (.pointer (some (ea 3))))) (hBound : w.cell? ⟨1, 0, none⟩ = some (.iface 87 (.pointer (some (ea 2))))) :
    Calls Tryd.prog 33 #[.agg #[.slice oa len cap]] w (RetE 87 48 ea (shC ps) w) := by
  have zhShape := zlt hShape
  have xhShape := zlts hShape
  have yhShape := zne hShape
  have zhBound := zlt hBound
  have xhBound := zlts hBound
  have yhBound := zne hBound
  obtain ⟨hl, hlc, hm, hI, hcase⟩ := hs
  unfold maxLen at hm
  by_cases h30 : 30 < len
  · have hc : shC ps = (2, none) := by unfold shC; rw [if_pos (by omega)]
    clear hcase
    have H_hc := Lib.hid hc
    clear hc
    have H_hl := Lib.hid hl
    clear hl
    have h30' : (30 : Int) < len := by omega
    go_enter Tryd.func33, Tryd.ntmps33
    go_wp2_with fail
    go_returns
    exact ⟨_, rfl, by rw [H_hc.out]; rfl, by repeat' (first | (with_reducible exact Below.refl _ _) | (with_reducible assumption) | (with_reducible refine bdn ?_) | (with_reducible refine Below.alloc ?_ ?_ _) | (with_reducible refine Below.drew ?_) | (with_reducible refine Below.setCell ?_ ?_ _) | omega | (simp <;> omega))⟩
  have hc : shC ps = firstBad ps 0 := by unfold shC; rw [if_neg (by omega)]
  rcases hcase with ⟨rfl, hl0, rfl⟩ | ⟨b, off, rfl, hbl, hp⟩
  · have hc2 : shC ps = (0, none) := by
      rw [hc, List.length_eq_zero_iff.1 (show ps.length = 0 by omega)]; rfl
    subst hl0
    clear hc
    have H_hc2 := Lib.hid hc2
    clear hc2
    have H_hl := Lib.hid hl
    clear hl
    go_enter Tryd.func33, Tryd.ntmps33
    go_wp2_with fail
    refine wp_loop_rounds 1 ?_
    rw [rounds_succ]
    go_wp2_with fail
    go_returns
    exact ⟨_, rfl, by rw [H_hc2.out]; rfl, by repeat' (first | (with_reducible exact Below.refl _ _) | (with_reducible assumption) | (with_reducible refine bdn ?_) | (with_reducible refine Below.alloc ?_ ?_ _) | (with_reducible refine Below.drew ?_) | (with_reducible refine Below.setCell ?_ ?_ _) | omega | (simp <;> omega))⟩
  · have H_hc := Lib.hid hc
    clear hc
    have H_hl := Lib.hid hl
    clear hl
    have H_hp := Lib.hid hp
    clear hp
    go_enter Tryd.func33, Tryd.ntmps33
    go_wp2_with fail
    go_loopw [14] (fun i wr => ∃ k : Nat, k ≤ len ∧ i = .int .i64 k ∧ firstBad ps 0 = firstBad (ps.drop k) k ∧ Below w.heap.size w wr) (fun i _ => len - (intOf i).toNat)
    case atStart => exact ⟨0, Nat.zero_le _, rfl, rfl, by repeat' (first | (with_reducible exact Below.refl _ _) | (with_reducible assumption) | (with_reducible refine bdn ?_) | (with_reducible refine Below.alloc ?_ ?_ _) | (with_reducible refine Below.drew ?_) | (with_reducible refine Below.setCell ?_ ?_ _) | omega | (simp <;> omega))⟩
    case round =>
      obtain ⟨k, hk, rfl, hfb, hB⟩ := hrel
      have hzr := hB.size
      by_cases hlt : k < len
      · have hk' : k < ps.length := by have := H_hl.out; omega
        have q0 := gkeep hB (H_hp.out.c0 k hk') rfl
        have q1 := gkeep hB (H_hp.out.c1 k hk') rfl
        have q2 := gkeep hB (H_hp.out.c2 k hk') rfl
        have q3 := gkeep hB (H_hp.out.c3 k hk') rfl
        have hIk := hI _ (List.getElem_mem hk')
        have hst := firstBad_step hk'
        have hhit := firstBad_hit hk'
        obtain ⟨p, hpk⟩ : ∃ p, ps[k] = p := ⟨_, rfl⟩
        rw [hpk] at q0 q1 q2 q3 hIk hst hhit
        clear hpk
        obtain ⟨xn, xd, yn, yd⟩ := p
        simp only at q0 q1 q2 q3
        by_cases hpc : ptC xn xd yn yd = 0
        · have hst' := hst hpc
          have H_hst' := Lib.hid hst'
          clear hst'
          have H_hfb := Lib.hid hfb
          clear hfb
          have H_hpc := Lib.hid hpc
          clear hpc
          clear hst hhit
          go_wp2_with fail
          refine call_below (w := w) (by repeat' (first | (with_reducible exact Below.refl _ _) | (with_reducible assumption) | (with_reducible refine bdn ?_) | (with_reducible refine Below.alloc ?_ ?_ _) | (with_reducible refine Below.drew ?_) | (with_reducible refine Below.setCell ?_ ?_ _) | omega | (simp <;> omega))) (fun HB => shpoint_0 ea xn xd yn yd _ hIk.xn hIk.xd hIk.yn hIk.yd (gkeep HB hShape rfl) (gkeep HB hBound rfl) H_hpc.out) ?_
          intro w1 hb1 hz1 c1 d1
          have t1 := hb1.size
          clear c1 d1 hz1
          go_wp2_with fail
          go_roundw
          case rel => exact ⟨k + 1, by omega, by go_num, H_hfb.out.trans H_hst'.out, hb1⟩
          case measure => simp [intOf]; omega
        · have hhit' := hhit hpc
          have H_hhit' := Lib.hid hhit'
          clear hhit'
          have H_hfb := Lib.hid hfb
          clear hfb
          clear hst hhit
          go_wp2_with fail
          refine call_below (w := w) (by repeat' (first | (with_reducible exact Below.refl _ _) | (with_reducible assumption) | (with_reducible refine bdn ?_) | (with_reducible refine Below.alloc ?_ ?_ _) | (with_reducible refine Below.drew ?_) | (with_reducible refine Below.setCell ?_ ?_ _) | omega | (simp <;> omega))) (fun HB => shpoint_n ea xn xd yn yd _ hIk.xn hIk.xd hIk.yn hIk.yd (gkeep HB hShape rfl) (gkeep HB hBound rfl) hpc) ?_
          intro w1 hb1 hz1 c1 d1
          have t1 := hb1.size
          clear c1 d1 hz1
          go_wp2_with fail
          go_returns
          refine ⟨_, rfl, ?_, by repeat' (first | (with_reducible exact Below.refl _ _) | (with_reducible assumption) | (with_reducible refine bdn ?_) | (with_reducible refine Below.alloc ?_ ?_ _) | (with_reducible refine Below.drew ?_) | (with_reducible refine Below.setCell ?_ ?_ _) | omega | (simp <;> omega))⟩
          rw [H_hc.out, H_hfb.out, H_hhit'.out]
          exact ⟨hpc, _, hb1.size, rfl, by simp, by simp [Pt.c]⟩
      · have hfe : shC ps = (0, none) := by rw [H_hc.out, hfb, firstBad_end (by have := H_hl.out; omega)]
        have H_hfe := Lib.hid hfe
        clear hfe
        have H_hfb := Lib.hid hfb
        clear hfb
        go_wp2_with fail
        go_returns
        exact ⟨_, rfl, by rw [H_hfe.out]; rfl, by repeat' (first | (with_reducible exact Below.refl _ _) | (with_reducible assumption) | (with_reducible refine bdn ?_) | (with_reducible refine Below.alloc ?_ ?_ _) | (with_reducible refine Below.drew ?_) | (with_reducible refine Below.setCell ?_ ?_ _) | omega | (simp <;> omega))⟩
end Go.Proofs.YthpicnajemnfdaaDoor
