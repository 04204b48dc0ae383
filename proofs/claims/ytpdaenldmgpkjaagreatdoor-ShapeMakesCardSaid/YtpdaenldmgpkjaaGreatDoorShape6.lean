/-
  Walks over package shape: crossings of whatever shape; Wind, Cross.
-/
import Derived.Test.YtpdaenldmgpkjaaGreatDoorShape5
namespace Go.Proofs.YtpdaenldmgpkjaaGreatDoor
open Go.RowKit Lead

set_option maxHeartbeats 1000000 in
theorem shcrossings_nil (ea : Nat → Addr) (ps : List Pt) (p : Pt) (w : World) (hs : SlP w none 0 0 ps) (hp : PtOk p) (hShape : w.cell? ⟨2, 0, none⟩ = some (.iface 308 (.pointer (some (ea 3))))) (hBound : w.cell? ⟨0, 0, none⟩ = some (.iface 308 (.pointer (some (ea 2))))) :
    Calls Tryz.prog 74 #[.agg #[.slice none 0 0], .agg #[.int .i64 p.xn, .int .i64 p.xd, .int .i64 p.yn, .int .i64 p.yd]] w (RetL 3 (crsTo ps p ps.length) w) := by
  have zhShape := zlt hShape
  have xhShape := zlts hShape
  have yhShape := zne hShape
  have zhBound := zlt hBound
  have xhBound := zlts hBound
  have yhBound := zne hBound
  have hn : ps = [] := List.length_eq_zero_iff.1 hs.1.symm
  have hsC : shC ps = (0, none) := by rw [hn]; rfl
  have hpc : ptC p.xn p.xd p.yn p.yd = 0 := hp.c0
  obtain ⟨xn, xd, yn, yd⟩ := p
  have hpI := hp.I
  have H_hs := Lib.hid hs
  clear hs
  have H_hsC := Lib.hid hsC
  clear hsC
  have H_hpc := Lib.hid hpc
  clear hpc
  have H_hn := Lib.hid hn
  clear hn
  go_enter Tryz.func74, Tryz.ntmps74
  go_wp2_with fail
  refine call_e0 (w := w) (by repeat' (first | (with_reducible first | exact bwR _ _ | assumption | refine bdn ?_ | refine bwA ?_ ?_ _ | refine bwD ?_ | refine bwS ?_ ?_ _) | omega | (simp <;> omega))) (fun HB => shcheck_any ea ps _ _ _ _ (H_hs.out.keep HB rfl) (gkeep HB hShape rfl) (gkeep HB hBound rfl)) H_hsC.out ?_
  intro w1 hb1 hz1 c1 d1
  have t1 := hb1.size
  try simp only [szA] at hz1 c1 d1
  try simp only [szD] at hz1 c1 d1
  try simp only [szS] at hz1 c1 d1
  try simp only [World.heap_drewN] at hz1 c1 d1
  have s1_0 : w.heap.size < w1.heap.size := by omega
  have o1_0 := fun j => c1 (w.heap.size) j (by omega)
  have f1_0 := fun j => d1 (w.heap.size) j (by omega)
  have s1_1 : w.heap.size + 1 < w1.heap.size := by omega
  have o1_1 := fun j => c1 (w.heap.size + 1) j (by omega)
  have f1_1 := fun j => d1 (w.heap.size + 1) j (by omega)
  clear c1 d1 hz1
  go_wp2_with fail
  refine call_below (w := w) (by repeat' (first | (with_reducible first | exact bwR _ _ | assumption | refine bdn ?_ | refine bwA ?_ ?_ _ | refine bwD ?_ | refine bwS ?_ ?_ _) | omega | (simp <;> omega))) (fun HB => shpoint_0 ea xn xd yn yd _ hpI.xn hpI.xd hpI.yn hpI.yd (gkeep HB hShape rfl) (gkeep HB hBound rfl) H_hpc.out) ?_
  intro w2 hb2 hz2 c2 d2
  have t2 := hb2.size
  try simp only [szA] at hz2 c2 d2
  try simp only [szD] at hz2 c2 d2
  try simp only [szS] at hz2 c2 d2
  try simp only [World.heap_drewN] at hz2 c2 d2
  have s2_0 : w.heap.size < w2.heap.size := by omega
  have o2_0 := fun j => c2 (w.heap.size) j (by omega)
  have f2_0 := fun j => d2 (w.heap.size) j (by omega)
  have s2_1 : w.heap.size + 1 < w2.heap.size := by omega
  have o2_1 := fun j => c2 (w.heap.size + 1) j (by omega)
  have f2_1 := fun j => d2 (w.heap.size + 1) j (by omega)
  clear c2 d2 hz2
  go_wp2_with fail
  refine wp_loop_rounds 1 ?_
  rw [rounds_succ]
  go_wp2_with fail
  go_returns
  exact ⟨_, rfl, by rw [H_hn.out]; exact World.ownsRow_nil _ _ _ _, hb2⟩

set_option maxHeartbeats 1000000 in
theorem shcrossings_e1 (ea : Nat → Addr) (ps : List Pt) (oa : Option Addr) (len cap : Nat) (p : Pt) (w : World) (hs : SlP w oa len cap ps) (hc : (shC ps).1 ≠ 0) (hShape : w.cell? ⟨2, 0, none⟩ = some (.iface 308 (.pointer (some (ea 3))))) (hBound : w.cell? ⟨0, 0, none⟩ = some (.iface 308 (.pointer (some (ea 2))))) :
    Calls Tryz.prog 74 #[.agg #[.slice oa len cap], .agg #[.int .i64 p.xn, .int .i64 p.xd, .int .i64 p.yn, .int .i64 p.yd]] w (RetLE 308 119 ea 3 (shC ps) [] w) := by
  have zhShape := zlt hShape
  have xhShape := zlts hShape
  have yhShape := zne hShape
  have zhBound := zlt hBound
  have xhBound := zlts hBound
  have yhBound := zne hBound
  obtain ⟨xn, xd, yn, yd⟩ := p
  have H_hs := Lib.hid hs
  clear hs
  have H_hc := Lib.hid hc
  clear hc
  go_enter Tryz.func74, Tryz.ntmps74
  go_wp2_with fail
  refine call_e (w := w) (by repeat' (first | (with_reducible first | exact bwR _ _ | assumption | refine bdn ?_ | refine bwA ?_ ?_ _ | refine bwD ?_ | refine bwS ?_ ?_ _) | omega | (simp <;> omega))) (fun HB => shcheck_any ea ps _ _ _ _ (H_hs.out.keep HB rfl) (gkeep HB hShape rfl) (gkeep HB hBound rfl)) ?_
  intro v w1 hv hb1 hz1 c1 d1
  obtain ⟨t, a, rfl⟩ := hv.some H_hc.out
  simp only [World.size_alloc] at hz1 hv
  have H_hv := Lib.hid hv
  clear hv c1 d1
  go_wp2_with fail
  go_returns
  exact ⟨_, _, rfl, H_hv.out.keep (Below.refl _ _) rfl (by omega), World.ownsRow_nil _ _ _ _, hb1⟩

set_option maxHeartbeats 1000000 in
theorem shcrossings_e2 (ea : Nat → Addr) (ps : List Pt) (oa : Option Addr) (len cap : Nat) (p : Pt) (w : World) (hs : SlP w oa len cap ps) (hsC : shC ps = (0, none)) (hpI : p.I) (hpc : p.c ≠ 0) (hShape : w.cell? ⟨2, 0, none⟩ = some (.iface 308 (.pointer (some (ea 3))))) (hBound : w.cell? ⟨0, 0, none⟩ = some (.iface 308 (.pointer (some (ea 2))))) :
    Calls Tryz.prog 74 #[.agg #[.slice oa len cap], .agg #[.int .i64 p.xn, .int .i64 p.xd, .int .i64 p.yn, .int .i64 p.yd]] w (RetLE 308 119 ea 3 (p.c, some 30) [] w) := by
  have zhShape := zlt hShape
  have xhShape := zlts hShape
  have yhShape := zne hShape
  have zhBound := zlt hBound
  have xhBound := zlts hBound
  have yhBound := zne hBound
  obtain ⟨xn, xd, yn, yd⟩ := p
  have H_hs := Lib.hid hs
  clear hs
  have H_hsC := Lib.hid hsC
  clear hsC
  go_enter Tryz.func74, Tryz.ntmps74
  go_wp2_with fail
  refine call_e0 (w := w) (by repeat' (first | (with_reducible first | exact bwR _ _ | assumption | refine bdn ?_ | refine bwA ?_ ?_ _ | refine bwD ?_ | refine bwS ?_ ?_ _) | omega | (simp <;> omega))) (fun HB => shcheck_any ea ps _ _ _ _ (H_hs.out.keep HB rfl) (gkeep HB hShape rfl) (gkeep HB hBound rfl)) H_hsC.out ?_
  intro w1 hb1 hz1 c1 d1
  have t1 := hb1.size
  try simp only [szA] at hz1 c1 d1
  try simp only [szD] at hz1 c1 d1
  try simp only [szS] at hz1 c1 d1
  try simp only [World.heap_drewN] at hz1 c1 d1
  have s1_0 : w.heap.size < w1.heap.size := by omega
  have o1_0 := fun j => c1 (w.heap.size) j (by omega)
  have f1_0 := fun j => d1 (w.heap.size) j (by omega)
  have s1_1 : w.heap.size + 1 < w1.heap.size := by omega
  have o1_1 := fun j => c1 (w.heap.size + 1) j (by omega)
  have f1_1 := fun j => d1 (w.heap.size + 1) j (by omega)
  clear c1 d1 hz1
  go_wp2_with fail
  refine call_below (w := w) (by repeat' (first | (with_reducible first | exact bwR _ _ | assumption | refine bdn ?_ | refine bwA ?_ ?_ _ | refine bwD ?_ | refine bwS ?_ ?_ _) | omega | (simp <;> omega))) (fun HB => shpoint_n ea xn xd yn yd _ hpI.xn hpI.xd hpI.yn hpI.yd (gkeep HB hShape rfl) (gkeep HB hBound rfl) hpc) ?_
  intro w2 hb2 hz2 c2 d2
  have t2 := hb2.size
  clear c2 d2 hz2
  go_wp2_with fail
  go_returns
  exact ⟨_, _, rfl, ⟨hpc, _, t2, rfl, by simp, by simp [Pt.c]⟩, World.ownsRow_nil _ _ _ _, by repeat' (first | (with_reducible first | exact bwR _ _ | assumption | refine bdn ?_ | refine bwA ?_ ?_ _ | refine bwD ?_ | refine bwS ?_ ?_ _) | omega | (simp <;> omega))⟩

theorem shcrossings_any (ea : Nat → Addr) (ps : List Pt) (oa : Option Addr) (len cap : Nat) (p : Pt) (w : World) (hs : SlP w oa len cap ps) (hpI : p.I) (hShape : w.cell? ⟨2, 0, none⟩ = some (.iface 308 (.pointer (some (ea 3))))) (hBound : w.cell? ⟨0, 0, none⟩ = some (.iface 308 (.pointer (some (ea 2))))) :
    Calls Tryz.prog 74 #[.agg #[.slice oa len cap], .agg #[.int .i64 p.xn, .int .i64 p.xd, .int .i64 p.yn, .int .i64 p.yd]] w (RetLE 308 119 ea 3 (crC ps p) (crL ps p) w) := by
  rcases shC_some ps with h1 | h1
  · by_cases h2 : p.c = 0
    · have hc : crC ps p = (0, none) := by unfold crC; rw [if_pos h1, if_pos h2]
      have hl : crL ps p = crsTo ps p ps.length := by unfold crL; rw [if_pos hc]
      obtain ⟨h30, hfb, hall⟩ := shC_ok h1
      rcases hs.2.2.2.2 with ⟨rfl, rfl, rfl⟩ | ⟨b, off, rfl, _⟩
      · exact (shcrossings_nil ea ps p w hs (pt_ok h2) hShape hBound).mono fun e w' h => h.le hc hl
      · exact (shcrossings_ok ea ps p b off len cap w hs hfb hall (pt_ok h2) h30 hShape hBound).mono fun e w' h => h.le hc hl
    · have hc : crC ps p = (p.c, some 30) := by unfold crC; rw [if_pos h1, if_neg h2]
      have hl : crL ps p = [] := by unfold crL; rw [hc]; simp
      rw [hc, hl]
      exact shcrossings_e2 ea ps oa len cap p w hs h1 hpI h2 hShape hBound
  · have hne : ¬ shC ps = (0, none) := fun h => h1 (by rw [h])
    have hc : crC ps p = shC ps := by unfold crC; rw [if_neg hne]
    have hl : crL ps p = [] := by unfold crL; rw [hc, if_neg hne]
    rw [hc, hl]
    exact shcrossings_e1 ea ps oa len cap p w hs h1 hShape hBound
end Go.Proofs.YtpdaenldmgpkjaaGreatDoor
