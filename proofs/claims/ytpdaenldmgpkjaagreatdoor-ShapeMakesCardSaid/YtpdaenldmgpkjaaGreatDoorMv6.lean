/-
  Walks over package move: At.
-/
import Derived.Test.YtpdaenldmgpkjaaGreatDoorMv5
import Derived.Test.YtpdaenldmgpkjaaGreatDoorMa
import Derived.Test.YtpdaenldmgpkjaaGreatDoorAbv
namespace Go.Proofs.YtpdaenldmgpkjaaGreatDoor
open Go.RowKit Lead
variable {gz : Bool}

set_option maxHeartbeats 4000000 in
theorem mat_any (ea : Nat → Addr) (m : Mv) (p : Pt) (w : World) (im : m.I) (ip : p.I) (hG : Gs gz ea w) (hsz : 20 ≤ w.heap.size) :
    Calls Tryz.prog 59 #[.agg #[.int .i64 m.A.n, .int .i64 m.A.d, .int .i64 m.B.n, .int .i64 m.B.d, .int .i64 m.C.n, .int .i64 m.C.d, .int .i64 m.D.n, .int .i64 m.D.d, .int .i64 m.E.n, .int .i64 m.E.d, .int .i64 m.F.n, .int .i64 m.F.d], .agg #[.int .i64 p.xn, .int .i64 p.xd, .int .i64 p.yn, .int .i64 p.yd]] w (RetQE 308 119 ea (atC m p) (atV m p) w) := by
  have hBound := hG.c2
  have hShape := hG.c3
  have zhShape := zlt hShape
  have xhShape := zlts hShape
  have yhShape := zne hShape
  have zhBound := zlt hBound
  have xhBound := zlts hBound
  have yhBound := zne hBound
  have ip0 := ip
  obtain ⟨i1, i2, i3, i4⟩ := ip
  obtain ⟨x, hx⟩ : ∃ x, toX 0 m p = x := ⟨_, rfl⟩
  obtain ⟨y, hy⟩ : ∃ x, toY 0 m p = x := ⟨_, rfl⟩
  rcases at_cases m p with ⟨h1, hc⟩ | ⟨h1, h2, hc⟩ | ⟨h1, h2, h3, hc⟩ | ⟨h1, h2, h3, h4, hc⟩ | ⟨h1, h2, h3, h4, hc⟩
  · have hv := atV_n (m := m) (p := p) (by rw [hc]; exact h1)
    rw [hv, hc]
    have H_hc := Lib.hid hc
    clear hc
    have H_hv := Lib.hid hv
    clear hv
    have H_h1 := Lib.hid h1
    clear h1
    have H_im := Lib.hid im
    clear im
    have H_hG := Lib.hid hG
    clear hG
    have H_ip0 := Lib.hid ip0
    clear ip0
    have H_hx := Lib.hid hx
    clear hx
    have H_hy := Lib.hid hy
    clear hy
    go_enter Tryz.func59, Tryz.ntmps59
    go_wp2_with fail
    refine call_ew (w := w) (by repeat' (first | (with_reducible first | exact bwR _ _ | assumption | refine bdn ?_ | refine bwA ?_ ?_ _ | refine bwD ?_ | refine bwS ?_ ?_ _) | omega | (simp <;> omega))) (fun HB => mcheck_any ea m _ H_im.out (gkeep HB hShape rfl) (gkeep HB hBound rfl)) ?_
    intro x1 w1 hx1 hb1 hz1 c1 d1 hW1
    have t1 := hb1.size
    try simp only [szA] at hz1 c1 d1
    try simp only [szD] at hz1 c1 d1
    try simp only [szS] at hz1 c1 d1
    try simp only [World.heap_drewN] at hz1 c1 d1
    try simp only [szA] at hz1 c1 d1
    try simp only [szD] at hz1 c1 d1
    try simp only [szS] at hz1 c1 d1
    have s1_0 : w.heap.size < w1.heap.size := by omega
    have o1_0 := fun j => c1 (w.heap.size) j (by omega)
    have f1_0 := fun j => d1 (w.heap.size) j (by omega)
    have s1_1 : w.heap.size + 1 < w1.heap.size := by omega
    have o1_1 := fun j => c1 (w.heap.size + 1) j (by omega)
    have f1_1 := fun j => d1 (w.heap.size + 1) j (by omega)
    have s1_2 : w.heap.size + 1 + 1 < w1.heap.size := by omega
    have o1_2 := fun j => c1 (w.heap.size + 1 + 1) j (by omega)
    have f1_2 := fun j => d1 (w.heap.size + 1 + 1) j (by omega)
    clear c1 d1 hz1 hW1
    obtain ⟨t, a, rfl⟩ := hx1.some H_h1.out
    go_wp2_with fail
    refine bodyPost_ret (by simp [results, Tryz.results59, go_sem, *]; try rfl) rfl ?_
    exact ⟨_, rfl, hx1.above (by simp <;> omega) (by repeat' (first | (with_reducible exact Above.refl _ _) | (with_reducible refine Above.alloc ?_ ?_ _) | (with_reducible refine Above.drew ?_) | (with_reducible refine Above.setCell ?_ ?_ _) | omega | (simp <;> omega))), by repeat' (first | (with_reducible first | exact bwR _ _ | assumption | refine bdn ?_ | refine bwA ?_ ?_ _ | refine bwD ?_ | refine bwS ?_ ?_ _) | omega | (simp <;> omega))⟩
  · have hv := atV_n (m := m) (p := p) (by rw [hc]; exact h2)
    rw [hv, hc]
    have H_hc := Lib.hid hc
    clear hc
    have H_hv := Lib.hid hv
    clear hv
    have H_h1 := Lib.hid h1
    clear h1
    have H_im := Lib.hid im
    clear im
    have H_hG := Lib.hid hG
    clear hG
    have H_h2 := Lib.hid h2
    clear h2
    have H_ip0 := Lib.hid ip0
    clear ip0
    have H_hx := Lib.hid hx
    clear hx
    have H_hy := Lib.hid hy
    clear hy
    go_enter Tryz.func59, Tryz.ntmps59
    go_wp2_with fail
    refine call_ew (w := w) (by repeat' (first | (with_reducible first | exact bwR _ _ | assumption | refine bdn ?_ | refine bwA ?_ ?_ _ | refine bwD ?_ | refine bwS ?_ ?_ _) | omega | (simp <;> omega))) (fun HB => mcheck_any ea m _ H_im.out (gkeep HB hShape rfl) (gkeep HB hBound rfl)) ?_
    intro x1 w1 hx1 hb1 hz1 c1 d1 hW1
    have t1 := hb1.size
    try simp only [szA] at hz1 c1 d1
    try simp only [szD] at hz1 c1 d1
    try simp only [szS] at hz1 c1 d1
    try simp only [World.heap_drewN] at hz1 c1 d1
    try simp only [szA] at hz1 c1 d1
    try simp only [szD] at hz1 c1 d1
    try simp only [szS] at hz1 c1 d1
    have s1_0 : w.heap.size < w1.heap.size := by omega
    have o1_0 := fun j => c1 (w.heap.size) j (by omega)
    have f1_0 := fun j => d1 (w.heap.size) j (by omega)
    have s1_1 : w.heap.size + 1 < w1.heap.size := by omega
    have o1_1 := fun j => c1 (w.heap.size + 1) j (by omega)
    have f1_1 := fun j => d1 (w.heap.size + 1) j (by omega)
    have s1_2 : w.heap.size + 1 + 1 < w1.heap.size := by omega
    have o1_2 := fun j => c1 (w.heap.size + 1 + 1) j (by omega)
    have f1_2 := fun j => d1 (w.heap.size + 1 + 1) j (by omega)
    clear c1 d1 hz1 hW1
    obtain rfl := hx1.nil H_h1.out
    go_wp2_with fail
    refine wp_loop_rounds 1 ?_
    rw [rounds_succ]
    go_wp2_with fail
    refine call_bel (w := w) (by repeat' (first | (with_reducible first | exact bwR _ _ | assumption | refine bdn ?_ | refine bwA ?_ ?_ _ | refine bwD ?_ | refine bwS ?_ ?_ _) | omega | (simp <;> omega))) (fun HB => fcheck_n ea p.xn p.xd _ i1 i2 (gkeep HB hShape rfl) (gkeep HB hBound rfl) H_h2.out) ?_
    intro w2 hb2 hz2 c2 d2 hW2
    have t2 := hb2.size
    try simp only [szA] at hz2 c2 d2
    try simp only [szD] at hz2 c2 d2
    try simp only [szS] at hz2 c2 d2
    try simp only [World.heap_drewN] at hz2 c2 d2
    try simp only [szA] at hz2 c2 d2
    try simp only [szD] at hz2 c2 d2
    try simp only [szS] at hz2 c2 d2
    have s2_0 : w.heap.size + 1 + 1 < w2.heap.size := by omega
    have o2_0 := fun j => c2 (w.heap.size + 1 + 1) j (by omega)
    have f2_0 := fun j => d2 (w.heap.size + 1 + 1) j (by omega)
    clear c2 d2 hz2 hW2
    go_wp2_with fail
    refine bodyPost_ret (by simp [results, Tryz.results59, go_sem, *]; try rfl) rfl ?_
    exact ⟨_, rfl, ⟨H_h2.out, _, hb2.size, rfl, (cell_new (by simp)).trans rfl, (cell_new (by simp)).trans rfl⟩, by repeat' (first | (with_reducible first | exact bwR _ _ | assumption | refine bdn ?_ | refine bwA ?_ ?_ _ | refine bwD ?_ | refine bwS ?_ ?_ _) | omega | (simp <;> omega))⟩
  · have hv := atV_n (m := m) (p := p) (by rw [hc]; exact h3)
    rw [hv, hc]
    have H_hc := Lib.hid hc
    clear hc
    have H_hv := Lib.hid hv
    clear hv
    have H_h1 := Lib.hid h1
    clear h1
    have H_im := Lib.hid im
    clear im
    have H_hG := Lib.hid hG
    clear hG
    have H_h2 := Lib.hid h2
    clear h2
    have H_h3 := Lib.hid h3
    clear h3
    have H_ip0 := Lib.hid ip0
    clear ip0
    have H_hx := Lib.hid hx
    clear hx
    have H_hy := Lib.hid hy
    clear hy
    go_enter Tryz.func59, Tryz.ntmps59
    go_wp2_with fail
    refine call_ew (w := w) (by repeat' (first | (with_reducible first | exact bwR _ _ | assumption | refine bdn ?_ | refine bwA ?_ ?_ _ | refine bwD ?_ | refine bwS ?_ ?_ _) | omega | (simp <;> omega))) (fun HB => mcheck_any ea m _ H_im.out (gkeep HB hShape rfl) (gkeep HB hBound rfl)) ?_
    intro x1 w1 hx1 hb1 hz1 c1 d1 hW1
    have t1 := hb1.size
    try simp only [szA] at hz1 c1 d1
    try simp only [szD] at hz1 c1 d1
    try simp only [szS] at hz1 c1 d1
    try simp only [World.heap_drewN] at hz1 c1 d1
    try simp only [szA] at hz1 c1 d1
    try simp only [szD] at hz1 c1 d1
    try simp only [szS] at hz1 c1 d1
    have s1_0 : w.heap.size < w1.heap.size := by omega
    have o1_0 := fun j => c1 (w.heap.size) j (by omega)
    have f1_0 := fun j => d1 (w.heap.size) j (by omega)
    have s1_1 : w.heap.size + 1 < w1.heap.size := by omega
    have o1_1 := fun j => c1 (w.heap.size + 1) j (by omega)
    have f1_1 := fun j => d1 (w.heap.size + 1) j (by omega)
    have s1_2 : w.heap.size + 1 + 1 < w1.heap.size := by omega
    have o1_2 := fun j => c1 (w.heap.size + 1 + 1) j (by omega)
    have f1_2 := fun j => d1 (w.heap.size + 1 + 1) j (by omega)
    clear c1 d1 hz1 hW1
    obtain rfl := hx1.nil H_h1.out
    go_wp2_with fail
    refine wp_loop_rounds 2 ?_
    rw [rounds_succ]
    go_wp2_with fail
    refine call_bel (w := w) (by repeat' (first | (with_reducible first | exact bwR _ _ | assumption | refine bdn ?_ | refine bwA ?_ ?_ _ | refine bwD ?_ | refine bwS ?_ ?_ _) | omega | (simp <;> omega))) (fun HB => fcheck_0 ea p.xn p.xd _ i1 i2 (gkeep HB hShape rfl) (gkeep HB hBound rfl) H_h2.out) ?_
    intro w2 hb2 hz2 c2 d2 hW2
    have t2 := hb2.size
    try simp only [szA] at hz2 c2 d2
    try simp only [szD] at hz2 c2 d2
    try simp only [szS] at hz2 c2 d2
    try simp only [World.heap_drewN] at hz2 c2 d2
    try simp only [szA] at hz2 c2 d2
    try simp only [szD] at hz2 c2 d2
    try simp only [szS] at hz2 c2 d2
    have s2_0 : w.heap.size + 1 + 1 < w2.heap.size := by omega
    have o2_0 := fun j => c2 (w.heap.size + 1 + 1) j (by omega)
    have f2_0 := fun j => d2 (w.heap.size + 1 + 1) j (by omega)
    have s2_1 : w1.heap.size < w2.heap.size := by omega
    have o2_1 := fun j => c2 (w1.heap.size) j (by omega)
    have f2_1 := fun j => d2 (w1.heap.size) j (by omega)
    clear c2 d2 hz2 hW2
    go_wp2_with fail
    rw [rounds_succ]
    go_wp2_with fail
    refine call_bel (w := w) (by repeat' (first | (with_reducible first | exact bwR _ _ | assumption | refine bdn ?_ | refine bwA ?_ ?_ _ | refine bwD ?_ | refine bwS ?_ ?_ _) | omega | (simp <;> omega))) (fun HB => fcheck_n ea p.yn p.yd _ i3 i4 (gkeep HB hShape rfl) (gkeep HB hBound rfl) H_h3.out) ?_
    intro w3 hb3 hz3 c3 d3 hW3
    have t3 := hb3.size
    try simp only [szA] at hz3 c3 d3
    try simp only [szD] at hz3 c3 d3
    try simp only [szS] at hz3 c3 d3
    try simp only [World.heap_drewN] at hz3 c3 d3
    try simp only [szA] at hz3 c3 d3
    try simp only [szD] at hz3 c3 d3
    try simp only [szS] at hz3 c3 d3
    have s3_0 : w.heap.size + 1 + 1 < w3.heap.size := by omega
    have o3_0 := fun j => c3 (w.heap.size + 1 + 1) j (by omega)
    have f3_0 := fun j => d3 (w.heap.size + 1 + 1) j (by omega)
    clear c3 d3 hz3 hW3
    go_wp2_with fail
    refine bodyPost_ret (by simp [results, Tryz.results59, go_sem, *]; try rfl) rfl ?_
    exact ⟨_, rfl, ⟨H_h3.out, _, hb3.size, rfl, (cell_new (by simp)).trans rfl, (cell_new (by simp)).trans rfl⟩, by repeat' (first | (with_reducible first | exact bwR _ _ | assumption | refine bdn ?_ | refine bwA ?_ ?_ _ | refine bwD ?_ | refine bwS ?_ ?_ _) | omega | (simp <;> omega))⟩
  · have hv := atV_n (m := m) (p := p) (by rw [hc]; decide)
    rw [hv, hc]
    have H_hc := Lib.hid hc
    clear hc
    have H_hv := Lib.hid hv
    clear hv
    have H_h1 := Lib.hid h1
    clear h1
    have H_im := Lib.hid im
    clear im
    have H_hG := Lib.hid hG
    clear hG
    have H_h2 := Lib.hid h2
    clear h2
    have H_h3 := Lib.hid h3
    clear h3
    have H_h4 := Lib.hid h4
    clear h4
    have H_ip0 := Lib.hid ip0
    clear ip0
    have H_hx := Lib.hid hx
    clear hx
    have H_hy := Lib.hid hy
    clear hy
    go_enter Tryz.func59, Tryz.ntmps59
    go_wp2_with fail
    refine call_ew (w := w) (by repeat' (first | (with_reducible first | exact bwR _ _ | assumption | refine bdn ?_ | refine bwA ?_ ?_ _ | refine bwD ?_ | refine bwS ?_ ?_ _) | omega | (simp <;> omega))) (fun HB => mcheck_any ea m _ H_im.out (gkeep HB hShape rfl) (gkeep HB hBound rfl)) ?_
    intro x1 w1 hx1 hb1 hz1 c1 d1 hW1
    have t1 := hb1.size
    try simp only [szA] at hz1 c1 d1
    try simp only [szD] at hz1 c1 d1
    try simp only [szS] at hz1 c1 d1
    try simp only [World.heap_drewN] at hz1 c1 d1
    try simp only [szA] at hz1 c1 d1
    try simp only [szD] at hz1 c1 d1
    try simp only [szS] at hz1 c1 d1
    have s1_0 : w.heap.size < w1.heap.size := by omega
    have o1_0 := fun j => c1 (w.heap.size) j (by omega)
    have f1_0 := fun j => d1 (w.heap.size) j (by omega)
    have s1_1 : w.heap.size + 1 < w1.heap.size := by omega
    have o1_1 := fun j => c1 (w.heap.size + 1) j (by omega)
    have f1_1 := fun j => d1 (w.heap.size + 1) j (by omega)
    have s1_2 : w.heap.size + 1 + 1 < w1.heap.size := by omega
    have o1_2 := fun j => c1 (w.heap.size + 1 + 1) j (by omega)
    have f1_2 := fun j => d1 (w.heap.size + 1 + 1) j (by omega)
    clear c1 d1 hz1 hW1
    obtain rfl := hx1.nil H_h1.out
    go_wp2_with fail
    refine wp_loop_rounds 3 ?_
    rw [rounds_succ]
    go_wp2_with fail
    refine call_bel (w := w) (by repeat' (first | (with_reducible first | exact bwR _ _ | assumption | refine bdn ?_ | refine bwA ?_ ?_ _ | refine bwD ?_ | refine bwS ?_ ?_ _) | omega | (simp <;> omega))) (fun HB => fcheck_0 ea p.xn p.xd _ i1 i2 (gkeep HB hShape rfl) (gkeep HB hBound rfl) H_h2.out) ?_
    intro w2 hb2 hz2 c2 d2 hW2
    have t2 := hb2.size
    try simp only [szA] at hz2 c2 d2
    try simp only [szD] at hz2 c2 d2
    try simp only [szS] at hz2 c2 d2
    try simp only [World.heap_drewN] at hz2 c2 d2
    try simp only [szA] at hz2 c2 d2
    try simp only [szD] at hz2 c2 d2
    try simp only [szS] at hz2 c2 d2
    have s2_0 : w.heap.size < w2.heap.size := by omega
    have o2_0 := fun j => c2 (w.heap.size) j (by omega)
    have f2_0 := fun j => d2 (w.heap.size) j (by omega)
    have s2_1 : w.heap.size + 1 < w2.heap.size := by omega
    have o2_1 := fun j => c2 (w.heap.size + 1) j (by omega)
    have f2_1 := fun j => d2 (w.heap.size + 1) j (by omega)
    have s2_2 : w.heap.size + 1 + 1 < w2.heap.size := by omega
    have o2_2 := fun j => c2 (w.heap.size + 1 + 1) j (by omega)
    have f2_2 := fun j => d2 (w.heap.size + 1 + 1) j (by omega)
    have s2_3 : w1.heap.size < w2.heap.size := by omega
    have o2_3 := fun j => c2 (w1.heap.size) j (by omega)
    have f2_3 := fun j => d2 (w1.heap.size) j (by omega)
    clear c2 d2 hz2 hW2
    go_wp2_with fail
    rw [rounds_succ]
    go_wp2_with fail
    refine call_bel (w := w) (by repeat' (first | (with_reducible first | exact bwR _ _ | assumption | refine bdn ?_ | refine bwA ?_ ?_ _ | refine bwD ?_ | refine bwS ?_ ?_ _) | omega | (simp <;> omega))) (fun HB => fcheck_0 ea p.yn p.yd _ i3 i4 (gkeep HB hShape rfl) (gkeep HB hBound rfl) H_h3.out) ?_
    intro w3 hb3 hz3 c3 d3 hW3
    have t3 := hb3.size
    try simp only [szA] at hz3 c3 d3
    try simp only [szD] at hz3 c3 d3
    try simp only [szS] at hz3 c3 d3
    try simp only [World.heap_drewN] at hz3 c3 d3
    try simp only [szA] at hz3 c3 d3
    try simp only [szD] at hz3 c3 d3
    try simp only [szS] at hz3 c3 d3
    have s3_0 : w.heap.size < w3.heap.size := by omega
    have o3_0 := fun j => c3 (w.heap.size) j (by omega)
    have f3_0 := fun j => d3 (w.heap.size) j (by omega)
    have s3_1 : w.heap.size + 1 < w3.heap.size := by omega
    have o3_1 := fun j => c3 (w.heap.size + 1) j (by omega)
    have f3_1 := fun j => d3 (w.heap.size + 1) j (by omega)
    have s3_2 : w.heap.size + 1 + 1 < w3.heap.size := by omega
    have o3_2 := fun j => c3 (w.heap.size + 1 + 1) j (by omega)
    have f3_2 := fun j => d3 (w.heap.size + 1 + 1) j (by omega)
    have s3_3 : w1.heap.size < w3.heap.size := by omega
    have o3_3 := fun j => c3 (w1.heap.size) j (by omega)
    have f3_3 := fun j => d3 (w1.heap.size) j (by omega)
    clear c3 d3 hz3 hW3
    go_wp2_with fail
    rw [rounds_succ]
    go_wp2_with fail
    have hB3 : Below w.heap.size w (w3.alloc (.cells #[.nilIface] 158)) := by repeat' (first | (with_reducible first | exact bwR _ _ | assumption | refine bdn ?_ | refine bwA ?_ ?_ _ | refine bwD ?_ | refine bwS ?_ ?_ _) | omega | (simp <;> omega))
    refine (sto_any ea 0 (toE 0 m p) w3.heap.size m p x y _ H_hx.out H_hy.out rfl H_im.out H_ip0.out ((heap_alloc_new _ _).trans (by rw [evl_0 rfl])) (by omega) (H_hG.out.keep hB3 rfl)).mono ?_
    rintro en w4 ⟨rfl, hb4⟩
    rw [evl_n H_h4.out] at hb4
    have hBound4 := gkeep (hB3.trans (hb4.toBelow (by omega) (by simp; omega))) hBound rfl
    have zhBound4 := zlt hBound4
    have xhBound4 := zlts hBound4
    have yhBound4 := zne hBound4
    have hB4 : Below w.heap.size w w4 := hB3.trans (hb4.toBelow (by omega) (by simp; omega))
    have t4 := hb4.size
    rw [World.size_alloc] at t4
    have s4 : w3.heap.size < w4.heap.size := by omega
    have s4_2 : w.heap.size + 1 + 1 < w4.heap.size := by omega
    have q4 := hb4.here
    have k4 := hb4.free
    have o4_2 := fun j => hb4.cell (w.heap.size + 1 + 1) j (by simp; omega) (by omega)
    have f4_2 := fun j => hb4.frozen (w.heap.size + 1 + 1) j (by simp; omega) (by omega)
    go_wp2_with fail
    go_region
    all_goals
      go_wp2_with fail
      refine bodyPost_ret (by simp [results, Tryz.results59, go_sem, *]; try rfl) rfl ?_
      exact ⟨_, rfl, (evl_n (by decide)).symm, by repeat' (first | (with_reducible first | exact bwR _ _ | assumption | refine bdn ?_ | refine bwA ?_ ?_ _ | refine bwD ?_ | refine bwS ?_ ?_ _) | omega | (simp <;> omega))⟩
  · have hv := atV_0 (m := m) (p := p) hc
    have hm : mvPt m p = ⟨x.n, x.d, y.n, y.d⟩ := by rw [mvPt_of, hx, hy]; rfl
    rw [hv, hm, hc]
    have H_hm := Lib.hid hm
    clear hm
    have H_hc := Lib.hid hc
    clear hc
    have H_hv := Lib.hid hv
    clear hv
    have H_h1 := Lib.hid h1
    clear h1
    have H_im := Lib.hid im
    clear im
    have H_hG := Lib.hid hG
    clear hG
    have H_h2 := Lib.hid h2
    clear h2
    have H_h3 := Lib.hid h3
    clear h3
    have H_h4 := Lib.hid h4
    clear h4
    have H_ip0 := Lib.hid ip0
    clear ip0
    have H_hx := Lib.hid hx
    clear hx
    have H_hy := Lib.hid hy
    clear hy
    go_enter Tryz.func59, Tryz.ntmps59
    go_wp2_with fail
    refine call_ew (w := w) (by repeat' (first | (with_reducible first | exact bwR _ _ | assumption | refine bdn ?_ | refine bwA ?_ ?_ _ | refine bwD ?_ | refine bwS ?_ ?_ _) | omega | (simp <;> omega))) (fun HB => mcheck_any ea m _ H_im.out (gkeep HB hShape rfl) (gkeep HB hBound rfl)) ?_
    intro x1 w1 hx1 hb1 hz1 c1 d1 hW1
    have t1 := hb1.size
    try simp only [szA] at hz1 c1 d1
    try simp only [szD] at hz1 c1 d1
    try simp only [szS] at hz1 c1 d1
    try simp only [World.heap_drewN] at hz1 c1 d1
    try simp only [szA] at hz1 c1 d1
    try simp only [szD] at hz1 c1 d1
    try simp only [szS] at hz1 c1 d1
    have s1_0 : w.heap.size < w1.heap.size := by omega
    have o1_0 := fun j => c1 (w.heap.size) j (by omega)
    have f1_0 := fun j => d1 (w.heap.size) j (by omega)
    have s1_1 : w.heap.size + 1 < w1.heap.size := by omega
    have o1_1 := fun j => c1 (w.heap.size + 1) j (by omega)
    have f1_1 := fun j => d1 (w.heap.size + 1) j (by omega)
    have s1_2 : w.heap.size + 1 + 1 < w1.heap.size := by omega
    have o1_2 := fun j => c1 (w.heap.size + 1 + 1) j (by omega)
    have f1_2 := fun j => d1 (w.heap.size + 1 + 1) j (by omega)
    clear c1 d1 hz1 hW1
    obtain rfl := hx1.nil H_h1.out
    go_wp2_with fail
    refine wp_loop_rounds 3 ?_
    rw [rounds_succ]
    go_wp2_with fail
    refine call_bel (w := w) (by repeat' (first | (with_reducible first | exact bwR _ _ | assumption | refine bdn ?_ | refine bwA ?_ ?_ _ | refine bwD ?_ | refine bwS ?_ ?_ _) | omega | (simp <;> omega))) (fun HB => fcheck_0 ea p.xn p.xd _ i1 i2 (gkeep HB hShape rfl) (gkeep HB hBound rfl) H_h2.out) ?_
    intro w2 hb2 hz2 c2 d2 hW2
    have t2 := hb2.size
    try simp only [szA] at hz2 c2 d2
    try simp only [szD] at hz2 c2 d2
    try simp only [szS] at hz2 c2 d2
    try simp only [World.heap_drewN] at hz2 c2 d2
    try simp only [szA] at hz2 c2 d2
    try simp only [szD] at hz2 c2 d2
    try simp only [szS] at hz2 c2 d2
    have s2_0 : w.heap.size < w2.heap.size := by omega
    have o2_0 := fun j => c2 (w.heap.size) j (by omega)
    have f2_0 := fun j => d2 (w.heap.size) j (by omega)
    have s2_1 : w.heap.size + 1 < w2.heap.size := by omega
    have o2_1 := fun j => c2 (w.heap.size + 1) j (by omega)
    have f2_1 := fun j => d2 (w.heap.size + 1) j (by omega)
    have s2_2 : w.heap.size + 1 + 1 < w2.heap.size := by omega
    have o2_2 := fun j => c2 (w.heap.size + 1 + 1) j (by omega)
    have f2_2 := fun j => d2 (w.heap.size + 1 + 1) j (by omega)
    have s2_3 : w1.heap.size < w2.heap.size := by omega
    have o2_3 := fun j => c2 (w1.heap.size) j (by omega)
    have f2_3 := fun j => d2 (w1.heap.size) j (by omega)
    clear c2 d2 hz2 hW2
    go_wp2_with fail
    rw [rounds_succ]
    go_wp2_with fail
    refine call_bel (w := w) (by repeat' (first | (with_reducible first | exact bwR _ _ | assumption | refine bdn ?_ | refine bwA ?_ ?_ _ | refine bwD ?_ | refine bwS ?_ ?_ _) | omega | (simp <;> omega))) (fun HB => fcheck_0 ea p.yn p.yd _ i3 i4 (gkeep HB hShape rfl) (gkeep HB hBound rfl) H_h3.out) ?_
    intro w3 hb3 hz3 c3 d3 hW3
    have t3 := hb3.size
    try simp only [szA] at hz3 c3 d3
    try simp only [szD] at hz3 c3 d3
    try simp only [szS] at hz3 c3 d3
    try simp only [World.heap_drewN] at hz3 c3 d3
    try simp only [szA] at hz3 c3 d3
    try simp only [szD] at hz3 c3 d3
    try simp only [szS] at hz3 c3 d3
    have s3_0 : w.heap.size < w3.heap.size := by omega
    have o3_0 := fun j => c3 (w.heap.size) j (by omega)
    have f3_0 := fun j => d3 (w.heap.size) j (by omega)
    have s3_1 : w.heap.size + 1 < w3.heap.size := by omega
    have o3_1 := fun j => c3 (w.heap.size + 1) j (by omega)
    have f3_1 := fun j => d3 (w.heap.size + 1) j (by omega)
    have s3_2 : w.heap.size + 1 + 1 < w3.heap.size := by omega
    have o3_2 := fun j => c3 (w.heap.size + 1 + 1) j (by omega)
    have f3_2 := fun j => d3 (w.heap.size + 1 + 1) j (by omega)
    have s3_3 : w1.heap.size < w3.heap.size := by omega
    have o3_3 := fun j => c3 (w1.heap.size) j (by omega)
    have f3_3 := fun j => d3 (w1.heap.size) j (by omega)
    clear c3 d3 hz3 hW3
    go_wp2_with fail
    rw [rounds_succ]
    go_wp2_with fail
    have hB3 : Below w.heap.size w (w3.alloc (.cells #[.nilIface] 158)) := by repeat' (first | (with_reducible first | exact bwR _ _ | assumption | refine bdn ?_ | refine bwA ?_ ?_ _ | refine bwD ?_ | refine bwS ?_ ?_ _) | omega | (simp <;> omega))
    refine (sto_any ea 0 (toE 0 m p) w3.heap.size m p x y _ H_hx.out H_hy.out rfl H_im.out H_ip0.out ((heap_alloc_new _ _).trans (by rw [evl_0 rfl])) (by omega) (H_hG.out.keep hB3 rfl)).mono ?_
    rintro en w4 ⟨rfl, hb4⟩
    rw [evl_0 H_h4.out] at hb4
    have hB4 : Below w.heap.size w w4 := hB3.trans (hb4.toBelow (by omega) (by simp; omega))
    have t4 := hb4.size
    rw [World.size_alloc] at t4
    have s4 : w3.heap.size < w4.heap.size := by omega
    have s4_2 : w.heap.size + 1 + 1 < w4.heap.size := by omega
    have q4 := hb4.here
    have k4 := hb4.free
    have o4_2 := fun j => hb4.cell (w.heap.size + 1 + 1) j (by simp; omega) (by omega)
    have f4_2 := fun j => hb4.frozen (w.heap.size + 1 + 1) j (by simp; omega) (by omega)
    go_wp2_with fail
    go_wp2_with fail
    refine bodyPost_ret (by simp [results, Tryz.results59, go_sem, *]; try rfl) rfl ?_
    exact ⟨_, rfl, (evl_0 rfl).symm, by repeat' (first | (with_reducible first | exact bwR _ _ | assumption | refine bdn ?_ | refine bwA ?_ ?_ _ | refine bwD ?_ | refine bwS ?_ ?_ _) | omega | (simp <;> omega))⟩
end Go.Proofs.YtpdaenldmgpkjaaGreatDoor
