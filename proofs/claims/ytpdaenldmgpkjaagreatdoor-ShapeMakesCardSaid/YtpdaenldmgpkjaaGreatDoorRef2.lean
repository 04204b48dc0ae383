/-
  Walks over the document's answer: the error of a point.
-/
import Derived.Test.YtpdaenldmgpkjaaGreatDoorRef1
import Derived.Test.YtpdaenldmgpkjaaGreatDoorPa
namespace Go.Proofs.YtpdaenldmgpkjaaGreatDoor
open Go.RowKit Lead

theorem rfracerror_0 (n d : Int) (w : World) (h : chk n d = 0) (hn : I64 n) (hd : I64 d) :
    Calls Tryz.prog 56 #[.agg #[.int .i64 n, .int .i64 d]] w fun e w' => e = .returned (.int .i64 0) ∧ Below w.heap.size w w' :=
  (rfracerror_any n d w hn hd).mono fun e w' ⟨h1, h2⟩ => ⟨by rw [h1, h]; rfl, h2⟩
theorem rfracerror_c (n d : Int) (c : Int) (w : World) (h : (chk n d : Int) = c) (hn : I64 n) (hd : I64 d) :
    Calls Tryz.prog 56 #[.agg #[.int .i64 n, .int .i64 d]] w fun e w' => e = .returned (.int .i64 c) ∧ Below w.heap.size w w' :=
  (rfracerror_any n d w hn hd).mono fun e w' ⟨h1, h2⟩ => ⟨by rw [h1, h], h2⟩

set_option maxHeartbeats 400000 in
theorem rfrac2_t (n d : Int) (w : World) (hr : Right n d) (hb : shSml n d = true) :
    Calls Tryz.prog 90 #[.agg #[.int .i64 n, .int .i64 d]] w fun e w' => e = .returned (.int .i64 0) ∧ Below w.heap.size w w' := by
  have h1 := hr.d0
  have h2 := hr.d1
  have hni := hr.ni
  have hdi := hr.di
  have hc := chk_right hr
  rcases shSml_cases hb with ⟨h3, h6⟩ | ⟨h3, h4, h6⟩ | ⟨h3, h4, h5, h6⟩ | ⟨h3, h4, h5, _⟩
  · cases h6
  · cases h6
  · cases h6
  clear hb hr
  have h3' : ¬ 20 < d := by omega
  have h4' : ¬ 1000 * d < n := by omega
  have h5' : ¬ n < -1000 * d := by omega
  have H_hc := Lib.hid hc
  clear hc
  have H_hni := Lib.hid hni
  clear hni
  have H_hdi := Lib.hid hdi
  clear hdi
  go_enter Tryz.func90, Tryz.ntmps90
  go_wp2_with fail
  refine call_below (w := w) (by repeat' (first | (with_reducible first | exact bwR _ _ | assumption | refine bdn ?_ | refine bwA ?_ ?_ _ | refine bwD ?_ | refine bwS ?_ ?_ _) | omega | (simp <;> omega))) (fun HB => rfracerror_0 n d _ H_hc.out H_hni.out H_hdi.out) ?_
  intro w1 hb1 hz1 c1 d1
  have t1 := hb1.size
  try simp only [szA] at hz1 c1 d1
  try simp only [szD] at hz1 c1 d1
  try simp only [szS] at hz1 c1 d1
  try simp only [World.heap_drewN] at hz1 c1 d1
  have s1_0 : w.heap.size < w1.heap.size := by omega
  have o1_0 := fun j => c1 (w.heap.size) j (by omega)
  have f1_0 := fun j => d1 (w.heap.size) j (by omega)
  clear c1 d1 hz1
  go_wp2_with fail
  go_returns
  exact ⟨rfl, by repeat' (first | (with_reducible first | exact bwR _ _ | assumption | refine bdn ?_ | refine bwA ?_ ?_ _ | refine bwD ?_ | refine bwS ?_ ?_ _) | omega | (simp <;> omega))⟩
set_option maxHeartbeats 400000 in
theorem rfrac2_f (n d : Int) (w : World) (hr : Right n d) (hb : shSml n d = false) :
    Calls Tryz.prog 90 #[.agg #[.int .i64 n, .int .i64 d]] w fun e w' => e = .returned (.int .i64 2) ∧ Below w.heap.size w w' := by
  have h1 := hr.d0
  have h2 := hr.d1
  have hni := hr.ni
  have hdi := hr.di
  have hc := chk_right hr
  rcases shSml_cases hb with ⟨h3, _⟩ | ⟨h3, h4, _⟩ | ⟨h3, h4, h5, _⟩ | ⟨h3, h4, h5, h6⟩
  rotate_right
  · cases h6
  all_goals
    clear hb hr
    have H_hc := Lib.hid hc
    clear hc
    have H_hni := Lib.hid hni
    clear hni
    have H_hdi := Lib.hid hdi
    clear hdi
  · have h3' : 20 < d := by omega
    go_enter Tryz.func90, Tryz.ntmps90
    go_wp2_with fail
    refine call_below (w := w) (by repeat' (first | (with_reducible first | exact bwR _ _ | assumption | refine bdn ?_ | refine bwA ?_ ?_ _ | refine bwD ?_ | refine bwS ?_ ?_ _) | omega | (simp <;> omega))) (fun HB => rfracerror_0 n d _ H_hc.out H_hni.out H_hdi.out) ?_
    intro w1 hb1 hz1 c1 d1
    have t1 := hb1.size
    try simp only [szA] at hz1 c1 d1
    try simp only [szD] at hz1 c1 d1
    try simp only [szS] at hz1 c1 d1
    try simp only [World.heap_drewN] at hz1 c1 d1
    have s1_0 : w.heap.size < w1.heap.size := by omega
    have o1_0 := fun j => c1 (w.heap.size) j (by omega)
    have f1_0 := fun j => d1 (w.heap.size) j (by omega)
    clear c1 d1 hz1
    go_wp2_with fail
    go_returns
    exact ⟨rfl, by repeat' (first | (with_reducible first | exact bwR _ _ | assumption | refine bdn ?_ | refine bwA ?_ ?_ _ | refine bwD ?_ | refine bwS ?_ ?_ _) | omega | (simp <;> omega))⟩
  · have h3' : ¬ 20 < d := by omega
    have h4' : 1000 * d < n := by omega
    go_enter Tryz.func90, Tryz.ntmps90
    go_wp2_with fail
    refine call_below (w := w) (by repeat' (first | (with_reducible first | exact bwR _ _ | assumption | refine bdn ?_ | refine bwA ?_ ?_ _ | refine bwD ?_ | refine bwS ?_ ?_ _) | omega | (simp <;> omega))) (fun HB => rfracerror_0 n d _ H_hc.out H_hni.out H_hdi.out) ?_
    intro w1 hb1 hz1 c1 d1
    have t1 := hb1.size
    try simp only [szA] at hz1 c1 d1
    try simp only [szD] at hz1 c1 d1
    try simp only [szS] at hz1 c1 d1
    try simp only [World.heap_drewN] at hz1 c1 d1
    have s1_0 : w.heap.size < w1.heap.size := by omega
    have o1_0 := fun j => c1 (w.heap.size) j (by omega)
    have f1_0 := fun j => d1 (w.heap.size) j (by omega)
    clear c1 d1 hz1
    go_wp2_with fail
    go_returns
    exact ⟨rfl, by repeat' (first | (with_reducible first | exact bwR _ _ | assumption | refine bdn ?_ | refine bwA ?_ ?_ _ | refine bwD ?_ | refine bwS ?_ ?_ _) | omega | (simp <;> omega))⟩
  · have h3' : ¬ 20 < d := by omega
    have h4' : ¬ 1000 * d < n := by omega
    have h5' : n < -1000 * d := by omega
    go_enter Tryz.func90, Tryz.ntmps90
    go_wp2_with fail
    refine call_below (w := w) (by repeat' (first | (with_reducible first | exact bwR _ _ | assumption | refine bdn ?_ | refine bwA ?_ ?_ _ | refine bwD ?_ | refine bwS ?_ ?_ _) | omega | (simp <;> omega))) (fun HB => rfracerror_0 n d _ H_hc.out H_hni.out H_hdi.out) ?_
    intro w1 hb1 hz1 c1 d1
    have t1 := hb1.size
    try simp only [szA] at hz1 c1 d1
    try simp only [szD] at hz1 c1 d1
    try simp only [szS] at hz1 c1 d1
    try simp only [World.heap_drewN] at hz1 c1 d1
    have s1_0 : w.heap.size < w1.heap.size := by omega
    have o1_0 := fun j => c1 (w.heap.size) j (by omega)
    have f1_0 := fun j => d1 (w.heap.size) j (by omega)
    clear c1 d1 hz1
    go_wp2_with fail
    go_returns
    exact ⟨rfl, by repeat' (first | (with_reducible first | exact bwR _ _ | assumption | refine bdn ?_ | refine bwA ?_ ?_ _ | refine bwD ?_ | refine bwS ?_ ?_ _) | omega | (simp <;> omega))⟩

set_option maxHeartbeats 1000000 in
theorem rpoint_any (p : Pt) (w : World) (hI : p.I) :
    Calls Tryz.prog 61 #[.agg #[.int .i64 p.xn, .int .i64 p.xd, .int .i64 p.yn, .int .i64 p.yd]] w fun e w' => e = .returned (.int .i64 p.c) ∧ Below w.heap.size w w' := by
  obtain ⟨h1, h2, h3, h4⟩ := hI
  obtain ⟨c, hpc⟩ : ∃ c : Int, (p.c : Int) = c := ⟨_, rfl⟩
  rcases ptC_cases p.xn p.xd p.yn p.yd with ⟨h5, hc⟩ | ⟨h5, h6, hc⟩ | ⟨h5, h6, h7, hc⟩ | ⟨h5, h6, h7, h8, hc⟩ | ⟨h5, h6, h7, h8, hc⟩ <;> (change p.c = _ at hc; rw [hpc]; rw [hc] at hpc)
  · have h0 : (c == 0) = false := by rw [beq_eq_false_iff_ne]; omega
    have H_hpc := Lib.hid hpc
    clear hpc
    have H_hc := Lib.hid hc
    clear hc
    have H_h5 := Lib.hid h5
    clear h5
    go_enter Tryz.func61, Tryz.ntmps61
    go_wp2_with fail
    refine call_below (w := w) (by repeat' (first | (with_reducible first | exact bwR _ _ | assumption | refine bdn ?_ | refine bwA ?_ ?_ _ | refine bwD ?_ | refine bwS ?_ ?_ _) | omega | (simp <;> omega))) (fun HB => rfracerror_c p.xn p.xd c _ H_hpc.out h1 h2) ?_
    intro w1 hb1 hz1 c1 d1
    have t1 := hb1.size
    try simp only [szA] at hz1 c1 d1
    try simp only [szD] at hz1 c1 d1
    try simp only [szS] at hz1 c1 d1
    try simp only [World.heap_drewN] at hz1 c1 d1
    have s1_0 : w.heap.size < w1.heap.size := by omega
    have o1_0 := fun j => c1 (w.heap.size) j (by omega)
    have f1_0 := fun j => d1 (w.heap.size) j (by omega)
    clear c1 d1 hz1
    go_wp2_with fail
    go_returns
    exact ⟨rfl, by repeat' (first | (with_reducible first | exact bwR _ _ | assumption | refine bdn ?_ | refine bwA ?_ ?_ _ | refine bwD ?_ | refine bwS ?_ ?_ _) | omega | (simp <;> omega))⟩
  · have h0 : (c == 0) = false := by rw [beq_eq_false_iff_ne]; omega
    have H_hpc := Lib.hid hpc
    clear hpc
    have H_hc := Lib.hid hc
    clear hc
    have H_h5 := Lib.hid h5
    clear h5
    have H_h6 := Lib.hid h6
    clear h6
    go_enter Tryz.func61, Tryz.ntmps61
    go_wp2_with fail
    refine call_below (w := w) (by repeat' (first | (with_reducible first | exact bwR _ _ | assumption | refine bdn ?_ | refine bwA ?_ ?_ _ | refine bwD ?_ | refine bwS ?_ ?_ _) | omega | (simp <;> omega))) (fun HB => rfracerror_0 p.xn p.xd _ H_h5.out h1 h2) ?_
    intro w1 hb1 hz1 c1 d1
    have t1 := hb1.size
    try simp only [szA] at hz1 c1 d1
    try simp only [szD] at hz1 c1 d1
    try simp only [szS] at hz1 c1 d1
    try simp only [World.heap_drewN] at hz1 c1 d1
    have s1_0 : w.heap.size < w1.heap.size := by omega
    have o1_0 := fun j => c1 (w.heap.size) j (by omega)
    have f1_0 := fun j => d1 (w.heap.size) j (by omega)
    clear c1 d1 hz1
    go_wp2_with fail
    refine call_below (w := w) (by repeat' (first | (with_reducible first | exact bwR _ _ | assumption | refine bdn ?_ | refine bwA ?_ ?_ _ | refine bwD ?_ | refine bwS ?_ ?_ _) | omega | (simp <;> omega))) (fun HB => rfracerror_c p.yn p.yd c _ H_hpc.out h3 h4) ?_
    intro w2 hb2 hz2 c2 d2
    have t2 := hb2.size
    try simp only [szA] at hz2 c2 d2
    try simp only [szD] at hz2 c2 d2
    try simp only [szS] at hz2 c2 d2
    try simp only [World.heap_drewN] at hz2 c2 d2
    have s2_0 : w.heap.size < w2.heap.size := by omega
    have o2_0 := fun j => c2 (w.heap.size) j (by omega)
    have f2_0 := fun j => d2 (w.heap.size) j (by omega)
    clear c2 d2 hz2
    go_wp2_with fail
    go_returns
    exact ⟨rfl, by repeat' (first | (with_reducible first | exact bwR _ _ | assumption | refine bdn ?_ | refine bwA ?_ ?_ _ | refine bwD ?_ | refine bwS ?_ ?_ _) | omega | (simp <;> omega))⟩
  all_goals
    have r1 := chk_0 h5
    have r2 := chk_0 h6
    subst hpc
    have H_hc := Lib.hid hc
    clear hc
    have H_h5 := Lib.hid h5
    clear h5
    have H_h6 := Lib.hid h6
    clear h6
    have H_r1 := Lib.hid r1
    clear r1
    have H_r2 := Lib.hid r2
    clear r2
  · go_enter Tryz.func61, Tryz.ntmps61
    go_wp2_with fail
    refine call_below (w := w) (by repeat' (first | (with_reducible first | exact bwR _ _ | assumption | refine bdn ?_ | refine bwA ?_ ?_ _ | refine bwD ?_ | refine bwS ?_ ?_ _) | omega | (simp <;> omega))) (fun HB => rfracerror_0 p.xn p.xd _ H_h5.out h1 h2) ?_
    intro w1 hb1 hz1 c1 d1
    have t1 := hb1.size
    try simp only [szA] at hz1 c1 d1
    try simp only [szD] at hz1 c1 d1
    try simp only [szS] at hz1 c1 d1
    try simp only [World.heap_drewN] at hz1 c1 d1
    have s1_0 : w.heap.size < w1.heap.size := by omega
    have o1_0 := fun j => c1 (w.heap.size) j (by omega)
    have f1_0 := fun j => d1 (w.heap.size) j (by omega)
    clear c1 d1 hz1
    go_wp2_with fail
    refine call_below (w := w) (by repeat' (first | (with_reducible first | exact bwR _ _ | assumption | refine bdn ?_ | refine bwA ?_ ?_ _ | refine bwD ?_ | refine bwS ?_ ?_ _) | omega | (simp <;> omega))) (fun HB => rfracerror_0 p.yn p.yd _ H_h6.out h3 h4) ?_
    intro w2 hb2 hz2 c2 d2
    have t2 := hb2.size
    try simp only [szA] at hz2 c2 d2
    try simp only [szD] at hz2 c2 d2
    try simp only [szS] at hz2 c2 d2
    try simp only [World.heap_drewN] at hz2 c2 d2
    have s2_0 : w.heap.size < w2.heap.size := by omega
    have o2_0 := fun j => c2 (w.heap.size) j (by omega)
    have f2_0 := fun j => d2 (w.heap.size) j (by omega)
    clear c2 d2 hz2
    go_wp2_with fail
    refine call_below (w := w) (by repeat' (first | (with_reducible first | exact bwR _ _ | assumption | refine bdn ?_ | refine bwA ?_ ?_ _ | refine bwD ?_ | refine bwS ?_ ?_ _) | omega | (simp <;> omega))) (fun HB => rfrac2_f p.xn p.xd _ H_r1.out h7) ?_
    intro w3 hb3 hz3 c3 d3
    have t3 := hb3.size
    try simp only [szA] at hz3 c3 d3
    try simp only [szD] at hz3 c3 d3
    try simp only [szS] at hz3 c3 d3
    try simp only [World.heap_drewN] at hz3 c3 d3
    have s3_0 : w.heap.size < w3.heap.size := by omega
    have o3_0 := fun j => c3 (w.heap.size) j (by omega)
    have f3_0 := fun j => d3 (w.heap.size) j (by omega)
    clear c3 d3 hz3
    go_wp2_with fail
    go_returns
    exact ⟨rfl, by repeat' (first | (with_reducible first | exact bwR _ _ | assumption | refine bdn ?_ | refine bwA ?_ ?_ _ | refine bwD ?_ | refine bwS ?_ ?_ _) | omega | (simp <;> omega))⟩
  · go_enter Tryz.func61, Tryz.ntmps61
    go_wp2_with fail
    refine call_below (w := w) (by repeat' (first | (with_reducible first | exact bwR _ _ | assumption | refine bdn ?_ | refine bwA ?_ ?_ _ | refine bwD ?_ | refine bwS ?_ ?_ _) | omega | (simp <;> omega))) (fun HB => rfracerror_0 p.xn p.xd _ H_h5.out h1 h2) ?_
    intro w1 hb1 hz1 c1 d1
    have t1 := hb1.size
    try simp only [szA] at hz1 c1 d1
    try simp only [szD] at hz1 c1 d1
    try simp only [szS] at hz1 c1 d1
    try simp only [World.heap_drewN] at hz1 c1 d1
    have s1_0 : w.heap.size < w1.heap.size := by omega
    have o1_0 := fun j => c1 (w.heap.size) j (by omega)
    have f1_0 := fun j => d1 (w.heap.size) j (by omega)
    clear c1 d1 hz1
    go_wp2_with fail
    refine call_below (w := w) (by repeat' (first | (with_reducible first | exact bwR _ _ | assumption | refine bdn ?_ | refine bwA ?_ ?_ _ | refine bwD ?_ | refine bwS ?_ ?_ _) | omega | (simp <;> omega))) (fun HB => rfracerror_0 p.yn p.yd _ H_h6.out h3 h4) ?_
    intro w2 hb2 hz2 c2 d2
    have t2 := hb2.size
    try simp only [szA] at hz2 c2 d2
    try simp only [szD] at hz2 c2 d2
    try simp only [szS] at hz2 c2 d2
    try simp only [World.heap_drewN] at hz2 c2 d2
    have s2_0 : w.heap.size < w2.heap.size := by omega
    have o2_0 := fun j => c2 (w.heap.size) j (by omega)
    have f2_0 := fun j => d2 (w.heap.size) j (by omega)
    clear c2 d2 hz2
    go_wp2_with fail
    refine call_below (w := w) (by repeat' (first | (with_reducible first | exact bwR _ _ | assumption | refine bdn ?_ | refine bwA ?_ ?_ _ | refine bwD ?_ | refine bwS ?_ ?_ _) | omega | (simp <;> omega))) (fun HB => rfrac2_t p.xn p.xd _ H_r1.out h7) ?_
    intro w3 hb3 hz3 c3 d3
    have t3 := hb3.size
    try simp only [szA] at hz3 c3 d3
    try simp only [szD] at hz3 c3 d3
    try simp only [szS] at hz3 c3 d3
    try simp only [World.heap_drewN] at hz3 c3 d3
    have s3_0 : w.heap.size < w3.heap.size := by omega
    have o3_0 := fun j => c3 (w.heap.size) j (by omega)
    have f3_0 := fun j => d3 (w.heap.size) j (by omega)
    clear c3 d3 hz3
    go_wp2_with fail
    refine call_below (w := w) (by repeat' (first | (with_reducible first | exact bwR _ _ | assumption | refine bdn ?_ | refine bwA ?_ ?_ _ | refine bwD ?_ | refine bwS ?_ ?_ _) | omega | (simp <;> omega))) (fun HB => rfrac2_f p.yn p.yd _ H_r2.out h8) ?_
    intro w4 hb4 hz4 c4 d4
    have t4 := hb4.size
    try simp only [szA] at hz4 c4 d4
    try simp only [szD] at hz4 c4 d4
    try simp only [szS] at hz4 c4 d4
    try simp only [World.heap_drewN] at hz4 c4 d4
    have s4_0 : w.heap.size < w4.heap.size := by omega
    have o4_0 := fun j => c4 (w.heap.size) j (by omega)
    have f4_0 := fun j => d4 (w.heap.size) j (by omega)
    clear c4 d4 hz4
    go_wp2_with fail
    go_returns
    exact ⟨rfl, by repeat' (first | (with_reducible first | exact bwR _ _ | assumption | refine bdn ?_ | refine bwA ?_ ?_ _ | refine bwD ?_ | refine bwS ?_ ?_ _) | omega | (simp <;> omega))⟩
  · go_enter Tryz.func61, Tryz.ntmps61
    go_wp2_with fail
    refine call_below (w := w) (by repeat' (first | (with_reducible first | exact bwR _ _ | assumption | refine bdn ?_ | refine bwA ?_ ?_ _ | refine bwD ?_ | refine bwS ?_ ?_ _) | omega | (simp <;> omega))) (fun HB => rfracerror_0 p.xn p.xd _ H_h5.out h1 h2) ?_
    intro w1 hb1 hz1 c1 d1
    have t1 := hb1.size
    try simp only [szA] at hz1 c1 d1
    try simp only [szD] at hz1 c1 d1
    try simp only [szS] at hz1 c1 d1
    try simp only [World.heap_drewN] at hz1 c1 d1
    have s1_0 : w.heap.size < w1.heap.size := by omega
    have o1_0 := fun j => c1 (w.heap.size) j (by omega)
    have f1_0 := fun j => d1 (w.heap.size) j (by omega)
    clear c1 d1 hz1
    go_wp2_with fail
    refine call_below (w := w) (by repeat' (first | (with_reducible first | exact bwR _ _ | assumption | refine bdn ?_ | refine bwA ?_ ?_ _ | refine bwD ?_ | refine bwS ?_ ?_ _) | omega | (simp <;> omega))) (fun HB => rfracerror_0 p.yn p.yd _ H_h6.out h3 h4) ?_
    intro w2 hb2 hz2 c2 d2
    have t2 := hb2.size
    try simp only [szA] at hz2 c2 d2
    try simp only [szD] at hz2 c2 d2
    try simp only [szS] at hz2 c2 d2
    try simp only [World.heap_drewN] at hz2 c2 d2
    have s2_0 : w.heap.size < w2.heap.size := by omega
    have o2_0 := fun j => c2 (w.heap.size) j (by omega)
    have f2_0 := fun j => d2 (w.heap.size) j (by omega)
    clear c2 d2 hz2
    go_wp2_with fail
    refine call_below (w := w) (by repeat' (first | (with_reducible first | exact bwR _ _ | assumption | refine bdn ?_ | refine bwA ?_ ?_ _ | refine bwD ?_ | refine bwS ?_ ?_ _) | omega | (simp <;> omega))) (fun HB => rfrac2_t p.xn p.xd _ H_r1.out h7) ?_
    intro w3 hb3 hz3 c3 d3
    have t3 := hb3.size
    try simp only [szA] at hz3 c3 d3
    try simp only [szD] at hz3 c3 d3
    try simp only [szS] at hz3 c3 d3
    try simp only [World.heap_drewN] at hz3 c3 d3
    have s3_0 : w.heap.size < w3.heap.size := by omega
    have o3_0 := fun j => c3 (w.heap.size) j (by omega)
    have f3_0 := fun j => d3 (w.heap.size) j (by omega)
    clear c3 d3 hz3
    go_wp2_with fail
    refine call_below (w := w) (by repeat' (first | (with_reducible first | exact bwR _ _ | assumption | refine bdn ?_ | refine bwA ?_ ?_ _ | refine bwD ?_ | refine bwS ?_ ?_ _) | omega | (simp <;> omega))) (fun HB => rfrac2_t p.yn p.yd _ H_r2.out h8) ?_
    intro w4 hb4 hz4 c4 d4
    have t4 := hb4.size
    try simp only [szA] at hz4 c4 d4
    try simp only [szD] at hz4 c4 d4
    try simp only [szS] at hz4 c4 d4
    try simp only [World.heap_drewN] at hz4 c4 d4
    have s4_0 : w.heap.size < w4.heap.size := by omega
    have o4_0 := fun j => c4 (w.heap.size) j (by omega)
    have f4_0 := fun j => d4 (w.heap.size) j (by omega)
    clear c4 d4 hz4
    go_wp2_with fail
    go_returns
    exact ⟨rfl, by repeat' (first | (with_reducible first | exact bwR _ _ | assumption | refine bdn ?_ | refine bwA ?_ ?_ _ | refine bwD ?_ | refine bwS ?_ ?_ _) | omega | (simp <;> omega))⟩
end Go.Proofs.YtpdaenldmgpkjaaGreatDoor
