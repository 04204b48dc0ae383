/-
  Walks over package shape: small, point.
-/
import Derived.Test.YthpicnajemnfdaaDoorFrac2
import Derived.Test.YthpicnajemnfdaaDoorShape2
namespace Go.Proofs.YthpicnajemnfdaaDoor
open Go.RowKit Lead

set_option maxHeartbeats 400000 in
theorem shsmall_b (n d : Int) (b : Bool) (w : World) (hr : Right n d) (hb : shSml n d = b) :
    Calls Tryd.prog 75 #[.agg #[.int .i64 n, .int .i64 d]] w fun e w' => e = .returned (.bool b) ∧ Below w.heap.size w w' := by
  have h1 := hr.d0
  have h2 := hr.d1
  rcases shSml_cases hb with ⟨h3, rfl⟩ | ⟨h3, h4, rfl⟩ | ⟨h3, h4, h5, rfl⟩ | ⟨h3, h4, h5, rfl⟩ <;> clear hb hr
  all_goals
    go_enter Tryd.func75, Tryd.ntmps75
    go_wp2_with fail
    go_returns
    exact ⟨rfl, by repeat' (first | (with_reducible exact Below.refl _ _) | (with_reducible assumption) | (with_reducible refine bdn ?_) | (with_reducible refine Below.alloc ?_ ?_ _) | (with_reducible refine Below.drew ?_) | (with_reducible refine Below.setCell ?_ ?_ _) | omega | (simp <;> omega))⟩

set_option maxHeartbeats 1000000 in
theorem shpoint_any (ea : Nat → Addr) (xn xd yn yd : Int) (w : World) (h1 : I64 xn) (h2 : I64 xd) (h3 : I64 yn) (h4 : I64 yd) (hShape : w.cell? ⟨2, 0, none⟩ = some (.iface 87 (.pointer (some (ea 3))))) (hBound : w.cell? ⟨1, 0, none⟩ = some (.iface 87 (.pointer (some (ea 2))))) :
    Calls Tryd.prog 50 #[.agg #[.int .i64 xn, .int .i64 xd, .int .i64 yn, .int .i64 yd]] w fun e w' => e = .returned (evl 87 ea (ptC xn xd yn yd)) ∧ Below w.heap.size w w' := by
  have zhShape := zlt hShape
  have xhShape := zlts hShape
  have yhShape := zne hShape
  have zhBound := zlt hBound
  have xhBound := zlts hBound
  have yhBound := zne hBound
  rcases ptC_cases xn xd yn yd with ⟨h5, hc⟩ | ⟨h5, h6, hc⟩ | ⟨h5, h6, h7, hc⟩ | ⟨h5, h6, h7, h8, hc⟩ | ⟨h5, h6, h7, h8, hc⟩
  · have H_hc := Lib.hid hc
    clear hc
    go_enter Tryd.func50, Tryd.ntmps50
    go_wp2_with fail
    refine wp_loop_rounds 1 ?_
    rw [rounds_succ]
    go_wp2_with fail
    refine call_below (w := w) (by repeat' (first | (with_reducible exact Below.refl _ _) | (with_reducible assumption) | (with_reducible refine bdn ?_) | (with_reducible refine Below.alloc ?_ ?_ _) | (with_reducible refine Below.drew ?_) | (with_reducible refine Below.setCell ?_ ?_ _) | omega | (simp <;> omega))) (fun HB => fcheck_n ea xn xd _ h1 h2 (gkeep HB hShape rfl) (gkeep HB hBound rfl) h5) ?_
    intro w1 hb1 hz1 c1 d1
    have t1 := hb1.size
    clear c1 d1 hz1
    go_wp2_with fail
    go_returns
    exact ⟨by rw [H_hc.out, evl_n h5]; try rfl, by repeat' (first | (with_reducible exact Below.refl _ _) | (with_reducible assumption) | (with_reducible refine bdn ?_) | (with_reducible refine Below.alloc ?_ ?_ _) | (with_reducible refine Below.drew ?_) | (with_reducible refine Below.setCell ?_ ?_ _) | omega | (simp <;> omega))⟩
  · have H_hc := Lib.hid hc
    clear hc
    have H_h5 := Lib.hid h5
    clear h5
    go_enter Tryd.func50, Tryd.ntmps50
    go_wp2_with fail
    refine wp_loop_rounds 2 ?_
    rw [rounds_succ]
    go_wp2_with fail
    refine call_below (w := w) (by repeat' (first | (with_reducible exact Below.refl _ _) | (with_reducible assumption) | (with_reducible refine bdn ?_) | (with_reducible refine Below.alloc ?_ ?_ _) | (with_reducible refine Below.drew ?_) | (with_reducible refine Below.setCell ?_ ?_ _) | omega | (simp <;> omega))) (fun HB => fcheck_0 ea xn xd _ h1 h2 (gkeep HB hShape rfl) (gkeep HB hBound rfl) H_h5.out) ?_
    intro w1 hb1 hz1 c1 d1
    have t1 := hb1.size
    have hBound_1 := gkeep hb1 hBound rfl
    have zhBound_1 := zlt hBound_1
    have xhBound_1 := zlts hBound_1
    have yhBound_1 := zne hBound_1
    try simp only [World.size_alloc] at hz1 c1 d1
    try simp only [World.size_drew] at hz1 c1 d1
    try simp only [World.size_setCell] at hz1 c1 d1
    try simp only [World.heap_drewN] at hz1 c1 d1
    have s1_0 : w.heap.size + 1 < w1.heap.size := by omega
    have o1_0 := fun j => c1 (w.heap.size + 1) j (by omega)
    have f1_0 := fun j => d1 (w.heap.size + 1) j (by omega)
    clear c1 d1 hz1
    go_wp2_with fail
    rw [rounds_succ]
    go_wp2_with fail
    refine call_below (w := w) (by repeat' (first | (with_reducible exact Below.refl _ _) | (with_reducible assumption) | (with_reducible refine bdn ?_) | (with_reducible refine Below.alloc ?_ ?_ _) | (with_reducible refine Below.drew ?_) | (with_reducible refine Below.setCell ?_ ?_ _) | omega | (simp <;> omega))) (fun HB => fcheck_n ea yn yd _ h3 h4 (gkeep HB hShape rfl) (gkeep HB hBound rfl) h6) ?_
    intro w2 hb2 hz2 c2 d2
    have t2 := hb2.size
    clear c2 d2 hz2
    go_wp2_with fail
    go_returns
    exact ⟨by rw [H_hc.out, evl_n h6]; try rfl, by repeat' (first | (with_reducible exact Below.refl _ _) | (with_reducible assumption) | (with_reducible refine bdn ?_) | (with_reducible refine Below.alloc ?_ ?_ _) | (with_reducible refine Below.drew ?_) | (with_reducible refine Below.setCell ?_ ?_ _) | omega | (simp <;> omega))⟩
  all_goals
    have r1 := chk_0 h5
    have r2 := chk_0 h6
  · have H_hc := Lib.hid hc
    clear hc
    have H_h5 := Lib.hid h5
    clear h5
    have H_h6 := Lib.hid h6
    clear h6
    have H_h7 := Lib.hid h7
    clear h7
    go_enter Tryd.func50, Tryd.ntmps50
    go_wp2_with fail
    refine wp_loop_rounds 3 ?_
    rw [rounds_succ]
    go_wp2_with fail
    refine call_below (w := w) (by repeat' (first | (with_reducible exact Below.refl _ _) | (with_reducible assumption) | (with_reducible refine bdn ?_) | (with_reducible refine Below.alloc ?_ ?_ _) | (with_reducible refine Below.drew ?_) | (with_reducible refine Below.setCell ?_ ?_ _) | omega | (simp <;> omega))) (fun HB => fcheck_0 ea xn xd _ h1 h2 (gkeep HB hShape rfl) (gkeep HB hBound rfl) H_h5.out) ?_
    intro w1 hb1 hz1 c1 d1
    have t1 := hb1.size
    have hBound_1 := gkeep hb1 hBound rfl
    have zhBound_1 := zlt hBound_1
    have xhBound_1 := zlts hBound_1
    have yhBound_1 := zne hBound_1
    try simp only [World.size_alloc] at hz1 c1 d1
    try simp only [World.size_drew] at hz1 c1 d1
    try simp only [World.size_setCell] at hz1 c1 d1
    try simp only [World.heap_drewN] at hz1 c1 d1
    have s1_0 : w.heap.size < w1.heap.size := by omega
    have o1_0 := fun j => c1 (w.heap.size) j (by omega)
    have f1_0 := fun j => d1 (w.heap.size) j (by omega)
    have s1_1 : w.heap.size + 1 < w1.heap.size := by omega
    have o1_1 := fun j => c1 (w.heap.size + 1) j (by omega)
    have f1_1 := fun j => d1 (w.heap.size + 1) j (by omega)
    clear c1 d1 hz1
    go_wp2_with fail
    rw [rounds_succ]
    go_wp2_with fail
    refine call_below (w := w) (by repeat' (first | (with_reducible exact Below.refl _ _) | (with_reducible assumption) | (with_reducible refine bdn ?_) | (with_reducible refine Below.alloc ?_ ?_ _) | (with_reducible refine Below.drew ?_) | (with_reducible refine Below.setCell ?_ ?_ _) | omega | (simp <;> omega))) (fun HB => fcheck_0 ea yn yd _ h3 h4 (gkeep HB hShape rfl) (gkeep HB hBound rfl) H_h6.out) ?_
    intro w2 hb2 hz2 c2 d2
    have t2 := hb2.size
    have hBound_2 := gkeep hb2 hBound rfl
    have zhBound_2 := zlt hBound_2
    have xhBound_2 := zlts hBound_2
    have yhBound_2 := zne hBound_2
    try simp only [World.size_alloc] at hz2 c2 d2
    try simp only [World.size_drew] at hz2 c2 d2
    try simp only [World.size_setCell] at hz2 c2 d2
    try simp only [World.heap_drewN] at hz2 c2 d2
    have s2_0 : w.heap.size < w2.heap.size := by omega
    have o2_0 := fun j => c2 (w.heap.size) j (by omega)
    have f2_0 := fun j => d2 (w.heap.size) j (by omega)
    clear c2 d2 hz2
    go_wp2_with fail
    rw [rounds_succ]
    go_wp2_with fail
    refine call_below (w := w) (by repeat' (first | (with_reducible exact Below.refl _ _) | (with_reducible assumption) | (with_reducible refine bdn ?_) | (with_reducible refine Below.alloc ?_ ?_ _) | (with_reducible refine Below.drew ?_) | (with_reducible refine Below.setCell ?_ ?_ _) | omega | (simp <;> omega))) (fun HB => shsmall_b xn xd false _ r1 H_h7.out) ?_
    intro w3 hb3 hz3 c3 d3
    have t3 := hb3.size
    have hBound_3 := gkeep hb3 hBound rfl
    have zhBound_3 := zlt hBound_3
    have xhBound_3 := zlts hBound_3
    have yhBound_3 := zne hBound_3
    try simp only [World.size_alloc] at hz3 c3 d3
    try simp only [World.size_drew] at hz3 c3 d3
    try simp only [World.size_setCell] at hz3 c3 d3
    try simp only [World.heap_drewN] at hz3 c3 d3
    have s3_0 : w.heap.size < w3.heap.size := by omega
    have o3_0 := fun j => c3 (w.heap.size) j (by omega)
    have f3_0 := fun j => d3 (w.heap.size) j (by omega)
    clear c3 d3 hz3
    go_wp2_with fail
    go_returns
    exact ⟨by rw [H_hc.out, evl_n (by decide)]; try rfl, by repeat' (first | (with_reducible exact Below.refl _ _) | (with_reducible assumption) | (with_reducible refine bdn ?_) | (with_reducible refine Below.alloc ?_ ?_ _) | (with_reducible refine Below.drew ?_) | (with_reducible refine Below.setCell ?_ ?_ _) | omega | (simp <;> omega))⟩
  · have H_hc := Lib.hid hc
    clear hc
    have H_h5 := Lib.hid h5
    clear h5
    have H_h6 := Lib.hid h6
    clear h6
    have H_h7 := Lib.hid h7
    clear h7
    have H_h8 := Lib.hid h8
    clear h8
    go_enter Tryd.func50, Tryd.ntmps50
    go_wp2_with fail
    refine wp_loop_rounds 3 ?_
    rw [rounds_succ]
    go_wp2_with fail
    refine call_below (w := w) (by repeat' (first | (with_reducible exact Below.refl _ _) | (with_reducible assumption) | (with_reducible refine bdn ?_) | (with_reducible refine Below.alloc ?_ ?_ _) | (with_reducible refine Below.drew ?_) | (with_reducible refine Below.setCell ?_ ?_ _) | omega | (simp <;> omega))) (fun HB => fcheck_0 ea xn xd _ h1 h2 (gkeep HB hShape rfl) (gkeep HB hBound rfl) H_h5.out) ?_
    intro w1 hb1 hz1 c1 d1
    have t1 := hb1.size
    have hBound_1 := gkeep hb1 hBound rfl
    have zhBound_1 := zlt hBound_1
    have xhBound_1 := zlts hBound_1
    have yhBound_1 := zne hBound_1
    try simp only [World.size_alloc] at hz1 c1 d1
    try simp only [World.size_drew] at hz1 c1 d1
    try simp only [World.size_setCell] at hz1 c1 d1
    try simp only [World.heap_drewN] at hz1 c1 d1
    have s1_0 : w.heap.size < w1.heap.size := by omega
    have o1_0 := fun j => c1 (w.heap.size) j (by omega)
    have f1_0 := fun j => d1 (w.heap.size) j (by omega)
    have s1_1 : w.heap.size + 1 < w1.heap.size := by omega
    have o1_1 := fun j => c1 (w.heap.size + 1) j (by omega)
    have f1_1 := fun j => d1 (w.heap.size + 1) j (by omega)
    clear c1 d1 hz1
    go_wp2_with fail
    rw [rounds_succ]
    go_wp2_with fail
    refine call_below (w := w) (by repeat' (first | (with_reducible exact Below.refl _ _) | (with_reducible assumption) | (with_reducible refine bdn ?_) | (with_reducible refine Below.alloc ?_ ?_ _) | (with_reducible refine Below.drew ?_) | (with_reducible refine Below.setCell ?_ ?_ _) | omega | (simp <;> omega))) (fun HB => fcheck_0 ea yn yd _ h3 h4 (gkeep HB hShape rfl) (gkeep HB hBound rfl) H_h6.out) ?_
    intro w2 hb2 hz2 c2 d2
    have t2 := hb2.size
    have hBound_2 := gkeep hb2 hBound rfl
    have zhBound_2 := zlt hBound_2
    have xhBound_2 := zlts hBound_2
    have yhBound_2 := zne hBound_2
    try simp only [World.size_alloc] at hz2 c2 d2
    try simp only [World.size_drew] at hz2 c2 d2
    try simp only [World.size_setCell] at hz2 c2 d2
    try simp only [World.heap_drewN] at hz2 c2 d2
    have s2_0 : w.heap.size < w2.heap.size := by omega
    have o2_0 := fun j => c2 (w.heap.size) j (by omega)
    have f2_0 := fun j => d2 (w.heap.size) j (by omega)
    clear c2 d2 hz2
    go_wp2_with fail
    rw [rounds_succ]
    go_wp2_with fail
    refine call_below (w := w) (by repeat' (first | (with_reducible exact Below.refl _ _) | (with_reducible assumption) | (with_reducible refine bdn ?_) | (with_reducible refine Below.alloc ?_ ?_ _) | (with_reducible refine Below.drew ?_) | (with_reducible refine Below.setCell ?_ ?_ _) | omega | (simp <;> omega))) (fun HB => shsmall_b xn xd true _ r1 H_h7.out) ?_
    intro w3 hb3 hz3 c3 d3
    have t3 := hb3.size
    have hBound_3 := gkeep hb3 hBound rfl
    have zhBound_3 := zlt hBound_3
    have xhBound_3 := zlts hBound_3
    have yhBound_3 := zne hBound_3
    try simp only [World.size_alloc] at hz3 c3 d3
    try simp only [World.size_drew] at hz3 c3 d3
    try simp only [World.size_setCell] at hz3 c3 d3
    try simp only [World.heap_drewN] at hz3 c3 d3
    have s3_0 : w.heap.size < w3.heap.size := by omega
    have o3_0 := fun j => c3 (w.heap.size) j (by omega)
    have f3_0 := fun j => d3 (w.heap.size) j (by omega)
    clear c3 d3 hz3
    go_wp2_with fail
    refine call_below (w := w) (by repeat' (first | (with_reducible exact Below.refl _ _) | (with_reducible assumption) | (with_reducible refine bdn ?_) | (with_reducible refine Below.alloc ?_ ?_ _) | (with_reducible refine Below.drew ?_) | (with_reducible refine Below.setCell ?_ ?_ _) | omega | (simp <;> omega))) (fun HB => shsmall_b yn yd false _ r2 H_h8.out) ?_
    intro w4 hb4 hz4 c4 d4
    have t4 := hb4.size
    have hBound_4 := gkeep hb4 hBound rfl
    have zhBound_4 := zlt hBound_4
    have xhBound_4 := zlts hBound_4
    have yhBound_4 := zne hBound_4
    try simp only [World.size_alloc] at hz4 c4 d4
    try simp only [World.size_drew] at hz4 c4 d4
    try simp only [World.size_setCell] at hz4 c4 d4
    try simp only [World.heap_drewN] at hz4 c4 d4
    have s4_0 : w.heap.size < w4.heap.size := by omega
    have o4_0 := fun j => c4 (w.heap.size) j (by omega)
    have f4_0 := fun j => d4 (w.heap.size) j (by omega)
    clear c4 d4 hz4
    go_wp2_with fail
    go_returns
    exact ⟨by rw [H_hc.out, evl_n (by decide)]; try rfl, by repeat' (first | (with_reducible exact Below.refl _ _) | (with_reducible assumption) | (with_reducible refine bdn ?_) | (with_reducible refine Below.alloc ?_ ?_ _) | (with_reducible refine Below.drew ?_) | (with_reducible refine Below.setCell ?_ ?_ _) | omega | (simp <;> omega))⟩
  · have H_hc := Lib.hid hc
    clear hc
    have H_h5 := Lib.hid h5
    clear h5
    have H_h6 := Lib.hid h6
    clear h6
    have H_h7 := Lib.hid h7
    clear h7
    have H_h8 := Lib.hid h8
    clear h8
    go_enter Tryd.func50, Tryd.ntmps50
    go_wp2_with fail
    refine wp_loop_rounds 3 ?_
    rw [rounds_succ]
    go_wp2_with fail
    refine call_below (w := w) (by repeat' (first | (with_reducible exact Below.refl _ _) | (with_reducible assumption) | (with_reducible refine bdn ?_) | (with_reducible refine Below.alloc ?_ ?_ _) | (with_reducible refine Below.drew ?_) | (with_reducible refine Below.setCell ?_ ?_ _) | omega | (simp <;> omega))) (fun HB => fcheck_0 ea xn xd _ h1 h2 (gkeep HB hShape rfl) (gkeep HB hBound rfl) H_h5.out) ?_
    intro w1 hb1 hz1 c1 d1
    have t1 := hb1.size
    have hBound_1 := gkeep hb1 hBound rfl
    have zhBound_1 := zlt hBound_1
    have xhBound_1 := zlts hBound_1
    have yhBound_1 := zne hBound_1
    try simp only [World.size_alloc] at hz1 c1 d1
    try simp only [World.size_drew] at hz1 c1 d1
    try simp only [World.size_setCell] at hz1 c1 d1
    try simp only [World.heap_drewN] at hz1 c1 d1
    have s1_0 : w.heap.size < w1.heap.size := by omega
    have o1_0 := fun j => c1 (w.heap.size) j (by omega)
    have f1_0 := fun j => d1 (w.heap.size) j (by omega)
    have s1_1 : w.heap.size + 1 < w1.heap.size := by omega
    have o1_1 := fun j => c1 (w.heap.size + 1) j (by omega)
    have f1_1 := fun j => d1 (w.heap.size + 1) j (by omega)
    clear c1 d1 hz1
    go_wp2_with fail
    rw [rounds_succ]
    go_wp2_with fail
    refine call_below (w := w) (by repeat' (first | (with_reducible exact Below.refl _ _) | (with_reducible assumption) | (with_reducible refine bdn ?_) | (with_reducible refine Below.alloc ?_ ?_ _) | (with_reducible refine Below.drew ?_) | (with_reducible refine Below.setCell ?_ ?_ _) | omega | (simp <;> omega))) (fun HB => fcheck_0 ea yn yd _ h3 h4 (gkeep HB hShape rfl) (gkeep HB hBound rfl) H_h6.out) ?_
    intro w2 hb2 hz2 c2 d2
    have t2 := hb2.size
    have hBound_2 := gkeep hb2 hBound rfl
    have zhBound_2 := zlt hBound_2
    have xhBound_2 := zlts hBound_2
    have yhBound_2 := zne hBound_2
    try simp only [World.size_alloc] at hz2 c2 d2
    try simp only [World.size_drew] at hz2 c2 d2
    try simp only [World.size_setCell] at hz2 c2 d2
    try simp only [World.heap_drewN] at hz2 c2 d2
    have s2_0 : w.heap.size < w2.heap.size := by omega
    have o2_0 := fun j => c2 (w.heap.size) j (by omega)
    have f2_0 := fun j => d2 (w.heap.size) j (by omega)
    clear c2 d2 hz2
    go_wp2_with fail
    rw [rounds_succ]
    go_wp2_with fail
    refine call_below (w := w) (by repeat' (first | (with_reducible exact Below.refl _ _) | (with_reducible assumption) | (with_reducible refine bdn ?_) | (with_reducible refine Below.alloc ?_ ?_ _) | (with_reducible refine Below.drew ?_) | (with_reducible refine Below.setCell ?_ ?_ _) | omega | (simp <;> omega))) (fun HB => shsmall_b xn xd true _ r1 H_h7.out) ?_
    intro w3 hb3 hz3 c3 d3
    have t3 := hb3.size
    have hBound_3 := gkeep hb3 hBound rfl
    have zhBound_3 := zlt hBound_3
    have xhBound_3 := zlts hBound_3
    have yhBound_3 := zne hBound_3
    try simp only [World.size_alloc] at hz3 c3 d3
    try simp only [World.size_drew] at hz3 c3 d3
    try simp only [World.size_setCell] at hz3 c3 d3
    try simp only [World.heap_drewN] at hz3 c3 d3
    have s3_0 : w.heap.size < w3.heap.size := by omega
    have o3_0 := fun j => c3 (w.heap.size) j (by omega)
    have f3_0 := fun j => d3 (w.heap.size) j (by omega)
    clear c3 d3 hz3
    go_wp2_with fail
    refine call_below (w := w) (by repeat' (first | (with_reducible exact Below.refl _ _) | (with_reducible assumption) | (with_reducible refine bdn ?_) | (with_reducible refine Below.alloc ?_ ?_ _) | (with_reducible refine Below.drew ?_) | (with_reducible refine Below.setCell ?_ ?_ _) | omega | (simp <;> omega))) (fun HB => shsmall_b yn yd true _ r2 H_h8.out) ?_
    intro w4 hb4 hz4 c4 d4
    have t4 := hb4.size
    have hBound_4 := gkeep hb4 hBound rfl
    have zhBound_4 := zlt hBound_4
    have xhBound_4 := zlts hBound_4
    have yhBound_4 := zne hBound_4
    try simp only [World.size_alloc] at hz4 c4 d4
    try simp only [World.size_drew] at hz4 c4 d4
    try simp only [World.size_setCell] at hz4 c4 d4
    try simp only [World.heap_drewN] at hz4 c4 d4
    have s4_0 : w.heap.size < w4.heap.size := by omega
    have o4_0 := fun j => c4 (w.heap.size) j (by omega)
    have f4_0 := fun j => d4 (w.heap.size) j (by omega)
    clear c4 d4 hz4
    go_wp2_with fail
    go_returns
    exact ⟨by rw [H_hc.out, evl_0 rfl]; try rfl, by repeat' (first | (with_reducible exact Below.refl _ _) | (with_reducible assumption) | (with_reducible refine bdn ?_) | (with_reducible refine Below.alloc ?_ ?_ _) | (with_reducible refine Below.drew ?_) | (with_reducible refine Below.setCell ?_ ?_ _) | omega | (simp <;> omega))⟩
end Go.Proofs.YthpicnajemnfdaaDoor
