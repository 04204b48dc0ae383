/-
  Walks over package shape: Move.
-/
import Derived.Test.YtpdaenldmgpkjaaGreatDoorMv6
import Derived.Test.YtpdaenldmgpkjaaGreatDoorMa
import Derived.Test.YtpdaenldmgpkjaaGreatDoorShape8
namespace Go.Proofs.YtpdaenldmgpkjaaGreatDoor
open Go.RowKit Lead
variable {gz : Bool}

set_option maxHeartbeats 400000 in
set_option maxRecDepth 100000 in
theorem shmove_e1 (ea : Nat → Addr) (m : Mv) (ps : List Pt) (oa : Option Addr) (len cap : Nat) (w : World) (im : m.I) (hG : Gs gz ea w) (h1 : m.c.1 ≠ 0) :
    Calls Tryz.prog 26 #[.agg #[.slice oa len cap], .agg #[.int .i64 m.A.n, .int .i64 m.A.d, .int .i64 m.B.n, .int .i64 m.B.d, .int .i64 m.C.n, .int .i64 m.C.d, .int .i64 m.D.n, .int .i64 m.D.d, .int .i64 m.E.n, .int .i64 m.E.d, .int .i64 m.F.n, .int .i64 m.F.d]] w (RetPE 308 119 ea 102 (movC m ps) (movL m ps) w) := by
  have hBound := hG.c2
  have hShape := hG.c3
  have zhShape := zlt hShape
  have xhShape := zlts hShape
  have yhShape := zne hShape
  have zhBound := zlt hBound
  have xhBound := zlts hBound
  have yhBound := zne hBound
  obtain ⟨hc, hv⟩ := movC_m (ps := ps) h1
  rw [hv, hc]
  have H_hc := Lib.hid hc
  clear hc
  have H_hv := Lib.hid hv
  clear hv
  have H_h1 := Lib.hid h1
  clear h1
  have H_im := Lib.hid im
  clear im
  have H_hG := Lib.hid hG
  clear hG
  go_enter Tryz.func26, Tryz.ntmps26
  go_wp2_with fail
  refine call_ew (w := w) (by repeat' (first | (with_reducible first | exact bwR _ _ | assumption | refine bdn ?_ | refine bwA ?_ ?_ _ | refine bwD ?_ | refine bwS ?_ ?_ _) | omega | (simp <;> omega))) (fun HB => mcheck_any ea m _ H_im.out (gkeep HB hShape rfl) (gkeep HB hBound rfl)) ?_
  intro x1 w1 hx1 hb1 hz1 c1 d1 hW1
  have t1 := hb1.size
  try simp only [szA] at hz1 c1 d1
  try simp only [szD] at hz1 c1 d1
  try simp only [szS] at hz1 c1 d1
  try simp only [World.heap_drewN] at hz1 c1 d1
  try simp only [szA] at hz1 c1 d1
  try simp only [szD] at hz1 c1 d1
  try simp only [szS] at hz1 c1 d1
  have s1_0 : w.heap.size < w1.heap.size := by omega
  have o1_0 := fun j => c1 (w.heap.size) j (by omega)
  have f1_0 := fun j => d1 (w.heap.size) j (by omega)
  have s1_1 : w.heap.size + 1 < w1.heap.size := by omega
  have o1_1 := fun j => c1 (w.heap.size + 1) j (by omega)
  have f1_1 := fun j => d1 (w.heap.size + 1) j (by omega)
  have s1_2 : w.heap.size + 1 + 1 < w1.heap.size := by omega
  have o1_2 := fun j => c1 (w.heap.size + 1 + 1) j (by omega)
  have f1_2 := fun j => d1 (w.heap.size + 1 + 1) j (by omega)
  clear c1 d1 hz1 hW1
  obtain ⟨t, a, rfl⟩ := hx1.some H_h1.out
  go_wp2_with fail
  refine bodyPost_ret (by simp [results, Tryz.results26, go_sem, *]; try rfl) rfl ?_
  refine ⟨_, _, rfl, ?_, ?_, ?_⟩
  · exact hx1.above (by first | omega | (simp <;> omega)) (by repeat' (first | (with_reducible exact Above.refl _ _) | (with_reducible refine Above.alloc ?_ ?_ _) | (with_reducible refine Above.drew ?_) | (with_reducible refine Above.setCell ?_ ?_ _) | omega | (simp <;> omega)))
  · exact OwnP.nil _ _ _
  · exact by repeat' (first | (with_reducible first | exact bwR _ _ | assumption | refine bdn ?_ | refine bwA ?_ ?_ _ | refine bwD ?_ | refine bwS ?_ ?_ _) | omega | (simp <;> omega))
set_option maxHeartbeats 400000 in
set_option maxRecDepth 100000 in
theorem shmove_e2 (ea : Nat → Addr) (m : Mv) (ps : List Pt) (oa : Option Addr) (len cap : Nat) (w : World) (im : m.I) (hs : SlP w oa len cap ps) (hG : Gs gz ea w) (h1 : m.c = (0, none)) (h2 : (shC ps).1 ≠ 0) :
    Calls Tryz.prog 26 #[.agg #[.slice oa len cap], .agg #[.int .i64 m.A.n, .int .i64 m.A.d, .int .i64 m.B.n, .int .i64 m.B.d, .int .i64 m.C.n, .int .i64 m.C.d, .int .i64 m.D.n, .int .i64 m.D.d, .int .i64 m.E.n, .int .i64 m.E.d, .int .i64 m.F.n, .int .i64 m.F.d]] w (RetPE 308 119 ea 102 (movC m ps) (movL m ps) w) := by
  have hBound := hG.c2
  have hShape := hG.c3
  have zhShape := zlt hShape
  have xhShape := zlts hShape
  have yhShape := zne hShape
  have zhBound := zlt hBound
  have xhBound := zlts hBound
  have yhBound := zne hBound
  obtain ⟨hc, hv⟩ := movC_s h1 h2
  rw [hv, hc]
  have H_hc := Lib.hid hc
  clear hc
  have H_hv := Lib.hid hv
  clear hv
  have H_h1 := Lib.hid h1
  clear h1
  have H_im := Lib.hid im
  clear im
  have H_hG := Lib.hid hG
  clear hG
  have H_h2 := Lib.hid h2
  clear h2
  have H_hs := Lib.hid hs
  clear hs
  go_enter Tryz.func26, Tryz.ntmps26
  go_wp2_with fail
  refine call_ew (w := w) (by repeat' (first | (with_reducible first | exact bwR _ _ | assumption | refine bdn ?_ | refine bwA ?_ ?_ _ | refine bwD ?_ | refine bwS ?_ ?_ _) | omega | (simp <;> omega))) (fun HB => mcheck_any ea m _ H_im.out (gkeep HB hShape rfl) (gkeep HB hBound rfl)) ?_
  intro x1 w1 hx1 hb1 hz1 c1 d1 hW1
  have t1 := hb1.size
  try simp only [szA] at hz1 c1 d1
  try simp only [szD] at hz1 c1 d1
  try simp only [szS] at hz1 c1 d1
  try simp only [World.heap_drewN] at hz1 c1 d1
  try simp only [szA] at hz1 c1 d1
  try simp only [szD] at hz1 c1 d1
  try simp only [szS] at hz1 c1 d1
  have s1_0 : w.heap.size < w1.heap.size := by omega
  have o1_0 := fun j => c1 (w.heap.size) j (by omega)
  have f1_0 := fun j => d1 (w.heap.size) j (by omega)
  have s1_1 : w.heap.size + 1 < w1.heap.size := by omega
  have o1_1 := fun j => c1 (w.heap.size + 1) j (by omega)
  have f1_1 := fun j => d1 (w.heap.size + 1) j (by omega)
  have s1_2 : w.heap.size + 1 + 1 < w1.heap.size := by omega
  have o1_2 := fun j => c1 (w.heap.size + 1 + 1) j (by omega)
  have f1_2 := fun j => d1 (w.heap.size + 1 + 1) j (by omega)
  clear c1 d1 hz1 hW1
  obtain rfl := hx1.nil H_h1.out
  go_wp2_with fail
  refine call_ew (w := w) (by repeat' (first | (with_reducible first | exact bwR _ _ | assumption | refine bdn ?_ | refine bwA ?_ ?_ _ | refine bwD ?_ | refine bwS ?_ ?_ _) | omega | (simp <;> omega))) (fun HB => shcheck_any ea ps oa len cap _ (H_hs.out.keep HB rfl) (gkeep HB hShape rfl) (gkeep HB hBound rfl)) ?_
  intro x2 w2 hx2 hb2 hz2 c2 d2 hW2
  have t2 := hb2.size
  try simp only [szA] at hz2 c2 d2
  try simp only [szD] at hz2 c2 d2
  try simp only [szS] at hz2 c2 d2
  try simp only [World.heap_drewN] at hz2 c2 d2
  try simp only [szA] at hz2 c2 d2
  try simp only [szD] at hz2 c2 d2
  try simp only [szS] at hz2 c2 d2
  have s2_0 : w.heap.size < w2.heap.size := by omega
  have o2_0 := fun j => c2 (w.heap.size) j (by omega)
  have f2_0 := fun j => d2 (w.heap.size) j (by omega)
  have s2_1 : w.heap.size + 1 < w2.heap.size := by omega
  have o2_1 := fun j => c2 (w.heap.size + 1) j (by omega)
  have f2_1 := fun j => d2 (w.heap.size + 1) j (by omega)
  have s2_2 : w.heap.size + 1 + 1 < w2.heap.size := by omega
  have o2_2 := fun j => c2 (w.heap.size + 1 + 1) j (by omega)
  have f2_2 := fun j => d2 (w.heap.size + 1 + 1) j (by omega)
  clear c2 d2 hz2 hW2
  obtain ⟨t, a, rfl⟩ := hx2.some H_h2.out
  go_wp2_with fail
  refine bodyPost_ret (by simp [results, Tryz.results26, go_sem, *]; try rfl) rfl ?_
  refine ⟨_, _, rfl, ?_, ?_, ?_⟩
  · exact hx2.above (by first | omega | (simp <;> omega)) (by repeat' (first | (with_reducible exact Above.refl _ _) | (with_reducible refine Above.alloc ?_ ?_ _) | (with_reducible refine Above.drew ?_) | (with_reducible refine Above.setCell ?_ ?_ _) | omega | (simp <;> omega)))
  · exact OwnP.nil _ _ _
  · exact by repeat' (first | (with_reducible first | exact bwR _ _ | assumption | refine bdn ?_ | refine bwA ?_ ?_ _ | refine bwD ?_ | refine bwS ?_ ?_ _) | omega | (simp <;> omega))
set_option maxHeartbeats 400000 in
set_option maxRecDepth 100000 in
theorem shmove_nil (ea : Nat → Addr) (m : Mv) (ps : List Pt) (w : World) (im : m.I) (hs : SlP w none 0 0 ps) (hG : Gs gz ea w) (h1 : m.c = (0, none)) (h2 : shC ps = (0, none)) :
    Calls Tryz.prog 26 #[.agg #[.slice none 0 0], .agg #[.int .i64 m.A.n, .int .i64 m.A.d, .int .i64 m.B.n, .int .i64 m.B.d, .int .i64 m.C.n, .int .i64 m.C.d, .int .i64 m.D.n, .int .i64 m.D.d, .int .i64 m.E.n, .int .i64 m.E.d, .int .i64 m.F.n, .int .i64 m.F.d]] w (RetPE 308 119 ea 102 (0, none) [] w) := by
  have hBound := hG.c2
  have hShape := hG.c3
  have zhShape := zlt hShape
  have xhShape := zlts hShape
  have yhShape := zne hShape
  have zhBound := zlt hBound
  have xhBound := zlts hBound
  have yhBound := zne hBound
  have H_h1 := Lib.hid h1
  clear h1
  have H_im := Lib.hid im
  clear im
  have H_hG := Lib.hid hG
  clear hG
  have H_hs := Lib.hid hs
  clear hs
  have H_h2 := Lib.hid h2
  clear h2
  go_enter Tryz.func26, Tryz.ntmps26
  go_wp2_with fail
  refine call_ew (w := w) (by repeat' (first | (with_reducible first | exact bwR _ _ | assumption | refine bdn ?_ | refine bwA ?_ ?_ _ | refine bwD ?_ | refine bwS ?_ ?_ _) | omega | (simp <;> omega))) (fun HB => mcheck_any ea m _ H_im.out (gkeep HB hShape rfl) (gkeep HB hBound rfl)) ?_
  intro x1 w1 hx1 hb1 hz1 c1 d1 hW1
  have t1 := hb1.size
  try simp only [szA] at hz1 c1 d1
  try simp only [szD] at hz1 c1 d1
  try simp only [szS] at hz1 c1 d1
  try simp only [World.heap_drewN] at hz1 c1 d1
  try simp only [szA] at hz1 c1 d1
  try simp only [szD] at hz1 c1 d1
  try simp only [szS] at hz1 c1 d1
  have s1_0 : w.heap.size < w1.heap.size := by omega
  have o1_0 := fun j => c1 (w.heap.size) j (by omega)
  have f1_0 := fun j => d1 (w.heap.size) j (by omega)
  have s1_1 : w.heap.size + 1 < w1.heap.size := by omega
  have o1_1 := fun j => c1 (w.heap.size + 1) j (by omega)
  have f1_1 := fun j => d1 (w.heap.size + 1) j (by omega)
  have s1_2 : w.heap.size + 1 + 1 < w1.heap.size := by omega
  have o1_2 := fun j => c1 (w.heap.size + 1 + 1) j (by omega)
  have f1_2 := fun j => d1 (w.heap.size + 1 + 1) j (by omega)
  clear c1 d1 hz1 hW1
  obtain rfl := hx1.nil H_h1.out
  go_wp2_with fail
  refine call_ew (w := w) (by repeat' (first | (with_reducible first | exact bwR _ _ | assumption | refine bdn ?_ | refine bwA ?_ ?_ _ | refine bwD ?_ | refine bwS ?_ ?_ _) | omega | (simp <;> omega))) (fun HB => shcheck_any ea ps none 0 0 _ (H_hs.out.keep HB rfl) (gkeep HB hShape rfl) (gkeep HB hBound rfl)) ?_
  intro x2 w2 hx2 hb2 hz2 c2 d2 hW2
  have t2 := hb2.size
  try simp only [szA] at hz2 c2 d2
  try simp only [szD] at hz2 c2 d2
  try simp only [szS] at hz2 c2 d2
  try simp only [World.heap_drewN] at hz2 c2 d2
  try simp only [szA] at hz2 c2 d2
  try simp only [szD] at hz2 c2 d2
  try simp only [szS] at hz2 c2 d2
  have s2_0 : w.heap.size < w2.heap.size := by omega
  have o2_0 := fun j => c2 (w.heap.size) j (by omega)
  have f2_0 := fun j => d2 (w.heap.size) j (by omega)
  have s2_1 : w.heap.size + 1 < w2.heap.size := by omega
  have o2_1 := fun j => c2 (w.heap.size + 1) j (by omega)
  have f2_1 := fun j => d2 (w.heap.size + 1) j (by omega)
  have s2_2 : w.heap.size + 1 + 1 < w2.heap.size := by omega
  have o2_2 := fun j => c2 (w.heap.size + 1 + 1) j (by omega)
  have f2_2 := fun j => d2 (w.heap.size + 1 + 1) j (by omega)
  clear c2 d2 hz2 hW2
  obtain rfl := hx2.nil H_h2.out
  go_wp2_with fail
  refine wp_loop_rounds 1 ?_
  rw [rounds_succ]
  go_wp2_with fail
  refine bodyPost_ret (by simp [results, Tryz.results26, go_sem, *]; try rfl) rfl ?_
  refine ⟨_, _, rfl, ?_, ?_, ?_⟩
  · exact (evl_0 rfl).symm
  · exact OwnP.nil _ _ _
  · exact by repeat' (first | (with_reducible first | exact bwR _ _ | assumption | refine bdn ?_ | refine bwA ?_ ?_ _ | refine bwD ?_ | refine bwS ?_ ?_ _) | omega | (simp <;> omega))
end Go.Proofs.YtpdaenldmgpkjaaGreatDoor
