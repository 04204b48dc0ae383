/-
  Walks over package move: Then.
-/
import Derived.Test.YtlhadgnpkooiaaaGreatDoorMv6
import Derived.Test.YtlhadgnpkooiaaaGreatDoorMa
import Derived.Test.YtlhadgnpkooiaaaGreatDoorWay
import Derived.Test.YtlhadgnpkooiaaaGreatDoorMe
import Derived.Deep.DeepCutAuto
namespace Lead
open Go Go.RowKit
theorem thenV_n {m n : Mv} (h : (thenC m n).1 ≠ 0) : thenV m n = zMv := if_neg (fun e => h (by rw [e]))
end Lead
namespace Go.Proofs.YtlhadgnpkooiaaaGreatDoor
open Go.RowKit Lead
variable {gz : Bool}

theorem res_then (tmps : Array Value) (w0 : World) (g : Nat) (v0 v1 v2 v3 v4 v5 v6 v7 v8 v9 v10 v11 : Value) (h4 : tmps[4]?.getD undef = .pointer (some ⟨g, 0, none⟩)) (hc : ∀ j, w0.cell? ⟨g, j, none⟩ = (#[v0, v1, v2, v3, v4, v5, v6, v7, v8, v9, v10, v11] : Array Value)[j]?) :
    (results Tryz.f13 tmps).run Tryz.prog w0 = .ok (.tuple #[.agg #[v0, v1, v2, v3, v4, v5, v6, v7, v8, v9, v10, v11], tmps[5]?.getD undef]) w0 := by
  simp [results, Tryz.results13, go_sem, h4, hc]

set_option maxHeartbeats 4000000 in
set_option maxRecDepth 100000 in
theorem mthen_e1 (ea : Nat → Addr) (m n : Mv) (w : World) (im : m.I) (jn : n.I) (hG : Gs gz ea w) (_hsz : 20 ≤ w.heap.size) (h1 : m.c.1 ≠ 0) (hc : thenC m n = m.c) :
    Calls Tryz.prog 13 #[.agg #[.int .i64 m.A.n, .int .i64 m.A.d, .int .i64 m.B.n, .int .i64 m.B.d, .int .i64 m.C.n, .int .i64 m.C.d, .int .i64 m.D.n, .int .i64 m.D.d, .int .i64 m.E.n, .int .i64 m.E.d, .int .i64 m.F.n, .int .i64 m.F.d], .agg #[.int .i64 n.A.n, .int .i64 n.A.d, .int .i64 n.B.n, .int .i64 n.B.d, .int .i64 n.C.n, .int .i64 n.C.d, .int .i64 n.D.n, .int .i64 n.D.d, .int .i64 n.E.n, .int .i64 n.E.d, .int .i64 n.F.n, .int .i64 n.F.d]] w (RetME 183 61 ea (thenC m n) (thenV m n) w) := by
  have hBound := hG.c2
  have hShape := hG.c3
  have zhShape := zlt hShape
  have xhShape := zlts hShape
  have yhShape := zne hShape
  have zhBound := zlt hBound
  have xhBound := zlts hBound
  have yhBound := zne hBound
  have hv := thenV_n (m := m) (n := n) (by rw [hc]; exact h1)
  rw [hv, hc]
  unfold zMv
  have H_hc := Lib.hid hc
  clear hc
  have H_hv := Lib.hid hv
  clear hv
  have H_h1 := Lib.hid h1
  clear h1
  have H_im := Lib.hid im
  clear im
  have H_hG := Lib.hid hG
  clear hG
  have H_jn := Lib.hid jn
  clear jn
  go_enter Tryz.func13, Tryz.ntmps13
  go_wp2_with fail
  refine call_ew (w := w) (by repeat' (first | (with_reducible first | exact bwR _ _ | assumption | refine bdn ?_ | refine bwA ?_ ?_ _ | refine bwD ?_ | refine bwS ?_ ?_ _) | omega | (simp <;> omega))) (fun HB => mcheck_any ea m _ H_im.out (gkeep HB hShape rfl) (gkeep HB hBound rfl)) ?_
  intro x1 w1 hx1 hb1 hz1 c1 d1 hW1
  have t1 := hb1.size
  try simp only [szA] at hz1 c1 d1
  try simp only [szD] at hz1 c1 d1
  try simp only [szS] at hz1 c1 d1
  try simp only [World.heap_drewN] at hz1 c1 d1
  try simp only [szA] at hz1 c1 d1
  try simp only [szD] at hz1 c1 d1
  try simp only [szS] at hz1 c1 d1
  have s1_0 : w.heap.size < w1.heap.size := by omega
  have o1_0 := fun j => c1 (w.heap.size) j (by omega)
  have f1_0 := fun j => d1 (w.heap.size) j (by omega)
  have s1_1 : w.heap.size + 1 < w1.heap.size := by omega
  have o1_1 := fun j => c1 (w.heap.size + 1) j (by omega)
  have f1_1 := fun j => d1 (w.heap.size + 1) j (by omega)
  have s1_2 : w.heap.size + 1 + 1 < w1.heap.size := by omega
  have o1_2 := fun j => c1 (w.heap.size + 1 + 1) j (by omega)
  have f1_2 := fun j => d1 (w.heap.size + 1 + 1) j (by omega)
  clear c1 d1 hz1 hW1
  obtain ⟨t, a, rfl⟩ := hx1.some H_h1.out
  go_wp2_with fail
  refine bodyPost_ret (by simp [results, Tryz.results13, go_sem, *]; try rfl) rfl ?_
  exact ⟨_, rfl, hx1.above (by first | omega | (simp <;> omega)) (by repeat' (first | (with_reducible exact Above.refl _ _) | (with_reducible refine Above.alloc ?_ ?_ _) | (with_reducible refine Above.drew ?_) | (with_reducible refine Above.setCell ?_ ?_ _) | omega | (simp <;> omega))), by repeat' (first | (with_reducible first | exact bwR _ _ | assumption | refine bdn ?_ | refine bwA ?_ ?_ _ | refine bwD ?_ | refine bwS ?_ ?_ _) | omega | (simp <;> omega))⟩
set_option maxHeartbeats 4000000 in
set_option maxRecDepth 100000 in
theorem mthen_e2 (ea : Nat → Addr) (m n : Mv) (w : World) (im : m.I) (jn : n.I) (hG : Gs gz ea w) (_hsz : 20 ≤ w.heap.size) (h1 : m.c = (0, none)) (h2 : n.c.1 ≠ 0) (hc : thenC m n = n.c) :
    Calls Tryz.prog 13 #[.agg #[.int .i64 m.A.n, .int .i64 m.A.d, .int .i64 m.B.n, .int .i64 m.B.d, .int .i64 m.C.n, .int .i64 m.C.d, .int .i64 m.D.n, .int .i64 m.D.d, .int .i64 m.E.n, .int .i64 m.E.d, .int .i64 m.F.n, .int .i64 m.F.d], .agg #[.int .i64 n.A.n, .int .i64 n.A.d, .int .i64 n.B.n, .int .i64 n.B.d, .int .i64 n.C.n, .int .i64 n.C.d, .int .i64 n.D.n, .int .i64 n.D.d, .int .i64 n.E.n, .int .i64 n.E.d, .int .i64 n.F.n, .int .i64 n.F.d]] w (RetME 183 61 ea (thenC m n) (thenV m n) w) := by
  have hBound := hG.c2
  have hShape := hG.c3
  have zhShape := zlt hShape
  have xhShape := zlts hShape
  have yhShape := zne hShape
  have zhBound := zlt hBound
  have xhBound := zlts hBound
  have yhBound := zne hBound
  have hv := thenV_n (m := m) (n := n) (by rw [hc]; exact h2)
  rw [hv, hc]
  unfold zMv
  have H_hc := Lib.hid hc
  clear hc
  have H_hv := Lib.hid hv
  clear hv
  have H_h1 := Lib.hid h1
  clear h1
  have H_im := Lib.hid im
  clear im
  have H_hG := Lib.hid hG
  clear hG
  have H_jn := Lib.hid jn
  clear jn
  have H_h2 := Lib.hid h2
  clear h2
  go_enter Tryz.func13, Tryz.ntmps13
  go_wp2_with fail
  refine call_ew (w := w) (by repeat' (first | (with_reducible first | exact bwR _ _ | assumption | refine bdn ?_ | refine bwA ?_ ?_ _ | refine bwD ?_ | refine bwS ?_ ?_ _) | omega | (simp <;> omega))) (fun HB => mcheck_any ea m _ H_im.out (gkeep HB hShape rfl) (gkeep HB hBound rfl)) ?_
  intro x1 w1 hx1 hb1 hz1 c1 d1 hW1
  have t1 := hb1.size
  try simp only [szA] at hz1 c1 d1
  try simp only [szD] at hz1 c1 d1
  try simp only [szS] at hz1 c1 d1
  try simp only [World.heap_drewN] at hz1 c1 d1
  try simp only [szA] at hz1 c1 d1
  try simp only [szD] at hz1 c1 d1
  try simp only [szS] at hz1 c1 d1
  have s1_0 : w.heap.size < w1.heap.size := by omega
  have o1_0 := fun j => c1 (w.heap.size) j (by omega)
  have f1_0 := fun j => d1 (w.heap.size) j (by omega)
  have s1_1 : w.heap.size + 1 < w1.heap.size := by omega
  have o1_1 := fun j => c1 (w.heap.size + 1) j (by omega)
  have f1_1 := fun j => d1 (w.heap.size + 1) j (by omega)
  have s1_2 : w.heap.size + 1 + 1 < w1.heap.size := by omega
  have o1_2 := fun j => c1 (w.heap.size + 1 + 1) j (by omega)
  have f1_2 := fun j => d1 (w.heap.size + 1 + 1) j (by omega)
  clear c1 d1 hz1 hW1
  obtain rfl := hx1.nil H_h1.out
  go_wp2_with fail
  refine call_ew (w := w) (by repeat' (first | (with_reducible first | exact bwR _ _ | assumption | refine bdn ?_ | refine bwA ?_ ?_ _ | refine bwD ?_ | refine bwS ?_ ?_ _) | omega | (simp <;> omega))) (fun HB => mcheck_any ea n _ H_jn.out (gkeep HB hShape rfl) (gkeep HB hBound rfl)) ?_
  intro x2 w2 hx2 hb2 hz2 c2 d2 hW2
  have t2 := hb2.size
  try simp only [szA] at hz2 c2 d2
  try simp only [szD] at hz2 c2 d2
  try simp only [szS] at hz2 c2 d2
  try simp only [World.heap_drewN] at hz2 c2 d2
  try simp only [szA] at hz2 c2 d2
  try simp only [szD] at hz2 c2 d2
  try simp only [szS] at hz2 c2 d2
  have s2_0 : w.heap.size < w2.heap.size := by omega
  have o2_0 := fun j => c2 (w.heap.size) j (by omega)
  have f2_0 := fun j => d2 (w.heap.size) j (by omega)
  have s2_1 : w.heap.size + 1 < w2.heap.size := by omega
  have o2_1 := fun j => c2 (w.heap.size + 1) j (by omega)
  have f2_1 := fun j => d2 (w.heap.size + 1) j (by omega)
  have s2_2 : w.heap.size + 1 + 1 < w2.heap.size := by omega
  have o2_2 := fun j => c2 (w.heap.size + 1 + 1) j (by omega)
  have f2_2 := fun j => d2 (w.heap.size + 1 + 1) j (by omega)
  clear c2 d2 hz2 hW2
  obtain ⟨t, a, rfl⟩ := hx2.some H_h2.out
  go_wp2_with fail
  refine bodyPost_ret (by simp [results, Tryz.results13, go_sem, *]; try rfl) rfl ?_
  exact ⟨_, rfl, hx2.above (by first | omega | (simp <;> omega)) (by repeat' (first | (with_reducible exact Above.refl _ _) | (with_reducible refine Above.alloc ?_ ?_ _) | (with_reducible refine Above.drew ?_) | (with_reducible refine Above.setCell ?_ ?_ _) | omega | (simp <;> omega))), by repeat' (first | (with_reducible first | exact bwR _ _ | assumption | refine bdn ?_ | refine bwA ?_ ?_ _ | refine bwD ?_ | refine bwS ?_ ?_ _) | omega | (simp <;> omega))⟩
set_option maxHeartbeats 16000000 in
set_option maxRecDepth 100000 in
theorem mthen_b (ea : Nat → Addr) (m n : Mv) (w : World) (im : m.I) (jn : n.I) (hG : Gs gz ea w) (hsz : 20 ≤ w.heap.size) (h1 : m.c = (0, none)) (h2 : n.c = (0, none)) (h3 : thE m n ≠ 0) (hc : thenC m n = (2, none)) :
    Calls Tryz.prog 13 #[.agg #[.int .i64 m.A.n, .int .i64 m.A.d, .int .i64 m.B.n, .int .i64 m.B.d, .int .i64 m.C.n, .int .i64 m.C.d, .int .i64 m.D.n, .int .i64 m.D.d, .int .i64 m.E.n, .int .i64 m.E.d, .int .i64 m.F.n, .int .i64 m.F.d], .agg #[.int .i64 n.A.n, .int .i64 n.A.d, .int .i64 n.B.n, .int .i64 n.B.d, .int .i64 n.C.n, .int .i64 n.C.d, .int .i64 n.D.n, .int .i64 n.D.d, .int .i64 n.E.n, .int .i64 n.E.d, .int .i64 n.F.n, .int .i64 n.F.d]] w (RetME 183 61 ea (thenC m n) (thenV m n) w) := by
  have hBound := hG.c2
  have hShape := hG.c3
  have zhShape := zlt hShape
  have xhShape := zlts hShape
  have yhShape := zne hShape
  have zhBound := zlt hBound
  have xhBound := zlts hBound
  have yhBound := zne hBound
  have iA := im.A
  have iB := im.B
  have iC := im.C
  have iD := im.D
  have iE := im.E
  have iF := im.F
  have jA := jn.A
  have jB := jn.B
  have jC := jn.C
  have jD := jn.D
  obtain ⟨e1, he1⟩ : ∃ z, thA m n = z := ⟨_, rfl⟩
  obtain ⟨e2, he2⟩ : ∃ z, thB m n = z := ⟨_, rfl⟩
  obtain ⟨e3, he3⟩ : ∃ z, thC m n = z := ⟨_, rfl⟩
  obtain ⟨e4, he4⟩ : ∃ z, thD m n = z := ⟨_, rfl⟩
  obtain ⟨e5, he5⟩ : ∃ z, thE m n = z := ⟨_, rfl⟩
  obtain ⟨v1, hv1⟩ : ∃ z, ofV 0 n.A m.A n.C m.B = z := ⟨_, rfl⟩
  obtain ⟨v2, hv2⟩ : ∃ z, ofV (thA m n) n.B m.A n.D m.B = z := ⟨_, rfl⟩
  obtain ⟨v3, hv3⟩ : ∃ z, ofV (thB m n) n.A m.C n.C m.D = z := ⟨_, rfl⟩
  obtain ⟨v4, hv4⟩ : ∃ z, ofV (thC m n) n.B m.C n.D m.D = z := ⟨_, rfl⟩
  obtain ⟨x, hx⟩ : ∃ z, toX (thD m n) n (thP m) = z := ⟨_, rfl⟩
  obtain ⟨y, hy⟩ : ∃ z, toY (thD m n) n (thP m) = z := ⟨_, rfl⟩
  have hth : thV m n = ⟨v1, v2, v3, v4, x, y⟩ := by unfold thV; rw [hv1, hv2, hv3, hv4, hx, hy]
  have hv1' := hv1
  have he1' : ofE 0 n.A m.A n.C m.B = e1 := he1
  have hv2' : ofV e1 n.B m.A n.D m.B = v2 := by rw [← he1]; exact hv2
  have he2' : ofE e1 n.B m.A n.D m.B = e2 := by rw [← he1]; exact he2
  have hv3' : ofV e2 n.A m.C n.C m.D = v3 := by rw [← he2]; exact hv3
  have he3' : ofE e2 n.A m.C n.C m.D = e3 := by rw [← he2]; exact he3
  have hv4' : ofV e3 n.B m.C n.D m.D = v4 := by rw [← he3]; exact hv4
  have he4' : ofE e3 n.B m.C n.D m.D = e4 := by rw [← he3]; exact he4
  have hx' : toX e4 n (thP m) = x := by rw [← he4]; exact hx
  have hy' : toY e4 n (thP m) = y := by rw [← he4]; exact hy
  have he5' : toE e4 n (thP m) = e5 := by rw [← he4]; exact he5
  rw [he5] at h3
  have hv := thenV_n (m := m) (n := n) (by rw [hc]; decide)
  rw [hv, hc]
  unfold zMv
  have H_hc := Lib.hid hc
  clear hc
  have H_hv := Lib.hid hv
  clear hv
  have H_h1 := Lib.hid h1
  clear h1
  have H_im := Lib.hid im
  clear im
  have H_hG := Lib.hid hG
  clear hG
  have H_jn := Lib.hid jn
  clear jn
  have H_h2 := Lib.hid h2
  clear h2
  have H_h3 := Lib.hid h3
  clear h3
  have H_iA := Lib.hid iA
  clear iA
  have H_iB := Lib.hid iB
  clear iB
  have H_iC := Lib.hid iC
  clear iC
  have H_iD := Lib.hid iD
  clear iD
  have H_iE := Lib.hid iE
  clear iE
  have H_iF := Lib.hid iF
  clear iF
  have H_jA := Lib.hid jA
  clear jA
  have H_jB := Lib.hid jB
  clear jB
  have H_jC := Lib.hid jC
  clear jC
  have H_jD := Lib.hid jD
  clear jD
  have H_he1 := Lib.hid he1
  clear he1
  have H_he2 := Lib.hid he2
  clear he2
  have H_he3 := Lib.hid he3
  clear he3
  have H_he4 := Lib.hid he4
  clear he4
  have H_he5 := Lib.hid he5
  clear he5
  have H_hv1 := Lib.hid hv1
  clear hv1
  have H_hv2 := Lib.hid hv2
  clear hv2
  have H_hv3 := Lib.hid hv3
  clear hv3
  have H_hv4 := Lib.hid hv4
  clear hv4
  have H_hx := Lib.hid hx
  clear hx
  have H_hy := Lib.hid hy
  clear hy
  have H_hth := Lib.hid hth
  clear hth
  have H_hv1' := Lib.hid hv1'
  clear hv1'
  have H_he1' := Lib.hid he1'
  clear he1'
  have H_hv2' := Lib.hid hv2'
  clear hv2'
  have H_he2' := Lib.hid he2'
  clear he2'
  have H_hv3' := Lib.hid hv3'
  clear hv3'
  have H_he3' := Lib.hid he3'
  clear he3'
  have H_hv4' := Lib.hid hv4'
  clear hv4'
  have H_he4' := Lib.hid he4'
  clear he4'
  have H_hx' := Lib.hid hx'
  clear hx'
  have H_hy' := Lib.hid hy'
  clear hy'
  have H_he5' := Lib.hid he5'
  clear he5'
  go_enter Tryz.func13, Tryz.ntmps13
  go_wp2_with fail
  refine call_ew (w := w) (by repeat' (first | (with_reducible first | exact bwR _ _ | assumption | refine bdn ?_ | refine bwA ?_ ?_ _ | refine bwD ?_ | refine bwS ?_ ?_ _) | omega | (simp <;> omega))) (fun HB => mcheck_any ea m _ H_im.out (gkeep HB hShape rfl) (gkeep HB hBound rfl)) ?_
  intro x1 w1 hx1 hb1 hz1 c1 d1 hW1
  have t1 := hb1.size
  try simp only [szA] at hz1 c1 d1
  try simp only [szD] at hz1 c1 d1
  try simp only [szS] at hz1 c1 d1
  try simp only [World.heap_drewN] at hz1 c1 d1
  try simp only [szA] at hz1 c1 d1
  try simp only [szD] at hz1 c1 d1
  try simp only [szS] at hz1 c1 d1
  have s1_0 : w.heap.size < w1.heap.size := by omega
  have o1_0 := fun j => c1 (w.heap.size) j (by omega)
  have f1_0 := fun j => d1 (w.heap.size) j (by omega)
  have s1_1 : w.heap.size + 1 < w1.heap.size := by omega
  have o1_1 := fun j => c1 (w.heap.size + 1) j (by omega)
  have f1_1 := fun j => d1 (w.heap.size + 1) j (by omega)
  have s1_2 : w.heap.size + 1 + 1 < w1.heap.size := by omega
  have o1_2 := fun j => c1 (w.heap.size + 1 + 1) j (by omega)
  have f1_2 := fun j => d1 (w.heap.size + 1 + 1) j (by omega)
  clear c1 d1 hz1 hW1
  obtain rfl := hx1.nil H_h1.out
  go_wp2_with fail
  refine call_ew (w := w) (by repeat' (first | (with_reducible first | exact bwR _ _ | assumption | refine bdn ?_ | refine bwA ?_ ?_ _ | refine bwD ?_ | refine bwS ?_ ?_ _) | omega | (simp <;> omega))) (fun HB => mcheck_any ea n _ H_jn.out (gkeep HB hShape rfl) (gkeep HB hBound rfl)) ?_
  intro x2 w2 hx2 hb2 hz2 c2 d2 hW2
  have t2 := hb2.size
  try simp only [szA] at hz2 c2 d2
  try simp only [szD] at hz2 c2 d2
  try simp only [szS] at hz2 c2 d2
  try simp only [World.heap_drewN] at hz2 c2 d2
  try simp only [szA] at hz2 c2 d2
  try simp only [szD] at hz2 c2 d2
  try simp only [szS] at hz2 c2 d2
  have s2_0 : w.heap.size < w2.heap.size := by omega
  have o2_0 := fun j => c2 (w.heap.size) j (by omega)
  have f2_0 := fun j => d2 (w.heap.size) j (by omega)
  have s2_1 : w.heap.size + 1 < w2.heap.size := by omega
  have o2_1 := fun j => c2 (w.heap.size + 1) j (by omega)
  have f2_1 := fun j => d2 (w.heap.size + 1) j (by omega)
  have s2_2 : w.heap.size + 1 + 1 < w2.heap.size := by omega
  have o2_2 := fun j => c2 (w.heap.size + 1 + 1) j (by omega)
  have f2_2 := fun j => d2 (w.heap.size + 1 + 1) j (by omega)
  clear c2 d2 hz2 hW2
  obtain rfl := hx2.nil H_h2.out
  have hB2 : Below w.heap.size w (w2.alloc (.cells #[.nilIface] 66)) := by repeat' (first | (with_reducible first | exact bwR _ _ | assumption | refine bdn ?_ | refine bwA ?_ ?_ _ | refine bwD ?_ | refine bwS ?_ ?_ _) | omega | (simp <;> omega))
  go_upto_region 8 with fail
  obtain ⟨w0, hw0⟩ : ∃ u, w2.alloc (.cells #[.nilIface] 66) = u := ⟨_, rfl⟩
  obtain ⟨s, hs⟩ : ∃ u, w2.heap.size = u := ⟨_, rfl⟩
  have hat0 : w0.heap[s]? = some (.cells #[evl 183 ea 0] 66 (0, 0)) := by rw [← hw0, ← hs]; exact (heap_alloc_new _ _).trans (by rw [evl_0 rfl])
  have hB0 : Below w.heap.size w w0 := by rw [← hw0]; exact hB2
  have zs : w.heap.size + 1 + 1 < s := by rw [← hs]; exact s2_2
  have ls0 : s < w0.heap.size := by rw [← hw0, ← hs]; simp
  have o0 : ∀ j, w0.cell? ⟨w.heap.size, j, none⟩ = #[.int .i64 m.A.n, .int .i64 m.A.d, .int .i64 m.B.n, .int .i64 m.B.d, .int .i64 m.C.n, .int .i64 m.C.d, .int .i64 m.D.n, .int .i64 m.D.d, .int .i64 m.E.n, .int .i64 m.E.d, .int .i64 m.F.n, .int .i64 m.F.d][j]? := fun j => by rw [← hw0, World.cell?_alloc_past _ _ _ (by first | omega | (simp; omega)), o2_0, o1_0, World.cell?_alloc_past _ _ _ (by first | omega | (simp; omega)), World.cell?_alloc_past _ _ _ (by first | omega | (simp; done)), World.cell?_alloc_at _ _ _ _ rfl]
  have o1 : ∀ j, w0.cell? ⟨w.heap.size + 1, j, none⟩ = #[.int .i64 n.A.n, .int .i64 n.A.d, .int .i64 n.B.n, .int .i64 n.B.d, .int .i64 n.C.n, .int .i64 n.C.d, .int .i64 n.D.n, .int .i64 n.D.d, .int .i64 n.E.n, .int .i64 n.E.d, .int .i64 n.F.n, .int .i64 n.F.d][j]? := fun j => by rw [← hw0, World.cell?_alloc_past _ _ _ (by first | omega | (simp; omega)), o2_1, o1_1, World.cell?_alloc_past _ _ _ (by first | omega | (simp; done)), World.cell?_alloc_at _ _ _ _ (by first | rfl | (simp; done))]
  have o2 : ∀ j, w0.cell? ⟨w.heap.size + 1 + 1, j, none⟩ = (#[.int .i64 0, .int .i64 0, .int .i64 0, .int .i64 0, .int .i64 0, .int .i64 0, .int .i64 0, .int .i64 0, .int .i64 0, .int .i64 0, .int .i64 0, .int .i64 0] : Array Value)[j]? := fun j => by rw [← hw0, World.cell?_alloc_past _ _ _ (by first | omega | (simp; omega)), o2_2, o1_2, World.cell?_alloc_at _ _ _ _ (by first | rfl | (simp; done))]
  have f2 : ∀ j, w0.frozen? ⟨w.heap.size + 1 + 1, j, none⟩ = false := fun j => by rw [← hw0, World.frozen?_alloc_past _ _ _ (by first | omega | (simp; omega)), f2_2, f1_2, World.frozen?_alloc_at _ _ _ _ (by first | rfl | (simp; done))]
  rw [hw0, hs]
  clear o1_0 f1_0 o1_1 f1_1 o1_2 f1_2 o2_0 f2_0 o2_1 f2_1 o2_2 f2_2 s1_0 s1_1 s1_2 s2_0 s2_1 s2_2 t1 t2 hB2 hw0 hs hx1 hx2 hb1 hb2
  clear w2
  clear w1
  have hsg : 20 ≤ s := by omega
  have KG := H_hG.out.keep hB0 rfl
  have hc := cell_of_one hat0
  have hf := free_of_one hat0
  have KB0 : But s 66 (evl 183 ea 0) w0 w0 := But.refl hat0
  have l0 : s < w0.heap.size := ls0
  have N0 : w0.heap.size ≠ s := by omega
  have z0' : w.heap.size + 1 + 1 < w0.heap.size := by omega
  have SK : ∀ W, (∃ v, But s 66 v w0 W) → (∃ v, But s 66 v w0 W) ∧ (∀ j, W.cell? ⟨w.heap.size, j, none⟩ = #[.int .i64 m.A.n, .int .i64 m.A.d, .int .i64 m.B.n, .int .i64 m.B.d, .int .i64 m.C.n, .int .i64 m.C.d, .int .i64 m.D.n, .int .i64 m.D.d, .int .i64 m.E.n, .int .i64 m.E.d, .int .i64 m.F.n, .int .i64 m.F.d][j]?) ∧ (∀ j, W.cell? ⟨w.heap.size + 1, j, none⟩ = #[.int .i64 n.A.n, .int .i64 n.A.d, .int .i64 n.B.n, .int .i64 n.B.d, .int .i64 n.C.n, .int .i64 n.C.d, .int .i64 n.D.n, .int .i64 n.D.d, .int .i64 n.E.n, .int .i64 n.E.d, .int .i64 n.F.n, .int .i64 n.F.d][j]?) := by
    intro W h
    obtain ⟨v, h⟩ := h
    exact ⟨⟨v, h⟩, fun j => by rw [h.cell _ _ (by omega) (by omega)]; exact o0 j, fun j => by rw [h.cell _ _ (by omega) (by omega)]; exact o1 j⟩
  have H_SK := Lib.hid SK
  clear SK
  have H_KG := Lib.hid KG
  clear KG
  have H_N0 := Lib.hid N0
  clear N0
  have H_hat0 := Lib.hid hat0
  clear hat0
  go_cut [9] (fun s9 wx => Made s 66 (evl 183 ea e4) w0 #[.int .i64 v1.n, .int .i64 v1.d, .int .i64 v2.n, .int .i64 v2.d, .int .i64 v3.n, .int .i64 v3.d, .int .i64 v4.n, .int .i64 v4.d, .int .i64 0, .int .i64 0, .int .i64 0, .int .i64 0] s9 wx)
  case first =>
    go_region_held3 (fun W => (∃ v, But s 66 v w0 W) ∧ (∀ j, W.cell? ⟨w.heap.size, j, none⟩ = #[.int .i64 m.A.n, .int .i64 m.A.d, .int .i64 m.B.n, .int .i64 m.B.d, .int .i64 m.C.n, .int .i64 m.C.d, .int .i64 m.D.n, .int .i64 m.D.d, .int .i64 m.E.n, .int .i64 m.E.d, .int .i64 m.F.n, .int .i64 m.F.d][j]?) ∧ (∀ j, W.cell? ⟨w.heap.size + 1, j, none⟩ = #[.int .i64 n.A.n, .int .i64 n.A.d, .int .i64 n.B.n, .int .i64 n.B.d, .int .i64 n.C.n, .int .i64 n.C.d, .int .i64 n.D.n, .int .i64 n.D.d, .int .i64 n.E.n, .int .i64 n.E.d, .int .i64 n.F.n, .int .i64 n.F.d][j]?))
      (first | (refine H_SK.out _ ⟨(evl 183 ea e4), ?_⟩; (repeat' (first | (with_reducible assumption) | (with_reducible exact Nat.le_refl _) | (with_reducible refine But.drewN ?_) | (with_reducible refine But.drew ?_) | (with_reducible refine But.alloc ?_ _) | (with_reducible refine But.setCell ?_ ?_ _))); done) | (refine H_SK.out _ ⟨(evl 183 ea e3), ?_⟩; (repeat' (first | (with_reducible assumption) | (with_reducible exact Nat.le_refl _) | (with_reducible refine But.drewN ?_) | (with_reducible refine But.drew ?_) | (with_reducible refine But.alloc ?_ _) | (with_reducible refine But.setCell ?_ ?_ _))); done) | (refine H_SK.out _ ⟨(evl 183 ea e2), ?_⟩; (repeat' (first | (with_reducible assumption) | (with_reducible exact Nat.le_refl _) | (with_reducible refine But.drewN ?_) | (with_reducible refine But.drew ?_) | (with_reducible refine But.alloc ?_ _) | (with_reducible refine But.setCell ?_ ?_ _))); done) | (refine H_SK.out _ ⟨(evl 183 ea e1), ?_⟩; (repeat' (first | (with_reducible assumption) | (with_reducible exact Nat.le_refl _) | (with_reducible refine But.drewN ?_) | (with_reducible refine But.drew ?_) | (with_reducible refine But.alloc ?_ _) | (with_reducible refine But.setCell ?_ ?_ _))); done) | (refine H_SK.out _ ⟨(evl 183 ea 0), ?_⟩; (repeat' (first | (with_reducible assumption) | (with_reducible exact Nat.le_refl _) | (with_reducible refine But.drewN ?_) | (with_reducible refine But.drew ?_) | (with_reducible refine But.alloc ?_ _) | (with_reducible refine But.setCell ?_ ?_ _))); done))
      (first | (go_at_call 25; (with_reducible refine (sof_any ea 0 e1 s n.A m.A n.C m.B v1 _ H_hv1'.out H_he1'.out H_jA.out H_iA.out H_jC.out H_iB.out (But.at' (v := (evl 183 ea 0)) (w := w0) (by repeat' (first | (with_reducible assumption) | (with_reducible exact Nat.le_refl _) | (with_reducible refine But.drewN ?_) | (with_reducible refine But.drew ?_) | (with_reducible refine But.alloc ?_ _) | (with_reducible refine But.setCell ?_ ?_ _)))) hsg (H_KG.out.but (v := (evl 183 ea 0)) (t := 66) (by repeat' (first | (with_reducible assumption) | (with_reducible exact Nat.le_refl _) | (with_reducible refine But.drewN ?_) | (with_reducible refine But.drew ?_) | (with_reducible refine But.alloc ?_ _) | (with_reducible refine But.setCell ?_ ?_ _))) hsg)).mono ?_); rintro en wA ⟨rfl, hqA⟩; have hbA := But.trans (v := (evl 183 ea 0)) (w := w0) (by repeat' (first | (with_reducible assumption) | (with_reducible exact Nat.le_refl _) | (with_reducible refine But.drewN ?_) | (with_reducible refine But.drew ?_) | (with_reducible refine But.alloc ?_ _) | (with_reducible refine But.setCell ?_ ?_ _))) hqA; have tA := hqA.size; (try simp only [World.size_alloc] at tA); (try simp only [World.size_drew] at tA); (try simp only [World.size_setCell] at tA); have uA : w0.heap.size ≤ wA.heap.size := hbA.size; have hsA := hqA.here; have hfA := hqA.free; have lA : s < wA.heap.size := Nat.lt_of_lt_of_le hbA.lt hbA.size; have nA : Hid (wA.heap.size ≠ s) := Lib.hid (by omega); (try have oAw0 := fun j => hqA.cell w0.heap.size j (by first | assumption | omega | (simp; done) | (simp; omega)) H_N0.out); (try have fAw0 := fun j => hqA.frozen w0.heap.size j (by first | assumption | omega | (simp; done) | (simp; omega)) H_N0.out); (try have zAw0 : w0.heap.size < wA.heap.size := (by first | assumption | omega | (simp at tA; omega)))) | (go_at_call 25; (with_reducible refine (sof_any ea e1 e2 s n.B m.A n.D m.B v2 _ H_hv2'.out H_he2'.out H_jB.out H_iA.out H_jD.out H_iB.out (But.at' (v := (evl 183 ea e1)) (w := w0) (by repeat' (first | (with_reducible assumption) | (with_reducible exact Nat.le_refl _) | (with_reducible refine But.drewN ?_) | (with_reducible refine But.drew ?_) | (with_reducible refine But.alloc ?_ _) | (with_reducible refine But.setCell ?_ ?_ _)))) hsg (H_KG.out.but (v := (evl 183 ea e1)) (t := 66) (by repeat' (first | (with_reducible assumption) | (with_reducible exact Nat.le_refl _) | (with_reducible refine But.drewN ?_) | (with_reducible refine But.drew ?_) | (with_reducible refine But.alloc ?_ _) | (with_reducible refine But.setCell ?_ ?_ _))) hsg)).mono ?_); rintro en wB ⟨rfl, hqB⟩; have hbB := But.trans (v := (evl 183 ea e1)) (w := w0) (by repeat' (first | (with_reducible assumption) | (with_reducible exact Nat.le_refl _) | (with_reducible refine But.drewN ?_) | (with_reducible refine But.drew ?_) | (with_reducible refine But.alloc ?_ _) | (with_reducible refine But.setCell ?_ ?_ _))) hqB; have tB := hqB.size; (try simp only [World.size_alloc] at tB); (try simp only [World.size_drew] at tB); (try simp only [World.size_setCell] at tB); have uB : w0.heap.size ≤ wB.heap.size := hbB.size; have hsB := hqB.here; have hfB := hqB.free; have lB : s < wB.heap.size := Nat.lt_of_lt_of_le hbB.lt hbB.size; have nB : Hid (wB.heap.size ≠ s) := Lib.hid (by omega); (try have oBw0 := fun j => hqB.cell w0.heap.size j (by first | assumption | omega | (simp; done) | (simp; omega)) H_N0.out); (try have fBw0 := fun j => hqB.frozen w0.heap.size j (by first | assumption | omega | (simp; done) | (simp; omega)) H_N0.out); (try have zBw0 : w0.heap.size < wB.heap.size := (by first | assumption | omega | (simp at tB; omega))); (try have oBwA := fun j => hqB.cell wA.heap.size j (by first | assumption | omega | (simp; done) | (simp; omega)) nA.out); (try have fBwA := fun j => hqB.frozen wA.heap.size j (by first | assumption | omega | (simp; done) | (simp; omega)) nA.out); (try have zBwA : wA.heap.size < wB.heap.size := (by first | assumption | omega | (simp at tB; omega)))) | (go_at_call 25; (with_reducible refine (sof_any ea e2 e3 s n.A m.C n.C m.D v3 _ H_hv3'.out H_he3'.out H_jA.out H_iC.out H_jC.out H_iD.out (But.at' (v := (evl 183 ea e2)) (w := w0) (by repeat' (first | (with_reducible assumption) | (with_reducible exact Nat.le_refl _) | (with_reducible refine But.drewN ?_) | (with_reducible refine But.drew ?_) | (with_reducible refine But.alloc ?_ _) | (with_reducible refine But.setCell ?_ ?_ _)))) hsg (H_KG.out.but (v := (evl 183 ea e2)) (t := 66) (by repeat' (first | (with_reducible assumption) | (with_reducible exact Nat.le_refl _) | (with_reducible refine But.drewN ?_) | (with_reducible refine But.drew ?_) | (with_reducible refine But.alloc ?_ _) | (with_reducible refine But.setCell ?_ ?_ _))) hsg)).mono ?_); rintro en wC ⟨rfl, hqC⟩; have hbC := But.trans (v := (evl 183 ea e2)) (w := w0) (by repeat' (first | (with_reducible assumption) | (with_reducible exact Nat.le_refl _) | (with_reducible refine But.drewN ?_) | (with_reducible refine But.drew ?_) | (with_reducible refine But.alloc ?_ _) | (with_reducible refine But.setCell ?_ ?_ _))) hqC; have tC := hqC.size; (try simp only [World.size_alloc] at tC); (try simp only [World.size_drew] at tC); (try simp only [World.size_setCell] at tC); have uC : w0.heap.size ≤ wC.heap.size := hbC.size; have hsC := hqC.here; have hfC := hqC.free; have lC : s < wC.heap.size := Nat.lt_of_lt_of_le hbC.lt hbC.size; have nC : Hid (wC.heap.size ≠ s) := Lib.hid (by omega); (try have oCw0 := fun j => hqC.cell w0.heap.size j (by first | assumption | omega | (simp; done) | (simp; omega)) H_N0.out); (try have fCw0 := fun j => hqC.frozen w0.heap.size j (by first | assumption | omega | (simp; done) | (simp; omega)) H_N0.out); (try have zCw0 : w0.heap.size < wC.heap.size := (by first | assumption | omega | (simp at tC; omega))); (try have oCwA := fun j => hqC.cell wA.heap.size j (by first | assumption | omega | (simp; done) | (simp; omega)) nA.out); (try have fCwA := fun j => hqC.frozen wA.heap.size j (by first | assumption | omega | (simp; done) | (simp; omega)) nA.out); (try have zCwA : wA.heap.size < wC.heap.size := (by first | assumption | omega | (simp at tC; omega))); (try have oCwB := fun j => hqC.cell wB.heap.size j (by first | assumption | omega | (simp; done) | (simp; omega)) nB.out); (try have fCwB := fun j => hqC.frozen wB.heap.size j (by first | assumption | omega | (simp; done) | (simp; omega)) nB.out); (try have zCwB : wB.heap.size < wC.heap.size := (by first | assumption | omega | (simp at tC; omega)))) | (go_at_call 25; (with_reducible refine (sof_any ea e3 e4 s n.B m.C n.D m.D v4 _ H_hv4'.out H_he4'.out H_jB.out H_iC.out H_jD.out H_iD.out (But.at' (v := (evl 183 ea e3)) (w := w0) (by repeat' (first | (with_reducible assumption) | (with_reducible exact Nat.le_refl _) | (with_reducible refine But.drewN ?_) | (with_reducible refine But.drew ?_) | (with_reducible refine But.alloc ?_ _) | (with_reducible refine But.setCell ?_ ?_ _)))) hsg (H_KG.out.but (v := (evl 183 ea e3)) (t := 66) (by repeat' (first | (with_reducible assumption) | (with_reducible exact Nat.le_refl _) | (with_reducible refine But.drewN ?_) | (with_reducible refine But.drew ?_) | (with_reducible refine But.alloc ?_ _) | (with_reducible refine But.setCell ?_ ?_ _))) hsg)).mono ?_); rintro en wD ⟨rfl, hqD⟩; have hbD := But.trans (v := (evl 183 ea e3)) (w := w0) (by repeat' (first | (with_reducible assumption) | (with_reducible exact Nat.le_refl _) | (with_reducible refine But.drewN ?_) | (with_reducible refine But.drew ?_) | (with_reducible refine But.alloc ?_ _) | (with_reducible refine But.setCell ?_ ?_ _))) hqD; have tD := hqD.size; (try simp only [World.size_alloc] at tD); (try simp only [World.size_drew] at tD); (try simp only [World.size_setCell] at tD); have uD : w0.heap.size ≤ wD.heap.size := hbD.size; have hsD := hqD.here; have hfD := hqD.free; have lD : s < wD.heap.size := Nat.lt_of_lt_of_le hbD.lt hbD.size; have nD : Hid (wD.heap.size ≠ s) := Lib.hid (by omega); (try have oDw0 := fun j => hqD.cell w0.heap.size j (by first | assumption | omega | (simp; done) | (simp; omega)) H_N0.out); (try have fDw0 := fun j => hqD.frozen w0.heap.size j (by first | assumption | omega | (simp; done) | (simp; omega)) H_N0.out); (try have zDw0 : w0.heap.size < wD.heap.size := (by first | assumption | omega | (simp at tD; omega))); (try have oDwA := fun j => hqD.cell wA.heap.size j (by first | assumption | omega | (simp; done) | (simp; omega)) nA.out); (try have fDwA := fun j => hqD.frozen wA.heap.size j (by first | assumption | omega | (simp; done) | (simp; omega)) nA.out); (try have zDwA : wA.heap.size < wD.heap.size := (by first | assumption | omega | (simp at tD; omega))); (try have oDwB := fun j => hqD.cell wB.heap.size j (by first | assumption | omega | (simp; done) | (simp; omega)) nB.out); (try have fDwB := fun j => hqD.frozen wB.heap.size j (by first | assumption | omega | (simp; done) | (simp; omega)) nB.out); (try have zDwB : wB.heap.size < wD.heap.size := (by first | assumption | omega | (simp at tD; omega))); (try have oDwC := fun j => hqD.cell wC.heap.size j (by first | assumption | omega | (simp; done) | (simp; omega)) nC.out); (try have fDwC := fun j => hqD.frozen wC.heap.size j (by first | assumption | omega | (simp; done) | (simp; omega)) nC.out); (try have zDwC : wC.heap.size < wD.heap.size := (by first | assumption | omega | (simp at tD; omega)))))
    all_goals
      go_wp2_with fail
      go_meet
      first | with_reducible exact made_last hbD _ | with_reducible exact made_ahead hbC hqD _ _ _ _ _ _ _ _ _ _ _ _ | with_reducible exact made_ahead hbB (hqC.trans hqD) _ _ _ _ _ _ _ _ _ _ _ _ | with_reducible exact made_ahead hbA ((hqB.trans hqC).trans hqD) _ _ _ _ _ _ _ _ _ _ _ _ | with_reducible exact made_ahead (But.refl H_hat0.out) (((hqA.trans hqB).trans hqC).trans hqD) _ _ _ _ _ _ _ _ _ _ _ _ | with_reducible exact made_ahead (But.refl H_hat0.out) (But.undrew (((hqA.trans hqB).trans hqC).trans hqD)) _ _ _ _ _ _ _ _ _ _ _ _
  case rest =>
    obtain ⟨g, rfl, og, fg, hg0, hg1, hbq⟩ := hcut
    have r2 := fun j => (hbq.cell (w.heap.size + 1 + 1) j (by omega) (by omega)).trans (o2 j)
    have r0 := fun j => (hbq.cell w.heap.size j (by omega) (by omega)).trans (o0 j)
    have r1 := fun j => (hbq.cell (w.heap.size + 1) j (by omega) (by omega)).trans (o1 j)
    have k2 := fun j => (hbq.frozen (w.heap.size + 1 + 1) j (by omega) (by omega)).trans (f2 j)
    have hBc : Below w.heap.size w wc := hB0.trans (hbq.toBelow (by omega) (by omega))
    have tq := hbq.size
    have gs : g ≠ s := by omega
    have H_gs := Lib.hid gs
    clear gs o0 o1 o2 f2 KB0 l0 H_SK H_N0 hc hf
    go_wp2_with fail
    refine (sto_any ea e4 e5 s n (thP m) x y _ H_hx'.out H_hy'.out H_he5'.out H_jn.out ⟨H_iE.out.1, H_iE.out.2, H_iF.out.1, H_iF.out.2⟩ hbq.at' hsg (H_hG.out.keep hBc rfl)).mono ?_
    rintro en wd ⟨rfl, hbd⟩
    have hBd : Below w.heap.size w wd := hBc.trans (hbd.toBelow (by omega) (by omega))
    have td := hbd.size
    have sg : g < wd.heap.size := by omega
    have s2 : w.heap.size + 1 + 1 < wd.heap.size := by omega
    have ss : s < wd.heap.size := by omega
    have og' := fun j => (hbd.cell g j hg1 H_gs.out).trans (og j)
    have fg' := fun j => (hbd.frozen g j hg1 H_gs.out).trans (fg j)
    have o2' := fun j => (hbd.cell (w.heap.size + 1 + 1) j (by omega) (by omega)).trans (r2 j)
    have f2' := fun j => (hbd.frozen (w.heap.size + 1 + 1) j (by omega) (by omega)).trans (k2 j)
    have q4 := hbd.here
    have k4 := hbd.free
    clear og fg r0 r1 r2 k2
    rw [evl_n H_h3.out] at q4 hbd
    have SKB : ∀ W, Below w.heap.size w W → W.cell? ⟨0, 0, none⟩ = some (.iface 183 (.pointer (some (ea 2)))) := fun W h => gkeep h hBound rfl
    have H_SKB := Lib.hid SKB
    clear SKB
    go_wp2_with fail
    go_region_held3 (fun W => W.cell? ⟨0, 0, none⟩ = some (.iface 183 (.pointer (some (ea 2))))) (exact H_SKB.out _ (by repeat' (first | (with_reducible first | exact bwR _ _ | assumption | refine bdn ?_ | refine bwA ?_ ?_ _ | refine bwD ?_ | refine bwS ?_ ?_ _) | omega | (simp <;> omega)))) (fail)
    all_goals
      (try go_simp)
      (repeat go_step)
      with_reducible refine bodyPost_ret (res_then _ _ (w.heap.size + 1 + 1) _ _ _ _ _ _ _ _ _ _ _ _ ?hp (set12ad s2 o2' _ _ _ _ _ _ _ _ _ _ _ _)) rfl ?_
      case hp => simp
      exact ⟨_, rfl, (evl_n (by decide)).symm, by repeat' (first | (with_reducible first | exact bwR _ _ | assumption | refine bdn ?_ | refine bwA ?_ ?_ _ | refine bwD ?_ | refine bwS ?_ ?_ _) | omega | (simp <;> omega))⟩

set_option maxHeartbeats 16000000 in
set_option maxRecDepth 100000 in
theorem mthen_k (ea : Nat → Addr) (m n : Mv) (w : World) (im : m.I) (jn : n.I) (hG : Gs gz ea w) (hsz : 20 ≤ w.heap.size) (h1 : m.c = (0, none)) (h2 : n.c = (0, none)) (h3 : thE m n = 0) (hc : thenC m n = (0, none)) :
    Calls Tryz.prog 13 #[.agg #[.int .i64 m.A.n, .int .i64 m.A.d, .int .i64 m.B.n, .int .i64 m.B.d, .int .i64 m.C.n, .int .i64 m.C.d, .int .i64 m.D.n, .int .i64 m.D.d, .int .i64 m.E.n, .int .i64 m.E.d, .int .i64 m.F.n, .int .i64 m.F.d], .agg #[.int .i64 n.A.n, .int .i64 n.A.d, .int .i64 n.B.n, .int .i64 n.B.d, .int .i64 n.C.n, .int .i64 n.C.d, .int .i64 n.D.n, .int .i64 n.D.d, .int .i64 n.E.n, .int .i64 n.E.d, .int .i64 n.F.n, .int .i64 n.F.d]] w (RetME 183 61 ea (thenC m n) (thenV m n) w) := by
  have hBound := hG.c2
  have hShape := hG.c3
  have zhShape := zlt hShape
  have xhShape := zlts hShape
  have yhShape := zne hShape
  have zhBound := zlt hBound
  have xhBound := zlts hBound
  have yhBound := zne hBound
  have iA := im.A
  have iB := im.B
  have iC := im.C
  have iD := im.D
  have iE := im.E
  have iF := im.F
  have jA := jn.A
  have jB := jn.B
  have jC := jn.C
  have jD := jn.D
  obtain ⟨e1, he1⟩ : ∃ z, thA m n = z := ⟨_, rfl⟩
  obtain ⟨e2, he2⟩ : ∃ z, thB m n = z := ⟨_, rfl⟩
  obtain ⟨e3, he3⟩ : ∃ z, thC m n = z := ⟨_, rfl⟩
  obtain ⟨e4, he4⟩ : ∃ z, thD m n = z := ⟨_, rfl⟩
  obtain ⟨e5, he5⟩ : ∃ z, thE m n = z := ⟨_, rfl⟩
  obtain ⟨v1, hv1⟩ : ∃ z, ofV 0 n.A m.A n.C m.B = z := ⟨_, rfl⟩
  obtain ⟨v2, hv2⟩ : ∃ z, ofV (thA m n) n.B m.A n.D m.B = z := ⟨_, rfl⟩
  obtain ⟨v3, hv3⟩ : ∃ z, ofV (thB m n) n.A m.C n.C m.D = z := ⟨_, rfl⟩
  obtain ⟨v4, hv4⟩ : ∃ z, ofV (thC m n) n.B m.C n.D m.D = z := ⟨_, rfl⟩
  obtain ⟨x, hx⟩ : ∃ z, toX (thD m n) n (thP m) = z := ⟨_, rfl⟩
  obtain ⟨y, hy⟩ : ∃ z, toY (thD m n) n (thP m) = z := ⟨_, rfl⟩
  have hth : thV m n = ⟨v1, v2, v3, v4, x, y⟩ := by unfold thV; rw [hv1, hv2, hv3, hv4, hx, hy]
  have hv1' := hv1
  have he1' : ofE 0 n.A m.A n.C m.B = e1 := he1
  have hv2' : ofV e1 n.B m.A n.D m.B = v2 := by rw [← he1]; exact hv2
  have he2' : ofE e1 n.B m.A n.D m.B = e2 := by rw [← he1]; exact he2
  have hv3' : ofV e2 n.A m.C n.C m.D = v3 := by rw [← he2]; exact hv3
  have he3' : ofE e2 n.A m.C n.C m.D = e3 := by rw [← he2]; exact he3
  have hv4' : ofV e3 n.B m.C n.D m.D = v4 := by rw [← he3]; exact hv4
  have he4' : ofE e3 n.B m.C n.D m.D = e4 := by rw [← he3]; exact he4
  have hx' : toX e4 n (thP m) = x := by rw [← he4]; exact hx
  have hy' : toY e4 n (thP m) = y := by rw [← he4]; exact hy
  have he5' : toE e4 n (thP m) = e5 := by rw [← he4]; exact he5
  rw [he5] at h3
  have hv : thenV m n = ⟨v1, v2, v3, v4, x, y⟩ := (if_pos hc).trans hth
  rw [hv, hc]
  have H_hc := Lib.hid hc
  clear hc
  have H_hv := Lib.hid hv
  clear hv
  have H_h1 := Lib.hid h1
  clear h1
  have H_im := Lib.hid im
  clear im
  have H_hG := Lib.hid hG
  clear hG
  have H_jn := Lib.hid jn
  clear jn
  have H_h2 := Lib.hid h2
  clear h2
  have H_h3 := Lib.hid h3
  clear h3
  have H_iA := Lib.hid iA
  clear iA
  have H_iB := Lib.hid iB
  clear iB
  have H_iC := Lib.hid iC
  clear iC
  have H_iD := Lib.hid iD
  clear iD
  have H_iE := Lib.hid iE
  clear iE
  have H_iF := Lib.hid iF
  clear iF
  have H_jA := Lib.hid jA
  clear jA
  have H_jB := Lib.hid jB
  clear jB
  have H_jC := Lib.hid jC
  clear jC
  have H_jD := Lib.hid jD
  clear jD
  have H_he1 := Lib.hid he1
  clear he1
  have H_he2 := Lib.hid he2
  clear he2
  have H_he3 := Lib.hid he3
  clear he3
  have H_he4 := Lib.hid he4
  clear he4
  have H_he5 := Lib.hid he5
  clear he5
  have H_hv1 := Lib.hid hv1
  clear hv1
  have H_hv2 := Lib.hid hv2
  clear hv2
  have H_hv3 := Lib.hid hv3
  clear hv3
  have H_hv4 := Lib.hid hv4
  clear hv4
  have H_hx := Lib.hid hx
  clear hx
  have H_hy := Lib.hid hy
  clear hy
  have H_hth := Lib.hid hth
  clear hth
  have H_hv1' := Lib.hid hv1'
  clear hv1'
  have H_he1' := Lib.hid he1'
  clear he1'
  have H_hv2' := Lib.hid hv2'
  clear hv2'
  have H_he2' := Lib.hid he2'
  clear he2'
  have H_hv3' := Lib.hid hv3'
  clear hv3'
  have H_he3' := Lib.hid he3'
  clear he3'
  have H_hv4' := Lib.hid hv4'
  clear hv4'
  have H_he4' := Lib.hid he4'
  clear he4'
  have H_hx' := Lib.hid hx'
  clear hx'
  have H_hy' := Lib.hid hy'
  clear hy'
  have H_he5' := Lib.hid he5'
  clear he5'
  go_enter Tryz.func13, Tryz.ntmps13
  go_wp2_with fail
  refine call_ew (w := w) (by repeat' (first | (with_reducible first | exact bwR _ _ | assumption | refine bdn ?_ | refine bwA ?_ ?_ _ | refine bwD ?_ | refine bwS ?_ ?_ _) | omega | (simp <;> omega))) (fun HB => mcheck_any ea m _ H_im.out (gkeep HB hShape rfl) (gkeep HB hBound rfl)) ?_
  intro x1 w1 hx1 hb1 hz1 c1 d1 hW1
  have t1 := hb1.size
  try simp only [szA] at hz1 c1 d1
  try simp only [szD] at hz1 c1 d1
  try simp only [szS] at hz1 c1 d1
  try simp only [World.heap_drewN] at hz1 c1 d1
  try simp only [szA] at hz1 c1 d1
  try simp only [szD] at hz1 c1 d1
  try simp only [szS] at hz1 c1 d1
  have s1_0 : w.heap.size < w1.heap.size := by omega
  have o1_0 := fun j => c1 (w.heap.size) j (by omega)
  have f1_0 := fun j => d1 (w.heap.size) j (by omega)
  have s1_1 : w.heap.size + 1 < w1.heap.size := by omega
  have o1_1 := fun j => c1 (w.heap.size + 1) j (by omega)
  have f1_1 := fun j => d1 (w.heap.size + 1) j (by omega)
  have s1_2 : w.heap.size + 1 + 1 < w1.heap.size := by omega
  have o1_2 := fun j => c1 (w.heap.size + 1 + 1) j (by omega)
  have f1_2 := fun j => d1 (w.heap.size + 1 + 1) j (by omega)
  clear c1 d1 hz1 hW1
  obtain rfl := hx1.nil H_h1.out
  go_wp2_with fail
  refine call_ew (w := w) (by repeat' (first | (with_reducible first | exact bwR _ _ | assumption | refine bdn ?_ | refine bwA ?_ ?_ _ | refine bwD ?_ | refine bwS ?_ ?_ _) | omega | (simp <;> omega))) (fun HB => mcheck_any ea n _ H_jn.out (gkeep HB hShape rfl) (gkeep HB hBound rfl)) ?_
  intro x2 w2 hx2 hb2 hz2 c2 d2 hW2
  have t2 := hb2.size
  try simp only [szA] at hz2 c2 d2
  try simp only [szD] at hz2 c2 d2
  try simp only [szS] at hz2 c2 d2
  try simp only [World.heap_drewN] at hz2 c2 d2
  try simp only [szA] at hz2 c2 d2
  try simp only [szD] at hz2 c2 d2
  try simp only [szS] at hz2 c2 d2
  have s2_0 : w.heap.size < w2.heap.size := by omega
  have o2_0 := fun j => c2 (w.heap.size) j (by omega)
  have f2_0 := fun j => d2 (w.heap.size) j (by omega)
  have s2_1 : w.heap.size + 1 < w2.heap.size := by omega
  have o2_1 := fun j => c2 (w.heap.size + 1) j (by omega)
  have f2_1 := fun j => d2 (w.heap.size + 1) j (by omega)
  have s2_2 : w.heap.size + 1 + 1 < w2.heap.size := by omega
  have o2_2 := fun j => c2 (w.heap.size + 1 + 1) j (by omega)
  have f2_2 := fun j => d2 (w.heap.size + 1 + 1) j (by omega)
  clear c2 d2 hz2 hW2
  obtain rfl := hx2.nil H_h2.out
  have hB2 : Below w.heap.size w (w2.alloc (.cells #[.nilIface] 66)) := by repeat' (first | (with_reducible first | exact bwR _ _ | assumption | refine bdn ?_ | refine bwA ?_ ?_ _ | refine bwD ?_ | refine bwS ?_ ?_ _) | omega | (simp <;> omega))
  go_upto_region 8 with fail
  obtain ⟨w0, hw0⟩ : ∃ u, w2.alloc (.cells #[.nilIface] 66) = u := ⟨_, rfl⟩
  obtain ⟨s, hs⟩ : ∃ u, w2.heap.size = u := ⟨_, rfl⟩
  have hat0 : w0.heap[s]? = some (.cells #[evl 183 ea 0] 66 (0, 0)) := by rw [← hw0, ← hs]; exact (heap_alloc_new _ _).trans (by rw [evl_0 rfl])
  have hB0 : Below w.heap.size w w0 := by rw [← hw0]; exact hB2
  have zs : w.heap.size + 1 + 1 < s := by rw [← hs]; exact s2_2
  have ls0 : s < w0.heap.size := by rw [← hw0, ← hs]; simp
  have o0 : ∀ j, w0.cell? ⟨w.heap.size, j, none⟩ = #[.int .i64 m.A.n, .int .i64 m.A.d, .int .i64 m.B.n, .int .i64 m.B.d, .int .i64 m.C.n, .int .i64 m.C.d, .int .i64 m.D.n, .int .i64 m.D.d, .int .i64 m.E.n, .int .i64 m.E.d, .int .i64 m.F.n, .int .i64 m.F.d][j]? := fun j => by rw [← hw0, World.cell?_alloc_past _ _ _ (by first | omega | (simp; omega)), o2_0, o1_0, World.cell?_alloc_past _ _ _ (by first | omega | (simp; omega)), World.cell?_alloc_past _ _ _ (by first | omega | (simp; done)), World.cell?_alloc_at _ _ _ _ rfl]
  have o1 : ∀ j, w0.cell? ⟨w.heap.size + 1, j, none⟩ = #[.int .i64 n.A.n, .int .i64 n.A.d, .int .i64 n.B.n, .int .i64 n.B.d, .int .i64 n.C.n, .int .i64 n.C.d, .int .i64 n.D.n, .int .i64 n.D.d, .int .i64 n.E.n, .int .i64 n.E.d, .int .i64 n.F.n, .int .i64 n.F.d][j]? := fun j => by rw [← hw0, World.cell?_alloc_past _ _ _ (by first | omega | (simp; omega)), o2_1, o1_1, World.cell?_alloc_past _ _ _ (by first | omega | (simp; done)), World.cell?_alloc_at _ _ _ _ (by first | rfl | (simp; done))]
  have o2 : ∀ j, w0.cell? ⟨w.heap.size + 1 + 1, j, none⟩ = (#[.int .i64 0, .int .i64 0, .int .i64 0, .int .i64 0, .int .i64 0, .int .i64 0, .int .i64 0, .int .i64 0, .int .i64 0, .int .i64 0, .int .i64 0, .int .i64 0] : Array Value)[j]? := fun j => by rw [← hw0, World.cell?_alloc_past _ _ _ (by first | omega | (simp; omega)), o2_2, o1_2, World.cell?_alloc_at _ _ _ _ (by first | rfl | (simp; done))]
  have f2 : ∀ j, w0.frozen? ⟨w.heap.size + 1 + 1, j, none⟩ = false := fun j => by rw [← hw0, World.frozen?_alloc_past _ _ _ (by first | omega | (simp; omega)), f2_2, f1_2, World.frozen?_alloc_at _ _ _ _ (by first | rfl | (simp; done))]
  rw [hw0, hs]
  clear o1_0 f1_0 o1_1 f1_1 o1_2 f1_2 o2_0 f2_0 o2_1 f2_1 o2_2 f2_2 s1_0 s1_1 s1_2 s2_0 s2_1 s2_2 t1 t2 hB2 hw0 hs hx1 hx2 hb1 hb2
  clear w2
  clear w1
  have hsg : 20 ≤ s := by omega
  have KG := H_hG.out.keep hB0 rfl
  have hc := cell_of_one hat0
  have hf := free_of_one hat0
  have KB0 : But s 66 (evl 183 ea 0) w0 w0 := But.refl hat0
  have l0 : s < w0.heap.size := ls0
  have N0 : w0.heap.size ≠ s := by omega
  have z0' : w.heap.size + 1 + 1 < w0.heap.size := by omega
  have SK : ∀ W, (∃ v, But s 66 v w0 W) → (∃ v, But s 66 v w0 W) ∧ (∀ j, W.cell? ⟨w.heap.size, j, none⟩ = #[.int .i64 m.A.n, .int .i64 m.A.d, .int .i64 m.B.n, .int .i64 m.B.d, .int .i64 m.C.n, .int .i64 m.C.d, .int .i64 m.D.n, .int .i64 m.D.d, .int .i64 m.E.n, .int .i64 m.E.d, .int .i64 m.F.n, .int .i64 m.F.d][j]?) ∧ (∀ j, W.cell? ⟨w.heap.size + 1, j, none⟩ = #[.int .i64 n.A.n, .int .i64 n.A.d, .int .i64 n.B.n, .int .i64 n.B.d, .int .i64 n.C.n, .int .i64 n.C.d, .int .i64 n.D.n, .int .i64 n.D.d, .int .i64 n.E.n, .int .i64 n.E.d, .int .i64 n.F.n, .int .i64 n.F.d][j]?) := by
    intro W h
    obtain ⟨v, h⟩ := h
    exact ⟨⟨v, h⟩, fun j => by rw [h.cell _ _ (by omega) (by omega)]; exact o0 j, fun j => by rw [h.cell _ _ (by omega) (by omega)]; exact o1 j⟩
  have H_SK := Lib.hid SK
  clear SK
  have H_KG := Lib.hid KG
  clear KG
  have H_N0 := Lib.hid N0
  clear N0
  have H_hat0 := Lib.hid hat0
  clear hat0
  go_cut [9] (fun s9 wx => Made s 66 (evl 183 ea e4) w0 #[.int .i64 v1.n, .int .i64 v1.d, .int .i64 v2.n, .int .i64 v2.d, .int .i64 v3.n, .int .i64 v3.d, .int .i64 v4.n, .int .i64 v4.d, .int .i64 0, .int .i64 0, .int .i64 0, .int .i64 0] s9 wx)
  case first =>
    go_region_held3 (fun W => (∃ v, But s 66 v w0 W) ∧ (∀ j, W.cell? ⟨w.heap.size, j, none⟩ = #[.int .i64 m.A.n, .int .i64 m.A.d, .int .i64 m.B.n, .int .i64 m.B.d, .int .i64 m.C.n, .int .i64 m.C.d, .int .i64 m.D.n, .int .i64 m.D.d, .int .i64 m.E.n, .int .i64 m.E.d, .int .i64 m.F.n, .int .i64 m.F.d][j]?) ∧ (∀ j, W.cell? ⟨w.heap.size + 1, j, none⟩ = #[.int .i64 n.A.n, .int .i64 n.A.d, .int .i64 n.B.n, .int .i64 n.B.d, .int .i64 n.C.n, .int .i64 n.C.d, .int .i64 n.D.n, .int .i64 n.D.d, .int .i64 n.E.n, .int .i64 n.E.d, .int .i64 n.F.n, .int .i64 n.F.d][j]?))
      (first | (refine H_SK.out _ ⟨(evl 183 ea e4), ?_⟩; (repeat' (first | (with_reducible assumption) | (with_reducible exact Nat.le_refl _) | (with_reducible refine But.drewN ?_) | (with_reducible refine But.drew ?_) | (with_reducible refine But.alloc ?_ _) | (with_reducible refine But.setCell ?_ ?_ _))); done) | (refine H_SK.out _ ⟨(evl 183 ea e3), ?_⟩; (repeat' (first | (with_reducible assumption) | (with_reducible exact Nat.le_refl _) | (with_reducible refine But.drewN ?_) | (with_reducible refine But.drew ?_) | (with_reducible refine But.alloc ?_ _) | (with_reducible refine But.setCell ?_ ?_ _))); done) | (refine H_SK.out _ ⟨(evl 183 ea e2), ?_⟩; (repeat' (first | (with_reducible assumption) | (with_reducible exact Nat.le_refl _) | (with_reducible refine But.drewN ?_) | (with_reducible refine But.drew ?_) | (with_reducible refine But.alloc ?_ _) | (with_reducible refine But.setCell ?_ ?_ _))); done) | (refine H_SK.out _ ⟨(evl 183 ea e1), ?_⟩; (repeat' (first | (with_reducible assumption) | (with_reducible exact Nat.le_refl _) | (with_reducible refine But.drewN ?_) | (with_reducible refine But.drew ?_) | (with_reducible refine But.alloc ?_ _) | (with_reducible refine But.setCell ?_ ?_ _))); done) | (refine H_SK.out _ ⟨(evl 183 ea 0), ?_⟩; (repeat' (first | (with_reducible assumption) | (with_reducible exact Nat.le_refl _) | (with_reducible refine But.drewN ?_) | (with_reducible refine But.drew ?_) | (with_reducible refine But.alloc ?_ _) | (with_reducible refine But.setCell ?_ ?_ _))); done))
      (first | (go_at_call 25; (with_reducible refine (sof_any ea 0 e1 s n.A m.A n.C m.B v1 _ H_hv1'.out H_he1'.out H_jA.out H_iA.out H_jC.out H_iB.out (But.at' (v := (evl 183 ea 0)) (w := w0) (by repeat' (first | (with_reducible assumption) | (with_reducible exact Nat.le_refl _) | (with_reducible refine But.drewN ?_) | (with_reducible refine But.drew ?_) | (with_reducible refine But.alloc ?_ _) | (with_reducible refine But.setCell ?_ ?_ _)))) hsg (H_KG.out.but (v := (evl 183 ea 0)) (t := 66) (by repeat' (first | (with_reducible assumption) | (with_reducible exact Nat.le_refl _) | (with_reducible refine But.drewN ?_) | (with_reducible refine But.drew ?_) | (with_reducible refine But.alloc ?_ _) | (with_reducible refine But.setCell ?_ ?_ _))) hsg)).mono ?_); rintro en wA ⟨rfl, hqA⟩; have hbA := But.trans (v := (evl 183 ea 0)) (w := w0) (by repeat' (first | (with_reducible assumption) | (with_reducible exact Nat.le_refl _) | (with_reducible refine But.drewN ?_) | (with_reducible refine But.drew ?_) | (with_reducible refine But.alloc ?_ _) | (with_reducible refine But.setCell ?_ ?_ _))) hqA; have tA := hqA.size; (try simp only [World.size_alloc] at tA); (try simp only [World.size_drew] at tA); (try simp only [World.size_setCell] at tA); have uA : w0.heap.size ≤ wA.heap.size := hbA.size; have hsA := hqA.here; have hfA := hqA.free; have lA : s < wA.heap.size := Nat.lt_of_lt_of_le hbA.lt hbA.size; have nA : Hid (wA.heap.size ≠ s) := Lib.hid (by omega); (try have oAw0 := fun j => hqA.cell w0.heap.size j (by first | assumption | omega | (simp; done) | (simp; omega)) H_N0.out); (try have fAw0 := fun j => hqA.frozen w0.heap.size j (by first | assumption | omega | (simp; done) | (simp; omega)) H_N0.out); (try have zAw0 : w0.heap.size < wA.heap.size := (by first | assumption | omega | (simp at tA; omega)))) | (go_at_call 25; (with_reducible refine (sof_any ea e1 e2 s n.B m.A n.D m.B v2 _ H_hv2'.out H_he2'.out H_jB.out H_iA.out H_jD.out H_iB.out (But.at' (v := (evl 183 ea e1)) (w := w0) (by repeat' (first | (with_reducible assumption) | (with_reducible exact Nat.le_refl _) | (with_reducible refine But.drewN ?_) | (with_reducible refine But.drew ?_) | (with_reducible refine But.alloc ?_ _) | (with_reducible refine But.setCell ?_ ?_ _)))) hsg (H_KG.out.but (v := (evl 183 ea e1)) (t := 66) (by repeat' (first | (with_reducible assumption) | (with_reducible exact Nat.le_refl _) | (with_reducible refine But.drewN ?_) | (with_reducible refine But.drew ?_) | (with_reducible refine But.alloc ?_ _) | (with_reducible refine But.setCell ?_ ?_ _))) hsg)).mono ?_); rintro en wB ⟨rfl, hqB⟩; have hbB := But.trans (v := (evl 183 ea e1)) (w := w0) (by repeat' (first | (with_reducible assumption) | (with_reducible exact Nat.le_refl _) | (with_reducible refine But.drewN ?_) | (with_reducible refine But.drew ?_) | (with_reducible refine But.alloc ?_ _) | (with_reducible refine But.setCell ?_ ?_ _))) hqB; have tB := hqB.size; (try simp only [World.size_alloc] at tB); (try simp only [World.size_drew] at tB); (try simp only [World.size_setCell] at tB); have uB : w0.heap.size ≤ wB.heap.size := hbB.size; have hsB := hqB.here; have hfB := hqB.free; have lB : s < wB.heap.size := Nat.lt_of_lt_of_le hbB.lt hbB.size; have nB : Hid (wB.heap.size ≠ s) := Lib.hid (by omega); (try have oBw0 := fun j => hqB.cell w0.heap.size j (by first | assumption | omega | (simp; done) | (simp; omega)) H_N0.out); (try have fBw0 := fun j => hqB.frozen w0.heap.size j (by first | assumption | omega | (simp; done) | (simp; omega)) H_N0.out); (try have zBw0 : w0.heap.size < wB.heap.size := (by first | assumption | omega | (simp at tB; omega))); (try have oBwA := fun j => hqB.cell wA.heap.size j (by first | assumption | omega | (simp; done) | (simp; omega)) nA.out); (try have fBwA := fun j => hqB.frozen wA.heap.size j (by first | assumption | omega | (simp; done) | (simp; omega)) nA.out); (try have zBwA : wA.heap.size < wB.heap.size := (by first | assumption | omega | (simp at tB; omega)))) | (go_at_call 25; (with_reducible refine (sof_any ea e2 e3 s n.A m.C n.C m.D v3 _ H_hv3'.out H_he3'.out H_jA.out H_iC.out H_jC.out H_iD.out (But.at' (v := (evl 183 ea e2)) (w := w0) (by repeat' (first | (with_reducible assumption) | (with_reducible exact Nat.le_refl _) | (with_reducible refine But.drewN ?_) | (with_reducible refine But.drew ?_) | (with_reducible refine But.alloc ?_ _) | (with_reducible refine But.setCell ?_ ?_ _)))) hsg (H_KG.out.but (v := (evl 183 ea e2)) (t := 66) (by repeat' (first | (with_reducible assumption) | (with_reducible exact Nat.le_refl _) | (with_reducible refine But.drewN ?_) | (with_reducible refine But.drew ?_) | (with_reducible refine But.alloc ?_ _) | (with_reducible refine But.setCell ?_ ?_ _))) hsg)).mono ?_); rintro en wC ⟨rfl, hqC⟩; have hbC := But.trans (v := (evl 183 ea e2)) (w := w0) (by repeat' (first | (with_reducible assumption) | (with_reducible exact Nat.le_refl _) | (with_reducible refine But.drewN ?_) | (with_reducible refine But.drew ?_) | (with_reducible refine But.alloc ?_ _) | (with_reducible refine But.setCell ?_ ?_ _))) hqC; have tC := hqC.size; (try simp only [World.size_alloc] at tC); (try simp only [World.size_drew] at tC); (try simp only [World.size_setCell] at tC); have uC : w0.heap.size ≤ wC.heap.size := hbC.size; have hsC := hqC.here; have hfC := hqC.free; have lC : s < wC.heap.size := Nat.lt_of_lt_of_le hbC.lt hbC.size; have nC : Hid (wC.heap.size ≠ s) := Lib.hid (by omega); (try have oCw0 := fun j => hqC.cell w0.heap.size j (by first | assumption | omega | (simp; done) | (simp; omega)) H_N0.out); (try have fCw0 := fun j => hqC.frozen w0.heap.size j (by first | assumption | omega | (simp; done) | (simp; omega)) H_N0.out); (try have zCw0 : w0.heap.size < wC.heap.size := (by first | assumption | omega | (simp at tC; omega))); (try have oCwA := fun j => hqC.cell wA.heap.size j (by first | assumption | omega | (simp; done) | (simp; omega)) nA.out); (try have fCwA := fun j => hqC.frozen wA.heap.size j (by first | assumption | omega | (simp; done) | (simp; omega)) nA.out); (try have zCwA : wA.heap.size < wC.heap.size := (by first | assumption | omega | (simp at tC; omega))); (try have oCwB := fun j => hqC.cell wB.heap.size j (by first | assumption | omega | (simp; done) | (simp; omega)) nB.out); (try have fCwB := fun j => hqC.frozen wB.heap.size j (by first | assumption | omega | (simp; done) | (simp; omega)) nB.out); (try have zCwB : wB.heap.size < wC.heap.size := (by first | assumption | omega | (simp at tC; omega)))) | (go_at_call 25; (with_reducible refine (sof_any ea e3 e4 s n.B m.C n.D m.D v4 _ H_hv4'.out H_he4'.out H_jB.out H_iC.out H_jD.out H_iD.out (But.at' (v := (evl 183 ea e3)) (w := w0) (by repeat' (first | (with_reducible assumption) | (with_reducible exact Nat.le_refl _) | (with_reducible refine But.drewN ?_) | (with_reducible refine But.drew ?_) | (with_reducible refine But.alloc ?_ _) | (with_reducible refine But.setCell ?_ ?_ _)))) hsg (H_KG.out.but (v := (evl 183 ea e3)) (t := 66) (by repeat' (first | (with_reducible assumption) | (with_reducible exact Nat.le_refl _) | (with_reducible refine But.drewN ?_) | (with_reducible refine But.drew ?_) | (with_reducible refine But.alloc ?_ _) | (with_reducible refine But.setCell ?_ ?_ _))) hsg)).mono ?_); rintro en wD ⟨rfl, hqD⟩; have hbD := But.trans (v := (evl 183 ea e3)) (w := w0) (by repeat' (first | (with_reducible assumption) | (with_reducible exact Nat.le_refl _) | (with_reducible refine But.drewN ?_) | (with_reducible refine But.drew ?_) | (with_reducible refine But.alloc ?_ _) | (with_reducible refine But.setCell ?_ ?_ _))) hqD; have tD := hqD.size; (try simp only [World.size_alloc] at tD); (try simp only [World.size_drew] at tD); (try simp only [World.size_setCell] at tD); have uD : w0.heap.size ≤ wD.heap.size := hbD.size; have hsD := hqD.here; have hfD := hqD.free; have lD : s < wD.heap.size := Nat.lt_of_lt_of_le hbD.lt hbD.size; have nD : Hid (wD.heap.size ≠ s) := Lib.hid (by omega); (try have oDw0 := fun j => hqD.cell w0.heap.size j (by first | assumption | omega | (simp; done) | (simp; omega)) H_N0.out); (try have fDw0 := fun j => hqD.frozen w0.heap.size j (by first | assumption | omega | (simp; done) | (simp; omega)) H_N0.out); (try have zDw0 : w0.heap.size < wD.heap.size := (by first | assumption | omega | (simp at tD; omega))); (try have oDwA := fun j => hqD.cell wA.heap.size j (by first | assumption | omega | (simp; done) | (simp; omega)) nA.out); (try have fDwA := fun j => hqD.frozen wA.heap.size j (by first | assumption | omega | (simp; done) | (simp; omega)) nA.out); (try have zDwA : wA.heap.size < wD.heap.size := (by first | assumption | omega | (simp at tD; omega))); (try have oDwB := fun j => hqD.cell wB.heap.size j (by first | assumption | omega | (simp; done) | (simp; omega)) nB.out); (try have fDwB := fun j => hqD.frozen wB.heap.size j (by first | assumption | omega | (simp; done) | (simp; omega)) nB.out); (try have zDwB : wB.heap.size < wD.heap.size := (by first | assumption | omega | (simp at tD; omega))); (try have oDwC := fun j => hqD.cell wC.heap.size j (by first | assumption | omega | (simp; done) | (simp; omega)) nC.out); (try have fDwC := fun j => hqD.frozen wC.heap.size j (by first | assumption | omega | (simp; done) | (simp; omega)) nC.out); (try have zDwC : wC.heap.size < wD.heap.size := (by first | assumption | omega | (simp at tD; omega)))))
    all_goals
      go_wp2_with fail
      go_meet
      first | with_reducible exact made_last hbD _ | with_reducible exact made_ahead hbC hqD _ _ _ _ _ _ _ _ _ _ _ _ | with_reducible exact made_ahead hbB (hqC.trans hqD) _ _ _ _ _ _ _ _ _ _ _ _ | with_reducible exact made_ahead hbA ((hqB.trans hqC).trans hqD) _ _ _ _ _ _ _ _ _ _ _ _ | with_reducible exact made_ahead (But.refl H_hat0.out) (((hqA.trans hqB).trans hqC).trans hqD) _ _ _ _ _ _ _ _ _ _ _ _ | with_reducible exact made_ahead (But.refl H_hat0.out) (But.undrew (((hqA.trans hqB).trans hqC).trans hqD)) _ _ _ _ _ _ _ _ _ _ _ _
  case rest =>
    obtain ⟨g, rfl, og, fg, hg0, hg1, hbq⟩ := hcut
    have r2 := fun j => (hbq.cell (w.heap.size + 1 + 1) j (by omega) (by omega)).trans (o2 j)
    have r0 := fun j => (hbq.cell w.heap.size j (by omega) (by omega)).trans (o0 j)
    have r1 := fun j => (hbq.cell (w.heap.size + 1) j (by omega) (by omega)).trans (o1 j)
    have k2 := fun j => (hbq.frozen (w.heap.size + 1 + 1) j (by omega) (by omega)).trans (f2 j)
    have hBc : Below w.heap.size w wc := hB0.trans (hbq.toBelow (by omega) (by omega))
    have tq := hbq.size
    have gs : g ≠ s := by omega
    have H_gs := Lib.hid gs
    clear gs o0 o1 o2 f2 KB0 l0 H_SK H_N0 hc hf
    go_wp2_with fail
    refine (sto_any ea e4 e5 s n (thP m) x y _ H_hx'.out H_hy'.out H_he5'.out H_jn.out ⟨H_iE.out.1, H_iE.out.2, H_iF.out.1, H_iF.out.2⟩ hbq.at' hsg (H_hG.out.keep hBc rfl)).mono ?_
    rintro en wd ⟨rfl, hbd⟩
    have hBd : Below w.heap.size w wd := hBc.trans (hbd.toBelow (by omega) (by omega))
    have td := hbd.size
    have sg : g < wd.heap.size := by omega
    have s2 : w.heap.size + 1 + 1 < wd.heap.size := by omega
    have ss : s < wd.heap.size := by omega
    have og' := fun j => (hbd.cell g j hg1 H_gs.out).trans (og j)
    have fg' := fun j => (hbd.frozen g j hg1 H_gs.out).trans (fg j)
    have o2' := fun j => (hbd.cell (w.heap.size + 1 + 1) j (by omega) (by omega)).trans (r2 j)
    have f2' := fun j => (hbd.frozen (w.heap.size + 1 + 1) j (by omega) (by omega)).trans (k2 j)
    have q4 := hbd.here
    have k4 := hbd.free
    clear og fg r0 r1 r2 k2
    rw [evl_0 H_h3.out] at q4 hbd
    go_wp2_with fail
    have ng1 : ¬ g = wd.heap.size := by omega
    have ng2 : ¬ wd.heap.size = g := by omega
    have ng3 : g ≠ w.heap.size + 1 + 1 := by omega
    go_region_held3 (fun W => W.cell? ⟨wd.heap.size, 0, none⟩ = some (.int .i64 x.n) ∧ W.cell? ⟨wd.heap.size, 1, none⟩ = some (.int .i64 x.d) ∧ W.cell? ⟨wd.heap.size, 2, none⟩ = some (.int .i64 y.n) ∧ W.cell? ⟨wd.heap.size, 3, none⟩ = some (.int .i64 y.d)) (refine ⟨?_, ?_, ?_, ?_⟩ <;> ((try rw [World.cell?_drew]); ((first | rw [World.cell?_alloc_new] | rw [st2at] | rw [st4at]) <;> rfl))) (fail)
    all_goals
      (try go_simp)
      (repeat go_step)
      with_reducible refine bodyPost_ret (res_then _ _ (w.heap.size + 1 + 1) _ _ _ _ _ _ _ _ _ _ _ _ ?hp (set12ad ?hg ?hz _ _ _ _ _ _ _ _ _ _ _ _)) rfl ?_
      case hp => simp
      case hg => simp only [World.size_setCell]; exact s2
      case hz => intro j; rw [oth4 ng3]; exact o2' j
      exact ⟨_, rfl, (evl_0 rfl).symm, by repeat' (first | (with_reducible first | exact bwR _ _ | assumption | refine bdn ?_ | refine bwA ?_ ?_ _ | refine bwD ?_ | refine bwS ?_ ?_ _) | omega | (simp <;> omega))⟩

theorem mthen_any (ea : Nat → Addr) (m n : Mv) (w : World) (im : m.I) (jn : n.I) (hG : Gs gz ea w) (hsz : 20 ≤ w.heap.size) :
    Calls Tryz.prog 13 #[.agg #[.int .i64 m.A.n, .int .i64 m.A.d, .int .i64 m.B.n, .int .i64 m.B.d, .int .i64 m.C.n, .int .i64 m.C.d, .int .i64 m.D.n, .int .i64 m.D.d, .int .i64 m.E.n, .int .i64 m.E.d, .int .i64 m.F.n, .int .i64 m.F.d], .agg #[.int .i64 n.A.n, .int .i64 n.A.d, .int .i64 n.B.n, .int .i64 n.B.d, .int .i64 n.C.n, .int .i64 n.C.d, .int .i64 n.D.n, .int .i64 n.D.d, .int .i64 n.E.n, .int .i64 n.E.d, .int .i64 n.F.n, .int .i64 n.F.d]] w (RetME 183 61 ea (thenC m n) (thenV m n) w) := by
  rcases thenC_cases m n with ⟨h1, hc⟩ | ⟨h1, h2, hc⟩ | ⟨h1, h2, h3, hc⟩ | ⟨h1, h2, h3, hc⟩
  · exact mthen_e1 ea m n w im jn hG hsz h1 hc
  · exact mthen_e2 ea m n w im jn hG hsz h1 h2 hc
  · exact mthen_b ea m n w im jn hG hsz h1 h2 h3 hc
  · exact mthen_k ea m n w im jn hG hsz h1 h2 h3 hc
end Go.Proofs.YtlhadgnpkooiaaaGreatDoor
