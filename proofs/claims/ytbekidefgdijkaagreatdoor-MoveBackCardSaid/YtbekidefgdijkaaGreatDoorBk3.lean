/-
  Walks over package move: Back: the ways that end in an error.
-/
import Derived.Test.YtbekidefgdijkaaGreatDoorBk1
import Derived.Test.YtbekidefgdijkaaGreatDoorMe
import Derived.Test.YtbekidefgdijkaaGreatDoorAbv
import Derived.Deep.DeepCutAuto
namespace Lead
open Go Go.RowKit
theorem backV_n {m : Mv} (h : (backC m).1 ≠ 0) : backV m = zMv := if_neg (fun e => h (by rw [e]))
end Lead
namespace Go.Proofs.YtbekidefgdijkaaGreatDoor
open Go.RowKit Lead

theorem res_back3 (tmps : Array Value) (w0 : World) (g : Nat) (v0 v1 v2 v3 v4 v5 v6 v7 v8 v9 v10 v11 : Value) (h2 : tmps[2]?.getD undef = .pointer (some ⟨g, 0, none⟩)) (hc : ∀ j, w0.cell? ⟨g, j, none⟩ = (#[v0, v1, v2, v3, v4, v5, v6, v7, v8, v9, v10, v11] : Array Value)[j]?) :
    (results Tryz.f31 tmps).run Tryz.prog w0 = .ok (.tuple #[.agg #[v0, v1, v2, v3, v4, v5, v6, v7, v8, v9, v10, v11], tmps[3]?.getD undef]) w0 := by
  simp [results, Tryz.results31, go_sem, h2, hc]
set_option maxHeartbeats 4000000 in
set_option maxRecDepth 100000 in
theorem mback_e1 (ea : Nat → Addr) (m : Mv) (w : World) (im : m.I) (hG : Gs true ea w) (_hsz : 20 ≤ w.heap.size) (h1 : m.c.1 ≠ 0) (hc : backC m = m.c) :
    Calls Tryz.prog 31 #[.agg #[.int .i64 m.A.n, .int .i64 m.A.d, .int .i64 m.B.n, .int .i64 m.B.d, .int .i64 m.C.n, .int .i64 m.C.d, .int .i64 m.D.n, .int .i64 m.D.d, .int .i64 m.E.n, .int .i64 m.E.d, .int .i64 m.F.n, .int .i64 m.F.d]] w (RetME 218 95 ea (backC m) (backV m) w) := by
  have hBound := hG.c2
  have hShape := hG.c3
  have zhShape := zlt hShape
  have xhShape := zlts hShape
  have yhShape := zne hShape
  have zhBound := zlt hBound
  have xhBound := zlts hBound
  have yhBound := zne hBound
  have hv := backV_n (m := m) (by rw [hc]; exact h1)
  rw [hv, hc]
  unfold zMv
  have H_hc := Lib.hid hc
  clear hc
  have H_hv := Lib.hid hv
  clear hv
  have H_h1 := Lib.hid h1
  clear h1
  have H_im := Lib.hid im
  clear im
  have H_hG := Lib.hid hG
  clear hG
  go_enter Tryz.func31, Tryz.ntmps31
  go_wp2_with fail
  refine call_ew (w := w) (by repeat' (first | (with_reducible exact Below.refl _ _) | (with_reducible assumption) | (with_reducible refine bdn ?_) | (with_reducible refine Below.alloc ?_ ?_ _) | (with_reducible refine Below.drew ?_) | (with_reducible refine Below.setCell ?_ ?_ _) | omega | (simp <;> omega))) (fun HB => mcheck_any ea m _ H_im.out (gkeep HB hShape rfl) (gkeep HB hBound rfl)) ?_
  intro x1 w1 hx1 hb1 hz1 c1 d1 hW1
  have t1 := hb1.size
  try simp only [World.size_alloc] at hz1 c1 d1
  try simp only [World.size_drew] at hz1 c1 d1
  try simp only [World.size_setCell] at hz1 c1 d1
  try simp only [World.heap_drewN] at hz1 c1 d1
  try simp only [World.size_alloc] at hz1 c1 d1
  try simp only [World.size_drew] at hz1 c1 d1
  try simp only [World.size_setCell] at hz1 c1 d1
  have s1_0 : w.heap.size < w1.heap.size := by omega
  have o1_0 := fun j => c1 (w.heap.size) j (by omega)
  have f1_0 := fun j => d1 (w.heap.size) j (by omega)
  have s1_1 : w.heap.size + 1 < w1.heap.size := by omega
  have o1_1 := fun j => c1 (w.heap.size + 1) j (by omega)
  have f1_1 := fun j => d1 (w.heap.size + 1) j (by omega)
  clear c1 d1 hz1 hW1
  obtain ⟨t, a, rfl⟩ := hx1.some H_h1.out
  go_wp2_with fail
  refine bodyPost_ret (by simp [results, Tryz.results31, go_sem, *]; try rfl) rfl ?_
  exact ⟨_, rfl, hx1.above (by first | omega | (simp <;> omega)) (by repeat' (first | (with_reducible exact Above.refl _ _) | (with_reducible refine Above.alloc ?_ ?_ _) | (with_reducible refine Above.drew ?_) | (with_reducible refine Above.setCell ?_ ?_ _) | omega | (simp <;> omega))), by repeat' (first | (with_reducible exact Below.refl _ _) | (with_reducible assumption) | (with_reducible refine bdn ?_) | (with_reducible refine Below.alloc ?_ ?_ _) | (with_reducible refine Below.drew ?_) | (with_reducible refine Below.setCell ?_ ?_ _) | omega | (simp <;> omega))⟩
set_option maxHeartbeats 4000000 in
set_option maxRecDepth 100000 in
theorem mback_e2 (ea : Nat → Addr) (m : Mv) (w : World) (im : m.I) (hG : Gs true ea w) (hsz : 20 ≤ w.heap.size) (h1 : m.c = (0, none)) (h3 : bk3 m ≠ 0) (hc : backC m = (2, none)) :
    Calls Tryz.prog 31 #[.agg #[.int .i64 m.A.n, .int .i64 m.A.d, .int .i64 m.B.n, .int .i64 m.B.d, .int .i64 m.C.n, .int .i64 m.C.d, .int .i64 m.D.n, .int .i64 m.D.d, .int .i64 m.E.n, .int .i64 m.E.d, .int .i64 m.F.n, .int .i64 m.F.d]] w (RetME 218 95 ea (backC m) (backV m) w) := by
  have hBound := hG.c2
  have hShape := hG.c3
  have zhShape := zlt hShape
  have xhShape := zlts hShape
  have yhShape := zne hShape
  have zhBound := zlt hBound
  have xhBound := zlts hBound
  have yhBound := zne hBound
  have imA := im.A
  have imB := im.B
  have imC := im.C
  have imD := im.D
  have imE := im.E
  have imF := im.F
  obtain ⟨e1, he1⟩ : ∃ z, bk1 m = z := ⟨_, rfl⟩
  obtain ⟨e2, he2⟩ : ∃ z, bk2 m = z := ⟨_, rfl⟩
  obtain ⟨e3, he3⟩ : ∃ z, bk3 m = z := ⟨_, rfl⟩
  obtain ⟨x, hx⟩ : ∃ z, bkx m = z := ⟨_, rfl⟩
  obtain ⟨y, hy⟩ : ∃ z, bky m = z := ⟨_, rfl⟩
  obtain ⟨d, hd⟩ : ∃ z, bkd m = z := ⟨_, rfl⟩
  have ix : x.I := by rw [← hx]; exact dV_I mulK_R
  have iy : y.I := by rw [← hy]; exact dV_I mulK_R
  have id : d.I := by rw [← hd]; exact dV_I subK_R
  have hx' : dV 0 (m.A.mulK m.D) (m.A.mul m.D) = x := hx
  have hy' : dV e1 (m.B.mulK m.C) (m.B.mul m.C) = y := by rw [← he1]; exact hy
  have hd' : dV e2 (x.subK y) (x.sub y) = d := by rw [← he2, ← hx, ← hy]; exact hd
  have he1' : dE 0 (m.A.mulK m.D) = e1 := he1
  have he2' : dE e1 (m.B.mulK m.C) = e2 := by rw [← he1]; exact he2
  have he3' : dE e2 (x.subK y) = e3 := by rw [← he2, ← hx, ← hy]; exact he3
  rw [he3] at h3
  have hv := backV_n (m := m) (by rw [hc]; decide)
  rw [hv, hc]
  unfold zMv
  have H_hc := Lib.hid hc
  clear hc
  have H_hv := Lib.hid hv
  clear hv
  have H_h1 := Lib.hid h1
  clear h1
  have H_h3 := Lib.hid h3
  clear h3
  have H_hG := Lib.hid hG
  clear hG
  have H_im := Lib.hid im
  clear im
  have H_imA := Lib.hid imA
  clear imA
  have H_imB := Lib.hid imB
  clear imB
  have H_imC := Lib.hid imC
  clear imC
  have H_imD := Lib.hid imD
  clear imD
  have H_imE := Lib.hid imE
  clear imE
  have H_imF := Lib.hid imF
  clear imF
  have H_he1 := Lib.hid he1
  clear he1
  have H_he2 := Lib.hid he2
  clear he2
  have H_he3 := Lib.hid he3
  clear he3
  have H_hx := Lib.hid hx
  clear hx
  have H_hy := Lib.hid hy
  clear hy
  have H_hd := Lib.hid hd
  clear hd
  have H_ix := Lib.hid ix
  clear ix
  have H_iy := Lib.hid iy
  clear iy
  have H_id := Lib.hid id
  clear id
  have H_hx' := Lib.hid hx'
  clear hx'
  have H_hy' := Lib.hid hy'
  clear hy'
  have H_hd' := Lib.hid hd'
  clear hd'
  have H_he1' := Lib.hid he1'
  clear he1'
  have H_he2' := Lib.hid he2'
  clear he2'
  have H_he3' := Lib.hid he3'
  clear he3'
  go_enter Tryz.func31, Tryz.ntmps31
  go_wp2_with fail
  refine call_ew (w := w) (by repeat' (first | (with_reducible exact Below.refl _ _) | (with_reducible assumption) | (with_reducible refine bdn ?_) | (with_reducible refine Below.alloc ?_ ?_ _) | (with_reducible refine Below.drew ?_) | (with_reducible refine Below.setCell ?_ ?_ _) | omega | (simp <;> omega))) (fun HB => mcheck_any ea m _ H_im.out (gkeep HB hShape rfl) (gkeep HB hBound rfl)) ?_
  intro x1 w1 hx1 hb1 hz1 c1 d1 hW1
  have t1 := hb1.size
  try simp only [World.size_alloc] at hz1 c1 d1
  try simp only [World.size_drew] at hz1 c1 d1
  try simp only [World.size_setCell] at hz1 c1 d1
  try simp only [World.heap_drewN] at hz1 c1 d1
  try simp only [World.size_alloc] at hz1 c1 d1
  try simp only [World.size_drew] at hz1 c1 d1
  try simp only [World.size_setCell] at hz1 c1 d1
  have s1_0 : w.heap.size < w1.heap.size := by omega
  have o1_0 := fun j => c1 (w.heap.size) j (by omega)
  have f1_0 := fun j => d1 (w.heap.size) j (by omega)
  have s1_1 : w.heap.size + 1 < w1.heap.size := by omega
  have o1_1 := fun j => c1 (w.heap.size + 1) j (by omega)
  have f1_1 := fun j => d1 (w.heap.size + 1) j (by omega)
  clear c1 d1 hz1 hW1
  obtain rfl := hx1.nil H_h1.out
  go_upto_region 5 with fail
  obtain ⟨w0, hw0⟩ : ∃ u, ((w1.alloc (.cells #[.nilIface] 105)).alloc (.cells #[.pointer (some ⟨w1.heap.size, 0, none⟩)] 103)) = u := ⟨_, rfl⟩
  obtain ⟨s, hs⟩ : ∃ u, w1.heap.size = u := ⟨_, rfl⟩
  have hat0 : w0.heap[s]? = some (.cells #[evl 218 ea 0] 105 (0, 0)) := by
    rw [← hw0, ← hs, Below.heap_alloc _ _ _ (by simp), evl_0 rfl]; exact heap_alloc_new _ _
  have hB0 : Below w.heap.size w w0 := by rw [← hw0]; exact by repeat' (first | (with_reducible exact Below.refl _ _) | (with_reducible assumption) | (with_reducible refine bdn ?_) | (with_reducible refine Below.alloc ?_ ?_ _) | (with_reducible refine Below.drew ?_) | (with_reducible refine Below.setCell ?_ ?_ _) | omega | (simp <;> omega))
  have zs : w.heap.size + 1 < s := by rw [← hs]; exact s1_1
  have ls0 : w0.heap.size = s + 1 + 1 := by rw [← hw0, ← hs]; simp
  have o0 : ∀ j, w0.cell? ⟨w.heap.size, j, none⟩ = #[.int .i64 m.A.n, .int .i64 m.A.d, .int .i64 m.B.n, .int .i64 m.B.d, .int .i64 m.C.n, .int .i64 m.C.d, .int .i64 m.D.n, .int .i64 m.D.d, .int .i64 m.E.n, .int .i64 m.E.d, .int .i64 m.F.n, .int .i64 m.F.d][j]? := fun j => by rw [← hw0, World.cell?_alloc_past _ _ _ (by simp; omega), World.cell?_alloc_past _ _ _ s1_0, o1_0, World.cell?_alloc_past _ _ _ (by simp), World.cell?_alloc_at _ _ _ _ rfl]
  have o1 : ∀ j, w0.cell? ⟨w.heap.size + 1, j, none⟩ = (#[.int .i64 0, .int .i64 0, .int .i64 0, .int .i64 0, .int .i64 0, .int .i64 0, .int .i64 0, .int .i64 0, .int .i64 0, .int .i64 0, .int .i64 0, .int .i64 0] : Array Value)[j]? := fun j => by rw [← hw0, World.cell?_alloc_past _ _ _ (by simp; omega), World.cell?_alloc_past _ _ _ s1_1, o1_1, World.cell?_alloc_at _ _ _ _ (by simp)]
  have f1 : ∀ j, w0.frozen? ⟨w.heap.size + 1, j, none⟩ = false := fun j => by rw [← hw0, World.frozen?_alloc_past _ _ _ (by simp; omega), World.frozen?_alloc_past _ _ _ s1_1, f1_1, World.frozen?_alloc_at _ _ _ _ (by simp)]
  have ob : w0.cell? ⟨s + 1, 0, none⟩ = some (.pointer (some ⟨s, 0, none⟩)) := by rw [← hw0, ← hs, World.cell?_alloc_at _ _ _ _ (by simp)]; rfl
  rw [hw0, hs]
  clear o1_0 f1_0 o1_1 f1_1 s1_0 s1_1 t1 hw0 hs hx1 hb1
  clear w1
  have hsg : 20 ≤ s := by omega
  have KG := H_hG.out.keep hB0 rfl
  have hc := cell_of_one hat0
  have hf := free_of_one hat0
  have l0 : s < w0.heap.size := by omega
  have q0 : w.heap.size < w0.heap.size := by omega
  have q1 : w.heap.size + 1 < w0.heap.size := by omega
  have q2 : s + 1 < w0.heap.size := by omega
  have hb0 := But.refl hat0
  have H_KG := Lib.hid KG
  clear KG
  have H_hat0 := Lib.hid hat0
  clear hat0
  go_wp2_with fail
  refine call_s2 (w := w0) (s := s) (t := 105) (by repeat' (first | (with_reducible assumption) | (with_reducible exact But.refl (by assumption)) | (with_reducible refine But.drewN ?_) | (with_reducible refine But.alloc ?_ _) | (with_reducible refine But.drew ?_) | (with_reducible refine But.setCell ?_ ?_ _) | omega | (simp <;> omega))) (fun HB => sdo_mul ea 0 (m.A.mulK m.D) e1 s m.A m.D (m.A.mul m.D) x _ H_hx'.out H_he1'.out (fmulF ea m.A m.D H_imA.out H_imD.out) HB.at' hsg (H_KG.out.but HB hsg)) ?_
  intro w2 hb2 hz2 c2 d2 hW2
  have t2 := hb2.size
  have hs2 := hb2.here
  have hf2 := hb2.free
  have ha2 := hb2.at'
  have hl2 : s < w2.heap.size := Nat.lt_of_lt_of_le hb2.lt t2
  have hnw2_0 : ¬ w2.heap.size = s := by omega
  have hmw2_0 : ¬ s = w2.heap.size := by omega
  have hnw2_1 : ¬ w2.heap.size + 1 = s := by omega
  have hmw2_1 : ¬ s = w2.heap.size + 1 := by omega
  have hlw2_1 : s < w2.heap.size + 1 := by omega
  have hnw2_2 : ¬ w2.heap.size + 1 + 1 = s := by omega
  have hmw2_2 : ¬ s = w2.heap.size + 1 + 1 := by omega
  have hlw2_2 : s < w2.heap.size + 1 + 1 := by omega
  try simp only [World.size_alloc] at hz2 c2 d2
  try simp only [World.size_drew] at hz2 c2 d2
  try simp only [World.size_setCell] at hz2 c2 d2
  try simp only [World.heap_drewN] at hz2 c2 d2
  try simp only [World.size_alloc] at hz2 c2 d2
  try simp only [World.size_drew] at hz2 c2 d2
  try simp only [World.size_setCell] at hz2 c2 d2
  have s2_0 : w.heap.size < w2.heap.size := by omega
  have o2_0 := fun j => c2 (w.heap.size) j (by omega) (by omega)
  have f2_0 := fun j => d2 (w.heap.size) j (by omega) (by omega)
  have s2_1 : w.heap.size + 1 < w2.heap.size := by omega
  have o2_1 := fun j => c2 (w.heap.size + 1) j (by omega) (by omega)
  have f2_1 := fun j => d2 (w.heap.size + 1) j (by omega) (by omega)
  have s2_2 : s + 1 < w2.heap.size := by omega
  have o2_2 := fun j => c2 (s + 1) j (by omega) (by omega)
  have f2_2 := fun j => d2 (s + 1) j (by omega) (by omega)
  clear c2 d2 hz2
  go_wp2_with fail
  refine call_s2 (w := w0) (s := s) (t := 105) (by repeat' (first | (with_reducible assumption) | (with_reducible exact But.refl (by assumption)) | (with_reducible refine But.drewN ?_) | (with_reducible refine But.alloc ?_ _) | (with_reducible refine But.drew ?_) | (with_reducible refine But.setCell ?_ ?_ _) | omega | (simp <;> omega))) (fun HB => sdo_mul ea e1 (m.B.mulK m.C) e2 s m.B m.C (m.B.mul m.C) y _ H_hy'.out H_he2'.out (fmulF ea m.B m.C H_imB.out H_imC.out) HB.at' hsg (H_KG.out.but HB hsg)) ?_
  intro w3 hb3 hz3 c3 d3 hW3
  have t3 := hb3.size
  have hs3 := hb3.here
  have hf3 := hb3.free
  have ha3 := hb3.at'
  have hl3 : s < w3.heap.size := Nat.lt_of_lt_of_le hb3.lt t3
  have hnw3_0 : ¬ w3.heap.size = s := by omega
  have hmw3_0 : ¬ s = w3.heap.size := by omega
  have hnw3_1 : ¬ w3.heap.size + 1 = s := by omega
  have hmw3_1 : ¬ s = w3.heap.size + 1 := by omega
  have hlw3_1 : s < w3.heap.size + 1 := by omega
  have hnw3_2 : ¬ w3.heap.size + 1 + 1 = s := by omega
  have hmw3_2 : ¬ s = w3.heap.size + 1 + 1 := by omega
  have hlw3_2 : s < w3.heap.size + 1 + 1 := by omega
  try simp only [World.size_alloc] at hz3 c3 d3
  try simp only [World.size_drew] at hz3 c3 d3
  try simp only [World.size_setCell] at hz3 c3 d3
  try simp only [World.heap_drewN] at hz3 c3 d3
  try simp only [World.size_alloc] at hz3 c3 d3
  try simp only [World.size_drew] at hz3 c3 d3
  try simp only [World.size_setCell] at hz3 c3 d3
  have s3_0 : w.heap.size < w3.heap.size := by omega
  have o3_0 := fun j => c3 (w.heap.size) j (by omega) (by omega)
  have f3_0 := fun j => d3 (w.heap.size) j (by omega) (by omega)
  have s3_1 : w.heap.size + 1 < w3.heap.size := by omega
  have o3_1 := fun j => c3 (w.heap.size + 1) j (by omega) (by omega)
  have f3_1 := fun j => d3 (w.heap.size + 1) j (by omega) (by omega)
  have s3_2 : s + 1 < w3.heap.size := by omega
  have o3_2 := fun j => c3 (s + 1) j (by omega) (by omega)
  have f3_2 := fun j => d3 (s + 1) j (by omega) (by omega)
  have s3_3 : w2.heap.size < w3.heap.size := by omega
  have o3_3 := fun j => c3 (w2.heap.size) j (by omega) (by omega)
  have f3_3 := fun j => d3 (w2.heap.size) j (by omega) (by omega)
  clear c3 d3 hz3
  go_wp2_with fail
  refine call_s2 (w := w0) (s := s) (t := 105) (by repeat' (first | (with_reducible assumption) | (with_reducible exact But.refl (by assumption)) | (with_reducible refine But.drewN ?_) | (with_reducible refine But.alloc ?_ _) | (with_reducible refine But.drew ?_) | (with_reducible refine But.setCell ?_ ?_ _) | omega | (simp <;> omega))) (fun HB => sdo_sub ea e2 (x.subK y) e3 s x y (x.sub y) d _ H_hd'.out H_he3'.out (fsubF ea x y H_ix.out H_iy.out) HB.at' hsg (H_KG.out.but HB hsg)) ?_
  intro w4 hb4 hz4 c4 d4 hW4
  have t4 := hb4.size
  have hs4 := hb4.here
  have hf4 := hb4.free
  have ha4 := hb4.at'
  have hl4 : s < w4.heap.size := Nat.lt_of_lt_of_le hb4.lt t4
  have hnw4_0 : ¬ w4.heap.size = s := by omega
  have hmw4_0 : ¬ s = w4.heap.size := by omega
  have hnw4_1 : ¬ w4.heap.size + 1 = s := by omega
  have hmw4_1 : ¬ s = w4.heap.size + 1 := by omega
  have hlw4_1 : s < w4.heap.size + 1 := by omega
  have hnw4_2 : ¬ w4.heap.size + 1 + 1 = s := by omega
  have hmw4_2 : ¬ s = w4.heap.size + 1 + 1 := by omega
  have hlw4_2 : s < w4.heap.size + 1 + 1 := by omega
  try simp only [World.size_alloc] at hz4 c4 d4
  try simp only [World.size_drew] at hz4 c4 d4
  try simp only [World.size_setCell] at hz4 c4 d4
  try simp only [World.heap_drewN] at hz4 c4 d4
  try simp only [World.size_alloc] at hz4 c4 d4
  try simp only [World.size_drew] at hz4 c4 d4
  try simp only [World.size_setCell] at hz4 c4 d4
  have s4_0 : w.heap.size < w4.heap.size := by omega
  have o4_0 := fun j => c4 (w.heap.size) j (by omega) (by omega)
  have f4_0 := fun j => d4 (w.heap.size) j (by omega) (by omega)
  have s4_1 : w.heap.size + 1 < w4.heap.size := by omega
  have o4_1 := fun j => c4 (w.heap.size + 1) j (by omega) (by omega)
  have f4_1 := fun j => d4 (w.heap.size + 1) j (by omega) (by omega)
  have s4_2 : s + 1 < w4.heap.size := by omega
  have o4_2 := fun j => c4 (s + 1) j (by omega) (by omega)
  have f4_2 := fun j => d4 (s + 1) j (by omega) (by omega)
  have s4_3 : w2.heap.size < w4.heap.size := by omega
  have o4_3 := fun j => c4 (w2.heap.size) j (by omega) (by omega)
  have f4_3 := fun j => d4 (w2.heap.size) j (by omega) (by omega)
  have s4_4 : w3.heap.size < w4.heap.size := by omega
  have o4_4 := fun j => c4 (w3.heap.size) j (by omega) (by omega)
  have f4_4 := fun j => d4 (w3.heap.size) j (by omega) (by omega)
  clear c4 d4 hz4
  rw [evl_n H_h3.out] at hs4
  have hB4 : Below w.heap.size w w4 := hB0.trans (hb4.toBelow (by omega) (by omega))
  have s2 : w.heap.size + 1 < w4.heap.size := Nat.lt_of_lt_of_le q1 hb4.size
  have o2' := fun j => (hb4.cell (w.heap.size + 1) j q1 (by omega)).trans (o1 j)
  have SKB : ∀ W, Below w.heap.size w W → W.cell? ⟨1, 0, none⟩ = some (.iface 218 (.pointer (some (ea 2)))) := fun W h => gkeep h hBound rfl
  have H_SKB := Lib.hid SKB
  clear SKB
  go_wp2_with fail
  go_region_held3 (fun W => W.cell? ⟨1, 0, none⟩ = some (.iface 218 (.pointer (some (ea 2))))) (exact H_SKB.out _ (by repeat' (first | (with_reducible exact Below.refl _ _) | (with_reducible assumption) | (with_reducible refine bdn ?_) | (with_reducible refine Below.alloc ?_ ?_ _) | (with_reducible refine Below.drew ?_) | (with_reducible refine Below.setCell ?_ ?_ _) | omega | (simp <;> omega)))) (fail)
  all_goals
    (try go_simp)
    (repeat go_step)
    with_reducible refine bodyPost_ret (res_back3 _ _ (w.heap.size + 1) _ _ _ _ _ _ _ _ _ _ _ _ ?hp (set12ad s2 o2' _ _ _ _ _ _ _ _ _ _ _ _)) rfl ?_
    case hp => simp
    exact ⟨_, rfl, (evl_n (by decide)).symm, by repeat' (first | (with_reducible exact Below.refl _ _) | (with_reducible assumption) | (with_reducible refine bdn ?_) | (with_reducible refine Below.alloc ?_ ?_ _) | (with_reducible refine Below.drew ?_) | (with_reducible refine Below.setCell ?_ ?_ _) | omega | (simp <;> omega))⟩
set_option maxHeartbeats 4000000 in
set_option maxRecDepth 100000 in
theorem mback_e3 (ea : Nat → Addr) (m : Mv) (w : World) (im : m.I) (hG : Gs true ea w) (hsz : 20 ≤ w.heap.size) (h1 : m.c = (0, none)) (h3 : bk3 m = 0) (h4 : (bkd m).n = 0) (hc : backC m = (11, none)) :
    Calls Tryz.prog 31 #[.agg #[.int .i64 m.A.n, .int .i64 m.A.d, .int .i64 m.B.n, .int .i64 m.B.d, .int .i64 m.C.n, .int .i64 m.C.d, .int .i64 m.D.n, .int .i64 m.D.d, .int .i64 m.E.n, .int .i64 m.E.d, .int .i64 m.F.n, .int .i64 m.F.d]] w (RetME 218 95 ea (backC m) (backV m) w) := by
  have hZero := hG.c11
  have zhZero := zlt hZero
  have xhZero := zlts hZero
  have yhZero := zne hZero
  have hBound := hG.c2
  have hShape := hG.c3
  have zhShape := zlt hShape
  have xhShape := zlts hShape
  have yhShape := zne hShape
  have zhBound := zlt hBound
  have xhBound := zlts hBound
  have yhBound := zne hBound
  have imA := im.A
  have imB := im.B
  have imC := im.C
  have imD := im.D
  have imE := im.E
  have imF := im.F
  obtain ⟨e1, he1⟩ : ∃ z, bk1 m = z := ⟨_, rfl⟩
  obtain ⟨e2, he2⟩ : ∃ z, bk2 m = z := ⟨_, rfl⟩
  obtain ⟨e3, he3⟩ : ∃ z, bk3 m = z := ⟨_, rfl⟩
  obtain ⟨x, hx⟩ : ∃ z, bkx m = z := ⟨_, rfl⟩
  obtain ⟨y, hy⟩ : ∃ z, bky m = z := ⟨_, rfl⟩
  obtain ⟨d, hd⟩ : ∃ z, bkd m = z := ⟨_, rfl⟩
  have ix : x.I := by rw [← hx]; exact dV_I mulK_R
  have iy : y.I := by rw [← hy]; exact dV_I mulK_R
  have id : d.I := by rw [← hd]; exact dV_I subK_R
  have hx' : dV 0 (m.A.mulK m.D) (m.A.mul m.D) = x := hx
  have hy' : dV e1 (m.B.mulK m.C) (m.B.mul m.C) = y := by rw [← he1]; exact hy
  have hd' : dV e2 (x.subK y) (x.sub y) = d := by rw [← he2, ← hx, ← hy]; exact hd
  have he1' : dE 0 (m.A.mulK m.D) = e1 := he1
  have he2' : dE e1 (m.B.mulK m.C) = e2 := by rw [← he1]; exact he2
  have he3' : dE e2 (x.subK y) = e3 := by rw [← he2, ← hx, ← hy]; exact he3
  rw [he3] at h3
  rw [hd] at h4
  have h4' : (d.n == 0) = true := by simp [h4]
  have hv := backV_n (m := m) (by rw [hc]; decide)
  rw [hv, hc]
  unfold zMv
  clear h4
  have H_hc := Lib.hid hc
  clear hc
  have H_hv := Lib.hid hv
  clear hv
  have H_h1 := Lib.hid h1
  clear h1
  have H_h3 := Lib.hid h3
  clear h3
  have H_hG := Lib.hid hG
  clear hG
  have H_im := Lib.hid im
  clear im
  have H_imA := Lib.hid imA
  clear imA
  have H_imB := Lib.hid imB
  clear imB
  have H_imC := Lib.hid imC
  clear imC
  have H_imD := Lib.hid imD
  clear imD
  have H_imE := Lib.hid imE
  clear imE
  have H_imF := Lib.hid imF
  clear imF
  have H_he1 := Lib.hid he1
  clear he1
  have H_he2 := Lib.hid he2
  clear he2
  have H_he3 := Lib.hid he3
  clear he3
  have H_hx := Lib.hid hx
  clear hx
  have H_hy := Lib.hid hy
  clear hy
  have H_hd := Lib.hid hd
  clear hd
  have H_ix := Lib.hid ix
  clear ix
  have H_iy := Lib.hid iy
  clear iy
  have H_id := Lib.hid id
  clear id
  have H_hx' := Lib.hid hx'
  clear hx'
  have H_hy' := Lib.hid hy'
  clear hy'
  have H_hd' := Lib.hid hd'
  clear hd'
  have H_he1' := Lib.hid he1'
  clear he1'
  have H_he2' := Lib.hid he2'
  clear he2'
  have H_he3' := Lib.hid he3'
  clear he3'
  go_enter Tryz.func31, Tryz.ntmps31
  go_wp2_with fail
  refine call_ew (w := w) (by repeat' (first | (with_reducible exact Below.refl _ _) | (with_reducible assumption) | (with_reducible refine bdn ?_) | (with_reducible refine Below.alloc ?_ ?_ _) | (with_reducible refine Below.drew ?_) | (with_reducible refine Below.setCell ?_ ?_ _) | omega | (simp <;> omega))) (fun HB => mcheck_any ea m _ H_im.out (gkeep HB hShape rfl) (gkeep HB hBound rfl)) ?_
  intro x1 w1 hx1 hb1 hz1 c1 d1 hW1
  have t1 := hb1.size
  try simp only [World.size_alloc] at hz1 c1 d1
  try simp only [World.size_drew] at hz1 c1 d1
  try simp only [World.size_setCell] at hz1 c1 d1
  try simp only [World.heap_drewN] at hz1 c1 d1
  try simp only [World.size_alloc] at hz1 c1 d1
  try simp only [World.size_drew] at hz1 c1 d1
  try simp only [World.size_setCell] at hz1 c1 d1
  have s1_0 : w.heap.size < w1.heap.size := by omega
  have o1_0 := fun j => c1 (w.heap.size) j (by omega)
  have f1_0 := fun j => d1 (w.heap.size) j (by omega)
  have s1_1 : w.heap.size + 1 < w1.heap.size := by omega
  have o1_1 := fun j => c1 (w.heap.size + 1) j (by omega)
  have f1_1 := fun j => d1 (w.heap.size + 1) j (by omega)
  clear c1 d1 hz1 hW1
  obtain rfl := hx1.nil H_h1.out
  go_upto_region 5 with fail
  obtain ⟨w0, hw0⟩ : ∃ u, ((w1.alloc (.cells #[.nilIface] 105)).alloc (.cells #[.pointer (some ⟨w1.heap.size, 0, none⟩)] 103)) = u := ⟨_, rfl⟩
  obtain ⟨s, hs⟩ : ∃ u, w1.heap.size = u := ⟨_, rfl⟩
  have hat0 : w0.heap[s]? = some (.cells #[evl 218 ea 0] 105 (0, 0)) := by
    rw [← hw0, ← hs, Below.heap_alloc _ _ _ (by simp), evl_0 rfl]; exact heap_alloc_new _ _
  have hB0 : Below w.heap.size w w0 := by rw [← hw0]; exact by repeat' (first | (with_reducible exact Below.refl _ _) | (with_reducible assumption) | (with_reducible refine bdn ?_) | (with_reducible refine Below.alloc ?_ ?_ _) | (with_reducible refine Below.drew ?_) | (with_reducible refine Below.setCell ?_ ?_ _) | omega | (simp <;> omega))
  have zs : w.heap.size + 1 < s := by rw [← hs]; exact s1_1
  have ls0 : w0.heap.size = s + 1 + 1 := by rw [← hw0, ← hs]; simp
  have o0 : ∀ j, w0.cell? ⟨w.heap.size, j, none⟩ = #[.int .i64 m.A.n, .int .i64 m.A.d, .int .i64 m.B.n, .int .i64 m.B.d, .int .i64 m.C.n, .int .i64 m.C.d, .int .i64 m.D.n, .int .i64 m.D.d, .int .i64 m.E.n, .int .i64 m.E.d, .int .i64 m.F.n, .int .i64 m.F.d][j]? := fun j => by rw [← hw0, World.cell?_alloc_past _ _ _ (by simp; omega), World.cell?_alloc_past _ _ _ s1_0, o1_0, World.cell?_alloc_past _ _ _ (by simp), World.cell?_alloc_at _ _ _ _ rfl]
  have o1 : ∀ j, w0.cell? ⟨w.heap.size + 1, j, none⟩ = (#[.int .i64 0, .int .i64 0, .int .i64 0, .int .i64 0, .int .i64 0, .int .i64 0, .int .i64 0, .int .i64 0, .int .i64 0, .int .i64 0, .int .i64 0, .int .i64 0] : Array Value)[j]? := fun j => by rw [← hw0, World.cell?_alloc_past _ _ _ (by simp; omega), World.cell?_alloc_past _ _ _ s1_1, o1_1, World.cell?_alloc_at _ _ _ _ (by simp)]
  have f1 : ∀ j, w0.frozen? ⟨w.heap.size + 1, j, none⟩ = false := fun j => by rw [← hw0, World.frozen?_alloc_past _ _ _ (by simp; omega), World.frozen?_alloc_past _ _ _ s1_1, f1_1, World.frozen?_alloc_at _ _ _ _ (by simp)]
  have ob : w0.cell? ⟨s + 1, 0, none⟩ = some (.pointer (some ⟨s, 0, none⟩)) := by rw [← hw0, ← hs, World.cell?_alloc_at _ _ _ _ (by simp)]; rfl
  rw [hw0, hs]
  clear o1_0 f1_0 o1_1 f1_1 s1_0 s1_1 t1 hw0 hs hx1 hb1
  clear w1
  have hsg : 20 ≤ s := by omega
  have KG := H_hG.out.keep hB0 rfl
  have hc := cell_of_one hat0
  have hf := free_of_one hat0
  have l0 : s < w0.heap.size := by omega
  have q0 : w.heap.size < w0.heap.size := by omega
  have q1 : w.heap.size + 1 < w0.heap.size := by omega
  have q2 : s + 1 < w0.heap.size := by omega
  have hb0 := But.refl hat0
  have H_KG := Lib.hid KG
  clear KG
  have H_hat0 := Lib.hid hat0
  clear hat0
  go_wp2_with fail
  refine call_s2 (w := w0) (s := s) (t := 105) (by repeat' (first | (with_reducible assumption) | (with_reducible exact But.refl (by assumption)) | (with_reducible refine But.drewN ?_) | (with_reducible refine But.alloc ?_ _) | (with_reducible refine But.drew ?_) | (with_reducible refine But.setCell ?_ ?_ _) | omega | (simp <;> omega))) (fun HB => sdo_mul ea 0 (m.A.mulK m.D) e1 s m.A m.D (m.A.mul m.D) x _ H_hx'.out H_he1'.out (fmulF ea m.A m.D H_imA.out H_imD.out) HB.at' hsg (H_KG.out.but HB hsg)) ?_
  intro w2 hb2 hz2 c2 d2 hW2
  have t2 := hb2.size
  have hs2 := hb2.here
  have hf2 := hb2.free
  have ha2 := hb2.at'
  have hl2 : s < w2.heap.size := Nat.lt_of_lt_of_le hb2.lt t2
  have hnw2_0 : ¬ w2.heap.size = s := by omega
  have hmw2_0 : ¬ s = w2.heap.size := by omega
  have hnw2_1 : ¬ w2.heap.size + 1 = s := by omega
  have hmw2_1 : ¬ s = w2.heap.size + 1 := by omega
  have hlw2_1 : s < w2.heap.size + 1 := by omega
  have hnw2_2 : ¬ w2.heap.size + 1 + 1 = s := by omega
  have hmw2_2 : ¬ s = w2.heap.size + 1 + 1 := by omega
  have hlw2_2 : s < w2.heap.size + 1 + 1 := by omega
  try simp only [World.size_alloc] at hz2 c2 d2
  try simp only [World.size_drew] at hz2 c2 d2
  try simp only [World.size_setCell] at hz2 c2 d2
  try simp only [World.heap_drewN] at hz2 c2 d2
  try simp only [World.size_alloc] at hz2 c2 d2
  try simp only [World.size_drew] at hz2 c2 d2
  try simp only [World.size_setCell] at hz2 c2 d2
  have s2_0 : w.heap.size < w2.heap.size := by omega
  have o2_0 := fun j => c2 (w.heap.size) j (by omega) (by omega)
  have f2_0 := fun j => d2 (w.heap.size) j (by omega) (by omega)
  have s2_1 : w.heap.size + 1 < w2.heap.size := by omega
  have o2_1 := fun j => c2 (w.heap.size + 1) j (by omega) (by omega)
  have f2_1 := fun j => d2 (w.heap.size + 1) j (by omega) (by omega)
  have s2_2 : s + 1 < w2.heap.size := by omega
  have o2_2 := fun j => c2 (s + 1) j (by omega) (by omega)
  have f2_2 := fun j => d2 (s + 1) j (by omega) (by omega)
  clear c2 d2 hz2
  go_wp2_with fail
  refine call_s2 (w := w0) (s := s) (t := 105) (by repeat' (first | (with_reducible assumption) | (with_reducible exact But.refl (by assumption)) | (with_reducible refine But.drewN ?_) | (with_reducible refine But.alloc ?_ _) | (with_reducible refine But.drew ?_) | (with_reducible refine But.setCell ?_ ?_ _) | omega | (simp <;> omega))) (fun HB => sdo_mul ea e1 (m.B.mulK m.C) e2 s m.B m.C (m.B.mul m.C) y _ H_hy'.out H_he2'.out (fmulF ea m.B m.C H_imB.out H_imC.out) HB.at' hsg (H_KG.out.but HB hsg)) ?_
  intro w3 hb3 hz3 c3 d3 hW3
  have t3 := hb3.size
  have hs3 := hb3.here
  have hf3 := hb3.free
  have ha3 := hb3.at'
  have hl3 : s < w3.heap.size := Nat.lt_of_lt_of_le hb3.lt t3
  have hnw3_0 : ¬ w3.heap.size = s := by omega
  have hmw3_0 : ¬ s = w3.heap.size := by omega
  have hnw3_1 : ¬ w3.heap.size + 1 = s := by omega
  have hmw3_1 : ¬ s = w3.heap.size + 1 := by omega
  have hlw3_1 : s < w3.heap.size + 1 := by omega
  have hnw3_2 : ¬ w3.heap.size + 1 + 1 = s := by omega
  have hmw3_2 : ¬ s = w3.heap.size + 1 + 1 := by omega
  have hlw3_2 : s < w3.heap.size + 1 + 1 := by omega
  try simp only [World.size_alloc] at hz3 c3 d3
  try simp only [World.size_drew] at hz3 c3 d3
  try simp only [World.size_setCell] at hz3 c3 d3
  try simp only [World.heap_drewN] at hz3 c3 d3
  try simp only [World.size_alloc] at hz3 c3 d3
  try simp only [World.size_drew] at hz3 c3 d3
  try simp only [World.size_setCell] at hz3 c3 d3
  have s3_0 : w.heap.size < w3.heap.size := by omega
  have o3_0 := fun j => c3 (w.heap.size) j (by omega) (by omega)
  have f3_0 := fun j => d3 (w.heap.size) j (by omega) (by omega)
  have s3_1 : w.heap.size + 1 < w3.heap.size := by omega
  have o3_1 := fun j => c3 (w.heap.size + 1) j (by omega) (by omega)
  have f3_1 := fun j => d3 (w.heap.size + 1) j (by omega) (by omega)
  have s3_2 : s + 1 < w3.heap.size := by omega
  have o3_2 := fun j => c3 (s + 1) j (by omega) (by omega)
  have f3_2 := fun j => d3 (s + 1) j (by omega) (by omega)
  have s3_3 : w2.heap.size < w3.heap.size := by omega
  have o3_3 := fun j => c3 (w2.heap.size) j (by omega) (by omega)
  have f3_3 := fun j => d3 (w2.heap.size) j (by omega) (by omega)
  clear c3 d3 hz3
  go_wp2_with fail
  refine call_s2 (w := w0) (s := s) (t := 105) (by repeat' (first | (with_reducible assumption) | (with_reducible exact But.refl (by assumption)) | (with_reducible refine But.drewN ?_) | (with_reducible refine But.alloc ?_ _) | (with_reducible refine But.drew ?_) | (with_reducible refine But.setCell ?_ ?_ _) | omega | (simp <;> omega))) (fun HB => sdo_sub ea e2 (x.subK y) e3 s x y (x.sub y) d _ H_hd'.out H_he3'.out (fsubF ea x y H_ix.out H_iy.out) HB.at' hsg (H_KG.out.but HB hsg)) ?_
  intro w4 hb4 hz4 c4 d4 hW4
  have t4 := hb4.size
  have hs4 := hb4.here
  have hf4 := hb4.free
  have ha4 := hb4.at'
  have hl4 : s < w4.heap.size := Nat.lt_of_lt_of_le hb4.lt t4
  have hnw4_0 : ¬ w4.heap.size = s := by omega
  have hmw4_0 : ¬ s = w4.heap.size := by omega
  have hnw4_1 : ¬ w4.heap.size + 1 = s := by omega
  have hmw4_1 : ¬ s = w4.heap.size + 1 := by omega
  have hlw4_1 : s < w4.heap.size + 1 := by omega
  have hnw4_2 : ¬ w4.heap.size + 1 + 1 = s := by omega
  have hmw4_2 : ¬ s = w4.heap.size + 1 + 1 := by omega
  have hlw4_2 : s < w4.heap.size + 1 + 1 := by omega
  try simp only [World.size_alloc] at hz4 c4 d4
  try simp only [World.size_drew] at hz4 c4 d4
  try simp only [World.size_setCell] at hz4 c4 d4
  try simp only [World.heap_drewN] at hz4 c4 d4
  try simp only [World.size_alloc] at hz4 c4 d4
  try simp only [World.size_drew] at hz4 c4 d4
  try simp only [World.size_setCell] at hz4 c4 d4
  have s4_0 : w.heap.size < w4.heap.size := by omega
  have o4_0 := fun j => c4 (w.heap.size) j (by omega) (by omega)
  have f4_0 := fun j => d4 (w.heap.size) j (by omega) (by omega)
  have s4_1 : w.heap.size + 1 < w4.heap.size := by omega
  have o4_1 := fun j => c4 (w.heap.size + 1) j (by omega) (by omega)
  have f4_1 := fun j => d4 (w.heap.size + 1) j (by omega) (by omega)
  have s4_2 : s + 1 < w4.heap.size := by omega
  have o4_2 := fun j => c4 (s + 1) j (by omega) (by omega)
  have f4_2 := fun j => d4 (s + 1) j (by omega) (by omega)
  have s4_3 : w2.heap.size < w4.heap.size := by omega
  have o4_3 := fun j => c4 (w2.heap.size) j (by omega) (by omega)
  have f4_3 := fun j => d4 (w2.heap.size) j (by omega) (by omega)
  have s4_4 : w3.heap.size < w4.heap.size := by omega
  have o4_4 := fun j => c4 (w3.heap.size) j (by omega) (by omega)
  have f4_4 := fun j => d4 (w3.heap.size) j (by omega) (by omega)
  clear c4 d4 hz4
  rw [evl_0 H_h3.out] at hs4
  have hB4 : Below w.heap.size w w4 := hB0.trans (hb4.toBelow (by omega) (by omega))
  have s2 : w.heap.size + 1 < w4.heap.size := Nat.lt_of_lt_of_le q1 hb4.size
  have o2' := fun j => (hb4.cell (w.heap.size + 1) j q1 (by omega)).trans (o1 j)
  have SKB : ∀ W, Below w.heap.size w W → W.cell? ⟨2, 0, none⟩ = some (.iface 218 (.pointer (some (ea 11)))) := fun W h => gkeep h hZero rfl
  have H_SKB := Lib.hid SKB
  clear SKB
  go_wp2_with fail
  go_region_held3 (fun W => W.cell? ⟨2, 0, none⟩ = some (.iface 218 (.pointer (some (ea 11))))) (exact H_SKB.out _ (by repeat' (first | (with_reducible exact Below.refl _ _) | (with_reducible assumption) | (with_reducible refine bdn ?_) | (with_reducible refine Below.alloc ?_ ?_ _) | (with_reducible refine Below.drew ?_) | (with_reducible refine Below.setCell ?_ ?_ _) | omega | (simp <;> omega)))) (fail)
  all_goals
    (try go_simp)
    (repeat go_step)
    with_reducible refine bodyPost_ret (res_back3 _ _ (w.heap.size + 1) _ _ _ _ _ _ _ _ _ _ _ _ ?hp (set12ad s2 o2' _ _ _ _ _ _ _ _ _ _ _ _)) rfl ?_
    case hp => simp
    exact ⟨_, rfl, (evl_n (by decide)).symm, by repeat' (first | (with_reducible exact Below.refl _ _) | (with_reducible assumption) | (with_reducible refine bdn ?_) | (with_reducible refine Below.alloc ?_ ?_ _) | (with_reducible refine Below.drew ?_) | (with_reducible refine Below.setCell ?_ ?_ _) | omega | (simp <;> omega))⟩
end Go.Proofs.YtbekidefgdijkaaGreatDoor
