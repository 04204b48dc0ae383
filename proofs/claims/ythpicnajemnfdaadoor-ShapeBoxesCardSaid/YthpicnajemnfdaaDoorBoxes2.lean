/-
  The walk over the statement ShapeBoxes: a box, and a point.
-/
import Derived.Test.YthpicnajemnfdaaDoorBoxes1
namespace Go.Proofs.YthpicnajemnfdaaDoor
open Go.RowKit Lead

theorem box_form {w : World} {base : Nat} {e : TypeId} {v : Value} {x y u h : Fr} (hv : OwnP w base e v (boxP x y u h)) (hI : ∀ p ∈ boxP x y u h, p.I) :
    ∃ g cap, v = .slice (some ⟨g, 0, none⟩) 4 cap ∧ base ≤ g ∧ g < w.heap.size ∧ SlP w (some ⟨g, 0, none⟩) 4 cap (boxP x y u h) ∧ w.cell? ⟨g, 8, none⟩ = some (.int .i64 (x.add u).n) ∧ w.cell? ⟨g, 9, none⟩ = some (.int .i64 (x.add u).d) ∧
      w.cell? ⟨g, 10, none⟩ = some (.int .i64 (y.add h).n) ∧ w.cell? ⟨g, 11, none⟩ = some (.int .i64 (y.add h).d) := by
  rcases hv.form with ⟨_, hnil⟩ | ⟨g, cap, rfl, hgb, hgl, hgc, hgm, hgp⟩
  · cases hnil
  · refine ⟨g, cap, rfl, hgb, hgl, ⟨rfl, hgc, hgm, hI, .inr ⟨g, 0, rfl, hgl, hgp⟩⟩, ?_, ?_, ?_, ?_⟩
    · exact hgp.c0 2 (show 2 < 4 by decide)
    · exact hgp.c1 2 (show 2 < 4 by decide)
    · exact hgp.c2 2 (show 2 < 4 by decide)
    · exact hgp.c3 2 (show 2 < 4 by decide)

theorem rcmp_c (n d n' d' x y c : Int) (w : World) (h : Right n d) (h' : Right n' d') (hx : n * d' = x) (hy : n' * d = y) (hc : cmpI x y = c) :
    Calls Tryd.prog 18 #[.agg #[.int .i64 n, .int .i64 d], .agg #[.int .i64 n', .int .i64 d']] w fun e w' => e = .returned (.int .i64 c) ∧ Below w.heap.size w w' := by
  subst hc; exact rfraccmp_any n d n' d' x y w h h' hx hy

set_option maxHeartbeats 4000000 in
theorem boxes_m1 (ea : Nat → Addr) (x y u h : Fr) (p : Pt) (w : World) (hx : x.I) (hy : y.I) (hu : u.I) (hh : h.I) (hp : p.I) (hPI : ∀ q ∈ boxP x y u h, q.I) (rx : x.R) (ry : y.R) (rr : (x.add u).R) (rb : (y.add h).R) (hpo : PtOk p) (hShape : w.cell? ⟨2, 0, none⟩ = some (.iface 87 (.pointer (some (ea 3))))) (hBound : w.cell? ⟨1, 0, none⟩ = some (.iface 87 (.pointer (some (ea 2)))))
    (hc : boxC x y u h = (0, none)) (hL : boxL x y u h = boxP x y u h) (hpc : p.c = 0) (hn : ¬ u.n < 0) (hn2 : ¬ h.n < 0) (bb : Bool) (c1 c2 c3 c4 : Int) (hC : crC (boxP x y u h) p = (0, none)) (hW : ((crL (boxP x y u h) p).sum != 0) = bb) (hE : (((crL (boxP x y u h) p).length : Int) % 2 == 1) = bb)
    (hc1 : cmpI (x.n * p.xd) (p.xn * x.d) = c1) (hc2 : cmpI (p.xn * (x.add u).d) ((x.add u).n * p.xd) = c2) (hc3 : cmpI (y.n * p.yd) (p.yn * y.d) = c3) (hc4 : cmpI (p.yn * (y.add h).d) ((y.add h).n * p.yd) = c4) (g1 : ¬ c1 ≤ 0) (hb : bb = false) :
    Calls Tryd.prog 4 #[.agg #[.int .i64 x.n, .int .i64 x.d], .agg #[.int .i64 y.n, .int .i64 y.d], .agg #[.int .i64 u.n, .int .i64 u.d], .agg #[.int .i64 h.n, .int .i64 h.d], .agg #[.int .i64 p.xn, .int .i64 p.xd, .int .i64 p.yn, .int .i64 p.yd]] w fun e w' => e = .returned (.bool true) ∧ Below w.heap.size w w' := by
  subst hb
  have zhShape := zlt hShape
  have xhShape := zlts hShape
  have yhShape := zne hShape
  have zhBound := zlt hBound
  have xhBound := zlts hBound
  have yhBound := zne hBound
  have H_hx := Lib.hid hx
  clear hx
  have H_hy := Lib.hid hy
  clear hy
  have H_hu := Lib.hid hu
  clear hu
  have H_hh := Lib.hid hh
  clear hh
  have H_hp := Lib.hid hp
  clear hp
  have H_hPI := Lib.hid hPI
  clear hPI
  have H_rx := Lib.hid rx
  clear rx
  have H_ry := Lib.hid ry
  clear ry
  have H_rr := Lib.hid rr
  clear rr
  have H_rb := Lib.hid rb
  clear rb
  have H_hpo := Lib.hid hpo
  clear hpo
  have H_hc := Lib.hid hc
  clear hc
  have H_hL := Lib.hid hL
  clear hL
  have H_hC := Lib.hid hC
  clear hC
  have H_hW := Lib.hid hW
  clear hW
  have H_hE := Lib.hid hE
  clear hE
  have H_hc1 := Lib.hid hc1
  clear hc1
  have H_hc2 := Lib.hid hc2
  clear hc2
  have H_hc3 := Lib.hid hc3
  clear hc3
  have H_hc4 := Lib.hid hc4
  clear hc4
  go_enter Tryd.func4, Tryd.ntmps4
  go_wp2_with fail
  refine call_bel (w := w) (by repeat' (first | (with_reducible exact Below.refl _ _) | (with_reducible assumption) | (with_reducible refine bdn ?_) | (with_reducible refine Below.alloc ?_ ?_ _) | (with_reducible refine Below.drew ?_) | (with_reducible refine Below.setCell ?_ ?_ _) | omega | (simp <;> omega))) (fun HB => shaped_any ea _ (gkeep HB hShape rfl) (gkeep HB hBound rfl)) ?_
  intro w1 hb1 hz1 c1 d1 hW1
  have t1 := hb1.size
  try simp only [World.size_alloc] at hz1 c1 d1
  try simp only [World.size_drew] at hz1 c1 d1
  try simp only [World.size_setCell] at hz1 c1 d1
  try simp only [World.heap_drewN] at hz1 c1 d1
  have s1_0 : w.heap.size < w1.heap.size := by omega
  have o1_0 := fun j => c1 (w.heap.size) j (by omega)
  have f1_0 := fun j => d1 (w.heap.size) j (by omega)
  have s1_1 : w.heap.size + 1 < w1.heap.size := by omega
  have o1_1 := fun j => c1 (w.heap.size + 1) j (by omega)
  have f1_1 := fun j => d1 (w.heap.size + 1) j (by omega)
  have s1_2 : w.heap.size + 1 + 1 < w1.heap.size := by omega
  have o1_2 := fun j => c1 (w.heap.size + 1 + 1) j (by omega)
  have f1_2 := fun j => d1 (w.heap.size + 1 + 1) j (by omega)
  have s1_3 : w.heap.size + 1 + 1 + 1 < w1.heap.size := by omega
  have o1_3 := fun j => c1 (w.heap.size + 1 + 1 + 1) j (by omega)
  have f1_3 := fun j => d1 (w.heap.size + 1 + 1 + 1) j (by omega)
  have s1_4 : w.heap.size + 1 + 1 + 1 + 1 < w1.heap.size := by omega
  have o1_4 := fun j => c1 (w.heap.size + 1 + 1 + 1 + 1) j (by omega)
  have f1_4 := fun j => d1 (w.heap.size + 1 + 1 + 1 + 1) j (by omega)
  clear c1 d1 hz1 hW1
  go_wp2_with fail
  refine call_pe (w := w) (by repeat' (first | (with_reducible exact Below.refl _ _) | (with_reducible assumption) | (with_reducible refine bdn ?_) | (with_reducible refine Below.alloc ?_ ?_ _) | (with_reducible refine Below.drew ?_) | (with_reducible refine Below.setCell ?_ ?_ _) | omega | (simp <;> omega))) (fun HB => shbox_any ea x y u h _ H_hx.out H_hy.out H_hu.out H_hh.out (gkeep HB hShape rfl) (gkeep HB hBound rfl)) ?_
  rw [H_hL.out, H_hc.out]
  intro v2 x2 w2 hx2 hb2 hz2 c2 d2 hW2
  have t2 := hb2.size
  try simp only [World.size_alloc] at hz2 c2 d2
  try simp only [World.size_drew] at hz2 c2 d2
  try simp only [World.size_setCell] at hz2 c2 d2
  try simp only [World.heap_drewN] at hz2 c2 d2
  have s2_0 : w.heap.size < w2.heap.size := by omega
  have o2_0 := fun j => c2 (w.heap.size) j (by omega)
  have f2_0 := fun j => d2 (w.heap.size) j (by omega)
  have s2_1 : w.heap.size + 1 < w2.heap.size := by omega
  have o2_1 := fun j => c2 (w.heap.size + 1) j (by omega)
  have f2_1 := fun j => d2 (w.heap.size + 1) j (by omega)
  have s2_2 : w.heap.size + 1 + 1 < w2.heap.size := by omega
  have o2_2 := fun j => c2 (w.heap.size + 1 + 1) j (by omega)
  have f2_2 := fun j => d2 (w.heap.size + 1 + 1) j (by omega)
  have s2_3 : w.heap.size + 1 + 1 + 1 < w2.heap.size := by omega
  have o2_3 := fun j => c2 (w.heap.size + 1 + 1 + 1) j (by omega)
  have f2_3 := fun j => d2 (w.heap.size + 1 + 1 + 1) j (by omega)
  have s2_4 : w.heap.size + 1 + 1 + 1 + 1 < w2.heap.size := by omega
  have o2_4 := fun j => c2 (w.heap.size + 1 + 1 + 1 + 1) j (by omega)
  have f2_4 := fun j => d2 (w.heap.size + 1 + 1 + 1 + 1) j (by omega)
  clear c2 d2 hz2 hW2
  obtain ⟨hx2a, hx2b⟩ := hx2
  obtain rfl := hx2a.nil rfl
  obtain ⟨g, cap, rfl, hgb, hgl, hs2, q0, q1, q2, q3⟩ := box_form hx2b H_hPI.out
  have H_hs2 := Lib.hid hs2
  clear hs2
  clear hx2a hx2b
  go_wp2_with fail
  refine call_bel (w := w) (by repeat' (first | (with_reducible exact Below.refl _ _) | (with_reducible assumption) | (with_reducible refine bdn ?_) | (with_reducible refine Below.alloc ?_ ?_ _) | (with_reducible refine Below.drew ?_) | (with_reducible refine Below.setCell ?_ ?_ _) | omega | (simp <;> omega))) (fun HB => rpoint_any p _ H_hp.out) ?_
  intro w3 hb3 hz3 c3 d3 hW3
  have t3 := hb3.size
  have e3_2 : Below w2.heap.size w2 w3 := below_via (by repeat' (first | (with_reducible exact Below.refl _ _) | (with_reducible assumption) | (with_reducible refine bdn ?_) | (with_reducible refine Below.alloc ?_ ?_ _) | (with_reducible refine Below.drew ?_) | (with_reducible refine Below.setCell ?_ ?_ _) | omega | (simp <;> omega))) hW3
  have te3_2 := e3_2.size
  try simp only [World.size_alloc] at hz3 c3 d3
  try simp only [World.size_drew] at hz3 c3 d3
  try simp only [World.size_setCell] at hz3 c3 d3
  try simp only [World.heap_drewN] at hz3 c3 d3
  have s3_0 : w.heap.size < w3.heap.size := by omega
  have o3_0 := fun j => c3 (w.heap.size) j (by omega)
  have f3_0 := fun j => d3 (w.heap.size) j (by omega)
  have s3_1 : w.heap.size + 1 < w3.heap.size := by omega
  have o3_1 := fun j => c3 (w.heap.size + 1) j (by omega)
  have f3_1 := fun j => d3 (w.heap.size + 1) j (by omega)
  have s3_2 : w.heap.size + 1 + 1 < w3.heap.size := by omega
  have o3_2 := fun j => c3 (w.heap.size + 1 + 1) j (by omega)
  have f3_2 := fun j => d3 (w.heap.size + 1 + 1) j (by omega)
  have s3_3 : w.heap.size + 1 + 1 + 1 < w3.heap.size := by omega
  have o3_3 := fun j => c3 (w.heap.size + 1 + 1 + 1) j (by omega)
  have f3_3 := fun j => d3 (w.heap.size + 1 + 1 + 1) j (by omega)
  have s3_4 : w.heap.size + 1 + 1 + 1 + 1 < w3.heap.size := by omega
  have o3_4 := fun j => c3 (w.heap.size + 1 + 1 + 1 + 1) j (by omega)
  have f3_4 := fun j => d3 (w.heap.size + 1 + 1 + 1 + 1) j (by omega)
  have s3_5 : g < w3.heap.size := by omega
  have o3_5 := fun j => c3 (g) j (by omega)
  have f3_5 := fun j => d3 (g) j (by omega)
  have s3_6 : w2.heap.size < w3.heap.size := by omega
  have o3_6 := fun j => c3 (w2.heap.size) j (by omega)
  have f3_6 := fun j => d3 (w2.heap.size) j (by omega)
  clear c3 d3 hz3 hW3
  rw [hpc]
  go_wp2_with fail
  refine call_be (w := w) (by repeat' (first | (with_reducible exact Below.refl _ _) | (with_reducible assumption) | (with_reducible refine bdn ?_) | (with_reducible refine Below.alloc ?_ ?_ _) | (with_reducible refine Below.drew ?_) | (with_reducible refine Below.setCell ?_ ?_ _) | omega | (simp <;> omega))) (fun HB => shholds_wind ea (boxP x y u h) _ 4 cap p _ (H_hs2.out.keep (B := w2.heap.size) (by repeat' (first | (with_reducible exact Below.refl _ _) | (with_reducible assumption) | (with_reducible refine bdn ?_) | (with_reducible refine Below.alloc ?_ ?_ _) | (with_reducible refine Below.drew ?_) | (with_reducible refine Below.setCell ?_ ?_ _) | omega | (simp <;> omega))) rfl) H_hp.out (gkeep HB hShape rfl) (gkeep HB hBound rfl)) ?_
  rw [H_hW.out, H_hC.out]
  intro x4 w4 hx4 hb4 hz4 c4 d4 hW4
  have t4 := hb4.size
  have e4_2 : Below w2.heap.size w2 w4 := below_via (by repeat' (first | (with_reducible exact Below.refl _ _) | (with_reducible assumption) | (with_reducible refine bdn ?_) | (with_reducible refine Below.alloc ?_ ?_ _) | (with_reducible refine Below.drew ?_) | (with_reducible refine Below.setCell ?_ ?_ _) | omega | (simp <;> omega))) hW4
  have te4_2 := e4_2.size
  try simp only [World.size_alloc] at hz4 c4 d4
  try simp only [World.size_drew] at hz4 c4 d4
  try simp only [World.size_setCell] at hz4 c4 d4
  try simp only [World.heap_drewN] at hz4 c4 d4
  have s4_0 : w.heap.size < w4.heap.size := by omega
  have o4_0 := fun j => c4 (w.heap.size) j (by omega)
  have f4_0 := fun j => d4 (w.heap.size) j (by omega)
  have s4_1 : w.heap.size + 1 < w4.heap.size := by omega
  have o4_1 := fun j => c4 (w.heap.size + 1) j (by omega)
  have f4_1 := fun j => d4 (w.heap.size + 1) j (by omega)
  have s4_2 : w.heap.size + 1 + 1 < w4.heap.size := by omega
  have o4_2 := fun j => c4 (w.heap.size + 1 + 1) j (by omega)
  have f4_2 := fun j => d4 (w.heap.size + 1 + 1) j (by omega)
  have s4_3 : w.heap.size + 1 + 1 + 1 < w4.heap.size := by omega
  have o4_3 := fun j => c4 (w.heap.size + 1 + 1 + 1) j (by omega)
  have f4_3 := fun j => d4 (w.heap.size + 1 + 1 + 1) j (by omega)
  have s4_4 : w.heap.size + 1 + 1 + 1 + 1 < w4.heap.size := by omega
  have o4_4 := fun j => c4 (w.heap.size + 1 + 1 + 1 + 1) j (by omega)
  have f4_4 := fun j => d4 (w.heap.size + 1 + 1 + 1 + 1) j (by omega)
  have s4_5 : g < w4.heap.size := by omega
  have o4_5 := fun j => c4 (g) j (by omega)
  have f4_5 := fun j => d4 (g) j (by omega)
  have s4_6 : w2.heap.size < w4.heap.size := by omega
  have o4_6 := fun j => c4 (w2.heap.size) j (by omega)
  have f4_6 := fun j => d4 (w2.heap.size) j (by omega)
  clear c4 d4 hz4 hW4
  obtain rfl := hx4.nil rfl
  clear hx4
  go_wp2_with fail
  refine call_be (w := w) (by repeat' (first | (with_reducible exact Below.refl _ _) | (with_reducible assumption) | (with_reducible refine bdn ?_) | (with_reducible refine Below.alloc ?_ ?_ _) | (with_reducible refine Below.drew ?_) | (with_reducible refine Below.setCell ?_ ?_ _) | omega | (simp <;> omega))) (fun HB => shholds_even ea (boxP x y u h) _ 4 cap p _ (H_hs2.out.keep (B := w2.heap.size) (by repeat' (first | (with_reducible exact Below.refl _ _) | (with_reducible assumption) | (with_reducible refine bdn ?_) | (with_reducible refine Below.alloc ?_ ?_ _) | (with_reducible refine Below.drew ?_) | (with_reducible refine Below.setCell ?_ ?_ _) | omega | (simp <;> omega))) rfl) H_hp.out (gkeep HB hShape rfl) (gkeep HB hBound rfl)) ?_
  rw [H_hE.out, H_hC.out]
  intro x5 w5 hx5 hb5 hz5 c5 d5 hW5
  have t5 := hb5.size
  try simp only [World.size_alloc] at hz5 c5 d5
  try simp only [World.size_drew] at hz5 c5 d5
  try simp only [World.size_setCell] at hz5 c5 d5
  try simp only [World.heap_drewN] at hz5 c5 d5
  have s5_0 : w.heap.size < w5.heap.size := by omega
  have o5_0 := fun j => c5 (w.heap.size) j (by omega)
  have f5_0 := fun j => d5 (w.heap.size) j (by omega)
  have s5_1 : w.heap.size + 1 < w5.heap.size := by omega
  have o5_1 := fun j => c5 (w.heap.size + 1) j (by omega)
  have f5_1 := fun j => d5 (w.heap.size + 1) j (by omega)
  have s5_2 : w.heap.size + 1 + 1 < w5.heap.size := by omega
  have o5_2 := fun j => c5 (w.heap.size + 1 + 1) j (by omega)
  have f5_2 := fun j => d5 (w.heap.size + 1 + 1) j (by omega)
  have s5_3 : w.heap.size + 1 + 1 + 1 < w5.heap.size := by omega
  have o5_3 := fun j => c5 (w.heap.size + 1 + 1 + 1) j (by omega)
  have f5_3 := fun j => d5 (w.heap.size + 1 + 1 + 1) j (by omega)
  have s5_4 : w.heap.size + 1 + 1 + 1 + 1 < w5.heap.size := by omega
  have o5_4 := fun j => c5 (w.heap.size + 1 + 1 + 1 + 1) j (by omega)
  have f5_4 := fun j => d5 (w.heap.size + 1 + 1 + 1 + 1) j (by omega)
  have s5_5 : g < w5.heap.size := by omega
  have o5_5 := fun j => c5 (g) j (by omega)
  have f5_5 := fun j => d5 (g) j (by omega)
  have s5_6 : w2.heap.size < w5.heap.size := by omega
  have o5_6 := fun j => c5 (w2.heap.size) j (by omega)
  have f5_6 := fun j => d5 (w2.heap.size) j (by omega)
  clear c5 d5 hz5 hW5
  obtain rfl := hx5.nil rfl
  clear hx5
  go_wp2_with fail
  refine call_bel (w := w) (by repeat' (first | (with_reducible exact Below.refl _ _) | (with_reducible assumption) | (with_reducible refine bdn ?_) | (with_reducible refine Below.alloc ?_ ?_ _) | (with_reducible refine Below.drew ?_) | (with_reducible refine Below.setCell ?_ ?_ _) | omega | (simp <;> omega))) (fun HB => rcmp_c x.n x.d p.xn p.xd _ _ c1 _ H_rx.out H_hpo.out.x rfl rfl H_hc1.out) ?_
  intro w6 hb6 hz6 c6 d6 hW6
  have t6 := hb6.size
  try simp only [World.size_alloc] at hz6 c6 d6
  try simp only [World.size_drew] at hz6 c6 d6
  try simp only [World.size_setCell] at hz6 c6 d6
  try simp only [World.heap_drewN] at hz6 c6 d6
  have s6_0 : w.heap.size < w6.heap.size := by omega
  have o6_0 := fun j => c6 (w.heap.size) j (by omega)
  have f6_0 := fun j => d6 (w.heap.size) j (by omega)
  have s6_1 : w.heap.size + 1 < w6.heap.size := by omega
  have o6_1 := fun j => c6 (w.heap.size + 1) j (by omega)
  have f6_1 := fun j => d6 (w.heap.size + 1) j (by omega)
  have s6_2 : w.heap.size + 1 + 1 < w6.heap.size := by omega
  have o6_2 := fun j => c6 (w.heap.size + 1 + 1) j (by omega)
  have f6_2 := fun j => d6 (w.heap.size + 1 + 1) j (by omega)
  have s6_3 : w.heap.size + 1 + 1 + 1 < w6.heap.size := by omega
  have o6_3 := fun j => c6 (w.heap.size + 1 + 1 + 1) j (by omega)
  have f6_3 := fun j => d6 (w.heap.size + 1 + 1 + 1) j (by omega)
  have s6_4 : w.heap.size + 1 + 1 + 1 + 1 < w6.heap.size := by omega
  have o6_4 := fun j => c6 (w.heap.size + 1 + 1 + 1 + 1) j (by omega)
  have f6_4 := fun j => d6 (w.heap.size + 1 + 1 + 1 + 1) j (by omega)
  have s6_5 : w5.heap.size < w6.heap.size := by omega
  have o6_5 := fun j => c6 (w5.heap.size) j (by omega)
  have f6_5 := fun j => d6 (w5.heap.size) j (by omega)
  clear c6 d6 hz6 hW6
  go_wp2_with fail
  go_returns
  exact ⟨rfl, by repeat' (first | (with_reducible exact Below.refl _ _) | (with_reducible assumption) | (with_reducible refine bdn ?_) | (with_reducible refine Below.alloc ?_ ?_ _) | (with_reducible refine Below.drew ?_) | (with_reducible refine Below.setCell ?_ ?_ _) | omega | (simp <;> omega))⟩
set_option maxHeartbeats 4000000 in
theorem boxes_m2 (ea : Nat → Addr) (x y u h : Fr) (p : Pt) (w : World) (hx : x.I) (hy : y.I) (hu : u.I) (hh : h.I) (hp : p.I) (hPI : ∀ q ∈ boxP x y u h, q.I) (rx : x.R) (ry : y.R) (rr : (x.add u).R) (rb : (y.add h).R) (hpo : PtOk p) (hShape : w.cell? ⟨2, 0, none⟩ = some (.iface 87 (.pointer (some (ea 3))))) (hBound : w.cell? ⟨1, 0, none⟩ = some (.iface 87 (.pointer (some (ea 2)))))
    (hc : boxC x y u h = (0, none)) (hL : boxL x y u h = boxP x y u h) (hpc : p.c = 0) (hn : ¬ u.n < 0) (hn2 : ¬ h.n < 0) (bb : Bool) (c1 c2 c3 c4 : Int) (hC : crC (boxP x y u h) p = (0, none)) (hW : ((crL (boxP x y u h) p).sum != 0) = bb) (hE : (((crL (boxP x y u h) p).length : Int) % 2 == 1) = bb)
    (hc1 : cmpI (x.n * p.xd) (p.xn * x.d) = c1) (hc2 : cmpI (p.xn * (x.add u).d) ((x.add u).n * p.xd) = c2) (hc3 : cmpI (y.n * p.yd) (p.yn * y.d) = c3) (hc4 : cmpI (p.yn * (y.add h).d) ((y.add h).n * p.yd) = c4) (g1 : c1 ≤ 0) (g2 : ¬ c2 < 0) (hb : bb = false) :
    Calls Tryd.prog 4 #[.agg #[.int .i64 x.n, .int .i64 x.d], .agg #[.int .i64 y.n, .int .i64 y.d], .agg #[.int .i64 u.n, .int .i64 u.d], .agg #[.int .i64 h.n, .int .i64 h.d], .agg #[.int .i64 p.xn, .int .i64 p.xd, .int .i64 p.yn, .int .i64 p.yd]] w fun e w' => e = .returned (.bool true) ∧ Below w.heap.size w w' := by
  subst hb
  have zhShape := zlt hShape
  have xhShape := zlts hShape
  have yhShape := zne hShape
  have zhBound := zlt hBound
  have xhBound := zlts hBound
  have yhBound := zne hBound
  have H_hx := Lib.hid hx
  clear hx
  have H_hy := Lib.hid hy
  clear hy
  have H_hu := Lib.hid hu
  clear hu
  have H_hh := Lib.hid hh
  clear hh
  have H_hp := Lib.hid hp
  clear hp
  have H_hPI := Lib.hid hPI
  clear hPI
  have H_rx := Lib.hid rx
  clear rx
  have H_ry := Lib.hid ry
  clear ry
  have H_rr := Lib.hid rr
  clear rr
  have H_rb := Lib.hid rb
  clear rb
  have H_hpo := Lib.hid hpo
  clear hpo
  have H_hc := Lib.hid hc
  clear hc
  have H_hL := Lib.hid hL
  clear hL
  have H_hC := Lib.hid hC
  clear hC
  have H_hW := Lib.hid hW
  clear hW
  have H_hE := Lib.hid hE
  clear hE
  have H_hc1 := Lib.hid hc1
  clear hc1
  have H_hc2 := Lib.hid hc2
  clear hc2
  have H_hc3 := Lib.hid hc3
  clear hc3
  have H_hc4 := Lib.hid hc4
  clear hc4
  go_enter Tryd.func4, Tryd.ntmps4
  go_wp2_with fail
  refine call_bel (w := w) (by repeat' (first | (with_reducible exact Below.refl _ _) | (with_reducible assumption) | (with_reducible refine bdn ?_) | (with_reducible refine Below.alloc ?_ ?_ _) | (with_reducible refine Below.drew ?_) | (with_reducible refine Below.setCell ?_ ?_ _) | omega | (simp <;> omega))) (fun HB => shaped_any ea _ (gkeep HB hShape rfl) (gkeep HB hBound rfl)) ?_
  intro w1 hb1 hz1 c1 d1 hW1
  have t1 := hb1.size
  try simp only [World.size_alloc] at hz1 c1 d1
  try simp only [World.size_drew] at hz1 c1 d1
  try simp only [World.size_setCell] at hz1 c1 d1
  try simp only [World.heap_drewN] at hz1 c1 d1
  have s1_0 : w.heap.size < w1.heap.size := by omega
  have o1_0 := fun j => c1 (w.heap.size) j (by omega)
  have f1_0 := fun j => d1 (w.heap.size) j (by omega)
  have s1_1 : w.heap.size + 1 < w1.heap.size := by omega
  have o1_1 := fun j => c1 (w.heap.size + 1) j (by omega)
  have f1_1 := fun j => d1 (w.heap.size + 1) j (by omega)
  have s1_2 : w.heap.size + 1 + 1 < w1.heap.size := by omega
  have o1_2 := fun j => c1 (w.heap.size + 1 + 1) j (by omega)
  have f1_2 := fun j => d1 (w.heap.size + 1 + 1) j (by omega)
  have s1_3 : w.heap.size + 1 + 1 + 1 < w1.heap.size := by omega
  have o1_3 := fun j => c1 (w.heap.size + 1 + 1 + 1) j (by omega)
  have f1_3 := fun j => d1 (w.heap.size + 1 + 1 + 1) j (by omega)
  have s1_4 : w.heap.size + 1 + 1 + 1 + 1 < w1.heap.size := by omega
  have o1_4 := fun j => c1 (w.heap.size + 1 + 1 + 1 + 1) j (by omega)
  have f1_4 := fun j => d1 (w.heap.size + 1 + 1 + 1 + 1) j (by omega)
  clear c1 d1 hz1 hW1
  go_wp2_with fail
  refine call_pe (w := w) (by repeat' (first | (with_reducible exact Below.refl _ _) | (with_reducible assumption) | (with_reducible refine bdn ?_) | (with_reducible refine Below.alloc ?_ ?_ _) | (with_reducible refine Below.drew ?_) | (with_reducible refine Below.setCell ?_ ?_ _) | omega | (simp <;> omega))) (fun HB => shbox_any ea x y u h _ H_hx.out H_hy.out H_hu.out H_hh.out (gkeep HB hShape rfl) (gkeep HB hBound rfl)) ?_
  rw [H_hL.out, H_hc.out]
  intro v2 x2 w2 hx2 hb2 hz2 c2 d2 hW2
  have t2 := hb2.size
  try simp only [World.size_alloc] at hz2 c2 d2
  try simp only [World.size_drew] at hz2 c2 d2
  try simp only [World.size_setCell] at hz2 c2 d2
  try simp only [World.heap_drewN] at hz2 c2 d2
  have s2_0 : w.heap.size < w2.heap.size := by omega
  have o2_0 := fun j => c2 (w.heap.size) j (by omega)
  have f2_0 := fun j => d2 (w.heap.size) j (by omega)
  have s2_1 : w.heap.size + 1 < w2.heap.size := by omega
  have o2_1 := fun j => c2 (w.heap.size + 1) j (by omega)
  have f2_1 := fun j => d2 (w.heap.size + 1) j (by omega)
  have s2_2 : w.heap.size + 1 + 1 < w2.heap.size := by omega
  have o2_2 := fun j => c2 (w.heap.size + 1 + 1) j (by omega)
  have f2_2 := fun j => d2 (w.heap.size + 1 + 1) j (by omega)
  have s2_3 : w.heap.size + 1 + 1 + 1 < w2.heap.size := by omega
  have o2_3 := fun j => c2 (w.heap.size + 1 + 1 + 1) j (by omega)
  have f2_3 := fun j => d2 (w.heap.size + 1 + 1 + 1) j (by omega)
  have s2_4 : w.heap.size + 1 + 1 + 1 + 1 < w2.heap.size := by omega
  have o2_4 := fun j => c2 (w.heap.size + 1 + 1 + 1 + 1) j (by omega)
  have f2_4 := fun j => d2 (w.heap.size + 1 + 1 + 1 + 1) j (by omega)
  clear c2 d2 hz2 hW2
  obtain ⟨hx2a, hx2b⟩ := hx2
  obtain rfl := hx2a.nil rfl
  obtain ⟨g, cap, rfl, hgb, hgl, hs2, q0, q1, q2, q3⟩ := box_form hx2b H_hPI.out
  have H_hs2 := Lib.hid hs2
  clear hs2
  clear hx2a hx2b
  go_wp2_with fail
  refine call_bel (w := w) (by repeat' (first | (with_reducible exact Below.refl _ _) | (with_reducible assumption) | (with_reducible refine bdn ?_) | (with_reducible refine Below.alloc ?_ ?_ _) | (with_reducible refine Below.drew ?_) | (with_reducible refine Below.setCell ?_ ?_ _) | omega | (simp <;> omega))) (fun HB => rpoint_any p _ H_hp.out) ?_
  intro w3 hb3 hz3 c3 d3 hW3
  have t3 := hb3.size
  have e3_2 : Below w2.heap.size w2 w3 := below_via (by repeat' (first | (with_reducible exact Below.refl _ _) | (with_reducible assumption) | (with_reducible refine bdn ?_) | (with_reducible refine Below.alloc ?_ ?_ _) | (with_reducible refine Below.drew ?_) | (with_reducible refine Below.setCell ?_ ?_ _) | omega | (simp <;> omega))) hW3
  have te3_2 := e3_2.size
  try simp only [World.size_alloc] at hz3 c3 d3
  try simp only [World.size_drew] at hz3 c3 d3
  try simp only [World.size_setCell] at hz3 c3 d3
  try simp only [World.heap_drewN] at hz3 c3 d3
  have s3_0 : w.heap.size < w3.heap.size := by omega
  have o3_0 := fun j => c3 (w.heap.size) j (by omega)
  have f3_0 := fun j => d3 (w.heap.size) j (by omega)
  have s3_1 : w.heap.size + 1 < w3.heap.size := by omega
  have o3_1 := fun j => c3 (w.heap.size + 1) j (by omega)
  have f3_1 := fun j => d3 (w.heap.size + 1) j (by omega)
  have s3_2 : w.heap.size + 1 + 1 < w3.heap.size := by omega
  have o3_2 := fun j => c3 (w.heap.size + 1 + 1) j (by omega)
  have f3_2 := fun j => d3 (w.heap.size + 1 + 1) j (by omega)
  have s3_3 : w.heap.size + 1 + 1 + 1 < w3.heap.size := by omega
  have o3_3 := fun j => c3 (w.heap.size + 1 + 1 + 1) j (by omega)
  have f3_3 := fun j => d3 (w.heap.size + 1 + 1 + 1) j (by omega)
  have s3_4 : w.heap.size + 1 + 1 + 1 + 1 < w3.heap.size := by omega
  have o3_4 := fun j => c3 (w.heap.size + 1 + 1 + 1 + 1) j (by omega)
  have f3_4 := fun j => d3 (w.heap.size + 1 + 1 + 1 + 1) j (by omega)
  have s3_5 : g < w3.heap.size := by omega
  have o3_5 := fun j => c3 (g) j (by omega)
  have f3_5 := fun j => d3 (g) j (by omega)
  have s3_6 : w2.heap.size < w3.heap.size := by omega
  have o3_6 := fun j => c3 (w2.heap.size) j (by omega)
  have f3_6 := fun j => d3 (w2.heap.size) j (by omega)
  clear c3 d3 hz3 hW3
  rw [hpc]
  go_wp2_with fail
  refine call_be (w := w) (by repeat' (first | (with_reducible exact Below.refl _ _) | (with_reducible assumption) | (with_reducible refine bdn ?_) | (with_reducible refine Below.alloc ?_ ?_ _) | (with_reducible refine Below.drew ?_) | (with_reducible refine Below.setCell ?_ ?_ _) | omega | (simp <;> omega))) (fun HB => shholds_wind ea (boxP x y u h) _ 4 cap p _ (H_hs2.out.keep (B := w2.heap.size) (by repeat' (first | (with_reducible exact Below.refl _ _) | (with_reducible assumption) | (with_reducible refine bdn ?_) | (with_reducible refine Below.alloc ?_ ?_ _) | (with_reducible refine Below.drew ?_) | (with_reducible refine Below.setCell ?_ ?_ _) | omega | (simp <;> omega))) rfl) H_hp.out (gkeep HB hShape rfl) (gkeep HB hBound rfl)) ?_
  rw [H_hW.out, H_hC.out]
  intro x4 w4 hx4 hb4 hz4 c4 d4 hW4
  have t4 := hb4.size
  have e4_2 : Below w2.heap.size w2 w4 := below_via (by repeat' (first | (with_reducible exact Below.refl _ _) | (with_reducible assumption) | (with_reducible refine bdn ?_) | (with_reducible refine Below.alloc ?_ ?_ _) | (with_reducible refine Below.drew ?_) | (with_reducible refine Below.setCell ?_ ?_ _) | omega | (simp <;> omega))) hW4
  have te4_2 := e4_2.size
  try simp only [World.size_alloc] at hz4 c4 d4
  try simp only [World.size_drew] at hz4 c4 d4
  try simp only [World.size_setCell] at hz4 c4 d4
  try simp only [World.heap_drewN] at hz4 c4 d4
  have s4_0 : w.heap.size < w4.heap.size := by omega
  have o4_0 := fun j => c4 (w.heap.size) j (by omega)
  have f4_0 := fun j => d4 (w.heap.size) j (by omega)
  have s4_1 : w.heap.size + 1 < w4.heap.size := by omega
  have o4_1 := fun j => c4 (w.heap.size + 1) j (by omega)
  have f4_1 := fun j => d4 (w.heap.size + 1) j (by omega)
  have s4_2 : w.heap.size + 1 + 1 < w4.heap.size := by omega
  have o4_2 := fun j => c4 (w.heap.size + 1 + 1) j (by omega)
  have f4_2 := fun j => d4 (w.heap.size + 1 + 1) j (by omega)
  have s4_3 : w.heap.size + 1 + 1 + 1 < w4.heap.size := by omega
  have o4_3 := fun j => c4 (w.heap.size + 1 + 1 + 1) j (by omega)
  have f4_3 := fun j => d4 (w.heap.size + 1 + 1 + 1) j (by omega)
  have s4_4 : w.heap.size + 1 + 1 + 1 + 1 < w4.heap.size := by omega
  have o4_4 := fun j => c4 (w.heap.size + 1 + 1 + 1 + 1) j (by omega)
  have f4_4 := fun j => d4 (w.heap.size + 1 + 1 + 1 + 1) j (by omega)
  have s4_5 : g < w4.heap.size := by omega
  have o4_5 := fun j => c4 (g) j (by omega)
  have f4_5 := fun j => d4 (g) j (by omega)
  have s4_6 : w2.heap.size < w4.heap.size := by omega
  have o4_6 := fun j => c4 (w2.heap.size) j (by omega)
  have f4_6 := fun j => d4 (w2.heap.size) j (by omega)
  clear c4 d4 hz4 hW4
  obtain rfl := hx4.nil rfl
  clear hx4
  go_wp2_with fail
  refine call_be (w := w) (by repeat' (first | (with_reducible exact Below.refl _ _) | (with_reducible assumption) | (with_reducible refine bdn ?_) | (with_reducible refine Below.alloc ?_ ?_ _) | (with_reducible refine Below.drew ?_) | (with_reducible refine Below.setCell ?_ ?_ _) | omega | (simp <;> omega))) (fun HB => shholds_even ea (boxP x y u h) _ 4 cap p _ (H_hs2.out.keep (B := w2.heap.size) (by repeat' (first | (with_reducible exact Below.refl _ _) | (with_reducible assumption) | (with_reducible refine bdn ?_) | (with_reducible refine Below.alloc ?_ ?_ _) | (with_reducible refine Below.drew ?_) | (with_reducible refine Below.setCell ?_ ?_ _) | omega | (simp <;> omega))) rfl) H_hp.out (gkeep HB hShape rfl) (gkeep HB hBound rfl)) ?_
  rw [H_hE.out, H_hC.out]
  intro x5 w5 hx5 hb5 hz5 c5 d5 hW5
  have t5 := hb5.size
  try simp only [World.size_alloc] at hz5 c5 d5
  try simp only [World.size_drew] at hz5 c5 d5
  try simp only [World.size_setCell] at hz5 c5 d5
  try simp only [World.heap_drewN] at hz5 c5 d5
  have s5_0 : w.heap.size < w5.heap.size := by omega
  have o5_0 := fun j => c5 (w.heap.size) j (by omega)
  have f5_0 := fun j => d5 (w.heap.size) j (by omega)
  have s5_1 : w.heap.size + 1 < w5.heap.size := by omega
  have o5_1 := fun j => c5 (w.heap.size + 1) j (by omega)
  have f5_1 := fun j => d5 (w.heap.size + 1) j (by omega)
  have s5_2 : w.heap.size + 1 + 1 < w5.heap.size := by omega
  have o5_2 := fun j => c5 (w.heap.size + 1 + 1) j (by omega)
  have f5_2 := fun j => d5 (w.heap.size + 1 + 1) j (by omega)
  have s5_3 : w.heap.size + 1 + 1 + 1 < w5.heap.size := by omega
  have o5_3 := fun j => c5 (w.heap.size + 1 + 1 + 1) j (by omega)
  have f5_3 := fun j => d5 (w.heap.size + 1 + 1 + 1) j (by omega)
  have s5_4 : w.heap.size + 1 + 1 + 1 + 1 < w5.heap.size := by omega
  have o5_4 := fun j => c5 (w.heap.size + 1 + 1 + 1 + 1) j (by omega)
  have f5_4 := fun j => d5 (w.heap.size + 1 + 1 + 1 + 1) j (by omega)
  have s5_5 : g < w5.heap.size := by omega
  have o5_5 := fun j => c5 (g) j (by omega)
  have f5_5 := fun j => d5 (g) j (by omega)
  have s5_6 : w2.heap.size < w5.heap.size := by omega
  have o5_6 := fun j => c5 (w2.heap.size) j (by omega)
  have f5_6 := fun j => d5 (w2.heap.size) j (by omega)
  clear c5 d5 hz5 hW5
  obtain rfl := hx5.nil rfl
  clear hx5
  go_wp2_with fail
  refine call_bel (w := w) (by repeat' (first | (with_reducible exact Below.refl _ _) | (with_reducible assumption) | (with_reducible refine bdn ?_) | (with_reducible refine Below.alloc ?_ ?_ _) | (with_reducible refine Below.drew ?_) | (with_reducible refine Below.setCell ?_ ?_ _) | omega | (simp <;> omega))) (fun HB => rcmp_c x.n x.d p.xn p.xd _ _ c1 _ H_rx.out H_hpo.out.x rfl rfl H_hc1.out) ?_
  intro w6 hb6 hz6 c6 d6 hW6
  have t6 := hb6.size
  try simp only [World.size_alloc] at hz6 c6 d6
  try simp only [World.size_drew] at hz6 c6 d6
  try simp only [World.size_setCell] at hz6 c6 d6
  try simp only [World.heap_drewN] at hz6 c6 d6
  have s6_0 : w.heap.size < w6.heap.size := by omega
  have o6_0 := fun j => c6 (w.heap.size) j (by omega)
  have f6_0 := fun j => d6 (w.heap.size) j (by omega)
  have s6_1 : w.heap.size + 1 < w6.heap.size := by omega
  have o6_1 := fun j => c6 (w.heap.size + 1) j (by omega)
  have f6_1 := fun j => d6 (w.heap.size + 1) j (by omega)
  have s6_2 : w.heap.size + 1 + 1 < w6.heap.size := by omega
  have o6_2 := fun j => c6 (w.heap.size + 1 + 1) j (by omega)
  have f6_2 := fun j => d6 (w.heap.size + 1 + 1) j (by omega)
  have s6_3 : w.heap.size + 1 + 1 + 1 < w6.heap.size := by omega
  have o6_3 := fun j => c6 (w.heap.size + 1 + 1 + 1) j (by omega)
  have f6_3 := fun j => d6 (w.heap.size + 1 + 1 + 1) j (by omega)
  have s6_4 : w.heap.size + 1 + 1 + 1 + 1 < w6.heap.size := by omega
  have o6_4 := fun j => c6 (w.heap.size + 1 + 1 + 1 + 1) j (by omega)
  have f6_4 := fun j => d6 (w.heap.size + 1 + 1 + 1 + 1) j (by omega)
  have s6_5 : w5.heap.size < w6.heap.size := by omega
  have o6_5 := fun j => c6 (w5.heap.size) j (by omega)
  have f6_5 := fun j => d6 (w5.heap.size) j (by omega)
  clear c6 d6 hz6 hW6
  go_wp2_with fail
  refine call_bel (w := w) (by repeat' (first | (with_reducible exact Below.refl _ _) | (with_reducible assumption) | (with_reducible refine bdn ?_) | (with_reducible refine Below.alloc ?_ ?_ _) | (with_reducible refine Below.drew ?_) | (with_reducible refine Below.setCell ?_ ?_ _) | omega | (simp <;> omega))) (fun HB => rcmp_c p.xn p.xd (x.add u).n (x.add u).d _ _ c2 _ H_hpo.out.x H_rr.out rfl rfl H_hc2.out) ?_
  intro w7 hb7 hz7 c7 d7 hW7
  have t7 := hb7.size
  try simp only [World.size_alloc] at hz7 c7 d7
  try simp only [World.size_drew] at hz7 c7 d7
  try simp only [World.size_setCell] at hz7 c7 d7
  try simp only [World.heap_drewN] at hz7 c7 d7
  have s7_0 : w.heap.size < w7.heap.size := by omega
  have o7_0 := fun j => c7 (w.heap.size) j (by omega)
  have f7_0 := fun j => d7 (w.heap.size) j (by omega)
  have s7_1 : w.heap.size + 1 < w7.heap.size := by omega
  have o7_1 := fun j => c7 (w.heap.size + 1) j (by omega)
  have f7_1 := fun j => d7 (w.heap.size + 1) j (by omega)
  have s7_2 : w.heap.size + 1 + 1 < w7.heap.size := by omega
  have o7_2 := fun j => c7 (w.heap.size + 1 + 1) j (by omega)
  have f7_2 := fun j => d7 (w.heap.size + 1 + 1) j (by omega)
  have s7_3 : w.heap.size + 1 + 1 + 1 < w7.heap.size := by omega
  have o7_3 := fun j => c7 (w.heap.size + 1 + 1 + 1) j (by omega)
  have f7_3 := fun j => d7 (w.heap.size + 1 + 1 + 1) j (by omega)
  have s7_4 : w.heap.size + 1 + 1 + 1 + 1 < w7.heap.size := by omega
  have o7_4 := fun j => c7 (w.heap.size + 1 + 1 + 1 + 1) j (by omega)
  have f7_4 := fun j => d7 (w.heap.size + 1 + 1 + 1 + 1) j (by omega)
  have s7_5 : w5.heap.size < w7.heap.size := by omega
  have o7_5 := fun j => c7 (w5.heap.size) j (by omega)
  have f7_5 := fun j => d7 (w5.heap.size) j (by omega)
  clear c7 d7 hz7 hW7
  go_wp2_with fail
  go_returns
  exact ⟨rfl, by repeat' (first | (with_reducible exact Below.refl _ _) | (with_reducible assumption) | (with_reducible refine bdn ?_) | (with_reducible refine Below.alloc ?_ ?_ _) | (with_reducible refine Below.drew ?_) | (with_reducible refine Below.setCell ?_ ?_ _) | omega | (simp <;> omega))⟩
set_option maxHeartbeats 4000000 in
theorem boxes_m3 (ea : Nat → Addr) (x y u h : Fr) (p : Pt) (w : World) (hx : x.I) (hy : y.I) (hu : u.I) (hh : h.I) (hp : p.I) (hPI : ∀ q ∈ boxP x y u h, q.I) (rx : x.R) (ry : y.R) (rr : (x.add u).R) (rb : (y.add h).R) (hpo : PtOk p) (hShape : w.cell? ⟨2, 0, none⟩ = some (.iface 87 (.pointer (some (ea 3))))) (hBound : w.cell? ⟨1, 0, none⟩ = some (.iface 87 (.pointer (some (ea 2)))))
    (hc : boxC x y u h = (0, none)) (hL : boxL x y u h = boxP x y u h) (hpc : p.c = 0) (hn : ¬ u.n < 0) (hn2 : ¬ h.n < 0) (bb : Bool) (c1 c2 c3 c4 : Int) (hC : crC (boxP x y u h) p = (0, none)) (hW : ((crL (boxP x y u h) p).sum != 0) = bb) (hE : (((crL (boxP x y u h) p).length : Int) % 2 == 1) = bb)
    (hc1 : cmpI (x.n * p.xd) (p.xn * x.d) = c1) (hc2 : cmpI (p.xn * (x.add u).d) ((x.add u).n * p.xd) = c2) (hc3 : cmpI (y.n * p.yd) (p.yn * y.d) = c3) (hc4 : cmpI (p.yn * (y.add h).d) ((y.add h).n * p.yd) = c4) (g1 : c1 ≤ 0) (g2 : c2 < 0) (g3 : ¬ c3 ≤ 0) (hb : bb = false) :
    Calls Tryd.prog 4 #[.agg #[.int .i64 x.n, .int .i64 x.d], .agg #[.int .i64 y.n, .int .i64 y.d], .agg #[.int .i64 u.n, .int .i64 u.d], .agg #[.int .i64 h.n, .int .i64 h.d], .agg #[.int .i64 p.xn, .int .i64 p.xd, .int .i64 p.yn, .int .i64 p.yd]] w fun e w' => e = .returned (.bool true) ∧ Below w.heap.size w w' := by
  subst hb
  have zhShape := zlt hShape
  have xhShape := zlts hShape
  have yhShape := zne hShape
  have zhBound := zlt hBound
  have xhBound := zlts hBound
  have yhBound := zne hBound
  have H_hx := Lib.hid hx
  clear hx
  have H_hy := Lib.hid hy
  clear hy
  have H_hu := Lib.hid hu
  clear hu
  have H_hh := Lib.hid hh
  clear hh
  have H_hp := Lib.hid hp
  clear hp
  have H_hPI := Lib.hid hPI
  clear hPI
  have H_rx := Lib.hid rx
  clear rx
  have H_ry := Lib.hid ry
  clear ry
  have H_rr := Lib.hid rr
  clear rr
  have H_rb := Lib.hid rb
  clear rb
  have H_hpo := Lib.hid hpo
  clear hpo
  have H_hc := Lib.hid hc
  clear hc
  have H_hL := Lib.hid hL
  clear hL
  have H_hC := Lib.hid hC
  clear hC
  have H_hW := Lib.hid hW
  clear hW
  have H_hE := Lib.hid hE
  clear hE
  have H_hc1 := Lib.hid hc1
  clear hc1
  have H_hc2 := Lib.hid hc2
  clear hc2
  have H_hc3 := Lib.hid hc3
  clear hc3
  have H_hc4 := Lib.hid hc4
  clear hc4
  go_enter Tryd.func4, Tryd.ntmps4
  go_wp2_with fail
  refine call_bel (w := w) (by repeat' (first | (with_reducible exact Below.refl _ _) | (with_reducible assumption) | (with_reducible refine bdn ?_) | (with_reducible refine Below.alloc ?_ ?_ _) | (with_reducible refine Below.drew ?_) | (with_reducible refine Below.setCell ?_ ?_ _) | omega | (simp <;> omega))) (fun HB => shaped_any ea _ (gkeep HB hShape rfl) (gkeep HB hBound rfl)) ?_
  intro w1 hb1 hz1 c1 d1 hW1
  have t1 := hb1.size
  try simp only [World.size_alloc] at hz1 c1 d1
  try simp only [World.size_drew] at hz1 c1 d1
  try simp only [World.size_setCell] at hz1 c1 d1
  try simp only [World.heap_drewN] at hz1 c1 d1
  have s1_0 : w.heap.size < w1.heap.size := by omega
  have o1_0 := fun j => c1 (w.heap.size) j (by omega)
  have f1_0 := fun j => d1 (w.heap.size) j (by omega)
  have s1_1 : w.heap.size + 1 < w1.heap.size := by omega
  have o1_1 := fun j => c1 (w.heap.size + 1) j (by omega)
  have f1_1 := fun j => d1 (w.heap.size + 1) j (by omega)
  have s1_2 : w.heap.size + 1 + 1 < w1.heap.size := by omega
  have o1_2 := fun j => c1 (w.heap.size + 1 + 1) j (by omega)
  have f1_2 := fun j => d1 (w.heap.size + 1 + 1) j (by omega)
  have s1_3 : w.heap.size + 1 + 1 + 1 < w1.heap.size := by omega
  have o1_3 := fun j => c1 (w.heap.size + 1 + 1 + 1) j (by omega)
  have f1_3 := fun j => d1 (w.heap.size + 1 + 1 + 1) j (by omega)
  have s1_4 : w.heap.size + 1 + 1 + 1 + 1 < w1.heap.size := by omega
  have o1_4 := fun j => c1 (w.heap.size + 1 + 1 + 1 + 1) j (by omega)
  have f1_4 := fun j => d1 (w.heap.size + 1 + 1 + 1 + 1) j (by omega)
  clear c1 d1 hz1 hW1
  go_wp2_with fail
  refine call_pe (w := w) (by repeat' (first | (with_reducible exact Below.refl _ _) | (with_reducible assumption) | (with_reducible refine bdn ?_) | (with_reducible refine Below.alloc ?_ ?_ _) | (with_reducible refine Below.drew ?_) | (with_reducible refine Below.setCell ?_ ?_ _) | omega | (simp <;> omega))) (fun HB => shbox_any ea x y u h _ H_hx.out H_hy.out H_hu.out H_hh.out (gkeep HB hShape rfl) (gkeep HB hBound rfl)) ?_
  rw [H_hL.out, H_hc.out]
  intro v2 x2 w2 hx2 hb2 hz2 c2 d2 hW2
  have t2 := hb2.size
  try simp only [World.size_alloc] at hz2 c2 d2
  try simp only [World.size_drew] at hz2 c2 d2
  try simp only [World.size_setCell] at hz2 c2 d2
  try simp only [World.heap_drewN] at hz2 c2 d2
  have s2_0 : w.heap.size < w2.heap.size := by omega
  have o2_0 := fun j => c2 (w.heap.size) j (by omega)
  have f2_0 := fun j => d2 (w.heap.size) j (by omega)
  have s2_1 : w.heap.size + 1 < w2.heap.size := by omega
  have o2_1 := fun j => c2 (w.heap.size + 1) j (by omega)
  have f2_1 := fun j => d2 (w.heap.size + 1) j (by omega)
  have s2_2 : w.heap.size + 1 + 1 < w2.heap.size := by omega
  have o2_2 := fun j => c2 (w.heap.size + 1 + 1) j (by omega)
  have f2_2 := fun j => d2 (w.heap.size + 1 + 1) j (by omega)
  have s2_3 : w.heap.size + 1 + 1 + 1 < w2.heap.size := by omega
  have o2_3 := fun j => c2 (w.heap.size + 1 + 1 + 1) j (by omega)
  have f2_3 := fun j => d2 (w.heap.size + 1 + 1 + 1) j (by omega)
  have s2_4 : w.heap.size + 1 + 1 + 1 + 1 < w2.heap.size := by omega
  have o2_4 := fun j => c2 (w.heap.size + 1 + 1 + 1 + 1) j (by omega)
  have f2_4 := fun j => d2 (w.heap.size + 1 + 1 + 1 + 1) j (by omega)
  clear c2 d2 hz2 hW2
  obtain ⟨hx2a, hx2b⟩ := hx2
  obtain rfl := hx2a.nil rfl
  obtain ⟨g, cap, rfl, hgb, hgl, hs2, q0, q1, q2, q3⟩ := box_form hx2b H_hPI.out
  have H_hs2 := Lib.hid hs2
  clear hs2
  clear hx2a hx2b
  go_wp2_with fail
  refine call_bel (w := w) (by repeat' (first | (with_reducible exact Below.refl _ _) | (with_reducible assumption) | (with_reducible refine bdn ?_) | (with_reducible refine Below.alloc ?_ ?_ _) | (with_reducible refine Below.drew ?_) | (with_reducible refine Below.setCell ?_ ?_ _) | omega | (simp <;> omega))) (fun HB => rpoint_any p _ H_hp.out) ?_
  intro w3 hb3 hz3 c3 d3 hW3
  have t3 := hb3.size
  have e3_2 : Below w2.heap.size w2 w3 := below_via (by repeat' (first | (with_reducible exact Below.refl _ _) | (with_reducible assumption) | (with_reducible refine bdn ?_) | (with_reducible refine Below.alloc ?_ ?_ _) | (with_reducible refine Below.drew ?_) | (with_reducible refine Below.setCell ?_ ?_ _) | omega | (simp <;> omega))) hW3
  have te3_2 := e3_2.size
  try simp only [World.size_alloc] at hz3 c3 d3
  try simp only [World.size_drew] at hz3 c3 d3
  try simp only [World.size_setCell] at hz3 c3 d3
  try simp only [World.heap_drewN] at hz3 c3 d3
  have s3_0 : w.heap.size < w3.heap.size := by omega
  have o3_0 := fun j => c3 (w.heap.size) j (by omega)
  have f3_0 := fun j => d3 (w.heap.size) j (by omega)
  have s3_1 : w.heap.size + 1 < w3.heap.size := by omega
  have o3_1 := fun j => c3 (w.heap.size + 1) j (by omega)
  have f3_1 := fun j => d3 (w.heap.size + 1) j (by omega)
  have s3_2 : w.heap.size + 1 + 1 < w3.heap.size := by omega
  have o3_2 := fun j => c3 (w.heap.size + 1 + 1) j (by omega)
  have f3_2 := fun j => d3 (w.heap.size + 1 + 1) j (by omega)
  have s3_3 : w.heap.size + 1 + 1 + 1 < w3.heap.size := by omega
  have o3_3 := fun j => c3 (w.heap.size + 1 + 1 + 1) j (by omega)
  have f3_3 := fun j => d3 (w.heap.size + 1 + 1 + 1) j (by omega)
  have s3_4 : w.heap.size + 1 + 1 + 1 + 1 < w3.heap.size := by omega
  have o3_4 := fun j => c3 (w.heap.size + 1 + 1 + 1 + 1) j (by omega)
  have f3_4 := fun j => d3 (w.heap.size + 1 + 1 + 1 + 1) j (by omega)
  have s3_5 : g < w3.heap.size := by omega
  have o3_5 := fun j => c3 (g) j (by omega)
  have f3_5 := fun j => d3 (g) j (by omega)
  have s3_6 : w2.heap.size < w3.heap.size := by omega
  have o3_6 := fun j => c3 (w2.heap.size) j (by omega)
  have f3_6 := fun j => d3 (w2.heap.size) j (by omega)
  clear c3 d3 hz3 hW3
  rw [hpc]
  go_wp2_with fail
  refine call_be (w := w) (by repeat' (first | (with_reducible exact Below.refl _ _) | (with_reducible assumption) | (with_reducible refine bdn ?_) | (with_reducible refine Below.alloc ?_ ?_ _) | (with_reducible refine Below.drew ?_) | (with_reducible refine Below.setCell ?_ ?_ _) | omega | (simp <;> omega))) (fun HB => shholds_wind ea (boxP x y u h) _ 4 cap p _ (H_hs2.out.keep (B := w2.heap.size) (by repeat' (first | (with_reducible exact Below.refl _ _) | (with_reducible assumption) | (with_reducible refine bdn ?_) | (with_reducible refine Below.alloc ?_ ?_ _) | (with_reducible refine Below.drew ?_) | (with_reducible refine Below.setCell ?_ ?_ _) | omega | (simp <;> omega))) rfl) H_hp.out (gkeep HB hShape rfl) (gkeep HB hBound rfl)) ?_
  rw [H_hW.out, H_hC.out]
  intro x4 w4 hx4 hb4 hz4 c4 d4 hW4
  have t4 := hb4.size
  have e4_2 : Below w2.heap.size w2 w4 := below_via (by repeat' (first | (with_reducible exact Below.refl _ _) | (with_reducible assumption) | (with_reducible refine bdn ?_) | (with_reducible refine Below.alloc ?_ ?_ _) | (with_reducible refine Below.drew ?_) | (with_reducible refine Below.setCell ?_ ?_ _) | omega | (simp <;> omega))) hW4
  have te4_2 := e4_2.size
  try simp only [World.size_alloc] at hz4 c4 d4
  try simp only [World.size_drew] at hz4 c4 d4
  try simp only [World.size_setCell] at hz4 c4 d4
  try simp only [World.heap_drewN] at hz4 c4 d4
  have s4_0 : w.heap.size < w4.heap.size := by omega
  have o4_0 := fun j => c4 (w.heap.size) j (by omega)
  have f4_0 := fun j => d4 (w.heap.size) j (by omega)
  have s4_1 : w.heap.size + 1 < w4.heap.size := by omega
  have o4_1 := fun j => c4 (w.heap.size + 1) j (by omega)
  have f4_1 := fun j => d4 (w.heap.size + 1) j (by omega)
  have s4_2 : w.heap.size + 1 + 1 < w4.heap.size := by omega
  have o4_2 := fun j => c4 (w.heap.size + 1 + 1) j (by omega)
  have f4_2 := fun j => d4 (w.heap.size + 1 + 1) j (by omega)
  have s4_3 : w.heap.size + 1 + 1 + 1 < w4.heap.size := by omega
  have o4_3 := fun j => c4 (w.heap.size + 1 + 1 + 1) j (by omega)
  have f4_3 := fun j => d4 (w.heap.size + 1 + 1 + 1) j (by omega)
  have s4_4 : w.heap.size + 1 + 1 + 1 + 1 < w4.heap.size := by omega
  have o4_4 := fun j => c4 (w.heap.size + 1 + 1 + 1 + 1) j (by omega)
  have f4_4 := fun j => d4 (w.heap.size + 1 + 1 + 1 + 1) j (by omega)
  have s4_5 : g < w4.heap.size := by omega
  have o4_5 := fun j => c4 (g) j (by omega)
  have f4_5 := fun j => d4 (g) j (by omega)
  have s4_6 : w2.heap.size < w4.heap.size := by omega
  have o4_6 := fun j => c4 (w2.heap.size) j (by omega)
  have f4_6 := fun j => d4 (w2.heap.size) j (by omega)
  clear c4 d4 hz4 hW4
  obtain rfl := hx4.nil rfl
  clear hx4
  go_wp2_with fail
  refine call_be (w := w) (by repeat' (first | (with_reducible exact Below.refl _ _) | (with_reducible assumption) | (with_reducible refine bdn ?_) | (with_reducible refine Below.alloc ?_ ?_ _) | (with_reducible refine Below.drew ?_) | (with_reducible refine Below.setCell ?_ ?_ _) | omega | (simp <;> omega))) (fun HB => shholds_even ea (boxP x y u h) _ 4 cap p _ (H_hs2.out.keep (B := w2.heap.size) (by repeat' (first | (with_reducible exact Below.refl _ _) | (with_reducible assumption) | (with_reducible refine bdn ?_) | (with_reducible refine Below.alloc ?_ ?_ _) | (with_reducible refine Below.drew ?_) | (with_reducible refine Below.setCell ?_ ?_ _) | omega | (simp <;> omega))) rfl) H_hp.out (gkeep HB hShape rfl) (gkeep HB hBound rfl)) ?_
  rw [H_hE.out, H_hC.out]
  intro x5 w5 hx5 hb5 hz5 c5 d5 hW5
  have t5 := hb5.size
  try simp only [World.size_alloc] at hz5 c5 d5
  try simp only [World.size_drew] at hz5 c5 d5
  try simp only [World.size_setCell] at hz5 c5 d5
  try simp only [World.heap_drewN] at hz5 c5 d5
  have s5_0 : w.heap.size < w5.heap.size := by omega
  have o5_0 := fun j => c5 (w.heap.size) j (by omega)
  have f5_0 := fun j => d5 (w.heap.size) j (by omega)
  have s5_1 : w.heap.size + 1 < w5.heap.size := by omega
  have o5_1 := fun j => c5 (w.heap.size + 1) j (by omega)
  have f5_1 := fun j => d5 (w.heap.size + 1) j (by omega)
  have s5_2 : w.heap.size + 1 + 1 < w5.heap.size := by omega
  have o5_2 := fun j => c5 (w.heap.size + 1 + 1) j (by omega)
  have f5_2 := fun j => d5 (w.heap.size + 1 + 1) j (by omega)
  have s5_3 : w.heap.size + 1 + 1 + 1 < w5.heap.size := by omega
  have o5_3 := fun j => c5 (w.heap.size + 1 + 1 + 1) j (by omega)
  have f5_3 := fun j => d5 (w.heap.size + 1 + 1 + 1) j (by omega)
  have s5_4 : w.heap.size + 1 + 1 + 1 + 1 < w5.heap.size := by omega
  have o5_4 := fun j => c5 (w.heap.size + 1 + 1 + 1 + 1) j (by omega)
  have f5_4 := fun j => d5 (w.heap.size + 1 + 1 + 1 + 1) j (by omega)
  have s5_5 : g < w5.heap.size := by omega
  have o5_5 := fun j => c5 (g) j (by omega)
  have f5_5 := fun j => d5 (g) j (by omega)
  have s5_6 : w2.heap.size < w5.heap.size := by omega
  have o5_6 := fun j => c5 (w2.heap.size) j (by omega)
  have f5_6 := fun j => d5 (w2.heap.size) j (by omega)
  clear c5 d5 hz5 hW5
  obtain rfl := hx5.nil rfl
  clear hx5
  go_wp2_with fail
  refine call_bel (w := w) (by repeat' (first | (with_reducible exact Below.refl _ _) | (with_reducible assumption) | (with_reducible refine bdn ?_) | (with_reducible refine Below.alloc ?_ ?_ _) | (with_reducible refine Below.drew ?_) | (with_reducible refine Below.setCell ?_ ?_ _) | omega | (simp <;> omega))) (fun HB => rcmp_c x.n x.d p.xn p.xd _ _ c1 _ H_rx.out H_hpo.out.x rfl rfl H_hc1.out) ?_
  intro w6 hb6 hz6 c6 d6 hW6
  have t6 := hb6.size
  try simp only [World.size_alloc] at hz6 c6 d6
  try simp only [World.size_drew] at hz6 c6 d6
  try simp only [World.size_setCell] at hz6 c6 d6
  try simp only [World.heap_drewN] at hz6 c6 d6
  have s6_0 : w.heap.size < w6.heap.size := by omega
  have o6_0 := fun j => c6 (w.heap.size) j (by omega)
  have f6_0 := fun j => d6 (w.heap.size) j (by omega)
  have s6_1 : w.heap.size + 1 < w6.heap.size := by omega
  have o6_1 := fun j => c6 (w.heap.size + 1) j (by omega)
  have f6_1 := fun j => d6 (w.heap.size + 1) j (by omega)
  have s6_2 : w.heap.size + 1 + 1 < w6.heap.size := by omega
  have o6_2 := fun j => c6 (w.heap.size + 1 + 1) j (by omega)
  have f6_2 := fun j => d6 (w.heap.size + 1 + 1) j (by omega)
  have s6_3 : w.heap.size + 1 + 1 + 1 < w6.heap.size := by omega
  have o6_3 := fun j => c6 (w.heap.size + 1 + 1 + 1) j (by omega)
  have f6_3 := fun j => d6 (w.heap.size + 1 + 1 + 1) j (by omega)
  have s6_4 : w.heap.size + 1 + 1 + 1 + 1 < w6.heap.size := by omega
  have o6_4 := fun j => c6 (w.heap.size + 1 + 1 + 1 + 1) j (by omega)
  have f6_4 := fun j => d6 (w.heap.size + 1 + 1 + 1 + 1) j (by omega)
  have s6_5 : w5.heap.size < w6.heap.size := by omega
  have o6_5 := fun j => c6 (w5.heap.size) j (by omega)
  have f6_5 := fun j => d6 (w5.heap.size) j (by omega)
  clear c6 d6 hz6 hW6
  go_wp2_with fail
  refine call_bel (w := w) (by repeat' (first | (with_reducible exact Below.refl _ _) | (with_reducible assumption) | (with_reducible refine bdn ?_) | (with_reducible refine Below.alloc ?_ ?_ _) | (with_reducible refine Below.drew ?_) | (with_reducible refine Below.setCell ?_ ?_ _) | omega | (simp <;> omega))) (fun HB => rcmp_c p.xn p.xd (x.add u).n (x.add u).d _ _ c2 _ H_hpo.out.x H_rr.out rfl rfl H_hc2.out) ?_
  intro w7 hb7 hz7 c7 d7 hW7
  have t7 := hb7.size
  try simp only [World.size_alloc] at hz7 c7 d7
  try simp only [World.size_drew] at hz7 c7 d7
  try simp only [World.size_setCell] at hz7 c7 d7
  try simp only [World.heap_drewN] at hz7 c7 d7
  have s7_0 : w.heap.size < w7.heap.size := by omega
  have o7_0 := fun j => c7 (w.heap.size) j (by omega)
  have f7_0 := fun j => d7 (w.heap.size) j (by omega)
  have s7_1 : w.heap.size + 1 < w7.heap.size := by omega
  have o7_1 := fun j => c7 (w.heap.size + 1) j (by omega)
  have f7_1 := fun j => d7 (w.heap.size + 1) j (by omega)
  have s7_2 : w.heap.size + 1 + 1 < w7.heap.size := by omega
  have o7_2 := fun j => c7 (w.heap.size + 1 + 1) j (by omega)
  have f7_2 := fun j => d7 (w.heap.size + 1 + 1) j (by omega)
  have s7_3 : w.heap.size + 1 + 1 + 1 < w7.heap.size := by omega
  have o7_3 := fun j => c7 (w.heap.size + 1 + 1 + 1) j (by omega)
  have f7_3 := fun j => d7 (w.heap.size + 1 + 1 + 1) j (by omega)
  have s7_4 : w.heap.size + 1 + 1 + 1 + 1 < w7.heap.size := by omega
  have o7_4 := fun j => c7 (w.heap.size + 1 + 1 + 1 + 1) j (by omega)
  have f7_4 := fun j => d7 (w.heap.size + 1 + 1 + 1 + 1) j (by omega)
  have s7_5 : w5.heap.size < w7.heap.size := by omega
  have o7_5 := fun j => c7 (w5.heap.size) j (by omega)
  have f7_5 := fun j => d7 (w5.heap.size) j (by omega)
  clear c7 d7 hz7 hW7
  go_wp2_with fail
  refine call_bel (w := w) (by repeat' (first | (with_reducible exact Below.refl _ _) | (with_reducible assumption) | (with_reducible refine bdn ?_) | (with_reducible refine Below.alloc ?_ ?_ _) | (with_reducible refine Below.drew ?_) | (with_reducible refine Below.setCell ?_ ?_ _) | omega | (simp <;> omega))) (fun HB => rcmp_c y.n y.d p.yn p.yd _ _ c3 _ H_ry.out H_hpo.out.y rfl rfl H_hc3.out) ?_
  intro w8 hb8 hz8 c8 d8 hW8
  have t8 := hb8.size
  try simp only [World.size_alloc] at hz8 c8 d8
  try simp only [World.size_drew] at hz8 c8 d8
  try simp only [World.size_setCell] at hz8 c8 d8
  try simp only [World.heap_drewN] at hz8 c8 d8
  have s8_0 : w.heap.size < w8.heap.size := by omega
  have o8_0 := fun j => c8 (w.heap.size) j (by omega)
  have f8_0 := fun j => d8 (w.heap.size) j (by omega)
  have s8_1 : w.heap.size + 1 < w8.heap.size := by omega
  have o8_1 := fun j => c8 (w.heap.size + 1) j (by omega)
  have f8_1 := fun j => d8 (w.heap.size + 1) j (by omega)
  have s8_2 : w.heap.size + 1 + 1 < w8.heap.size := by omega
  have o8_2 := fun j => c8 (w.heap.size + 1 + 1) j (by omega)
  have f8_2 := fun j => d8 (w.heap.size + 1 + 1) j (by omega)
  have s8_3 : w.heap.size + 1 + 1 + 1 < w8.heap.size := by omega
  have o8_3 := fun j => c8 (w.heap.size + 1 + 1 + 1) j (by omega)
  have f8_3 := fun j => d8 (w.heap.size + 1 + 1 + 1) j (by omega)
  have s8_4 : w.heap.size + 1 + 1 + 1 + 1 < w8.heap.size := by omega
  have o8_4 := fun j => c8 (w.heap.size + 1 + 1 + 1 + 1) j (by omega)
  have f8_4 := fun j => d8 (w.heap.size + 1 + 1 + 1 + 1) j (by omega)
  have s8_5 : w5.heap.size < w8.heap.size := by omega
  have o8_5 := fun j => c8 (w5.heap.size) j (by omega)
  have f8_5 := fun j => d8 (w5.heap.size) j (by omega)
  clear c8 d8 hz8 hW8
  go_wp2_with fail
  go_returns
  exact ⟨rfl, by repeat' (first | (with_reducible exact Below.refl _ _) | (with_reducible assumption) | (with_reducible refine bdn ?_) | (with_reducible refine Below.alloc ?_ ?_ _) | (with_reducible refine Below.drew ?_) | (with_reducible refine Below.setCell ?_ ?_ _) | omega | (simp <;> omega))⟩
set_option maxHeartbeats 4000000 in
theorem boxes_m4 (ea : Nat → Addr) (x y u h : Fr) (p : Pt) (w : World) (hx : x.I) (hy : y.I) (hu : u.I) (hh : h.I) (hp : p.I) (hPI : ∀ q ∈ boxP x y u h, q.I) (rx : x.R) (ry : y.R) (rr : (x.add u).R) (rb : (y.add h).R) (hpo : PtOk p) (hShape : w.cell? ⟨2, 0, none⟩ = some (.iface 87 (.pointer (some (ea 3))))) (hBound : w.cell? ⟨1, 0, none⟩ = some (.iface 87 (.pointer (some (ea 2)))))
    (hc : boxC x y u h = (0, none)) (hL : boxL x y u h = boxP x y u h) (hpc : p.c = 0) (hn : ¬ u.n < 0) (hn2 : ¬ h.n < 0) (bb : Bool) (c1 c2 c3 c4 : Int) (hC : crC (boxP x y u h) p = (0, none)) (hW : ((crL (boxP x y u h) p).sum != 0) = bb) (hE : (((crL (boxP x y u h) p).length : Int) % 2 == 1) = bb)
    (hc1 : cmpI (x.n * p.xd) (p.xn * x.d) = c1) (hc2 : cmpI (p.xn * (x.add u).d) ((x.add u).n * p.xd) = c2) (hc3 : cmpI (y.n * p.yd) (p.yn * y.d) = c3) (hc4 : cmpI (p.yn * (y.add h).d) ((y.add h).n * p.yd) = c4) (g1 : c1 ≤ 0) (g2 : c2 < 0) (g3 : c3 ≤ 0) (g4 : ¬ c4 < 0) (hb : bb = false) :
    Calls Tryd.prog 4 #[.agg #[.int .i64 x.n, .int .i64 x.d], .agg #[.int .i64 y.n, .int .i64 y.d], .agg #[.int .i64 u.n, .int .i64 u.d], .agg #[.int .i64 h.n, .int .i64 h.d], .agg #[.int .i64 p.xn, .int .i64 p.xd, .int .i64 p.yn, .int .i64 p.yd]] w fun e w' => e = .returned (.bool true) ∧ Below w.heap.size w w' := by
  subst hb
  have zhShape := zlt hShape
  have xhShape := zlts hShape
  have yhShape := zne hShape
  have zhBound := zlt hBound
  have xhBound := zlts hBound
  have yhBound := zne hBound
  have H_hx := Lib.hid hx
  clear hx
  have H_hy := Lib.hid hy
  clear hy
  have H_hu := Lib.hid hu
  clear hu
  have H_hh := Lib.hid hh
  clear hh
  have H_hp := Lib.hid hp
  clear hp
  have H_hPI := Lib.hid hPI
  clear hPI
  have H_rx := Lib.hid rx
  clear rx
  have H_ry := Lib.hid ry
  clear ry
  have H_rr := Lib.hid rr
  clear rr
  have H_rb := Lib.hid rb
  clear rb
  have H_hpo := Lib.hid hpo
  clear hpo
  have H_hc := Lib.hid hc
  clear hc
  have H_hL := Lib.hid hL
  clear hL
  have H_hC := Lib.hid hC
  clear hC
  have H_hW := Lib.hid hW
  clear hW
  have H_hE := Lib.hid hE
  clear hE
  have H_hc1 := Lib.hid hc1
  clear hc1
  have H_hc2 := Lib.hid hc2
  clear hc2
  have H_hc3 := Lib.hid hc3
  clear hc3
  have H_hc4 := Lib.hid hc4
  clear hc4
  go_enter Tryd.func4, Tryd.ntmps4
  go_wp2_with fail
  refine call_bel (w := w) (by repeat' (first | (with_reducible exact Below.refl _ _) | (with_reducible assumption) | (with_reducible refine bdn ?_) | (with_reducible refine Below.alloc ?_ ?_ _) | (with_reducible refine Below.drew ?_) | (with_reducible refine Below.setCell ?_ ?_ _) | omega | (simp <;> omega))) (fun HB => shaped_any ea _ (gkeep HB hShape rfl) (gkeep HB hBound rfl)) ?_
  intro w1 hb1 hz1 c1 d1 hW1
  have t1 := hb1.size
  try simp only [World.size_alloc] at hz1 c1 d1
  try simp only [World.size_drew] at hz1 c1 d1
  try simp only [World.size_setCell] at hz1 c1 d1
  try simp only [World.heap_drewN] at hz1 c1 d1
  have s1_0 : w.heap.size < w1.heap.size := by omega
  have o1_0 := fun j => c1 (w.heap.size) j (by omega)
  have f1_0 := fun j => d1 (w.heap.size) j (by omega)
  have s1_1 : w.heap.size + 1 < w1.heap.size := by omega
  have o1_1 := fun j => c1 (w.heap.size + 1) j (by omega)
  have f1_1 := fun j => d1 (w.heap.size + 1) j (by omega)
  have s1_2 : w.heap.size + 1 + 1 < w1.heap.size := by omega
  have o1_2 := fun j => c1 (w.heap.size + 1 + 1) j (by omega)
  have f1_2 := fun j => d1 (w.heap.size + 1 + 1) j (by omega)
  have s1_3 : w.heap.size + 1 + 1 + 1 < w1.heap.size := by omega
  have o1_3 := fun j => c1 (w.heap.size + 1 + 1 + 1) j (by omega)
  have f1_3 := fun j => d1 (w.heap.size + 1 + 1 + 1) j (by omega)
  have s1_4 : w.heap.size + 1 + 1 + 1 + 1 < w1.heap.size := by omega
  have o1_4 := fun j => c1 (w.heap.size + 1 + 1 + 1 + 1) j (by omega)
  have f1_4 := fun j => d1 (w.heap.size + 1 + 1 + 1 + 1) j (by omega)
  clear c1 d1 hz1 hW1
  go_wp2_with fail
  refine call_pe (w := w) (by repeat' (first | (with_reducible exact Below.refl _ _) | (with_reducible assumption) | (with_reducible refine bdn ?_) | (with_reducible refine Below.alloc ?_ ?_ _) | (with_reducible refine Below.drew ?_) | (with_reducible refine Below.setCell ?_ ?_ _) | omega | (simp <;> omega))) (fun HB => shbox_any ea x y u h _ H_hx.out H_hy.out H_hu.out H_hh.out (gkeep HB hShape rfl) (gkeep HB hBound rfl)) ?_
  rw [H_hL.out, H_hc.out]
  intro v2 x2 w2 hx2 hb2 hz2 c2 d2 hW2
  have t2 := hb2.size
  try simp only [World.size_alloc] at hz2 c2 d2
  try simp only [World.size_drew] at hz2 c2 d2
  try simp only [World.size_setCell] at hz2 c2 d2
  try simp only [World.heap_drewN] at hz2 c2 d2
  have s2_0 : w.heap.size < w2.heap.size := by omega
  have o2_0 := fun j => c2 (w.heap.size) j (by omega)
  have f2_0 := fun j => d2 (w.heap.size) j (by omega)
  have s2_1 : w.heap.size + 1 < w2.heap.size := by omega
  have o2_1 := fun j => c2 (w.heap.size + 1) j (by omega)
  have f2_1 := fun j => d2 (w.heap.size + 1) j (by omega)
  have s2_2 : w.heap.size + 1 + 1 < w2.heap.size := by omega
  have o2_2 := fun j => c2 (w.heap.size + 1 + 1) j (by omega)
  have f2_2 := fun j => d2 (w.heap.size + 1 + 1) j (by omega)
  have s2_3 : w.heap.size + 1 + 1 + 1 < w2.heap.size := by omega
  have o2_3 := fun j => c2 (w.heap.size + 1 + 1 + 1) j (by omega)
  have f2_3 := fun j => d2 (w.heap.size + 1 + 1 + 1) j (by omega)
  have s2_4 : w.heap.size + 1 + 1 + 1 + 1 < w2.heap.size := by omega
  have o2_4 := fun j => c2 (w.heap.size + 1 + 1 + 1 + 1) j (by omega)
  have f2_4 := fun j => d2 (w.heap.size + 1 + 1 + 1 + 1) j (by omega)
  clear c2 d2 hz2 hW2
  obtain ⟨hx2a, hx2b⟩ := hx2
  obtain rfl := hx2a.nil rfl
  obtain ⟨g, cap, rfl, hgb, hgl, hs2, q0, q1, q2, q3⟩ := box_form hx2b H_hPI.out
  have H_hs2 := Lib.hid hs2
  clear hs2
  clear hx2a hx2b
  go_wp2_with fail
  refine call_bel (w := w) (by repeat' (first | (with_reducible exact Below.refl _ _) | (with_reducible assumption) | (with_reducible refine bdn ?_) | (with_reducible refine Below.alloc ?_ ?_ _) | (with_reducible refine Below.drew ?_) | (with_reducible refine Below.setCell ?_ ?_ _) | omega | (simp <;> omega))) (fun HB => rpoint_any p _ H_hp.out) ?_
  intro w3 hb3 hz3 c3 d3 hW3
  have t3 := hb3.size
  have e3_2 : Below w2.heap.size w2 w3 := below_via (by repeat' (first | (with_reducible exact Below.refl _ _) | (with_reducible assumption) | (with_reducible refine bdn ?_) | (with_reducible refine Below.alloc ?_ ?_ _) | (with_reducible refine Below.drew ?_) | (with_reducible refine Below.setCell ?_ ?_ _) | omega | (simp <;> omega))) hW3
  have te3_2 := e3_2.size
  try simp only [World.size_alloc] at hz3 c3 d3
  try simp only [World.size_drew] at hz3 c3 d3
  try simp only [World.size_setCell] at hz3 c3 d3
  try simp only [World.heap_drewN] at hz3 c3 d3
  have s3_0 : w.heap.size < w3.heap.size := by omega
  have o3_0 := fun j => c3 (w.heap.size) j (by omega)
  have f3_0 := fun j => d3 (w.heap.size) j (by omega)
  have s3_1 : w.heap.size + 1 < w3.heap.size := by omega
  have o3_1 := fun j => c3 (w.heap.size + 1) j (by omega)
  have f3_1 := fun j => d3 (w.heap.size + 1) j (by omega)
  have s3_2 : w.heap.size + 1 + 1 < w3.heap.size := by omega
  have o3_2 := fun j => c3 (w.heap.size + 1 + 1) j (by omega)
  have f3_2 := fun j => d3 (w.heap.size + 1 + 1) j (by omega)
  have s3_3 : w.heap.size + 1 + 1 + 1 < w3.heap.size := by omega
  have o3_3 := fun j => c3 (w.heap.size + 1 + 1 + 1) j (by omega)
  have f3_3 := fun j => d3 (w.heap.size + 1 + 1 + 1) j (by omega)
  have s3_4 : w.heap.size + 1 + 1 + 1 + 1 < w3.heap.size := by omega
  have o3_4 := fun j => c3 (w.heap.size + 1 + 1 + 1 + 1) j (by omega)
  have f3_4 := fun j => d3 (w.heap.size + 1 + 1 + 1 + 1) j (by omega)
  have s3_5 : g < w3.heap.size := by omega
  have o3_5 := fun j => c3 (g) j (by omega)
  have f3_5 := fun j => d3 (g) j (by omega)
  have s3_6 : w2.heap.size < w3.heap.size := by omega
  have o3_6 := fun j => c3 (w2.heap.size) j (by omega)
  have f3_6 := fun j => d3 (w2.heap.size) j (by omega)
  clear c3 d3 hz3 hW3
  rw [hpc]
  go_wp2_with fail
  refine call_be (w := w) (by repeat' (first | (with_reducible exact Below.refl _ _) | (with_reducible assumption) | (with_reducible refine bdn ?_) | (with_reducible refine Below.alloc ?_ ?_ _) | (with_reducible refine Below.drew ?_) | (with_reducible refine Below.setCell ?_ ?_ _) | omega | (simp <;> omega))) (fun HB => shholds_wind ea (boxP x y u h) _ 4 cap p _ (H_hs2.out.keep (B := w2.heap.size) (by repeat' (first | (with_reducible exact Below.refl _ _) | (with_reducible assumption) | (with_reducible refine bdn ?_) | (with_reducible refine Below.alloc ?_ ?_ _) | (with_reducible refine Below.drew ?_) | (with_reducible refine Below.setCell ?_ ?_ _) | omega | (simp <;> omega))) rfl) H_hp.out (gkeep HB hShape rfl) (gkeep HB hBound rfl)) ?_
  rw [H_hW.out, H_hC.out]
  intro x4 w4 hx4 hb4 hz4 c4 d4 hW4
  have t4 := hb4.size
  have e4_2 : Below w2.heap.size w2 w4 := below_via (by repeat' (first | (with_reducible exact Below.refl _ _) | (with_reducible assumption) | (with_reducible refine bdn ?_) | (with_reducible refine Below.alloc ?_ ?_ _) | (with_reducible refine Below.drew ?_) | (with_reducible refine Below.setCell ?_ ?_ _) | omega | (simp <;> omega))) hW4
  have te4_2 := e4_2.size
  try simp only [World.size_alloc] at hz4 c4 d4
  try simp only [World.size_drew] at hz4 c4 d4
  try simp only [World.size_setCell] at hz4 c4 d4
  try simp only [World.heap_drewN] at hz4 c4 d4
  have s4_0 : w.heap.size < w4.heap.size := by omega
  have o4_0 := fun j => c4 (w.heap.size) j (by omega)
  have f4_0 := fun j => d4 (w.heap.size) j (by omega)
  have s4_1 : w.heap.size + 1 < w4.heap.size := by omega
  have o4_1 := fun j => c4 (w.heap.size + 1) j (by omega)
  have f4_1 := fun j => d4 (w.heap.size + 1) j (by omega)
  have s4_2 : w.heap.size + 1 + 1 < w4.heap.size := by omega
  have o4_2 := fun j => c4 (w.heap.size + 1 + 1) j (by omega)
  have f4_2 := fun j => d4 (w.heap.size + 1 + 1) j (by omega)
  have s4_3 : w.heap.size + 1 + 1 + 1 < w4.heap.size := by omega
  have o4_3 := fun j => c4 (w.heap.size + 1 + 1 + 1) j (by omega)
  have f4_3 := fun j => d4 (w.heap.size + 1 + 1 + 1) j (by omega)
  have s4_4 : w.heap.size + 1 + 1 + 1 + 1 < w4.heap.size := by omega
  have o4_4 := fun j => c4 (w.heap.size + 1 + 1 + 1 + 1) j (by omega)
  have f4_4 := fun j => d4 (w.heap.size + 1 + 1 + 1 + 1) j (by omega)
  have s4_5 : g < w4.heap.size := by omega
  have o4_5 := fun j => c4 (g) j (by omega)
  have f4_5 := fun j => d4 (g) j (by omega)
  have s4_6 : w2.heap.size < w4.heap.size := by omega
  have o4_6 := fun j => c4 (w2.heap.size) j (by omega)
  have f4_6 := fun j => d4 (w2.heap.size) j (by omega)
  clear c4 d4 hz4 hW4
  obtain rfl := hx4.nil rfl
  clear hx4
  go_wp2_with fail
  refine call_be (w := w) (by repeat' (first | (with_reducible exact Below.refl _ _) | (with_reducible assumption) | (with_reducible refine bdn ?_) | (with_reducible refine Below.alloc ?_ ?_ _) | (with_reducible refine Below.drew ?_) | (with_reducible refine Below.setCell ?_ ?_ _) | omega | (simp <;> omega))) (fun HB => shholds_even ea (boxP x y u h) _ 4 cap p _ (H_hs2.out.keep (B := w2.heap.size) (by repeat' (first | (with_reducible exact Below.refl _ _) | (with_reducible assumption) | (with_reducible refine bdn ?_) | (with_reducible refine Below.alloc ?_ ?_ _) | (with_reducible refine Below.drew ?_) | (with_reducible refine Below.setCell ?_ ?_ _) | omega | (simp <;> omega))) rfl) H_hp.out (gkeep HB hShape rfl) (gkeep HB hBound rfl)) ?_
  rw [H_hE.out, H_hC.out]
  intro x5 w5 hx5 hb5 hz5 c5 d5 hW5
  have t5 := hb5.size
  try simp only [World.size_alloc] at hz5 c5 d5
  try simp only [World.size_drew] at hz5 c5 d5
  try simp only [World.size_setCell] at hz5 c5 d5
  try simp only [World.heap_drewN] at hz5 c5 d5
  have s5_0 : w.heap.size < w5.heap.size := by omega
  have o5_0 := fun j => c5 (w.heap.size) j (by omega)
  have f5_0 := fun j => d5 (w.heap.size) j (by omega)
  have s5_1 : w.heap.size + 1 < w5.heap.size := by omega
  have o5_1 := fun j => c5 (w.heap.size + 1) j (by omega)
  have f5_1 := fun j => d5 (w.heap.size + 1) j (by omega)
  have s5_2 : w.heap.size + 1 + 1 < w5.heap.size := by omega
  have o5_2 := fun j => c5 (w.heap.size + 1 + 1) j (by omega)
  have f5_2 := fun j => d5 (w.heap.size + 1 + 1) j (by omega)
  have s5_3 : w.heap.size + 1 + 1 + 1 < w5.heap.size := by omega
  have o5_3 := fun j => c5 (w.heap.size + 1 + 1 + 1) j (by omega)
  have f5_3 := fun j => d5 (w.heap.size + 1 + 1 + 1) j (by omega)
  have s5_4 : w.heap.size + 1 + 1 + 1 + 1 < w5.heap.size := by omega
  have o5_4 := fun j => c5 (w.heap.size + 1 + 1 + 1 + 1) j (by omega)
  have f5_4 := fun j => d5 (w.heap.size + 1 + 1 + 1 + 1) j (by omega)
  have s5_5 : g < w5.heap.size := by omega
  have o5_5 := fun j => c5 (g) j (by omega)
  have f5_5 := fun j => d5 (g) j (by omega)
  have s5_6 : w2.heap.size < w5.heap.size := by omega
  have o5_6 := fun j => c5 (w2.heap.size) j (by omega)
  have f5_6 := fun j => d5 (w2.heap.size) j (by omega)
  clear c5 d5 hz5 hW5
  obtain rfl := hx5.nil rfl
  clear hx5
  go_wp2_with fail
  refine call_bel (w := w) (by repeat' (first | (with_reducible exact Below.refl _ _) | (with_reducible assumption) | (with_reducible refine bdn ?_) | (with_reducible refine Below.alloc ?_ ?_ _) | (with_reducible refine Below.drew ?_) | (with_reducible refine Below.setCell ?_ ?_ _) | omega | (simp <;> omega))) (fun HB => rcmp_c x.n x.d p.xn p.xd _ _ c1 _ H_rx.out H_hpo.out.x rfl rfl H_hc1.out) ?_
  intro w6 hb6 hz6 c6 d6 hW6
  have t6 := hb6.size
  try simp only [World.size_alloc] at hz6 c6 d6
  try simp only [World.size_drew] at hz6 c6 d6
  try simp only [World.size_setCell] at hz6 c6 d6
  try simp only [World.heap_drewN] at hz6 c6 d6
  have s6_0 : w.heap.size < w6.heap.size := by omega
  have o6_0 := fun j => c6 (w.heap.size) j (by omega)
  have f6_0 := fun j => d6 (w.heap.size) j (by omega)
  have s6_1 : w.heap.size + 1 < w6.heap.size := by omega
  have o6_1 := fun j => c6 (w.heap.size + 1) j (by omega)
  have f6_1 := fun j => d6 (w.heap.size + 1) j (by omega)
  have s6_2 : w.heap.size + 1 + 1 < w6.heap.size := by omega
  have o6_2 := fun j => c6 (w.heap.size + 1 + 1) j (by omega)
  have f6_2 := fun j => d6 (w.heap.size + 1 + 1) j (by omega)
  have s6_3 : w.heap.size + 1 + 1 + 1 < w6.heap.size := by omega
  have o6_3 := fun j => c6 (w.heap.size + 1 + 1 + 1) j (by omega)
  have f6_3 := fun j => d6 (w.heap.size + 1 + 1 + 1) j (by omega)
  have s6_4 : w.heap.size + 1 + 1 + 1 + 1 < w6.heap.size := by omega
  have o6_4 := fun j => c6 (w.heap.size + 1 + 1 + 1 + 1) j (by omega)
  have f6_4 := fun j => d6 (w.heap.size + 1 + 1 + 1 + 1) j (by omega)
  have s6_5 : w5.heap.size < w6.heap.size := by omega
  have o6_5 := fun j => c6 (w5.heap.size) j (by omega)
  have f6_5 := fun j => d6 (w5.heap.size) j (by omega)
  clear c6 d6 hz6 hW6
  go_wp2_with fail
  refine call_bel (w := w) (by repeat' (first | (with_reducible exact Below.refl _ _) | (with_reducible assumption) | (with_reducible refine bdn ?_) | (with_reducible refine Below.alloc ?_ ?_ _) | (with_reducible refine Below.drew ?_) | (with_reducible refine Below.setCell ?_ ?_ _) | omega | (simp <;> omega))) (fun HB => rcmp_c p.xn p.xd (x.add u).n (x.add u).d _ _ c2 _ H_hpo.out.x H_rr.out rfl rfl H_hc2.out) ?_
  intro w7 hb7 hz7 c7 d7 hW7
  have t7 := hb7.size
  try simp only [World.size_alloc] at hz7 c7 d7
  try simp only [World.size_drew] at hz7 c7 d7
  try simp only [World.size_setCell] at hz7 c7 d7
  try simp only [World.heap_drewN] at hz7 c7 d7
  have s7_0 : w.heap.size < w7.heap.size := by omega
  have o7_0 := fun j => c7 (w.heap.size) j (by omega)
  have f7_0 := fun j => d7 (w.heap.size) j (by omega)
  have s7_1 : w.heap.size + 1 < w7.heap.size := by omega
  have o7_1 := fun j => c7 (w.heap.size + 1) j (by omega)
  have f7_1 := fun j => d7 (w.heap.size + 1) j (by omega)
  have s7_2 : w.heap.size + 1 + 1 < w7.heap.size := by omega
  have o7_2 := fun j => c7 (w.heap.size + 1 + 1) j (by omega)
  have f7_2 := fun j => d7 (w.heap.size + 1 + 1) j (by omega)
  have s7_3 : w.heap.size + 1 + 1 + 1 < w7.heap.size := by omega
  have o7_3 := fun j => c7 (w.heap.size + 1 + 1 + 1) j (by omega)
  have f7_3 := fun j => d7 (w.heap.size + 1 + 1 + 1) j (by omega)
  have s7_4 : w.heap.size + 1 + 1 + 1 + 1 < w7.heap.size := by omega
  have o7_4 := fun j => c7 (w.heap.size + 1 + 1 + 1 + 1) j (by omega)
  have f7_4 := fun j => d7 (w.heap.size + 1 + 1 + 1 + 1) j (by omega)
  have s7_5 : w5.heap.size < w7.heap.size := by omega
  have o7_5 := fun j => c7 (w5.heap.size) j (by omega)
  have f7_5 := fun j => d7 (w5.heap.size) j (by omega)
  clear c7 d7 hz7 hW7
  go_wp2_with fail
  refine call_bel (w := w) (by repeat' (first | (with_reducible exact Below.refl _ _) | (with_reducible assumption) | (with_reducible refine bdn ?_) | (with_reducible refine Below.alloc ?_ ?_ _) | (with_reducible refine Below.drew ?_) | (with_reducible refine Below.setCell ?_ ?_ _) | omega | (simp <;> omega))) (fun HB => rcmp_c y.n y.d p.yn p.yd _ _ c3 _ H_ry.out H_hpo.out.y rfl rfl H_hc3.out) ?_
  intro w8 hb8 hz8 c8 d8 hW8
  have t8 := hb8.size
  try simp only [World.size_alloc] at hz8 c8 d8
  try simp only [World.size_drew] at hz8 c8 d8
  try simp only [World.size_setCell] at hz8 c8 d8
  try simp only [World.heap_drewN] at hz8 c8 d8
  have s8_0 : w.heap.size < w8.heap.size := by omega
  have o8_0 := fun j => c8 (w.heap.size) j (by omega)
  have f8_0 := fun j => d8 (w.heap.size) j (by omega)
  have s8_1 : w.heap.size + 1 < w8.heap.size := by omega
  have o8_1 := fun j => c8 (w.heap.size + 1) j (by omega)
  have f8_1 := fun j => d8 (w.heap.size + 1) j (by omega)
  have s8_2 : w.heap.size + 1 + 1 < w8.heap.size := by omega
  have o8_2 := fun j => c8 (w.heap.size + 1 + 1) j (by omega)
  have f8_2 := fun j => d8 (w.heap.size + 1 + 1) j (by omega)
  have s8_3 : w.heap.size + 1 + 1 + 1 < w8.heap.size := by omega
  have o8_3 := fun j => c8 (w.heap.size + 1 + 1 + 1) j (by omega)
  have f8_3 := fun j => d8 (w.heap.size + 1 + 1 + 1) j (by omega)
  have s8_4 : w.heap.size + 1 + 1 + 1 + 1 < w8.heap.size := by omega
  have o8_4 := fun j => c8 (w.heap.size + 1 + 1 + 1 + 1) j (by omega)
  have f8_4 := fun j => d8 (w.heap.size + 1 + 1 + 1 + 1) j (by omega)
  have s8_5 : w5.heap.size < w8.heap.size := by omega
  have o8_5 := fun j => c8 (w5.heap.size) j (by omega)
  have f8_5 := fun j => d8 (w5.heap.size) j (by omega)
  clear c8 d8 hz8 hW8
  go_wp2_with fail
  refine call_bel (w := w) (by repeat' (first | (with_reducible exact Below.refl _ _) | (with_reducible assumption) | (with_reducible refine bdn ?_) | (with_reducible refine Below.alloc ?_ ?_ _) | (with_reducible refine Below.drew ?_) | (with_reducible refine Below.setCell ?_ ?_ _) | omega | (simp <;> omega))) (fun HB => rcmp_c p.yn p.yd (y.add h).n (y.add h).d _ _ c4 _ H_hpo.out.y H_rb.out rfl rfl H_hc4.out) ?_
  intro w9 hb9 hz9 c9 d9 hW9
  have t9 := hb9.size
  try simp only [World.size_alloc] at hz9 c9 d9
  try simp only [World.size_drew] at hz9 c9 d9
  try simp only [World.size_setCell] at hz9 c9 d9
  try simp only [World.heap_drewN] at hz9 c9 d9
  have s9_0 : w.heap.size < w9.heap.size := by omega
  have o9_0 := fun j => c9 (w.heap.size) j (by omega)
  have f9_0 := fun j => d9 (w.heap.size) j (by omega)
  have s9_1 : w.heap.size + 1 < w9.heap.size := by omega
  have o9_1 := fun j => c9 (w.heap.size + 1) j (by omega)
  have f9_1 := fun j => d9 (w.heap.size + 1) j (by omega)
  have s9_2 : w.heap.size + 1 + 1 < w9.heap.size := by omega
  have o9_2 := fun j => c9 (w.heap.size + 1 + 1) j (by omega)
  have f9_2 := fun j => d9 (w.heap.size + 1 + 1) j (by omega)
  have s9_3 : w.heap.size + 1 + 1 + 1 < w9.heap.size := by omega
  have o9_3 := fun j => c9 (w.heap.size + 1 + 1 + 1) j (by omega)
  have f9_3 := fun j => d9 (w.heap.size + 1 + 1 + 1) j (by omega)
  have s9_4 : w.heap.size + 1 + 1 + 1 + 1 < w9.heap.size := by omega
  have o9_4 := fun j => c9 (w.heap.size + 1 + 1 + 1 + 1) j (by omega)
  have f9_4 := fun j => d9 (w.heap.size + 1 + 1 + 1 + 1) j (by omega)
  have s9_5 : w5.heap.size < w9.heap.size := by omega
  have o9_5 := fun j => c9 (w5.heap.size) j (by omega)
  have f9_5 := fun j => d9 (w5.heap.size) j (by omega)
  clear c9 d9 hz9 hW9
  go_wp2_with fail
  go_returns
  exact ⟨by rw [show decide (c4 < 0) = false by simp; omega]; rfl, by repeat' (first | (with_reducible exact Below.refl _ _) | (with_reducible assumption) | (with_reducible refine bdn ?_) | (with_reducible refine Below.alloc ?_ ?_ _) | (with_reducible refine Below.drew ?_) | (with_reducible refine Below.setCell ?_ ?_ _) | omega | (simp <;> omega))⟩
set_option maxHeartbeats 4000000 in
theorem boxes_m5 (ea : Nat → Addr) (x y u h : Fr) (p : Pt) (w : World) (hx : x.I) (hy : y.I) (hu : u.I) (hh : h.I) (hp : p.I) (hPI : ∀ q ∈ boxP x y u h, q.I) (rx : x.R) (ry : y.R) (rr : (x.add u).R) (rb : (y.add h).R) (hpo : PtOk p) (hShape : w.cell? ⟨2, 0, none⟩ = some (.iface 87 (.pointer (some (ea 3))))) (hBound : w.cell? ⟨1, 0, none⟩ = some (.iface 87 (.pointer (some (ea 2)))))
    (hc : boxC x y u h = (0, none)) (hL : boxL x y u h = boxP x y u h) (hpc : p.c = 0) (hn : ¬ u.n < 0) (hn2 : ¬ h.n < 0) (bb : Bool) (c1 c2 c3 c4 : Int) (hC : crC (boxP x y u h) p = (0, none)) (hW : ((crL (boxP x y u h) p).sum != 0) = bb) (hE : (((crL (boxP x y u h) p).length : Int) % 2 == 1) = bb)
    (hc1 : cmpI (x.n * p.xd) (p.xn * x.d) = c1) (hc2 : cmpI (p.xn * (x.add u).d) ((x.add u).n * p.xd) = c2) (hc3 : cmpI (y.n * p.yd) (p.yn * y.d) = c3) (hc4 : cmpI (p.yn * (y.add h).d) ((y.add h).n * p.yd) = c4) (g1 : c1 ≤ 0) (g2 : c2 < 0) (g3 : c3 ≤ 0) (g4 : c4 < 0) (hb : bb = true) :
    Calls Tryd.prog 4 #[.agg #[.int .i64 x.n, .int .i64 x.d], .agg #[.int .i64 y.n, .int .i64 y.d], .agg #[.int .i64 u.n, .int .i64 u.d], .agg #[.int .i64 h.n, .int .i64 h.d], .agg #[.int .i64 p.xn, .int .i64 p.xd, .int .i64 p.yn, .int .i64 p.yd]] w fun e w' => e = .returned (.bool true) ∧ Below w.heap.size w w' := by
  subst hb
  have zhShape := zlt hShape
  have xhShape := zlts hShape
  have yhShape := zne hShape
  have zhBound := zlt hBound
  have xhBound := zlts hBound
  have yhBound := zne hBound
  have H_hx := Lib.hid hx
  clear hx
  have H_hy := Lib.hid hy
  clear hy
  have H_hu := Lib.hid hu
  clear hu
  have H_hh := Lib.hid hh
  clear hh
  have H_hp := Lib.hid hp
  clear hp
  have H_hPI := Lib.hid hPI
  clear hPI
  have H_rx := Lib.hid rx
  clear rx
  have H_ry := Lib.hid ry
  clear ry
  have H_rr := Lib.hid rr
  clear rr
  have H_rb := Lib.hid rb
  clear rb
  have H_hpo := Lib.hid hpo
  clear hpo
  have H_hc := Lib.hid hc
  clear hc
  have H_hL := Lib.hid hL
  clear hL
  have H_hC := Lib.hid hC
  clear hC
  have H_hW := Lib.hid hW
  clear hW
  have H_hE := Lib.hid hE
  clear hE
  have H_hc1 := Lib.hid hc1
  clear hc1
  have H_hc2 := Lib.hid hc2
  clear hc2
  have H_hc3 := Lib.hid hc3
  clear hc3
  have H_hc4 := Lib.hid hc4
  clear hc4
  go_enter Tryd.func4, Tryd.ntmps4
  go_wp2_with fail
  refine call_bel (w := w) (by repeat' (first | (with_reducible exact Below.refl _ _) | (with_reducible assumption) | (with_reducible refine bdn ?_) | (with_reducible refine Below.alloc ?_ ?_ _) | (with_reducible refine Below.drew ?_) | (with_reducible refine Below.setCell ?_ ?_ _) | omega | (simp <;> omega))) (fun HB => shaped_any ea _ (gkeep HB hShape rfl) (gkeep HB hBound rfl)) ?_
  intro w1 hb1 hz1 c1 d1 hW1
  have t1 := hb1.size
  try simp only [World.size_alloc] at hz1 c1 d1
  try simp only [World.size_drew] at hz1 c1 d1
  try simp only [World.size_setCell] at hz1 c1 d1
  try simp only [World.heap_drewN] at hz1 c1 d1
  have s1_0 : w.heap.size < w1.heap.size := by omega
  have o1_0 := fun j => c1 (w.heap.size) j (by omega)
  have f1_0 := fun j => d1 (w.heap.size) j (by omega)
  have s1_1 : w.heap.size + 1 < w1.heap.size := by omega
  have o1_1 := fun j => c1 (w.heap.size + 1) j (by omega)
  have f1_1 := fun j => d1 (w.heap.size + 1) j (by omega)
  have s1_2 : w.heap.size + 1 + 1 < w1.heap.size := by omega
  have o1_2 := fun j => c1 (w.heap.size + 1 + 1) j (by omega)
  have f1_2 := fun j => d1 (w.heap.size + 1 + 1) j (by omega)
  have s1_3 : w.heap.size + 1 + 1 + 1 < w1.heap.size := by omega
  have o1_3 := fun j => c1 (w.heap.size + 1 + 1 + 1) j (by omega)
  have f1_3 := fun j => d1 (w.heap.size + 1 + 1 + 1) j (by omega)
  have s1_4 : w.heap.size + 1 + 1 + 1 + 1 < w1.heap.size := by omega
  have o1_4 := fun j => c1 (w.heap.size + 1 + 1 + 1 + 1) j (by omega)
  have f1_4 := fun j => d1 (w.heap.size + 1 + 1 + 1 + 1) j (by omega)
  clear c1 d1 hz1 hW1
  go_wp2_with fail
  refine call_pe (w := w) (by repeat' (first | (with_reducible exact Below.refl _ _) | (with_reducible assumption) | (with_reducible refine bdn ?_) | (with_reducible refine Below.alloc ?_ ?_ _) | (with_reducible refine Below.drew ?_) | (with_reducible refine Below.setCell ?_ ?_ _) | omega | (simp <;> omega))) (fun HB => shbox_any ea x y u h _ H_hx.out H_hy.out H_hu.out H_hh.out (gkeep HB hShape rfl) (gkeep HB hBound rfl)) ?_
  rw [H_hL.out, H_hc.out]
  intro v2 x2 w2 hx2 hb2 hz2 c2 d2 hW2
  have t2 := hb2.size
  try simp only [World.size_alloc] at hz2 c2 d2
  try simp only [World.size_drew] at hz2 c2 d2
  try simp only [World.size_setCell] at hz2 c2 d2
  try simp only [World.heap_drewN] at hz2 c2 d2
  have s2_0 : w.heap.size < w2.heap.size := by omega
  have o2_0 := fun j => c2 (w.heap.size) j (by omega)
  have f2_0 := fun j => d2 (w.heap.size) j (by omega)
  have s2_1 : w.heap.size + 1 < w2.heap.size := by omega
  have o2_1 := fun j => c2 (w.heap.size + 1) j (by omega)
  have f2_1 := fun j => d2 (w.heap.size + 1) j (by omega)
  have s2_2 : w.heap.size + 1 + 1 < w2.heap.size := by omega
  have o2_2 := fun j => c2 (w.heap.size + 1 + 1) j (by omega)
  have f2_2 := fun j => d2 (w.heap.size + 1 + 1) j (by omega)
  have s2_3 : w.heap.size + 1 + 1 + 1 < w2.heap.size := by omega
  have o2_3 := fun j => c2 (w.heap.size + 1 + 1 + 1) j (by omega)
  have f2_3 := fun j => d2 (w.heap.size + 1 + 1 + 1) j (by omega)
  have s2_4 : w.heap.size + 1 + 1 + 1 + 1 < w2.heap.size := by omega
  have o2_4 := fun j => c2 (w.heap.size + 1 + 1 + 1 + 1) j (by omega)
  have f2_4 := fun j => d2 (w.heap.size + 1 + 1 + 1 + 1) j (by omega)
  clear c2 d2 hz2 hW2
  obtain ⟨hx2a, hx2b⟩ := hx2
  obtain rfl := hx2a.nil rfl
  obtain ⟨g, cap, rfl, hgb, hgl, hs2, q0, q1, q2, q3⟩ := box_form hx2b H_hPI.out
  have H_hs2 := Lib.hid hs2
  clear hs2
  clear hx2a hx2b
  go_wp2_with fail
  refine call_bel (w := w) (by repeat' (first | (with_reducible exact Below.refl _ _) | (with_reducible assumption) | (with_reducible refine bdn ?_) | (with_reducible refine Below.alloc ?_ ?_ _) | (with_reducible refine Below.drew ?_) | (with_reducible refine Below.setCell ?_ ?_ _) | omega | (simp <;> omega))) (fun HB => rpoint_any p _ H_hp.out) ?_
  intro w3 hb3 hz3 c3 d3 hW3
  have t3 := hb3.size
  have e3_2 : Below w2.heap.size w2 w3 := below_via (by repeat' (first | (with_reducible exact Below.refl _ _) | (with_reducible assumption) | (with_reducible refine bdn ?_) | (with_reducible refine Below.alloc ?_ ?_ _) | (with_reducible refine Below.drew ?_) | (with_reducible refine Below.setCell ?_ ?_ _) | omega | (simp <;> omega))) hW3
  have te3_2 := e3_2.size
  try simp only [World.size_alloc] at hz3 c3 d3
  try simp only [World.size_drew] at hz3 c3 d3
  try simp only [World.size_setCell] at hz3 c3 d3
  try simp only [World.heap_drewN] at hz3 c3 d3
  have s3_0 : w.heap.size < w3.heap.size := by omega
  have o3_0 := fun j => c3 (w.heap.size) j (by omega)
  have f3_0 := fun j => d3 (w.heap.size) j (by omega)
  have s3_1 : w.heap.size + 1 < w3.heap.size := by omega
  have o3_1 := fun j => c3 (w.heap.size + 1) j (by omega)
  have f3_1 := fun j => d3 (w.heap.size + 1) j (by omega)
  have s3_2 : w.heap.size + 1 + 1 < w3.heap.size := by omega
  have o3_2 := fun j => c3 (w.heap.size + 1 + 1) j (by omega)
  have f3_2 := fun j => d3 (w.heap.size + 1 + 1) j (by omega)
  have s3_3 : w.heap.size + 1 + 1 + 1 < w3.heap.size := by omega
  have o3_3 := fun j => c3 (w.heap.size + 1 + 1 + 1) j (by omega)
  have f3_3 := fun j => d3 (w.heap.size + 1 + 1 + 1) j (by omega)
  have s3_4 : w.heap.size + 1 + 1 + 1 + 1 < w3.heap.size := by omega
  have o3_4 := fun j => c3 (w.heap.size + 1 + 1 + 1 + 1) j (by omega)
  have f3_4 := fun j => d3 (w.heap.size + 1 + 1 + 1 + 1) j (by omega)
  have s3_5 : g < w3.heap.size := by omega
  have o3_5 := fun j => c3 (g) j (by omega)
  have f3_5 := fun j => d3 (g) j (by omega)
  have s3_6 : w2.heap.size < w3.heap.size := by omega
  have o3_6 := fun j => c3 (w2.heap.size) j (by omega)
  have f3_6 := fun j => d3 (w2.heap.size) j (by omega)
  clear c3 d3 hz3 hW3
  rw [hpc]
  go_wp2_with fail
  refine call_be (w := w) (by repeat' (first | (with_reducible exact Below.refl _ _) | (with_reducible assumption) | (with_reducible refine bdn ?_) | (with_reducible refine Below.alloc ?_ ?_ _) | (with_reducible refine Below.drew ?_) | (with_reducible refine Below.setCell ?_ ?_ _) | omega | (simp <;> omega))) (fun HB => shholds_wind ea (boxP x y u h) _ 4 cap p _ (H_hs2.out.keep (B := w2.heap.size) (by repeat' (first | (with_reducible exact Below.refl _ _) | (with_reducible assumption) | (with_reducible refine bdn ?_) | (with_reducible refine Below.alloc ?_ ?_ _) | (with_reducible refine Below.drew ?_) | (with_reducible refine Below.setCell ?_ ?_ _) | omega | (simp <;> omega))) rfl) H_hp.out (gkeep HB hShape rfl) (gkeep HB hBound rfl)) ?_
  rw [H_hW.out, H_hC.out]
  intro x4 w4 hx4 hb4 hz4 c4 d4 hW4
  have t4 := hb4.size
  have e4_2 : Below w2.heap.size w2 w4 := below_via (by repeat' (first | (with_reducible exact Below.refl _ _) | (with_reducible assumption) | (with_reducible refine bdn ?_) | (with_reducible refine Below.alloc ?_ ?_ _) | (with_reducible refine Below.drew ?_) | (with_reducible refine Below.setCell ?_ ?_ _) | omega | (simp <;> omega))) hW4
  have te4_2 := e4_2.size
  try simp only [World.size_alloc] at hz4 c4 d4
  try simp only [World.size_drew] at hz4 c4 d4
  try simp only [World.size_setCell] at hz4 c4 d4
  try simp only [World.heap_drewN] at hz4 c4 d4
  have s4_0 : w.heap.size < w4.heap.size := by omega
  have o4_0 := fun j => c4 (w.heap.size) j (by omega)
  have f4_0 := fun j => d4 (w.heap.size) j (by omega)
  have s4_1 : w.heap.size + 1 < w4.heap.size := by omega
  have o4_1 := fun j => c4 (w.heap.size + 1) j (by omega)
  have f4_1 := fun j => d4 (w.heap.size + 1) j (by omega)
  have s4_2 : w.heap.size + 1 + 1 < w4.heap.size := by omega
  have o4_2 := fun j => c4 (w.heap.size + 1 + 1) j (by omega)
  have f4_2 := fun j => d4 (w.heap.size + 1 + 1) j (by omega)
  have s4_3 : w.heap.size + 1 + 1 + 1 < w4.heap.size := by omega
  have o4_3 := fun j => c4 (w.heap.size + 1 + 1 + 1) j (by omega)
  have f4_3 := fun j => d4 (w.heap.size + 1 + 1 + 1) j (by omega)
  have s4_4 : w.heap.size + 1 + 1 + 1 + 1 < w4.heap.size := by omega
  have o4_4 := fun j => c4 (w.heap.size + 1 + 1 + 1 + 1) j (by omega)
  have f4_4 := fun j => d4 (w.heap.size + 1 + 1 + 1 + 1) j (by omega)
  have s4_5 : g < w4.heap.size := by omega
  have o4_5 := fun j => c4 (g) j (by omega)
  have f4_5 := fun j => d4 (g) j (by omega)
  have s4_6 : w2.heap.size < w4.heap.size := by omega
  have o4_6 := fun j => c4 (w2.heap.size) j (by omega)
  have f4_6 := fun j => d4 (w2.heap.size) j (by omega)
  clear c4 d4 hz4 hW4
  obtain rfl := hx4.nil rfl
  clear hx4
  go_wp2_with fail
  refine call_be (w := w) (by repeat' (first | (with_reducible exact Below.refl _ _) | (with_reducible assumption) | (with_reducible refine bdn ?_) | (with_reducible refine Below.alloc ?_ ?_ _) | (with_reducible refine Below.drew ?_) | (with_reducible refine Below.setCell ?_ ?_ _) | omega | (simp <;> omega))) (fun HB => shholds_even ea (boxP x y u h) _ 4 cap p _ (H_hs2.out.keep (B := w2.heap.size) (by repeat' (first | (with_reducible exact Below.refl _ _) | (with_reducible assumption) | (with_reducible refine bdn ?_) | (with_reducible refine Below.alloc ?_ ?_ _) | (with_reducible refine Below.drew ?_) | (with_reducible refine Below.setCell ?_ ?_ _) | omega | (simp <;> omega))) rfl) H_hp.out (gkeep HB hShape rfl) (gkeep HB hBound rfl)) ?_
  rw [H_hE.out, H_hC.out]
  intro x5 w5 hx5 hb5 hz5 c5 d5 hW5
  have t5 := hb5.size
  try simp only [World.size_alloc] at hz5 c5 d5
  try simp only [World.size_drew] at hz5 c5 d5
  try simp only [World.size_setCell] at hz5 c5 d5
  try simp only [World.heap_drewN] at hz5 c5 d5
  have s5_0 : w.heap.size < w5.heap.size := by omega
  have o5_0 := fun j => c5 (w.heap.size) j (by omega)
  have f5_0 := fun j => d5 (w.heap.size) j (by omega)
  have s5_1 : w.heap.size + 1 < w5.heap.size := by omega
  have o5_1 := fun j => c5 (w.heap.size + 1) j (by omega)
  have f5_1 := fun j => d5 (w.heap.size + 1) j (by omega)
  have s5_2 : w.heap.size + 1 + 1 < w5.heap.size := by omega
  have o5_2 := fun j => c5 (w.heap.size + 1 + 1) j (by omega)
  have f5_2 := fun j => d5 (w.heap.size + 1 + 1) j (by omega)
  have s5_3 : w.heap.size + 1 + 1 + 1 < w5.heap.size := by omega
  have o5_3 := fun j => c5 (w.heap.size + 1 + 1 + 1) j (by omega)
  have f5_3 := fun j => d5 (w.heap.size + 1 + 1 + 1) j (by omega)
  have s5_4 : w.heap.size + 1 + 1 + 1 + 1 < w5.heap.size := by omega
  have o5_4 := fun j => c5 (w.heap.size + 1 + 1 + 1 + 1) j (by omega)
  have f5_4 := fun j => d5 (w.heap.size + 1 + 1 + 1 + 1) j (by omega)
  have s5_5 : g < w5.heap.size := by omega
  have o5_5 := fun j => c5 (g) j (by omega)
  have f5_5 := fun j => d5 (g) j (by omega)
  have s5_6 : w2.heap.size < w5.heap.size := by omega
  have o5_6 := fun j => c5 (w2.heap.size) j (by omega)
  have f5_6 := fun j => d5 (w2.heap.size) j (by omega)
  clear c5 d5 hz5 hW5
  obtain rfl := hx5.nil rfl
  clear hx5
  go_wp2_with fail
  refine call_bel (w := w) (by repeat' (first | (with_reducible exact Below.refl _ _) | (with_reducible assumption) | (with_reducible refine bdn ?_) | (with_reducible refine Below.alloc ?_ ?_ _) | (with_reducible refine Below.drew ?_) | (with_reducible refine Below.setCell ?_ ?_ _) | omega | (simp <;> omega))) (fun HB => rcmp_c x.n x.d p.xn p.xd _ _ c1 _ H_rx.out H_hpo.out.x rfl rfl H_hc1.out) ?_
  intro w6 hb6 hz6 c6 d6 hW6
  have t6 := hb6.size
  try simp only [World.size_alloc] at hz6 c6 d6
  try simp only [World.size_drew] at hz6 c6 d6
  try simp only [World.size_setCell] at hz6 c6 d6
  try simp only [World.heap_drewN] at hz6 c6 d6
  have s6_0 : w.heap.size < w6.heap.size := by omega
  have o6_0 := fun j => c6 (w.heap.size) j (by omega)
  have f6_0 := fun j => d6 (w.heap.size) j (by omega)
  have s6_1 : w.heap.size + 1 < w6.heap.size := by omega
  have o6_1 := fun j => c6 (w.heap.size + 1) j (by omega)
  have f6_1 := fun j => d6 (w.heap.size + 1) j (by omega)
  have s6_2 : w.heap.size + 1 + 1 < w6.heap.size := by omega
  have o6_2 := fun j => c6 (w.heap.size + 1 + 1) j (by omega)
  have f6_2 := fun j => d6 (w.heap.size + 1 + 1) j (by omega)
  have s6_3 : w.heap.size + 1 + 1 + 1 < w6.heap.size := by omega
  have o6_3 := fun j => c6 (w.heap.size + 1 + 1 + 1) j (by omega)
  have f6_3 := fun j => d6 (w.heap.size + 1 + 1 + 1) j (by omega)
  have s6_4 : w.heap.size + 1 + 1 + 1 + 1 < w6.heap.size := by omega
  have o6_4 := fun j => c6 (w.heap.size + 1 + 1 + 1 + 1) j (by omega)
  have f6_4 := fun j => d6 (w.heap.size + 1 + 1 + 1 + 1) j (by omega)
  have s6_5 : w5.heap.size < w6.heap.size := by omega
  have o6_5 := fun j => c6 (w5.heap.size) j (by omega)
  have f6_5 := fun j => d6 (w5.heap.size) j (by omega)
  clear c6 d6 hz6 hW6
  go_wp2_with fail
  refine call_bel (w := w) (by repeat' (first | (with_reducible exact Below.refl _ _) | (with_reducible assumption) | (with_reducible refine bdn ?_) | (with_reducible refine Below.alloc ?_ ?_ _) | (with_reducible refine Below.drew ?_) | (with_reducible refine Below.setCell ?_ ?_ _) | omega | (simp <;> omega))) (fun HB => rcmp_c p.xn p.xd (x.add u).n (x.add u).d _ _ c2 _ H_hpo.out.x H_rr.out rfl rfl H_hc2.out) ?_
  intro w7 hb7 hz7 c7 d7 hW7
  have t7 := hb7.size
  try simp only [World.size_alloc] at hz7 c7 d7
  try simp only [World.size_drew] at hz7 c7 d7
  try simp only [World.size_setCell] at hz7 c7 d7
  try simp only [World.heap_drewN] at hz7 c7 d7
  have s7_0 : w.heap.size < w7.heap.size := by omega
  have o7_0 := fun j => c7 (w.heap.size) j (by omega)
  have f7_0 := fun j => d7 (w.heap.size) j (by omega)
  have s7_1 : w.heap.size + 1 < w7.heap.size := by omega
  have o7_1 := fun j => c7 (w.heap.size + 1) j (by omega)
  have f7_1 := fun j => d7 (w.heap.size + 1) j (by omega)
  have s7_2 : w.heap.size + 1 + 1 < w7.heap.size := by omega
  have o7_2 := fun j => c7 (w.heap.size + 1 + 1) j (by omega)
  have f7_2 := fun j => d7 (w.heap.size + 1 + 1) j (by omega)
  have s7_3 : w.heap.size + 1 + 1 + 1 < w7.heap.size := by omega
  have o7_3 := fun j => c7 (w.heap.size + 1 + 1 + 1) j (by omega)
  have f7_3 := fun j => d7 (w.heap.size + 1 + 1 + 1) j (by omega)
  have s7_4 : w.heap.size + 1 + 1 + 1 + 1 < w7.heap.size := by omega
  have o7_4 := fun j => c7 (w.heap.size + 1 + 1 + 1 + 1) j (by omega)
  have f7_4 := fun j => d7 (w.heap.size + 1 + 1 + 1 + 1) j (by omega)
  have s7_5 : w5.heap.size < w7.heap.size := by omega
  have o7_5 := fun j => c7 (w5.heap.size) j (by omega)
  have f7_5 := fun j => d7 (w5.heap.size) j (by omega)
  clear c7 d7 hz7 hW7
  go_wp2_with fail
  refine call_bel (w := w) (by repeat' (first | (with_reducible exact Below.refl _ _) | (with_reducible assumption) | (with_reducible refine bdn ?_) | (with_reducible refine Below.alloc ?_ ?_ _) | (with_reducible refine Below.drew ?_) | (with_reducible refine Below.setCell ?_ ?_ _) | omega | (simp <;> omega))) (fun HB => rcmp_c y.n y.d p.yn p.yd _ _ c3 _ H_ry.out H_hpo.out.y rfl rfl H_hc3.out) ?_
  intro w8 hb8 hz8 c8 d8 hW8
  have t8 := hb8.size
  try simp only [World.size_alloc] at hz8 c8 d8
  try simp only [World.size_drew] at hz8 c8 d8
  try simp only [World.size_setCell] at hz8 c8 d8
  try simp only [World.heap_drewN] at hz8 c8 d8
  have s8_0 : w.heap.size < w8.heap.size := by omega
  have o8_0 := fun j => c8 (w.heap.size) j (by omega)
  have f8_0 := fun j => d8 (w.heap.size) j (by omega)
  have s8_1 : w.heap.size + 1 < w8.heap.size := by omega
  have o8_1 := fun j => c8 (w.heap.size + 1) j (by omega)
  have f8_1 := fun j => d8 (w.heap.size + 1) j (by omega)
  have s8_2 : w.heap.size + 1 + 1 < w8.heap.size := by omega
  have o8_2 := fun j => c8 (w.heap.size + 1 + 1) j (by omega)
  have f8_2 := fun j => d8 (w.heap.size + 1 + 1) j (by omega)
  have s8_3 : w.heap.size + 1 + 1 + 1 < w8.heap.size := by omega
  have o8_3 := fun j => c8 (w.heap.size + 1 + 1 + 1) j (by omega)
  have f8_3 := fun j => d8 (w.heap.size + 1 + 1 + 1) j (by omega)
  have s8_4 : w.heap.size + 1 + 1 + 1 + 1 < w8.heap.size := by omega
  have o8_4 := fun j => c8 (w.heap.size + 1 + 1 + 1 + 1) j (by omega)
  have f8_4 := fun j => d8 (w.heap.size + 1 + 1 + 1 + 1) j (by omega)
  have s8_5 : w5.heap.size < w8.heap.size := by omega
  have o8_5 := fun j => c8 (w5.heap.size) j (by omega)
  have f8_5 := fun j => d8 (w5.heap.size) j (by omega)
  clear c8 d8 hz8 hW8
  go_wp2_with fail
  refine call_bel (w := w) (by repeat' (first | (with_reducible exact Below.refl _ _) | (with_reducible assumption) | (with_reducible refine bdn ?_) | (with_reducible refine Below.alloc ?_ ?_ _) | (with_reducible refine Below.drew ?_) | (with_reducible refine Below.setCell ?_ ?_ _) | omega | (simp <;> omega))) (fun HB => rcmp_c p.yn p.yd (y.add h).n (y.add h).d _ _ c4 _ H_hpo.out.y H_rb.out rfl rfl H_hc4.out) ?_
  intro w9 hb9 hz9 c9 d9 hW9
  have t9 := hb9.size
  try simp only [World.size_alloc] at hz9 c9 d9
  try simp only [World.size_drew] at hz9 c9 d9
  try simp only [World.size_setCell] at hz9 c9 d9
  try simp only [World.heap_drewN] at hz9 c9 d9
  have s9_0 : w.heap.size < w9.heap.size := by omega
  have o9_0 := fun j => c9 (w.heap.size) j (by omega)
  have f9_0 := fun j => d9 (w.heap.size) j (by omega)
  have s9_1 : w.heap.size + 1 < w9.heap.size := by omega
  have o9_1 := fun j => c9 (w.heap.size + 1) j (by omega)
  have f9_1 := fun j => d9 (w.heap.size + 1) j (by omega)
  have s9_2 : w.heap.size + 1 + 1 < w9.heap.size := by omega
  have o9_2 := fun j => c9 (w.heap.size + 1 + 1) j (by omega)
  have f9_2 := fun j => d9 (w.heap.size + 1 + 1) j (by omega)
  have s9_3 : w.heap.size + 1 + 1 + 1 < w9.heap.size := by omega
  have o9_3 := fun j => c9 (w.heap.size + 1 + 1 + 1) j (by omega)
  have f9_3 := fun j => d9 (w.heap.size + 1 + 1 + 1) j (by omega)
  have s9_4 : w.heap.size + 1 + 1 + 1 + 1 < w9.heap.size := by omega
  have o9_4 := fun j => c9 (w.heap.size + 1 + 1 + 1 + 1) j (by omega)
  have f9_4 := fun j => d9 (w.heap.size + 1 + 1 + 1 + 1) j (by omega)
  have s9_5 : w5.heap.size < w9.heap.size := by omega
  have o9_5 := fun j => c9 (w5.heap.size) j (by omega)
  have f9_5 := fun j => d9 (w5.heap.size) j (by omega)
  clear c9 d9 hz9 hW9
  go_wp2_with fail
  go_returns
  exact ⟨rfl, by repeat' (first | (with_reducible exact Below.refl _ _) | (with_reducible assumption) | (with_reducible refine bdn ?_) | (with_reducible refine Below.alloc ?_ ?_ _) | (with_reducible refine Below.drew ?_) | (with_reducible refine Below.setCell ?_ ?_ _) | omega | (simp <;> omega))⟩
end Go.Proofs.YthpicnajemnfdaaDoor
