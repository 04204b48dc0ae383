/-
  Several texts as one: Mg.
-/
import Derived.Test.YtlhadgnpkooiaaaGreatDoorGa
import Derived.Test.YtlhadgnpkooiaaaGreatDoorMv6
import Derived.Test.YtlhadgnpkooiaaaGreatDoorMv7
import Derived.Test.YtlhadgnpkooiaaaGreatDoorMr2
import Derived.Test.YtlhadgnpkooiaaaGreatDoorMr3
import Derived.Test.YtlhadgnpkooiaaaGreatDoorSo
import Derived.Test.YtlhadgnpkooiaaaGreatDoorCode3
/-
  The walk over the statement MoveGoes. (Written by wip/mkmg.py.)
-/
namespace Go.Proofs.YtlhadgnpkooiaaaGreatDoor
open Go.RowKit Lead

theorem rpf_any (m : Mv) (p : Pt) (n at' : Int) (w : World) (im : m.I) (ip : p.I) (hn : ((pfC m p).1 : Int) = n) (ha : atI (pfC m p).2 = at') :
    Calls Tryz.prog 10 #[.agg #[.int .i64 m.A.n, .int .i64 m.A.d, .int .i64 m.B.n, .int .i64 m.B.d, .int .i64 m.C.n, .int .i64 m.C.d, .int .i64 m.D.n, .int .i64 m.D.d, .int .i64 m.E.n, .int .i64 m.E.d, .int .i64 m.F.n, .int .i64 m.F.d], .agg #[.int .i64 p.xn, .int .i64 p.xd, .int .i64 p.yn, .int .i64 p.yd]] w fun e w' => e = .returned (.agg #[.int .i64 n, .int .i64 at']) ∧ Below w.heap.size w w' := by
  have hcs : m.c = (0, none) ∨ m.c.1 ≠ 0 := firstF_some (l := m.l) (k := 0)
  rcases hcs with h | h
  · unfold pfC at hn ha
    rw [if_pos h] at hn ha
    by_cases hX : p.X.c = 0
    · by_cases hY : p.Y.c = 0
      · have e : firstF [p.X, p.Y] 6 = (0, none) := by simp [firstF, hX, hY]
        rw [e] at hn ha
        obtain rfl : (0 : Int) = n := hn
        obtain rfl : (-1 : Int) = at' := ha
        exact rpf_4 m p w im ip h hX hY
      · have e : firstF [p.X, p.Y] 6 = (p.Y.c, some 7) := by simp [firstF, hX, hY]
        rw [e] at hn ha
        obtain rfl : (7 : Int) = at' := ha
        exact rpf_3 m p n w im ip h hX hY hn
    · have e : firstF [p.X, p.Y] 6 = (p.X.c, some 6) := by simp [firstF, hX]
      rw [e] at hn ha
      obtain rfl : (6 : Int) = at' := ha
      exact rpf_2 m p n w im ip h hX hn
  · unfold pfC at hn ha
    rw [if_neg (fun e => h (by rw [e]))] at hn ha
    exact rpf_1 m p n at' w im h hn ha
variable {gz : Bool}
theorem mthen_x (ea : Nat → Addr) (m n x : Mv) (c : Nat × Option Nat) (w : World) (im : m.I) (jn : n.I) (hG : Gs gz ea w) (hsz : 20 ≤ w.heap.size) (hx : thenV m n = x) (hc : thenC m n = c) :
    Calls Tryz.prog 13 #[.agg #[.int .i64 m.A.n, .int .i64 m.A.d, .int .i64 m.B.n, .int .i64 m.B.d, .int .i64 m.C.n, .int .i64 m.C.d, .int .i64 m.D.n, .int .i64 m.D.d, .int .i64 m.E.n, .int .i64 m.E.d, .int .i64 m.F.n, .int .i64 m.F.d], .agg #[.int .i64 n.A.n, .int .i64 n.A.d, .int .i64 n.B.n, .int .i64 n.B.d, .int .i64 n.C.n, .int .i64 n.C.d, .int .i64 n.D.n, .int .i64 n.D.d, .int .i64 n.E.n, .int .i64 n.E.d, .int .i64 n.F.n, .int .i64 n.F.d]] w (RetME 183 61 ea c x w) := by
  subst hx hc
  exact mthen_any ea m n w im jn hG hsz
set_option maxHeartbeats 8000000 in
set_option maxRecDepth 100000 in
theorem mg_long (ea : Nat → Addr) (m b : Mv) (p : Pt) (s : ByteArray) (w : World) (im : m.I) (_ib : b.I) (ip : p.I) (hL : Libs w) (hS : Sents ea w) (hng : 20 ≤ w.heap.size) (h200 : ¬ s.size ≤ 200) :
    Calls Tryz.prog 3 #[.agg #[.int .i64 m.A.n, .int .i64 m.A.d, .int .i64 m.B.n, .int .i64 m.B.d, .int .i64 m.C.n, .int .i64 m.C.d, .int .i64 m.D.n, .int .i64 m.D.d, .int .i64 m.E.n, .int .i64 m.E.d, .int .i64 m.F.n, .int .i64 m.F.d], .agg #[.int .i64 b.A.n, .int .i64 b.A.d, .int .i64 b.B.n, .int .i64 b.B.d, .int .i64 b.C.n, .int .i64 b.C.d, .int .i64 b.D.n, .int .i64 b.D.d, .int .i64 b.E.n, .int .i64 b.E.d, .int .i64 b.F.n, .int .i64 b.F.d], .agg #[.int .i64 p.xn, .int .i64 p.xd, .int .i64 p.yn, .int .i64 p.yd], .string s] w fun e w' => e = .returned (.bool true) ∧ Below w.heap.size w w' := by
  have hText := hS.c1
  have hG : Gs true ea w := ⟨hS.c2, hS.c3, fun _ => hS.c11⟩
  have zhText := zlt hText
  have xhText := zlts hText
  have yhText := zne hText
  have g200 : decide (200 < (s.size : Int)) = true := by simp; omega
  have H_hG := Lib.hid hG
  clear hG
  have H_hL := Lib.hid hL
  clear hL
  have H_hS := Lib.hid hS
  clear hS
  have H_im := Lib.hid im
  clear im
  have H_ip := Lib.hid ip
  clear ip
  have H_h200 := Lib.hid h200
  clear h200
  go_enter Tryz.func3, Tryz.ntmps3
  ((try go_simp); (repeat go_step))
  refine call_bel (w := w) (by repeat' (first | (with_reducible first | exact bwR _ _ | assumption | refine bdn ?_ | refine bwA ?_ ?_ _ | refine bwD ?_ | refine bwS ?_ ?_ _) | omega | (simp <;> omega))) (fun HB => moved_any ea _ (H_hL.out.keep HB rfl) (H_hG.out.keep HB rfl) (Nat.le_trans hng HB.size) (gkeep HB hText rfl)) ?_
  intro w1 hb1 hz1 c1 d1 hW1
  have t1 := hb1.size
  clear c1 d1 hz1 hW1
  ((try go_simp); (repeat go_step))
  go_returns
  exact ⟨rfl, by repeat' (first | (with_reducible first | exact bwR _ _ | assumption | refine bdn ?_ | refine bwA ?_ ?_ _ | refine bwD ?_ | refine bwS ?_ ?_ _) | omega | (simp <;> omega))⟩
set_option maxHeartbeats 8000000 in
set_option maxRecDepth 100000 in
theorem mg_law (ea : Nat → Addr) (m b : Mv) (p : Pt) (s : ByteArray) (w : World) (im : m.I) (ib : b.I) (ip : p.I) (hL : Libs w) (hS : Sents ea w) (hng : 20 ≤ w.heap.size) (h200 : s.size ≤ 200) :
    Calls Tryz.prog 3 #[.agg #[.int .i64 m.A.n, .int .i64 m.A.d, .int .i64 m.B.n, .int .i64 m.B.d, .int .i64 m.C.n, .int .i64 m.C.d, .int .i64 m.D.n, .int .i64 m.D.d, .int .i64 m.E.n, .int .i64 m.E.d, .int .i64 m.F.n, .int .i64 m.F.d], .agg #[.int .i64 b.A.n, .int .i64 b.A.d, .int .i64 b.B.n, .int .i64 b.B.d, .int .i64 b.C.n, .int .i64 b.C.d, .int .i64 b.D.n, .int .i64 b.D.d, .int .i64 b.E.n, .int .i64 b.E.d, .int .i64 b.F.n, .int .i64 b.F.d], .agg #[.int .i64 p.xn, .int .i64 p.xd, .int .i64 p.yn, .int .i64 p.yd], .string s] w fun e w' => e = .returned (.bool true) ∧ Below w.heap.size w w' := by
  have hText := hS.c1
  have hG : Gs true ea w := ⟨hS.c2, hS.c3, fun _ => hS.c11⟩
  have zhText := zlt hText
  have xhText := zlts hText
  have yhText := zne hText
  have g200 : decide (200 < (s.size : Int)) = false := by simp; omega
  obtain ⟨n, hn⟩ : ∃ n : Int, (m.c.1 : Int) = n := ⟨_, rfl⟩
  obtain ⟨at', ha⟩ : ∃ z : Int, atZ m.c.2 = z := ⟨_, rfl⟩
  have haI : atI m.c.2 = at' := by rw [← ha]; cases m.c.2 <;> rfl
  have hm11 : m.c.1 ≤ 11 := firstF_le
  have hc11 := atC_le m p
  have hd11 := thenC_le m b
  have haw := at_ways m p
  have htw := then_ways m b
  obtain ⟨q, hq⟩ : ∃ q, atV m p = q := ⟨_, rfl⟩
  obtain ⟨c2, hc2⟩ : ∃ c, atC m p = c := ⟨_, rfl⟩
  obtain ⟨x, hx⟩ : ∃ x, thenV m b = x := ⟨_, rfl⟩
  obtain ⟨c3, hc3⟩ : ∃ c, thenC m b = c := ⟨_, rfl⟩
  rw [hq, hc2] at haw
  rw [hc2] at hc11
  rw [hx, hc3] at htw
  rw [hc3] at hd11
  obtain ⟨n2, hn2⟩ : ∃ n : Int, ((pfC m p).1 : Int) = n := ⟨_, rfl⟩
  obtain ⟨at2, ha2⟩ : ∃ z : Int, atI (pfC m p).2 = z := ⟨_, rfl⟩
  obtain ⟨n5, hn5⟩ : ∃ n : Int, (c2.1 : Int) = n := ⟨_, rfl⟩
  obtain ⟨at5, ha5⟩ : ∃ z : Int, atI c2.2 = z := ⟨_, rfl⟩
  obtain ⟨n7, hn7⟩ : ∃ n : Int, (c3.1 : Int) = n := ⟨_, rfl⟩
  obtain ⟨at7, ha7⟩ : ∃ z : Int, atI c3.2 = z := ⟨_, rfl⟩
  have H_hG := Lib.hid hG
  clear hG
  have H_hL := Lib.hid hL
  clear hL
  have H_hS := Lib.hid hS
  clear hS
  have H_im := Lib.hid im
  clear im
  have H_ib := Lib.hid ib
  clear ib
  have H_ip := Lib.hid ip
  clear ip
  have H_hm11 := Lib.hid hm11
  clear hm11
  have H_hc11 := Lib.hid hc11
  clear hc11
  have H_hd11 := Lib.hid hd11
  clear hd11
  have H_haw := Lib.hid haw
  clear haw
  have H_htw := Lib.hid htw
  clear htw
  have H_hq := Lib.hid hq
  clear hq
  have H_hc2 := Lib.hid hc2
  clear hc2
  have H_hx := Lib.hid hx
  clear hx
  have H_hc3 := Lib.hid hc3
  clear hc3
  have H_hn := Lib.hid hn
  clear hn
  have H_ha := Lib.hid ha
  clear ha
  have H_haI := Lib.hid haI
  clear haI
  have H_hn2 := Lib.hid hn2
  clear hn2
  have H_ha2 := Lib.hid ha2
  clear ha2
  have H_hn5 := Lib.hid hn5
  clear hn5
  have H_ha5 := Lib.hid ha5
  clear ha5
  have H_hn7 := Lib.hid hn7
  clear hn7
  have H_ha7 := Lib.hid ha7
  clear ha7
  go_enter Tryz.func3, Tryz.ntmps3
  ((try go_simp); (repeat go_step))
  refine call_bel (w := w) (by repeat' (first | (with_reducible first | exact bwR _ _ | assumption | refine bdn ?_ | refine bwA ?_ ?_ _ | refine bwD ?_ | refine bwS ?_ ?_ _) | omega | (simp <;> omega))) (fun HB => moved_any ea _ (H_hL.out.keep HB rfl) (H_hG.out.keep HB rfl) (Nat.le_trans hng HB.size) (gkeep HB hText rfl)) ?_
  intro w1 hb1 hz1 c1 d1 hW1
  have t1 := hb1.size
  try simp only [szA] at hz1 c1 d1
  try simp only [szD] at hz1 c1 d1
  try simp only [szS] at hz1 c1 d1
  try simp only [World.heap_drewN] at hz1 c1 d1
  try simp only [szA] at hz1 c1 d1
  try simp only [szD] at hz1 c1 d1
  try simp only [szS] at hz1 c1 d1
  have s1_0 : w.heap.size < w1.heap.size := by omega
  have o1_0 := fun j => c1 (w.heap.size) j (by omega)
  have f1_0 := fun j => d1 (w.heap.size) j (by omega)
  have s1_1 : w.heap.size + 1 < w1.heap.size := by omega
  have o1_1 := fun j => c1 (w.heap.size + 1) j (by omega)
  have f1_1 := fun j => d1 (w.heap.size + 1) j (by omega)
  have s1_2 : w.heap.size + 1 + 1 < w1.heap.size := by omega
  have o1_2 := fun j => c1 (w.heap.size + 1 + 1) j (by omega)
  have f1_2 := fun j => d1 (w.heap.size + 1 + 1) j (by omega)
  clear c1 d1 hz1 hW1
  ((try go_simp); (repeat go_step))
  refine call_bel (w := w) (by repeat' (first | (with_reducible first | exact bwR _ _ | assumption | refine bdn ?_ | refine bwA ?_ ?_ _ | refine bwD ?_ | refine bwS ?_ ?_ _) | omega | (simp <;> omega))) (fun HB => asm_any m _) ?_
  intro w2 hb2 hz2 c2 d2 hW2
  have t2 := hb2.size
  try simp only [szA] at hz2 c2 d2
  try simp only [szD] at hz2 c2 d2
  try simp only [szS] at hz2 c2 d2
  try simp only [World.heap_drewN] at hz2 c2 d2
  try simp only [szA] at hz2 c2 d2
  try simp only [szD] at hz2 c2 d2
  try simp only [szS] at hz2 c2 d2
  have s2_0 : w.heap.size < w2.heap.size := by omega
  have o2_0 := fun j => c2 (w.heap.size) j (by omega)
  have f2_0 := fun j => d2 (w.heap.size) j (by omega)
  have s2_1 : w.heap.size + 1 < w2.heap.size := by omega
  have o2_1 := fun j => c2 (w.heap.size + 1) j (by omega)
  have f2_1 := fun j => d2 (w.heap.size + 1) j (by omega)
  have s2_2 : w.heap.size + 1 + 1 < w2.heap.size := by omega
  have o2_2 := fun j => c2 (w.heap.size + 1 + 1) j (by omega)
  have f2_2 := fun j => d2 (w.heap.size + 1 + 1) j (by omega)
  clear c2 d2 hz2 hW2
  ((try go_simp); (repeat go_step))
  refine call_bel (w := w) (by repeat' (first | (with_reducible first | exact bwR _ _ | assumption | refine bdn ?_ | refine bwA ?_ ?_ _ | refine bwD ?_ | refine bwS ?_ ?_ _) | omega | (simp <;> omega))) (fun HB => rsix_any m n at' _ H_im.out H_hn.out H_ha.out) ?_
  intro w3 hb3 hz3 c3 d3 hW3
  have t3 := hb3.size
  try simp only [szA] at hz3 c3 d3
  try simp only [szD] at hz3 c3 d3
  try simp only [szS] at hz3 c3 d3
  try simp only [World.heap_drewN] at hz3 c3 d3
  try simp only [szA] at hz3 c3 d3
  try simp only [szD] at hz3 c3 d3
  try simp only [szS] at hz3 c3 d3
  have s3_0 : w.heap.size < w3.heap.size := by omega
  have o3_0 := fun j => c3 (w.heap.size) j (by omega)
  have f3_0 := fun j => d3 (w.heap.size) j (by omega)
  have s3_1 : w.heap.size + 1 < w3.heap.size := by omega
  have o3_1 := fun j => c3 (w.heap.size + 1) j (by omega)
  have f3_1 := fun j => d3 (w.heap.size + 1) j (by omega)
  have s3_2 : w.heap.size + 1 + 1 < w3.heap.size := by omega
  have o3_2 := fun j => c3 (w.heap.size + 1 + 1) j (by omega)
  have f3_2 := fun j => d3 (w.heap.size + 1 + 1) j (by omega)
  have s3_3 : w2.heap.size < w3.heap.size := by omega
  have o3_3 := fun j => c3 (w2.heap.size) j (by omega)
  have f3_3 := fun j => d3 (w2.heap.size) j (by omega)
  clear c3 d3 hz3 hW3
  go_upto_region 6 with fail
  obtain ⟨gf, hgf⟩ : ∃ u, w3.heap.size = u := ⟨_, rfl⟩
  obtain ⟨gm, hgm⟩ : ∃ u, w2.heap.size = u := ⟨_, rfl⟩
  obtain ⟨wz, hwz⟩ : ∃ u, w3.alloc (.cells #[.int .i64 n, .int .i64 at'] 33) = u := ⟨_, rfl⟩
  have hBz : Below w.heap.size w wz := by rw [← hwz]; exact hb3.alloc t3 _
  have ka : ∀ j, wz.cell? ⟨w.heap.size, j, none⟩ = #[.int .i64 m.A.n, .int .i64 m.A.d, .int .i64 m.B.n, .int .i64 m.B.d, .int .i64 m.C.n, .int .i64 m.C.d, .int .i64 m.D.n, .int .i64 m.D.d, .int .i64 m.E.n, .int .i64 m.E.d, .int .i64 m.F.n, .int .i64 m.F.d][j]? := fun j => by rw [← hwz, World.cell?_alloc_past _ _ _ s3_0, o3_0, World.cell?_alloc_past _ _ _ s2_0, o2_0, o1_0, World.cell?_alloc_past _ _ _ (by simp; omega), World.cell?_alloc_past _ _ _ (by simp), World.cell?_alloc_at _ _ _ _ rfl]
  have kb : ∀ j, wz.cell? ⟨w.heap.size + 1, j, none⟩ = #[.int .i64 b.A.n, .int .i64 b.A.d, .int .i64 b.B.n, .int .i64 b.B.d, .int .i64 b.C.n, .int .i64 b.C.d, .int .i64 b.D.n, .int .i64 b.D.d, .int .i64 b.E.n, .int .i64 b.E.d, .int .i64 b.F.n, .int .i64 b.F.d][j]? := fun j => by rw [← hwz, World.cell?_alloc_past _ _ _ s3_1, o3_1, World.cell?_alloc_past _ _ _ s2_1, o2_1, o1_1, World.cell?_alloc_past _ _ _ (by simp), World.cell?_alloc_at _ _ _ _ (by simp)]
  have kp : ∀ j, wz.cell? ⟨w.heap.size + 1 + 1, j, none⟩ = #[Value.int .i64 p.xn, .int .i64 p.xd, .int .i64 p.yn, .int .i64 p.yd][j]? := fun j => by rw [← hwz, World.cell?_alloc_past _ _ _ s3_2, o3_2, World.cell?_alloc_past _ _ _ s2_2, o2_2, o1_2, World.cell?_alloc_at _ _ _ _ (by simp)]
  have km : ∀ j, wz.cell? ⟨gm, j, none⟩ = #[.int .i64 m.A.n, .int .i64 m.A.d, .int .i64 m.B.n, .int .i64 m.B.d, .int .i64 m.C.n, .int .i64 m.C.d, .int .i64 m.D.n, .int .i64 m.D.d, .int .i64 m.E.n, .int .i64 m.E.d, .int .i64 m.F.n, .int .i64 m.F.d][j]? := fun j => by rw [← hgm, ← hwz, World.cell?_alloc_past _ _ _ s3_3, o3_3, World.cell?_alloc_new]
  have kf : ∀ j, wz.cell? ⟨gf, j, none⟩ = #[Value.int .i64 n, .int .i64 at'][j]? := fun j => by rw [← hgf, ← hwz, World.cell?_alloc_new]
  have xf : ∀ j, wz.frozen? ⟨gf, j, none⟩ = false := fun j => by rw [← hgf, ← hwz]; exact World.frozen?_alloc_new _ _ _ _
  have zz : wz.heap.size = gf + 1 := by rw [← hwz, ← hgf]; simp
  have lf : gm < gf := by rw [← hgf, ← hgm]; exact s3_3
  have lm : w.heap.size + 1 + 1 < gm := by rw [← hgm]; exact s2_2
  rw [hgf, hgm, hwz]
  clear o1_0 f1_0 o1_1 f1_1 o1_2 f1_2 o2_0 f2_0 o2_1 f2_1 o2_2 f2_2 o3_0 f3_0 o3_1 f3_1 o3_2 f3_2 o3_3 f3_3 s1_0 s1_1 s1_2 s2_0 s2_1 s2_2 s3_0 s3_1 s3_2 s3_3 hb1 hb2 hb3 t1 t2 t3 hgf hgm hwz
  clear w3
  clear w2
  clear w1
  have za : w.heap.size < wz.heap.size := by omega
  have zb : w.heap.size + 1 < wz.heap.size := by omega
  have zp : w.heap.size + 1 + 1 < wz.heap.size := by omega
  have zm : gm < wz.heap.size := by omega
  have zf : gf < wz.heap.size := by omega
  have SK : ∀ W, Below wz.heap.size wz W → Below wz.heap.size wz W ∧ (∀ j, W.cell? ⟨gm, j, none⟩ = #[.int .i64 m.A.n, .int .i64 m.A.d, .int .i64 m.B.n, .int .i64 m.B.d, .int .i64 m.C.n, .int .i64 m.C.d, .int .i64 m.D.n, .int .i64 m.D.d, .int .i64 m.E.n, .int .i64 m.E.d, .int .i64 m.F.n, .int .i64 m.F.d][j]?) ∧ (∀ j, W.cell? ⟨gf, j, none⟩ = #[Value.int .i64 n, .int .i64 at'][j]?) := fun W h => ⟨h, fun j => (h.cell (p := ⟨gm, j, none⟩) zm).trans (km j), fun j => (h.cell (p := ⟨gf, j, none⟩) zf).trans (kf j)⟩
  have hSz := H_hS.out.keep hBz rfl
  have hShz := hSz.c3
  have hBdz := hSz.c2
  have H_SK := Lib.hid SK
  clear SK
  have H_hSz := Lib.hid hSz
  clear hSz
  have H_zz := Lib.hid zz
  clear zz
  go_region_held3 (fun W => Below wz.heap.size wz W ∧ (∀ j, W.cell? ⟨gm, j, none⟩ = #[.int .i64 m.A.n, .int .i64 m.A.d, .int .i64 m.B.n, .int .i64 m.B.d, .int .i64 m.C.n, .int .i64 m.C.d, .int .i64 m.D.n, .int .i64 m.D.d, .int .i64 m.E.n, .int .i64 m.E.d, .int .i64 m.F.n, .int .i64 m.F.d][j]?) ∧ (∀ j, W.cell? ⟨gf, j, none⟩ = #[Value.int .i64 n, .int .i64 at'][j]?)) (exact H_SK.out _ (by repeat' (first | (with_reducible first | exact bwR _ _ | assumption | refine bdn ?_ | refine bwA ?_ ?_ _ | refine bwD ?_ | refine bwS ?_ ?_ _) | omega | (simp <;> omega))))
    (first | (go_at_call 8; go_must ((with_reducible refine (mcheck_any ea m _ H_im.out ?g1 ?g2).mono ?_); (case g1 => exact gkeep (B := wz.heap.size) (by repeat' (first | (with_reducible first | exact bwR _ _ | assumption | refine bdn ?_ | refine bwA ?_ ?_ _ | refine bwD ?_ | refine bwS ?_ ?_ _) | omega | (simp <;> omega))) hShz rfl); (case g2 => exact gkeep (B := wz.heap.size) (by repeat' (first | (with_reducible first | exact bwR _ _ | assumption | refine bdn ?_ | refine bwA ?_ ?_ _ | refine bwD ?_ | refine bwS ?_ ?_ _) | omega | (simp <;> omega))) hBdz rfl); rintro en wU ⟨xU, rfl, hxU, hU⟩; have hbU : Below wz.heap.size wz wU := below_via (by repeat' (first | (with_reducible first | exact bwR _ _ | assumption | refine bdn ?_ | refine bwA ?_ ?_ _ | refine bwD ?_ | refine bwS ?_ ?_ _) | omega | (simp <;> omega))) hU; have tU := hbU.size)) | (go_at_call 7; go_must ((with_reducible refine (faulted1_any ea m.c n at' xU 0 _ ?q1 ?q2 H_hm11.out H_hn.out H_haI.out).mono ?_); (case q1 => exact hxU.keep (B := wU.heap.size) (by repeat' (first | (with_reducible first | exact bwR _ _ | assumption | refine bdn ?_ | refine bwA ?_ ?_ _ | refine bwD ?_ | refine bwS ?_ ?_ _) | omega | (simp <;> omega))) rfl (Nat.zero_le _)); (case q2 => exact H_hSz.out.keep (B := wz.heap.size) (by repeat' (first | (with_reducible first | exact bwR _ _ | assumption | refine bdn ?_ | refine bwA ?_ ?_ _ | refine bwD ?_ | refine bwS ?_ ?_ _) | omega | (simp <;> omega))) rfl); rintro en wV ⟨rfl, hV⟩; have hbV : Below wz.heap.size wz wV := below_via (by repeat' (first | (with_reducible first | exact bwR _ _ | assumption | refine bdn ?_ | refine bwA ?_ ?_ _ | refine bwD ?_ | refine bwS ?_ ?_ _) | omega | (simp <;> omega))) hV; have tV := hbV.size)))
  rename Below _ _ _ ∧ _ => hHeld
  clear hHeld H_SK hxU hU hbU hV tU
  have hBv := below_via hBz hbV
  have ra := fun j => (hbV.cell (p := ⟨w.heap.size, j, none⟩) za).trans (ka j)
  have rb := fun j => (hbV.cell (p := ⟨w.heap.size + 1, j, none⟩) zb).trans (kb j)
  have rp := fun j => (hbV.cell (p := ⟨w.heap.size + 1 + 1, j, none⟩) zp).trans (kp j)
  have rm := fun j => (hbV.cell (p := ⟨gm, j, none⟩) zm).trans (km j)
  have rf := fun j => (hbV.cell (p := ⟨gf, j, none⟩) zf).trans (kf j)
  have yf := fun j => (hbV.frozen (p := ⟨gf, j, none⟩) zf).trans (xf j)
  have lV : gf < wV.heap.size := by omega
  clear ka kb kp km kf xf za zb zp zm zf hBz hbV hShz hBdz H_hSz H_zz tV
  ((try go_simp); (repeat go_step))
  refine call_qe (w := w) (by repeat' (first | (with_reducible first | exact bwR _ _ | assumption | refine bdn ?_ | refine bwA ?_ ?_ _ | refine bwD ?_ | refine bwS ?_ ?_ _) | omega | (simp <;> omega))) (fun HB => mat_any ea m p _ H_im.out H_ip.out (H_hG.out.keep HB rfl) (Nat.le_trans hng HB.size)) ?_
  rw [H_hq.out, H_hc2.out]
  intro x5 w5 hx5 hb5 hz5 c5 d5 hW5
  have t5 := hb5.size
  have e5_V : Below wV.heap.size wV w5 := below_via (by repeat' (first | (with_reducible first | exact bwR _ _ | assumption | refine bdn ?_ | refine bwA ?_ ?_ _ | refine bwD ?_ | refine bwS ?_ ?_ _) | omega | (simp <;> omega))) hW5
  have te5_V := e5_V.size
  try simp only [szA] at hz5 c5 d5
  try simp only [szD] at hz5 c5 d5
  try simp only [szS] at hz5 c5 d5
  try simp only [World.heap_drewN] at hz5 c5 d5
  try simp only [szA] at hz5 c5 d5
  try simp only [szD] at hz5 c5 d5
  try simp only [szS] at hz5 c5 d5
  have s5_0 : w.heap.size < w5.heap.size := by omega
  have o5_0 := fun j => c5 (w.heap.size) j (by omega)
  have f5_0 := fun j => d5 (w.heap.size) j (by omega)
  have s5_1 : w.heap.size + 1 < w5.heap.size := by omega
  have o5_1 := fun j => c5 (w.heap.size + 1) j (by omega)
  have f5_1 := fun j => d5 (w.heap.size + 1) j (by omega)
  have s5_2 : w.heap.size + 1 + 1 < w5.heap.size := by omega
  have o5_2 := fun j => c5 (w.heap.size + 1 + 1) j (by omega)
  have f5_2 := fun j => d5 (w.heap.size + 1 + 1) j (by omega)
  have s5_3 : gm < w5.heap.size := by omega
  have o5_3 := fun j => c5 (gm) j (by omega)
  have f5_3 := fun j => d5 (gm) j (by omega)
  have s5_4 : gf < w5.heap.size := by omega
  have o5_4 := fun j => c5 (gf) j (by omega)
  have f5_4 := fun j => d5 (gf) j (by omega)
  clear c5 d5 hz5 hW5
  ((try go_simp); (repeat go_step))
  refine call_bel (w := w) (by repeat' (first | (with_reducible first | exact bwR _ _ | assumption | refine bdn ?_ | refine bwA ?_ ?_ _ | refine bwD ?_ | refine bwS ?_ ?_ _) | omega | (simp <;> omega))) (fun HB => rpf_any m p n2 at2 _ H_im.out H_ip.out H_hn2.out H_ha2.out) ?_
  intro w6 hb6 hz6 c6 d6 hW6
  have t6 := hb6.size
  have e6_V : Below wV.heap.size wV w6 := below_via (by repeat' (first | (with_reducible first | exact bwR _ _ | assumption | refine bdn ?_ | refine bwA ?_ ?_ _ | refine bwD ?_ | refine bwS ?_ ?_ _) | omega | (simp <;> omega))) hW6
  have te6_V := e6_V.size
  have e6_5 : Below w5.heap.size w5 w6 := below_via (by repeat' (first | (with_reducible first | exact bwR _ _ | assumption | refine bdn ?_ | refine bwA ?_ ?_ _ | refine bwD ?_ | refine bwS ?_ ?_ _) | omega | (simp <;> omega))) hW6
  have te6_5 := e6_5.size
  try simp only [szA] at hz6 c6 d6
  try simp only [szD] at hz6 c6 d6
  try simp only [szS] at hz6 c6 d6
  try simp only [World.heap_drewN] at hz6 c6 d6
  try simp only [szA] at hz6 c6 d6
  try simp only [szD] at hz6 c6 d6
  try simp only [szS] at hz6 c6 d6
  have s6_0 : w.heap.size < w6.heap.size := by omega
  have o6_0 := fun j => c6 (w.heap.size) j (by omega)
  have f6_0 := fun j => d6 (w.heap.size) j (by omega)
  have s6_1 : w.heap.size + 1 < w6.heap.size := by omega
  have o6_1 := fun j => c6 (w.heap.size + 1) j (by omega)
  have f6_1 := fun j => d6 (w.heap.size + 1) j (by omega)
  have s6_2 : w.heap.size + 1 + 1 < w6.heap.size := by omega
  have o6_2 := fun j => c6 (w.heap.size + 1 + 1) j (by omega)
  have f6_2 := fun j => d6 (w.heap.size + 1 + 1) j (by omega)
  have s6_3 : gm < w6.heap.size := by omega
  have o6_3 := fun j => c6 (gm) j (by omega)
  have f6_3 := fun j => d6 (gm) j (by omega)
  have s6_4 : gf < w6.heap.size := by omega
  have o6_4 := fun j => c6 (gf) j (by omega)
  have f6_4 := fun j => d6 (gf) j (by omega)
  have s6_5 : w5.heap.size < w6.heap.size := by omega
  have o6_5 := fun j => c6 (w5.heap.size) j (by omega)
  have f6_5 := fun j => d6 (w5.heap.size) j (by omega)
  clear c6 d6 hz6 hW6
  go_upto_if 54 with fail
  obtain ⟨gg, hgg⟩ : ∃ u, w6.heap.size = u := ⟨_, rfl⟩
  obtain ⟨gq, hgq⟩ : ∃ u, w5.heap.size = u := ⟨_, rfl⟩
  obtain ⟨wy, hwy⟩ : ∃ u, (w6.alloc (.cells #[.int .i64 n2, .int .i64 at2] 33)).alloc (.cells #[.int .i64 0, .int .i64 0, .int .i64 0, .int .i64 0] 27) = u := ⟨_, rfl⟩
  have lq : gq < gg := by rw [← hgq, ← hgg]; exact s6_5
  have lfq : gf < gq := by rw [← hgq]; exact s5_4
  have ly : wy.heap.size = gg + 2 := by rw [← hwy, ← hgg]; simp
  have hBy : Below w.heap.size w wy := by rw [← hwy]; exact (hb6.alloc t6 _).alloc (by simp; omega) _
  have h6y : Below w6.heap.size w6 wy := by rw [← hwy]; exact ((Below.refl _ _).alloc (Nat.le_refl _) _).alloc (by simp) _
  have h5y : Below w5.heap.size w5 wy := by rw [← hwy]; exact ((e6_5).alloc te6_5 _).alloc (by simp; omega) _
  have kx : ErrAt 183 61 ea 0 w5 x5 c2 := hx5.keep (B := w5.heap.size) (Below.refl _ _) rfl (Nat.zero_le _)
  have ka := fun j => (h6y.cell (p := ⟨w.heap.size, j, none⟩) s6_0).trans ((o6_0 j).trans ((World.cell?_alloc_past _ _ _ s5_0).trans ((o5_0 j).trans (ra j))))
  have kb := fun j => (h6y.cell (p := ⟨w.heap.size + 1, j, none⟩) s6_1).trans ((o6_1 j).trans ((World.cell?_alloc_past _ _ _ s5_1).trans ((o5_1 j).trans (rb j))))
  have kp := fun j => (h6y.cell (p := ⟨w.heap.size + 1 + 1, j, none⟩) s6_2).trans ((o6_2 j).trans ((World.cell?_alloc_past _ _ _ s5_2).trans ((o5_2 j).trans (rp j))))
  have km := fun j => (h6y.cell (p := ⟨gm, j, none⟩) s6_3).trans ((o6_3 j).trans ((World.cell?_alloc_past _ _ _ s5_3).trans ((o5_3 j).trans (rm j))))
  have kf := fun j => (h6y.cell (p := ⟨gf, j, none⟩) s6_4).trans ((o6_4 j).trans ((World.cell?_alloc_past _ _ _ s5_4).trans ((o5_4 j).trans (rf j))))
  have xf := fun j => (h6y.frozen (p := ⟨gf, j, none⟩) s6_4).trans ((f6_4 j).trans ((World.frozen?_alloc_past _ _ _ s5_4).trans ((f5_4 j).trans (yf j))))
  have kq : ∀ j, wy.cell? ⟨gq, j, none⟩ = #[Value.int .i64 q.xn, .int .i64 q.xd, .int .i64 q.yn, .int .i64 q.yd][j]? := fun j => by rw [← hgq, h6y.cell (p := ⟨w5.heap.size, j, none⟩) s6_5, o6_5, World.cell?_alloc_new]
  have kg : ∀ j, wy.cell? ⟨gg, j, none⟩ = #[Value.int .i64 n2, .int .i64 at2][j]? := fun j => by rw [← hgg, ← hwy, World.cell?_alloc_past _ _ _ (by simp), World.cell?_alloc_new]
  have xg : ∀ j, wy.frozen? ⟨gg, j, none⟩ = false := fun j => by rw [← hgg, ← hwy, World.frozen?_alloc_past _ _ _ (by simp)]; exact World.frozen?_alloc_new _ _ _ _
  have kw : ∀ j, wy.cell? ⟨gg + 1, j, none⟩ = #[Value.int .i64 0, .int .i64 0, .int .i64 0, .int .i64 0][j]? := fun j => by rw [← hgg, ← hwy, World.cell?_alloc_at _ _ _ _ (by simp)]
  have xw : ∀ j, wy.frozen? ⟨gg + 1, j, none⟩ = false := fun j => by rw [← hgg, ← hwy]; exact World.frozen?_alloc_at _ _ _ _ (by simp)
  try simp only [World.size_alloc]
  rw [hgg, hgq, hwy]
  clear o5_0 f5_0 o5_1 f5_1 o5_2 f5_2 o5_3 f5_3 o5_4 f5_4 s5_0 s5_1 s5_2 s5_3 s5_4 o6_0 f6_0 o6_1 f6_1 o6_2 f6_2 o6_3 f6_3 o6_4 f6_4 o6_5 f6_5 s6_0 s6_1 s6_2 s6_3 s6_4 s6_5 e5_V te5_V e6_V te6_V e6_5 te6_5 hb5 hb6 t5 t6 hx5 h6y ra rb rp rm rf yf hBv hgg hwy lV
  clear w6
  clear wV
  have H_kx := Lib.hid kx
  clear kx
  have H_h5y := Lib.hid h5y
  clear h5y
  have H_hgq := Lib.hid hgq
  clear hgq
  have za : w.heap.size < wy.heap.size := by omega
  have zb : w.heap.size + 1 < wy.heap.size := by omega
  have zp : w.heap.size + 1 + 1 < wy.heap.size := by omega
  have zg : gg < wy.heap.size := by omega
  have zw : gg + 1 < wy.heap.size := by omega
  have neg1 : gg ≠ gg + 1 := by omega
  have neg2 : gg + 1 ≠ gg := by omega
  have leg : gg ≤ gg + 1 := by omega
  go_cut [16, 17] (fun s16 s17 wx => Below gg wy wx ∧ gg + 1 < wx.heap.size ∧ (∀ j, wx.cell? ⟨gg, j, none⟩ = #[Value.int .i64 n5, .int .i64 at5][j]?) ∧ (∀ j, wx.cell? ⟨gg + 1, j, none⟩ = #[Value.int .i64 q.xn, .int .i64 q.xd, .int .i64 q.yn, .int .i64 q.yd][j]?))
  case first =>
    clear kb km kf xf kq
    rcases H_haw.out with ⟨h1, h2, h3⟩ | ⟨h1, mR, pR, h2, h3, h4⟩ | ⟨h1, mR, pR, h2, h3, h4⟩
    · have e1 : (n2 == 0) = false := by rw [beq_eq_false_iff_ne, ← H_hn2.out]; omega
      obtain rfl : n2 = n5 := by rw [← H_hn2.out, ← H_hn5.out, h2]
      obtain rfl : at2 = at5 := by rw [← H_ha2.out, ← H_ha5.out, h2]
      subst h3
      clear h1 h2
      ((try go_simp); (repeat go_step))
      go_meet
      exact ⟨Below.refl _ _, zw, kg, kw⟩
    · obtain rfl : n2 = 0 := by rw [← H_hn2.out, h1]; rfl
      obtain rfl : n5 = 0 := by rw [← H_hn5.out, h3]; rfl
      obtain rfl : at5 = -1 := by rw [← H_ha5.out, h3]; rfl
      obtain rfl : at2 = -1 := by rw [← H_ha2.out, h1]; rfl
      have h4' := h4.symm
      clear h1 h3 h4
      have H_mR := Lib.hid mR
      clear mR
      have H_pR := Lib.hid pR
      clear pR
      have H_h2 := Lib.hid h2
      clear h2
      have H_h4' := Lib.hid h4'
      clear h4'
      ((try go_simp); (repeat go_step))
      refine call_bel (w := w) (by repeat' (first | (with_reducible first | exact bwR _ _ | assumption | refine bdn ?_ | refine bwA ?_ ?_ _ | refine bwD ?_ | refine bwS ?_ ?_ _) | omega | (simp <;> omega))) (fun HB => rgoes_any m p q true _ H_mR.out H_pR.out H_h4'.out H_h2.out) ?_
      intro w7 hb7 hz7 c7 d7 hW7
      have t7 := hb7.size
      have e7_y : Below wy.heap.size wy w7 := below_via (by repeat' (first | (with_reducible first | exact bwR _ _ | assumption | refine bdn ?_ | refine bwA ?_ ?_ _ | refine bwD ?_ | refine bwS ?_ ?_ _) | omega | (simp <;> omega))) hW7
      have te7_y := e7_y.size
      try simp only [szA] at hz7 c7 d7
      try simp only [szD] at hz7 c7 d7
      try simp only [szS] at hz7 c7 d7
      try simp only [World.heap_drewN] at hz7 c7 d7
      try simp only [szA] at hz7 c7 d7
      try simp only [szD] at hz7 c7 d7
      try simp only [szS] at hz7 c7 d7
      have s7_0 : gg < w7.heap.size := by omega
      have o7_0 := fun j => c7 (gg) j (by omega)
      have f7_0 := fun j => d7 (gg) j (by omega)
      have s7_1 : gg + 1 < w7.heap.size := by omega
      have o7_1 := fun j => c7 (gg + 1) j (by omega)
      have f7_1 := fun j => d7 (gg + 1) j (by omega)
      clear c7 d7 hz7 hW7
      have hg7 := e7_y.mono (show gg ≤ wy.heap.size by omega)
      have c7 := fun j => (o7_0 j).trans (kg j)
      have d7 := fun j => (o7_1 j).trans (kw j)
      ((try go_simp); (repeat go_step))
      go_meet
      refine ⟨by repeat' (first | (with_reducible first | exact bwR _ _ | assumption | refine bdn ?_ | refine bwA ?_ ?_ _ | refine bwD ?_ | refine bwS ?_ ?_ _) | omega | (simp <;> omega)), by (simp <;> omega), ?_, ?_⟩
      · intro j; (with_reducible refine (World.cell?_alloc_past _ _ _ ?_).trans ((oth4z neg1 _ _ _ _ j).trans (c7 j))); (simp <;> omega)
      · intro j; (with_reducible refine (World.cell?_alloc_past _ _ _ ?_).trans (set4z d7 _ _ _ _ j)); (simp <;> omega)
    · obtain rfl : n2 = 0 := by rw [← H_hn2.out, h1]; rfl
      obtain rfl : n5 = 2 := by rw [← H_hn5.out, h3]; rfl
      obtain rfl : at5 = -1 := by rw [← H_ha5.out, h3]; rfl
      obtain rfl : at2 = -1 := by rw [← H_ha2.out, h1]; rfl
      have h4' := h4.symm
      clear h1 h3 h4
      have H_mR := Lib.hid mR
      clear mR
      have H_pR := Lib.hid pR
      clear pR
      have H_h2 := Lib.hid h2
      clear h2
      have H_h4' := Lib.hid h4'
      clear h4'
      ((try go_simp); (repeat go_step))
      refine call_bel (w := w) (by repeat' (first | (with_reducible first | exact bwR _ _ | assumption | refine bdn ?_ | refine bwA ?_ ?_ _ | refine bwD ?_ | refine bwS ?_ ?_ _) | omega | (simp <;> omega))) (fun HB => rgoes_any m p q false _ H_mR.out H_pR.out H_h4'.out H_h2.out) ?_
      intro w7 hb7 hz7 c7 d7 hW7
      have t7 := hb7.size
      have e7_y : Below wy.heap.size wy w7 := below_via (by repeat' (first | (with_reducible first | exact bwR _ _ | assumption | refine bdn ?_ | refine bwA ?_ ?_ _ | refine bwD ?_ | refine bwS ?_ ?_ _) | omega | (simp <;> omega))) hW7
      have te7_y := e7_y.size
      try simp only [szA] at hz7 c7 d7
      try simp only [szD] at hz7 c7 d7
      try simp only [szS] at hz7 c7 d7
      try simp only [World.heap_drewN] at hz7 c7 d7
      try simp only [szA] at hz7 c7 d7
      try simp only [szD] at hz7 c7 d7
      try simp only [szS] at hz7 c7 d7
      have s7_0 : gg < w7.heap.size := by omega
      have o7_0 := fun j => c7 (gg) j (by omega)
      have f7_0 := fun j => d7 (gg) j (by omega)
      have s7_1 : gg + 1 < w7.heap.size := by omega
      have o7_1 := fun j => c7 (gg + 1) j (by omega)
      have f7_1 := fun j => d7 (gg + 1) j (by omega)
      clear c7 d7 hz7 hW7
      have hg7 := e7_y.mono (show gg ≤ wy.heap.size by omega)
      have c7 := fun j => (o7_0 j).trans (kg j)
      have d7 := fun j => (o7_1 j).trans (kw j)
      have v7 := fun j => (f7_0 j).trans (xg j)
      ((try go_simp); (repeat go_step))
      refine call_bel (w := w) (by repeat' (first | (with_reducible first | exact bwR _ _ | assumption | refine bdn ?_ | refine bwA ?_ ?_ _ | refine bwD ?_ | refine bwS ?_ ?_ _) | omega | (simp <;> omega))) (fun HB => rbare2_any 2 _) ?_
      intro w8 hb8 hz8 c8 d8 hW8
      have t8 := hb8.size
      try simp only [szA] at hz8 c8 d8
      try simp only [szD] at hz8 c8 d8
      try simp only [szS] at hz8 c8 d8
      try simp only [World.heap_drewN] at hz8 c8 d8
      try simp only [szA] at hz8 c8 d8
      try simp only [szD] at hz8 c8 d8
      try simp only [szS] at hz8 c8 d8
      have s8_0 : gg < w8.heap.size := by omega
      have o8_0 := fun j => c8 (gg) j (by omega)
      have f8_0 := fun j => d8 (gg) j (by omega)
      have s8_1 : gg + 1 < w8.heap.size := by omega
      have o8_1 := fun j => c8 (gg + 1) j (by omega)
      have f8_1 := fun j => d8 (gg + 1) j (by omega)
      clear c8 d8 hz8
      have hg8 : Below gg wy w8 := belB (by repeat' (first | (with_reducible first | exact bwR _ _ | assumption | refine bdn ?_ | refine bwA ?_ ?_ _ | refine bwD ?_ | refine bwS ?_ ?_ _) | omega | (simp <;> omega))) hW8 (by (simp <;> omega))
      have c8 : ∀ j, w8.cell? ⟨gg, j, none⟩ = #[Value.int .i64 0, .int .i64 (-1)][j]? := by
        intro j; (with_reducible refine (o8_0 j).trans ((World.cell?_alloc_past _ _ _ ?_).trans ((oth4z neg1 _ _ _ _ j).trans (c7 j)))); (simp <;> omega)
      have d8 : ∀ j, w8.cell? ⟨gg + 1, j, none⟩ = #[Value.int .i64 q.xn, .int .i64 q.xd, .int .i64 q.yn, .int .i64 q.yd][j]? := by
        intro j; (with_reducible refine (o8_1 j).trans ((World.cell?_alloc_past _ _ _ ?_).trans (set4z d7 _ _ _ _ j))); (simp <;> omega)
      have v8 : ∀ j, w8.frozen? ⟨gg, j, none⟩ = false := by
        intro j; rw [f8_0, World.frozen?_alloc_past _ _ _ (by (simp <;> omega)), World.frozen?_setCell, World.frozen?_setCell, World.frozen?_setCell, World.frozen?_setCell]; exact v7 j
      clear o8_0 f8_0 o8_1 f8_1 o7_0 f7_0 o7_1 f7_1 c7 d7 v7 kg kw xg xw hW8 ka kp
      ((try go_simp); (repeat go_step))
      go_meet
      refine ⟨by repeat' (first | (with_reducible first | exact bwR _ _ | assumption | refine bdn ?_ | refine bwA ?_ ?_ _ | refine bwD ?_ | refine bwS ?_ ?_ _) | omega | (simp <;> omega)), by (simp <;> omega), ?_, ?_⟩
      · exact set2z c8 _ _
      · intro j; rw [oth2z neg2]; exact d8 j
  case rest =>
    obtain ⟨hBc, lc, cg, cw⟩ := hcut
    rename World => wc
    have tc := hBc.size
    have hBwc : Below w.heap.size w wc := hBy.trans (hBc.mono (by omega))
    have ra := fun j => (hBc.cell (p := ⟨w.heap.size, j, none⟩) (show w.heap.size < gg by omega)).trans (ka j)
    have rb := fun j => (hBc.cell (p := ⟨w.heap.size + 1, j, none⟩) (show w.heap.size + 1 < gg by omega)).trans (kb j)
    have rp := fun j => (hBc.cell (p := ⟨w.heap.size + 1 + 1, j, none⟩) (show w.heap.size + 1 + 1 < gg by omega)).trans (kp j)
    have rm := fun j => (hBc.cell (p := ⟨gm, j, none⟩) (show gm < gg by omega)).trans (km j)
    have rf := fun j => (hBc.cell (p := ⟨gf, j, none⟩) (show gf < gg by omega)).trans (kf j)
    have rq := fun j => (hBc.cell (p := ⟨gq, j, none⟩) lq).trans (kq j)
    have yf := fun j => (hBc.frozen (p := ⟨gf, j, none⟩) (show gf < gg by omega)).trans (xf j)
    have za' : w.heap.size < wc.heap.size := by omega
    have zb' : w.heap.size + 1 < wc.heap.size := by omega
    have zm' : gm < wc.heap.size := by omega
    have zf' : gf < wc.heap.size := by omega
    have zq' : gq < wc.heap.size := by omega
    have kE := H_kx.out.keep (B := w5.heap.size) (H_h5y.out.trans (hBc.mono (by have := H_hgq.out; omega))) rfl (Nat.zero_le 0)
    have hSc := H_hS.out.keep hBwc rfl
    clear ka kb kp km kf xf kq kg xg kw xw hBy hBc za zb zp zg zw neg1 neg2 leg H_kx H_h5y H_hgq ly tc
    clear wy
    clear w5
    have H_kE := Lib.hid kE
    clear kE
    have H_hSc := Lib.hid hSc
    clear hSc
    ((try go_simp); (repeat go_step))
    refine call_bel (w := w) (by repeat' (first | (with_reducible first | exact bwR _ _ | assumption | refine bdn ?_ | refine bwA ?_ ?_ _ | refine bwD ?_ | refine bwS ?_ ?_ _) | omega | (simp <;> omega))) (fun HB => faulted1_any ea c2 n5 at5 x5 _ _ (H_kE.out.keep (B := wc.heap.size) (by repeat' (first | (with_reducible first | exact bwR _ _ | assumption | refine bdn ?_ | refine bwA ?_ ?_ _ | refine bwD ?_ | refine bwS ?_ ?_ _) | omega | (simp <;> omega))) rfl (Nat.le_refl _)) (H_hSc.out.keep (B := wc.heap.size) (by repeat' (first | (with_reducible first | exact bwR _ _ | assumption | refine bdn ?_ | refine bwA ?_ ?_ _ | refine bwD ?_ | refine bwS ?_ ?_ _) | omega | (simp <;> omega))) rfl) H_hc11.out H_hn5.out H_ha5.out) ?_
    intro w9 hb9 hz9 c9 d9 hW9
    have t9 := hb9.size
    have e9_c : Below wc.heap.size wc w9 := below_via (by repeat' (first | (with_reducible first | exact bwR _ _ | assumption | refine bdn ?_ | refine bwA ?_ ?_ _ | refine bwD ?_ | refine bwS ?_ ?_ _) | omega | (simp <;> omega))) hW9
    have te9_c := e9_c.size
    try simp only [szA] at hz9 c9 d9
    try simp only [szD] at hz9 c9 d9
    try simp only [szS] at hz9 c9 d9
    try simp only [World.heap_drewN] at hz9 c9 d9
    try simp only [szA] at hz9 c9 d9
    try simp only [szD] at hz9 c9 d9
    try simp only [szS] at hz9 c9 d9
    have s9_0 : w.heap.size < w9.heap.size := by omega
    have o9_0 := fun j => c9 (w.heap.size) j (by omega)
    have f9_0 := fun j => d9 (w.heap.size) j (by omega)
    have s9_1 : w.heap.size + 1 < w9.heap.size := by omega
    have o9_1 := fun j => c9 (w.heap.size + 1) j (by omega)
    have f9_1 := fun j => d9 (w.heap.size + 1) j (by omega)
    have s9_2 : gm < w9.heap.size := by omega
    have o9_2 := fun j => c9 (gm) j (by omega)
    have f9_2 := fun j => d9 (gm) j (by omega)
    have s9_3 : gf < w9.heap.size := by omega
    have o9_3 := fun j => c9 (gf) j (by omega)
    have f9_3 := fun j => d9 (gf) j (by omega)
    have s9_4 : gq < w9.heap.size := by omega
    have o9_4 := fun j => c9 (gq) j (by omega)
    have f9_4 := fun j => d9 (gq) j (by omega)
    have s9_5 : gg + 1 < w9.heap.size := by omega
    have o9_5 := fun j => c9 (gg + 1) j (by omega)
    have f9_5 := fun j => d9 (gg + 1) j (by omega)
    clear c9 d9 hz9 hW9
    go_upto_region 18 with fail
    have ua := fun j => (o9_0 j).trans (ra j)
    have ub := fun j => (o9_1 j).trans (rb j)
    have um := fun j => (o9_2 j).trans (rm j)
    have uf := fun j => (o9_3 j).trans (rf j)
    have vf := fun j => (f9_3 j).trans (yf j)
    have hG9 := H_hG.out.keep hb9 rfl
    have hn9 : 20 ≤ w9.heap.size := Nat.le_trans hng hb9.size
    clear ra rb rp rm rf rq cg cw yf o9_0 f9_0 o9_1 f9_1 o9_2 f9_2 o9_3 f9_3 o9_4 f9_4 o9_5 f9_5 s9_4 s9_5 e9_c te9_c hBwc H_kE H_hSc za' zb' zm' zf' zq' lc lq lfq
    clear wc
    have SK : ∀ W, Below w9.heap.size w9 W → Below w9.heap.size w9 W ∧ (∀ j, W.cell? ⟨gm, j, none⟩ = #[.int .i64 m.A.n, .int .i64 m.A.d, .int .i64 m.B.n, .int .i64 m.B.d, .int .i64 m.C.n, .int .i64 m.C.d, .int .i64 m.D.n, .int .i64 m.D.d, .int .i64 m.E.n, .int .i64 m.E.d, .int .i64 m.F.n, .int .i64 m.F.d][j]?) ∧ (∀ j, W.cell? ⟨w.heap.size + 1, j, none⟩ = #[.int .i64 b.A.n, .int .i64 b.A.d, .int .i64 b.B.n, .int .i64 b.B.d, .int .i64 b.C.n, .int .i64 b.C.d, .int .i64 b.D.n, .int .i64 b.D.d, .int .i64 b.E.n, .int .i64 b.E.d, .int .i64 b.F.n, .int .i64 b.F.d][j]?) := fun W h => ⟨h, fun j => (h.cell (p := ⟨gm, j, none⟩) s9_2).trans (um j), fun j => (h.cell (p := ⟨w.heap.size + 1, j, none⟩) s9_1).trans (ub j)⟩
    have H_SK := Lib.hid SK
    clear SK
    have H_hG9 := Lib.hid hG9
    clear hG9
    go_cut [13, 18] (fun s13 s18 wx => MadeF w9 #[.int .i64 x.A.n, .int .i64 x.A.d, .int .i64 x.B.n, .int .i64 x.B.d, .int .i64 x.C.n, .int .i64 x.C.d, .int .i64 x.D.n, .int .i64 x.D.d, .int .i64 x.E.n, .int .i64 x.E.d, .int .i64 x.F.n, .int .i64 x.F.d] s18 wx ∧ ErrAt 183 61 ea w9.heap.size wx s13 c3)
    case first =>
      go_region_held3 (fun W => Below w9.heap.size w9 W ∧ (∀ j, W.cell? ⟨gm, j, none⟩ = #[.int .i64 m.A.n, .int .i64 m.A.d, .int .i64 m.B.n, .int .i64 m.B.d, .int .i64 m.C.n, .int .i64 m.C.d, .int .i64 m.D.n, .int .i64 m.D.d, .int .i64 m.E.n, .int .i64 m.E.d, .int .i64 m.F.n, .int .i64 m.F.d][j]?) ∧ (∀ j, W.cell? ⟨w.heap.size + 1, j, none⟩ = #[.int .i64 b.A.n, .int .i64 b.A.d, .int .i64 b.B.n, .int .i64 b.B.d, .int .i64 b.C.n, .int .i64 b.C.d, .int .i64 b.D.n, .int .i64 b.D.d, .int .i64 b.E.n, .int .i64 b.E.d, .int .i64 b.F.n, .int .i64 b.F.d][j]?)) (exact H_SK.out _ (by repeat' (first | (with_reducible first | exact bwR _ _ | assumption | refine bdn ?_ | refine bwA ?_ ?_ _ | refine bwD ?_ | refine bwS ?_ ?_ _) | omega | (simp <;> omega))))
        (first | (go_at_call 13; go_must ((with_reducible refine (mthen_x (gz := true) ea m b x c3 _ H_im.out H_ib.out ?qG ?qn H_hx.out H_hc3.out).mono ?_); (case qG => exact H_hG9.out.keep (B := w9.heap.size) (by repeat' (first | (with_reducible first | exact bwR _ _ | assumption | refine bdn ?_ | refine bwA ?_ ?_ _ | refine bwD ?_ | refine bwS ?_ ?_ _) | omega | (simp <;> omega))) rfl); (case qn => (have hq1 := hn9; have hq2 := hbU.size; (try rw [World.size_drew]); (try rw [World.size_alloc]); (try rw [World.size_drew]); omega)); rintro en wT ⟨xT, rfl, hxT, hT⟩; have hbT : Below w9.heap.size w9 wT := below_via (by repeat' (first | (with_reducible first | exact bwR _ _ | assumption | refine bdn ?_ | refine bwA ?_ ?_ _ | refine bwD ?_ | refine bwS ?_ ?_ _) | omega | (simp <;> omega))) hT; have tT := hbT.size; (try have zT0 : w9.heap.size < wT.heap.size := Nat.lt_of_lt_of_le zU0 hT.size); (try have oT0 := fun j => hT.cell (p := ⟨w9.heap.size, j, none⟩) zU0); (try have fT0 := fun j => hT.frozen (p := ⟨w9.heap.size, j, none⟩) zU0); (try have zT1 : wU.heap.size < wT.heap.size := Nat.lt_of_lt_of_le (by first | exact Nat.lt_succ_self _ | (rw [World.size_alloc]; exact Nat.lt_succ_self _) | (rw [World.size_drew, World.size_alloc]; exact Nat.lt_succ_self _)) hT.size); (try have oT1 := fun j => hT.cell (p := ⟨wU.heap.size, j, none⟩) (by first | exact Nat.lt_succ_self _ | (rw [World.size_alloc]; exact Nat.lt_succ_self _) | (rw [World.size_drew, World.size_alloc]; exact Nat.lt_succ_self _))); (try have fT1 := fun j => hT.frozen (p := ⟨wU.heap.size, j, none⟩) (by first | exact Nat.lt_succ_self _ | (rw [World.size_alloc]; exact Nat.lt_succ_self _) | (rw [World.size_drew, World.size_alloc]; exact Nat.lt_succ_self _))))) | (go_at_call 5; go_must ((with_reducible refine (asm_any b _).mono ?_); rintro en wU ⟨rfl, hU⟩; have hbU : Below w9.heap.size w9 wU := below_via (by repeat' (first | (with_reducible first | exact bwR _ _ | assumption | refine bdn ?_ | refine bwA ?_ ?_ _ | refine bwD ?_ | refine bwS ?_ ?_ _) | omega | (simp <;> omega))) hU; have tU := hbU.size; (try have zU0 : w9.heap.size < wU.heap.size := Nat.lt_of_lt_of_le (by first | exact Nat.lt_succ_self _ | (rw [World.size_alloc]; exact Nat.lt_succ_self _) | (rw [World.size_drew, World.size_alloc]; exact Nat.lt_succ_self _)) hU.size); (try have oU0 := fun j => hU.cell (p := ⟨w9.heap.size, j, none⟩) (by first | exact Nat.lt_succ_self _ | (rw [World.size_alloc]; exact Nat.lt_succ_self _) | (rw [World.size_drew, World.size_alloc]; exact Nat.lt_succ_self _))); (try have fU0 := fun j => hU.frozen (p := ⟨w9.heap.size, j, none⟩) (by first | exact Nat.lt_succ_self _ | (rw [World.size_alloc]; exact Nat.lt_succ_self _) | (rw [World.size_drew, World.size_alloc]; exact Nat.lt_succ_self _))))))
      all_goals
        ((try go_simp); (repeat go_step))
        go_meet
        refine ⟨?_, ?_⟩
        · first | with_reducible exact madeF_last hbT _ | with_reducible exact madeF_first hbU hT _ _ _ _ _ _ _ _ _ _ _ _ | with_reducible exact madeF_ahead (Below.refl _ _) hU hT _ _ _ _ _ _ _ _ _ _ _ _ | with_reducible exact madeF_ahead (Below.refl _ _).drew hU hT _ _ _ _ _ _ _ _ _ _ _ _ | with_reducible exact madeF_ahead (Below.refl _ _) (Below.undrew hU) hT _ _ _ _ _ _ _ _ _ _ _ _ | trace_state
        · first | ((with_reducible refine errAt_set12 hxT ?_ ?_ _ _ _ _ _ _ _ _ _ _ _ _) <;> (first | omega | (simp <;> omega))) | ((with_reducible refine hxT.keep (B := wT.heap.size) ?_ rfl ?_) <;> (first | omega | (with_reducible exact (Below.refl _ _).alloc (Nat.le_refl _) _) | (simp <;> omega))) | trace_state
    case rest =>
      obtain ⟨⟨gx, rfl, kX, yX, hgx, lgx, hBd⟩, hE13⟩ := hcut
      rename World => wd
      have td := hBd.size
      have hBwd := below_via hb9 hBd
      have da := fun j => (hBd.cell (p := ⟨w.heap.size, j, none⟩) s9_0).trans (ua j)
      have db := fun j => (hBd.cell (p := ⟨w.heap.size + 1, j, none⟩) s9_1).trans (ub j)
      have df := fun j => (hBd.cell (p := ⟨gf, j, none⟩) s9_3).trans (uf j)
      have yf := fun j => (hBd.frozen (p := ⟨gf, j, none⟩) s9_3).trans (vf j)
      have za : w.heap.size < wd.heap.size := by omega
      have zb : w.heap.size + 1 < wd.heap.size := by omega
      have zf : gf < wd.heap.size := by omega
      have nfx : gf ≠ gx := by omega
      have nxf : gx ≠ gf := by omega
      have lwf : w.heap.size ≤ gf := by omega
      have lfx : gf < gx := by omega
      have l9f : gf < w9.heap.size := s9_3
      have kE : ErrAt 183 61 ea (gf + 1) wd _ c3 := hE13.keep (B := wd.heap.size) (Below.refl _ _) rfl (by omega)
      clear ua ub um uf vf hBd hb9 t9 s9_0 s9_1 s9_2 s9_3 H_hG9 hn9 H_SK hE13 hgx l9f td
      clear w9
      have H_kE := Lib.hid kE
      clear kE
      have hAw0 : m.c = (0, none) ∨ m.c.1 ≠ 0 := firstF_some (l := m.l) (k := 0)
      obtain ⟨cA, hcA⟩ : ∃ c, (if m.c = (0, none) then b.c else m.c) = c := ⟨_, rfl⟩
      have hAw : (m.c.1 ≠ 0 ∧ cA = m.c) ∨ (m.c = (0, none) ∧ cA = b.c) := by
        rw [← hcA]
        rcases hAw0 with h | h
        · exact .inr ⟨h, if_pos h⟩
        · exact .inl ⟨h, if_neg (fun e => h (congrArg Prod.fst e))⟩
      obtain ⟨nA, hnA⟩ : ∃ n : Int, (cA.1 : Int) = n := ⟨_, rfl⟩
      obtain ⟨atA, hatA⟩ : ∃ z : Int, atZ cA.2 = z := ⟨_, rfl⟩
      clear hAw0 hcA
      have H_hAw := Lib.hid hAw
      clear hAw
      have H_hnA := Lib.hid hnA
      clear hnA
      have H_hatA := Lib.hid hatA
      clear hatA
      go_upto_if 83 with fail
      go_cut [] (fun we => Below w.heap.size w we ∧ (∀ j, we.cell? ⟨w.heap.size, j, none⟩ = #[.int .i64 m.A.n, .int .i64 m.A.d, .int .i64 m.B.n, .int .i64 m.B.d, .int .i64 m.C.n, .int .i64 m.C.d, .int .i64 m.D.n, .int .i64 m.D.d, .int .i64 m.E.n, .int .i64 m.E.d, .int .i64 m.F.n, .int .i64 m.F.d][j]?) ∧ (∀ j, we.cell? ⟨w.heap.size + 1, j, none⟩ = #[.int .i64 b.A.n, .int .i64 b.A.d, .int .i64 b.B.n, .int .i64 b.B.d, .int .i64 b.C.n, .int .i64 b.C.d, .int .i64 b.D.n, .int .i64 b.D.d, .int .i64 b.E.n, .int .i64 b.E.d, .int .i64 b.F.n, .int .i64 b.F.d][j]?) ∧ (∀ j, we.cell? ⟨gx, j, none⟩ = #[.int .i64 x.A.n, .int .i64 x.A.d, .int .i64 x.B.n, .int .i64 x.B.d, .int .i64 x.C.n, .int .i64 x.C.d, .int .i64 x.D.n, .int .i64 x.D.d, .int .i64 x.E.n, .int .i64 x.E.d, .int .i64 x.F.n, .int .i64 x.F.d][j]?) ∧ (∀ j, we.frozen? ⟨gx, j, none⟩ = false) ∧ gx < we.heap.size ∧ (∀ j, we.cell? ⟨gf, j, none⟩ = #[Value.int .i64 nA, .int .i64 atA][j]?) ∧ (∀ j, we.frozen? ⟨gf, j, none⟩ = false) ∧ ErrAt 183 61 ea (gf + 1) we u13 c3)
      case first =>
        rcases H_hAw.out with ⟨h1, h2⟩ | ⟨h1, h2⟩
        · have e1 : (n == 0) = false := by rw [beq_eq_false_iff_ne, ← H_hn.out]; omega
          obtain rfl : n = nA := by rw [← H_hn.out, ← H_hnA.out, h2]
          obtain rfl : at' = atA := by rw [← H_ha.out, ← H_hatA.out, h2]
          clear h1 h2
          ((try go_simp); (repeat go_step))
          go_meet
          exact ⟨hBwd, da, db, kX, yX, lgx, df, yf, H_kE.out⟩
        · have e0 : (n == 0) = true := by rw [beq_iff_eq, ← H_hn.out, h1]; rfl
          have hn7' : (b.c.1 : Int) = nA := by rw [← H_hnA.out, h2]
          have ha7' : atZ b.c.2 = atA := by rw [← H_hatA.out, h2]
          clear h1 h2
          have H_hn7' := Lib.hid hn7'
          clear hn7'
          have H_ha7' := Lib.hid ha7'
          clear ha7'
          have H_kX := Lib.hid kX
          clear kX
          have H_yX := Lib.hid yX
          clear yX
          have H_da := Lib.hid da
          clear da
          ((try go_simp); (repeat go_step))
          refine call_bel (w := w) (by repeat' (first | (with_reducible first | exact bwR _ _ | assumption | refine bdn ?_ | refine bwA ?_ ?_ _ | refine bwD ?_ | refine bwS ?_ ?_ _) | omega | (simp <;> omega))) (fun HB => rsix_any b nA atA _ H_ib.out H_hn7'.out H_ha7'.out) ?_
          intro w10 hb10 hz10 c10 d10 hW10
          have t10 := hb10.size
          have e10_d : Below wd.heap.size wd w10 := below_via (by repeat' (first | (with_reducible first | exact bwR _ _ | assumption | refine bdn ?_ | refine bwA ?_ ?_ _ | refine bwD ?_ | refine bwS ?_ ?_ _) | omega | (simp <;> omega))) hW10
          have te10_d := e10_d.size
          try simp only [szA] at hz10 c10 d10
          try simp only [szD] at hz10 c10 d10
          try simp only [szS] at hz10 c10 d10
          try simp only [World.heap_drewN] at hz10 c10 d10
          try simp only [szA] at hz10 c10 d10
          try simp only [szD] at hz10 c10 d10
          try simp only [szS] at hz10 c10 d10
          have s10_0 : w.heap.size < w10.heap.size := by omega
          have o10_0 := fun j => c10 (w.heap.size) j (by omega)
          have f10_0 := fun j => d10 (w.heap.size) j (by omega)
          have s10_1 : w.heap.size + 1 < w10.heap.size := by omega
          have o10_1 := fun j => c10 (w.heap.size + 1) j (by omega)
          have f10_1 := fun j => d10 (w.heap.size + 1) j (by omega)
          have s10_2 : gf < w10.heap.size := by omega
          have o10_2 := fun j => c10 (gf) j (by omega)
          have f10_2 := fun j => d10 (gf) j (by omega)
          have s10_3 : gx < w10.heap.size := by omega
          have o10_3 := fun j => c10 (gx) j (by omega)
          have f10_3 := fun j => d10 (gx) j (by omega)
          clear c10 d10 hz10 hW10
          have kF := fun j => (o10_2 j).trans (df j)
          have yF := fun j => (f10_2 j).trans (yf j)
          have kE' := H_kE.out.keep (B := wd.heap.size) e10_d rfl (Nat.le_refl _)
          have na : w.heap.size ≠ gf := by omega
          have nb : w.heap.size + 1 ≠ gf := by omega
          have H_kE' := Lib.hid kE'
          clear kE'
          ((try go_simp); (repeat go_step))
          go_meet
          refine ⟨by repeat' (first | (with_reducible first | exact bwR _ _ | assumption | refine bdn ?_ | refine bwA ?_ ?_ _ | refine bwD ?_ | refine bwS ?_ ?_ _) | omega | (simp <;> omega)), ?_, ?_, ?_, ?_, by (simp <;> omega), ?_, ?_, ?_⟩
          · intro j; with_reducible exact (oth2z na _ _ j).trans ((o10_0 j).trans (H_da.out j))
          · intro j; with_reducible exact (oth2z nb _ _ j).trans ((o10_1 j).trans (db j))
          · intro j; with_reducible exact (oth2z nxf _ _ j).trans ((o10_3 j).trans (H_kX.out j))
          · intro j; rw [World.frozen?_setCell, World.frozen?_setCell, f10_3]; exact H_yX.out j
          · with_reducible exact set2z kF _ _
          · intro j; rw [World.frozen?_setCell, World.frozen?_setCell]; exact yF j
          · with_reducible exact errAt_set2 H_kE'.out (Nat.lt_succ_self gf) (Nat.le_refl _) _ _
      case rest =>
        obtain ⟨hBj, ja, jb, jx, jxf, jlx, jf, jff, hEj⟩ := hcut
        rename World => wj
        have tj := hBj.size
        have zfj : gf < wj.heap.size := by omega
        clear kX yX da db df yf H_kE hBwd za zb zf lgx nfx nxf
        clear wd
        go_upto_if 89 with fail
        obtain ⟨gs, zj⟩ : ∃ u, wj.heap.size = u := ⟨_, rfl⟩
        obtain ⟨wk, hwk⟩ : ∃ u, wj.alloc (.cells #[.int .i64 0, .int .i64 0, .int .i64 0, .int .i64 0, .int .i64 0, .int .i64 0, .int .i64 0, .int .i64 0, .int .i64 0, .int .i64 0, .int .i64 0, .int .i64 0] 25) = u := ⟨_, rfl⟩
        have hjk : Below gs wj wk := by rw [← hwk]; exact (Below.refl _ _).alloc (by omega) _
        have sk0 : wk.heap.size = gs + 1 := by rw [← hwk, World.size_alloc, zj]
        have l1 : gx < gs := by omega
        have qa : ∀ j, wk.cell? ⟨w.heap.size, j, none⟩ = #[.int .i64 m.A.n, .int .i64 m.A.d, .int .i64 m.B.n, .int .i64 m.B.d, .int .i64 m.C.n, .int .i64 m.C.d, .int .i64 m.D.n, .int .i64 m.D.d, .int .i64 m.E.n, .int .i64 m.E.d, .int .i64 m.F.n, .int .i64 m.F.d][j]? := fun j => by rw [← hwk, World.cell?_alloc_past _ _ _ (by omega)]; exact ja j
        have qb : ∀ j, wk.cell? ⟨w.heap.size + 1, j, none⟩ = #[.int .i64 b.A.n, .int .i64 b.A.d, .int .i64 b.B.n, .int .i64 b.B.d, .int .i64 b.C.n, .int .i64 b.C.d, .int .i64 b.D.n, .int .i64 b.D.d, .int .i64 b.E.n, .int .i64 b.E.d, .int .i64 b.F.n, .int .i64 b.F.d][j]? := fun j => by rw [← hwk, World.cell?_alloc_past _ _ _ (by omega)]; exact jb j
        have qf : ∀ j, wk.cell? ⟨gf, j, none⟩ = #[Value.int .i64 nA, .int .i64 atA][j]? := fun j => by rw [← hwk, World.cell?_alloc_past _ _ _ (by omega)]; exact jf j
        have pf : ∀ j, wk.frozen? ⟨gf, j, none⟩ = false := fun j => by rw [← hwk, World.frozen?_alloc_past _ _ _ (by omega)]; exact jff j
        have qx : ∀ j, wk.cell? ⟨gx, j, none⟩ = #[.int .i64 x.A.n, .int .i64 x.A.d, .int .i64 x.B.n, .int .i64 x.B.d, .int .i64 x.C.n, .int .i64 x.C.d, .int .i64 x.D.n, .int .i64 x.D.d, .int .i64 x.E.n, .int .i64 x.E.d, .int .i64 x.F.n, .int .i64 x.F.d][j]? := fun j => by rw [← hwk, World.cell?_alloc_past _ _ _ (by omega)]; exact jx j
        have px : ∀ j, wk.frozen? ⟨gx, j, none⟩ = false := fun j => by rw [← hwk, World.frozen?_alloc_past _ _ _ (by omega)]; exact jxf j
        have qs : ∀ j, wk.cell? ⟨gs, j, none⟩ = #[Value.int .i64 0, Value.int .i64 0, Value.int .i64 0, Value.int .i64 0, Value.int .i64 0, Value.int .i64 0, Value.int .i64 0, Value.int .i64 0, Value.int .i64 0, Value.int .i64 0, Value.int .i64 0, Value.int .i64 0][j]? := fun j => by rw [← hwk, World.cell?_alloc_at _ _ _ _ zj.symm]
        have ps : ∀ j, wk.frozen? ⟨gs, j, none⟩ = false := fun j => by rw [← hwk]; exact World.frozen?_alloc_at _ _ _ _ zj.symm
        have hBk : Below w.heap.size w wk := by rw [← hwk]; exact hBj.alloc (by omega) _
        have lsk : gs ≤ wk.heap.size := by omega
        have nsf : gs ≠ gf := by omega
        have nsx : gs ≠ gx := by omega
        have nfs : gf ≠ gs := by omega
        have nxs : gx ≠ gs := by omega
        have nxf : gx ≠ gf := by omega
        have zgs : gs < wk.heap.size := by omega
        have zgf : gf < wk.heap.size := by omega
        have zgx : gx < wk.heap.size := by omega
        have za1 : w.heap.size < wk.heap.size := by omega
        have zb1 : w.heap.size + 1 < wk.heap.size := by omega
        rw [zj, hwk]
        clear ja jb jx jxf jlx jf jff hBj tj hwk zfj
        have H_hEj := Lib.hid hEj
        clear hEj
        have H_zj := Lib.hid zj
        clear zj
        go_cut [20, 21] (fun s20 s21 we => Below w.heap.size w we ∧ (∀ j, we.cell? ⟨gx, j, none⟩ = #[.int .i64 x.A.n, .int .i64 x.A.d, .int .i64 x.B.n, .int .i64 x.B.d, .int .i64 x.C.n, .int .i64 x.C.d, .int .i64 x.D.n, .int .i64 x.D.d, .int .i64 x.E.n, .int .i64 x.E.d, .int .i64 x.F.n, .int .i64 x.F.d][j]?) ∧ (∀ j, we.frozen? ⟨gx, j, none⟩ = false) ∧ gx < we.heap.size ∧ (∀ j, we.cell? ⟨gf, j, none⟩ = #[Value.int .i64 n7, .int .i64 at7][j]?) ∧ gf < we.heap.size ∧ ErrAt 183 61 ea 0 we u13 c3 ∧ gs < we.heap.size ∧ ∀ j, we.cell? ⟨gs, j, none⟩ = #[.int .i64 x.A.n, .int .i64 x.A.d, .int .i64 x.B.n, .int .i64 x.B.d, .int .i64 x.C.n, .int .i64 x.C.d, .int .i64 x.D.n, .int .i64 x.D.d, .int .i64 x.E.n, .int .i64 x.E.d, .int .i64 x.F.n, .int .i64 x.F.d][j]?)
        case first =>
          have H_qx := Lib.hid qx
          clear qx
          have H_px := Lib.hid px
          clear px
          rcases (H_htw.out) with ⟨h1, h2, h3⟩ | ⟨h0, h1, h2, h3⟩ | ⟨h0, h1, mR, bR, h2, h3, h4⟩ | ⟨h0, h1, mR, bR, h2, h3, h4⟩
          · have hcc : cA = c3 ∧ cA.1 ≠ 0 := by
              rcases H_hAw.out with ⟨k1, k2⟩ | ⟨k1, k2⟩
              · exact ⟨by rw [k2, h2], by rw [k2]; exact h1⟩
              · exact absurd (congrArg Prod.fst k1) h1
            have e1 : (nA == 0) = false := by rw [beq_eq_false_iff_ne, ← H_hnA.out]; have := hcc.2; omega
            obtain rfl : nA = n7 := by rw [← H_hnA.out, ← H_hn7.out, hcc.1]
            obtain rfl : atA = at7 := by rw [← H_hatA.out, ← H_ha7.out, hcc.1]; cases c3.2 <;> rfl
            subst h3
            clear h1 h2 hcc 
            ((try go_simp); (repeat go_step))
            go_meet
            exact ⟨hBk, H_qx.out, H_px.out, zgx, qf, zgf, H_hEj.out.keep (B := gs) hjk H_zj.out.symm (Nat.zero_le _), zgs, qs⟩
          · have hcc : cA = c3 ∧ cA.1 ≠ 0 := by
              rcases H_hAw.out with ⟨k1, k2⟩ | ⟨k1, k2⟩
              · exact absurd (congrArg Prod.fst h0) k1
              · exact ⟨by rw [k2, h2], by rw [k2]; exact h1⟩
            have e1 : (nA == 0) = false := by rw [beq_eq_false_iff_ne, ← H_hnA.out]; have := hcc.2; omega
            obtain rfl : nA = n7 := by rw [← H_hnA.out, ← H_hn7.out, hcc.1]
            obtain rfl : atA = at7 := by rw [← H_hatA.out, ← H_ha7.out, hcc.1]; cases c3.2 <;> rfl
            subst h3
            clear h1 h2 hcc h0
            ((try go_simp); (repeat go_step))
            go_meet
            exact ⟨hBk, H_qx.out, H_px.out, zgx, qf, zgf, H_hEj.out.keep (B := gs) hjk H_zj.out.symm (Nat.zero_le _), zgs, qs⟩
          · have hcc : cA = (0, none) := by
              rcases H_hAw.out with ⟨k1, k2⟩ | ⟨k1, k2⟩
              · exact absurd (congrArg Prod.fst h0) k1
              · rw [k2, h1]
            obtain rfl : nA = 0 := by rw [← H_hnA.out, hcc]; rfl
            obtain rfl : atA = -1 := by rw [← H_hatA.out, hcc]; rfl
            obtain rfl : n7 = 0 := by rw [← H_hn7.out, h3]; rfl
            obtain rfl : at7 = -1 := by rw [← H_ha7.out, h3]; rfl
            have h4' := h4.symm
            clear h0 h1 h3 h4 hcc
            have H_mR := Lib.hid mR
            clear mR
            have H_bR := Lib.hid bR
            clear bR
            have H_h2 := Lib.hid h2
            clear h2
            have H_h4' := Lib.hid h4'
            clear h4'
            ((try go_simp); (repeat go_step))
            refine call_bel (w := w) (by repeat' (first | (with_reducible first | exact bwR _ _ | assumption | refine bdn ?_ | refine bwA ?_ ?_ _ | refine bwD ?_ | refine bwS ?_ ?_ _) | omega | (simp <;> omega))) (fun HB => rthen_any m b x true _ H_mR.out H_bR.out H_h4'.out H_h2.out) ?_
            intro w11 hb11 hz11 c11 d11 hW11
            have t11 := hb11.size
            have e11_k : Below wk.heap.size wk w11 := below_via (by repeat' (first | (with_reducible first | exact bwR _ _ | assumption | refine bdn ?_ | refine bwA ?_ ?_ _ | refine bwD ?_ | refine bwS ?_ ?_ _) | omega | (simp <;> omega))) hW11
            have te11_k := e11_k.size
            try simp only [szA] at hz11 c11 d11
            try simp only [szD] at hz11 c11 d11
            try simp only [szS] at hz11 c11 d11
            try simp only [World.heap_drewN] at hz11 c11 d11
            try simp only [szA] at hz11 c11 d11
            try simp only [szD] at hz11 c11 d11
            try simp only [szS] at hz11 c11 d11
            have s11_0 : gf < w11.heap.size := by omega
            have o11_0 := fun j => c11 (gf) j (by omega)
            have f11_0 := fun j => d11 (gf) j (by omega)
            have s11_1 : gx < w11.heap.size := by omega
            have o11_1 := fun j => c11 (gx) j (by omega)
            have f11_1 := fun j => d11 (gx) j (by omega)
            have s11_2 : gs < w11.heap.size := by omega
            have o11_2 := fun j => c11 (gs) j (by omega)
            have f11_2 := fun j => d11 (gs) j (by omega)
            clear c11 d11 hz11 hW11
            have hj11 : Below gs wj w11 := hjk.trans (e11_k.mono lsk)
            have zS : ∀ j, w11.cell? ⟨gs, j, none⟩ = #[Value.int .i64 0, Value.int .i64 0, Value.int .i64 0, Value.int .i64 0, Value.int .i64 0, Value.int .i64 0, Value.int .i64 0, Value.int .i64 0, Value.int .i64 0, Value.int .i64 0, Value.int .i64 0, Value.int .i64 0][j]? := fun j => (o11_2 j).trans (qs j)
            have yS : ∀ j, w11.frozen? ⟨gs, j, none⟩ = false := fun j => (f11_2 j).trans (ps j)
            have cF := fun j => (o11_0 j).trans (qf j)
            have cX := fun j => (o11_1 j).trans (H_qx.out j)
            have yX := fun j => (f11_1 j).trans (H_px.out j)
            clear qa qb qf qs ps o11_0 o11_1 f11_1 o11_2 f11_2
            ((try go_simp); (repeat go_step))
            go_meet
            refine ⟨by repeat' (first | (with_reducible first | exact bwR _ _ | assumption | refine bdn ?_ | refine bwA ?_ ?_ _ | refine bwD ?_ | refine bwS ?_ ?_ _) | omega | (simp <;> omega)), ?_, ?_, by (simp <;> omega), ?_, by (simp <;> omega), ?_, by (simp <;> omega), ?_⟩
            · intro j; (with_reducible refine (World.cell?_alloc_past _ _ _ ?_).trans ((oth12z nxs _ _ _ _ _ _ _ _ _ _ _ _ j).trans (cX j))); (simp <;> omega)
            · intro j; rw [World.frozen?_alloc_past _ _ _ (by (simp <;> omega))]; simp only [World.frozen?_setCell]; exact yX j
            · intro j; (with_reducible refine (World.cell?_alloc_past _ _ _ ?_).trans ((oth12z nfs _ _ _ _ _ _ _ _ _ _ _ _ j).trans (cF j))); (simp <;> omega)
            · exact H_hEj.out.keep (B := gs) (by repeat' (first | (with_reducible first | exact bwR _ _ | assumption | refine bdn ?_ | refine bwA ?_ ?_ _ | refine bwD ?_ | refine bwS ?_ ?_ _) | omega | (simp <;> omega))) H_zj.out.symm (Nat.zero_le _)
            · intro j; (with_reducible refine (World.cell?_alloc_past _ _ _ ?_).trans (set12z zS _ _ _ _ _ _ _ _ _ _ _ _ j)); (simp <;> omega)
          · have hcc : cA = (0, none) := by
              rcases H_hAw.out with ⟨k1, k2⟩ | ⟨k1, k2⟩
              · exact absurd (congrArg Prod.fst h0) k1
              · rw [k2, h1]
            obtain rfl : nA = 0 := by rw [← H_hnA.out, hcc]; rfl
            obtain rfl : atA = -1 := by rw [← H_hatA.out, hcc]; rfl
            obtain rfl : n7 = 2 := by rw [← H_hn7.out, h3]; rfl
            obtain rfl : at7 = -1 := by rw [← H_ha7.out, h3]; rfl
            have h4' := h4.symm
            clear h0 h1 h3 h4 hcc
            have H_mR := Lib.hid mR
            clear mR
            have H_bR := Lib.hid bR
            clear bR
            have H_h2 := Lib.hid h2
            clear h2
            have H_h4' := Lib.hid h4'
            clear h4'
            ((try go_simp); (repeat go_step))
            refine call_bel (w := w) (by repeat' (first | (with_reducible first | exact bwR _ _ | assumption | refine bdn ?_ | refine bwA ?_ ?_ _ | refine bwD ?_ | refine bwS ?_ ?_ _) | omega | (simp <;> omega))) (fun HB => rthen_any m b x false _ H_mR.out H_bR.out H_h4'.out H_h2.out) ?_
            intro w11 hb11 hz11 c11 d11 hW11
            have t11 := hb11.size
            have e11_k : Below wk.heap.size wk w11 := below_via (by repeat' (first | (with_reducible first | exact bwR _ _ | assumption | refine bdn ?_ | refine bwA ?_ ?_ _ | refine bwD ?_ | refine bwS ?_ ?_ _) | omega | (simp <;> omega))) hW11
            have te11_k := e11_k.size
            try simp only [szA] at hz11 c11 d11
            try simp only [szD] at hz11 c11 d11
            try simp only [szS] at hz11 c11 d11
            try simp only [World.heap_drewN] at hz11 c11 d11
            try simp only [szA] at hz11 c11 d11
            try simp only [szD] at hz11 c11 d11
            try simp only [szS] at hz11 c11 d11
            have s11_0 : gf < w11.heap.size := by omega
            have o11_0 := fun j => c11 (gf) j (by omega)
            have f11_0 := fun j => d11 (gf) j (by omega)
            have s11_1 : gx < w11.heap.size := by omega
            have o11_1 := fun j => c11 (gx) j (by omega)
            have f11_1 := fun j => d11 (gx) j (by omega)
            have s11_2 : gs < w11.heap.size := by omega
            have o11_2 := fun j => c11 (gs) j (by omega)
            have f11_2 := fun j => d11 (gs) j (by omega)
            clear c11 d11 hz11 hW11
            have hj11 : Below gs wj w11 := hjk.trans (e11_k.mono lsk)
            have zS : ∀ j, w11.cell? ⟨gs, j, none⟩ = #[Value.int .i64 0, Value.int .i64 0, Value.int .i64 0, Value.int .i64 0, Value.int .i64 0, Value.int .i64 0, Value.int .i64 0, Value.int .i64 0, Value.int .i64 0, Value.int .i64 0, Value.int .i64 0, Value.int .i64 0][j]? := fun j => (o11_2 j).trans (qs j)
            have yS : ∀ j, w11.frozen? ⟨gs, j, none⟩ = false := fun j => (f11_2 j).trans (ps j)
            have cF := fun j => (o11_0 j).trans (qf j)
            have cX := fun j => (o11_1 j).trans (H_qx.out j)
            have yX := fun j => (f11_1 j).trans (H_px.out j)
            clear qa qb qf qs ps o11_0 o11_1 f11_1 o11_2 f11_2
            have yF := fun j => (f11_0 j).trans (pf j)
            ((try go_simp); (repeat go_step))
            refine call_bel (w := w) (by repeat' (first | (with_reducible first | exact bwR _ _ | assumption | refine bdn ?_ | refine bwA ?_ ?_ _ | refine bwD ?_ | refine bwS ?_ ?_ _) | omega | (simp <;> omega))) (fun HB => rbare2_any 2 _) ?_
            intro w12 hb12 hz12 c12 d12 hW12
            have t12 := hb12.size
            try simp only [szA] at hz12 c12 d12
            try simp only [szD] at hz12 c12 d12
            try simp only [szS] at hz12 c12 d12
            try simp only [World.heap_drewN] at hz12 c12 d12
            try simp only [szA] at hz12 c12 d12
            try simp only [szD] at hz12 c12 d12
            try simp only [szS] at hz12 c12 d12
            have s12_0 : gf < w12.heap.size := by omega
            have o12_0 := fun j => c12 (gf) j (by omega)
            have f12_0 := fun j => d12 (gf) j (by omega)
            have s12_1 : gx < w12.heap.size := by omega
            have o12_1 := fun j => c12 (gx) j (by omega)
            have f12_1 := fun j => d12 (gx) j (by omega)
            have s12_2 : gs < w12.heap.size := by omega
            have o12_2 := fun j => c12 (gs) j (by omega)
            have f12_2 := fun j => d12 (gs) j (by omega)
            clear c12 d12 hz12
            have hj12 : Below gs wj w12 := belB (by repeat' (first | (with_reducible first | exact bwR _ _ | assumption | refine bdn ?_ | refine bwA ?_ ?_ _ | refine bwD ?_ | refine bwS ?_ ?_ _) | omega | (simp <;> omega))) hW12 (by (simp <;> omega))
            have c12 : ∀ j, w12.cell? ⟨gf, j, none⟩ = #[Value.int .i64 0, .int .i64 (-1)][j]? := by
              intro j; (with_reducible refine (o12_0 j).trans ((World.cell?_alloc_past _ _ _ ?_).trans ((oth12z nfs _ _ _ _ _ _ _ _ _ _ _ _ j).trans (cF j)))); (simp <;> omega)
            have x12 : ∀ j, w12.cell? ⟨gx, j, none⟩ = #[.int .i64 x.A.n, .int .i64 x.A.d, .int .i64 x.B.n, .int .i64 x.B.d, .int .i64 x.C.n, .int .i64 x.C.d, .int .i64 x.D.n, .int .i64 x.D.d, .int .i64 x.E.n, .int .i64 x.E.d, .int .i64 x.F.n, .int .i64 x.F.d][j]? := by
              intro j; (with_reducible refine (o12_1 j).trans ((World.cell?_alloc_past _ _ _ ?_).trans ((oth12z nxs _ _ _ _ _ _ _ _ _ _ _ _ j).trans (cX j)))); (simp <;> omega)
            have z12 : ∀ j, w12.cell? ⟨gs, j, none⟩ = #[.int .i64 x.A.n, .int .i64 x.A.d, .int .i64 x.B.n, .int .i64 x.B.d, .int .i64 x.C.n, .int .i64 x.C.d, .int .i64 x.D.n, .int .i64 x.D.d, .int .i64 x.E.n, .int .i64 x.E.d, .int .i64 x.F.n, .int .i64 x.F.d][j]? := by
              intro j; (with_reducible refine (o12_2 j).trans ((World.cell?_alloc_past _ _ _ ?_).trans (set12z zS _ _ _ _ _ _ _ _ _ _ _ _ j))); (simp <;> omega)
            have v12 : ∀ j, w12.frozen? ⟨gf, j, none⟩ = false := by
              intro j; rw [f12_0, World.frozen?_alloc_past _ _ _ (by (simp <;> omega))]; simp only [World.frozen?_setCell]; exact yF j
            have y12 : ∀ j, w12.frozen? ⟨gx, j, none⟩ = false := by
              intro j; rw [f12_1, World.frozen?_alloc_past _ _ _ (by (simp <;> omega))]; simp only [World.frozen?_setCell]; exact yX j
            clear o12_0 f12_0 o12_1 f12_1 o12_2 f12_2 hW12 cF cX yX zS yS yF f11_0 pf
            ((try go_simp); (repeat go_step))
            go_meet
            refine ⟨by repeat' (first | (with_reducible first | exact bwR _ _ | assumption | refine bdn ?_ | refine bwA ?_ ?_ _ | refine bwD ?_ | refine bwS ?_ ?_ _) | omega | (simp <;> omega)), ?_, ?_, by (simp <;> omega), ?_, by (simp <;> omega), ?_, by (simp <;> omega), ?_⟩
            · intro j; with_reducible exact (oth2z nxf _ _ j).trans (x12 j)
            · intro j; rw [World.frozen?_setCell, World.frozen?_setCell]; exact y12 j
            · with_reducible exact set2z c12 _ _
            · exact errAt_set2 (lo := gf + 1) (H_hEj.out.keep (B := gs) hj12 H_zj.out.symm (Nat.le_refl _)) (Nat.lt_succ_self gf) (Nat.zero_le _) _ _
            · intro j; with_reducible exact (oth2z nsf _ _ j).trans (z12 j)
        case rest =>
          obtain ⟨hBe, kx, yx, lx, kf, lf', hE, ks⟩ := hcut
          rename World => we
          have ls : gs < we.heap.size := ks.1
          have ks := ks.2
          clear qa qb qf pf qx px qs ps hBk H_hEj H_zj hjk zgs zgf zgx za1 zb1 nsf nsx nfs nxs lsk sk0
          clear wk
          clear wj
          have hSe := H_hS.out.keep hBe rfl
          have SK : ∀ W, Below we.heap.size we W → Below we.heap.size we W ∧ (∀ j, W.cell? ⟨gf, j, none⟩ = #[Value.int .i64 n7, .int .i64 at7][j]?) ∧ (∀ j, W.cell? ⟨gx, j, none⟩ = #[.int .i64 x.A.n, .int .i64 x.A.d, .int .i64 x.B.n, .int .i64 x.B.d, .int .i64 x.C.n, .int .i64 x.C.d, .int .i64 x.D.n, .int .i64 x.D.d, .int .i64 x.E.n, .int .i64 x.E.d, .int .i64 x.F.n, .int .i64 x.F.d][j]?) ∧ (∀ j, W.cell? ⟨gs, j, none⟩ = #[.int .i64 x.A.n, .int .i64 x.A.d, .int .i64 x.B.n, .int .i64 x.B.d, .int .i64 x.C.n, .int .i64 x.C.d, .int .i64 x.D.n, .int .i64 x.D.d, .int .i64 x.E.n, .int .i64 x.E.d, .int .i64 x.F.n, .int .i64 x.F.d][j]?) := fun W h => ⟨h, fun j => (h.cell (p := ⟨gf, j, none⟩) lf').trans (kf j), fun j => (h.cell (p := ⟨gx, j, none⟩) lx).trans (kx j), fun j => (h.cell (p := ⟨gs, j, none⟩) ls).trans (ks j)⟩
          have H_SK := Lib.hid SK
          clear SK
          have H_hSe := Lib.hid hSe
          clear hSe
          have H_hE := Lib.hid hE
          clear hE
          go_upto_region 27 with fail
          go_region_held3 (fun W => Below we.heap.size we W ∧ (∀ j, W.cell? ⟨gf, j, none⟩ = #[Value.int .i64 n7, .int .i64 at7][j]?) ∧ (∀ j, W.cell? ⟨gx, j, none⟩ = #[.int .i64 x.A.n, .int .i64 x.A.d, .int .i64 x.B.n, .int .i64 x.B.d, .int .i64 x.C.n, .int .i64 x.C.d, .int .i64 x.D.n, .int .i64 x.D.d, .int .i64 x.E.n, .int .i64 x.E.d, .int .i64 x.F.n, .int .i64 x.F.d][j]?) ∧ (∀ j, W.cell? ⟨gs, j, none⟩ = #[.int .i64 x.A.n, .int .i64 x.A.d, .int .i64 x.B.n, .int .i64 x.B.d, .int .i64 x.C.n, .int .i64 x.C.d, .int .i64 x.D.n, .int .i64 x.D.d, .int .i64 x.E.n, .int .i64 x.E.d, .int .i64 x.F.n, .int .i64 x.F.d][j]?)) (exact H_SK.out _ (by repeat' (first | (with_reducible first | exact bwR _ _ | assumption | refine bdn ?_ | refine bwA ?_ ?_ _ | refine bwD ?_ | refine bwS ?_ ?_ _) | omega | (simp <;> omega))))
            (first | (go_at_call 7; go_must ((with_reducible refine (faulted1_any ea c3 n7 at7 _ 0 _ ?q1 ?q2 H_hd11.out H_hn7.out H_ha7.out).mono ?_); (case q1 => exact H_hE.out.keep (B := we.heap.size) (by repeat' (first | (with_reducible first | exact bwR _ _ | assumption | refine bdn ?_ | refine bwA ?_ ?_ _ | refine bwD ?_ | refine bwS ?_ ?_ _) | omega | (simp <;> omega))) rfl (Nat.le_refl _)); (case q2 => exact H_hSe.out.keep (B := we.heap.size) (by repeat' (first | (with_reducible first | exact bwR _ _ | assumption | refine bdn ?_ | refine bwA ?_ ?_ _ | refine bwD ?_ | refine bwS ?_ ?_ _) | omega | (simp <;> omega))) rfl); rintro en wV ⟨rfl, hV⟩; have hbV : Below we.heap.size we wV := below_via (by repeat' (first | (with_reducible first | exact bwR _ _ | assumption | refine bdn ?_ | refine bwA ?_ ?_ _ | refine bwD ?_ | refine bwS ?_ ?_ _) | omega | (simp <;> omega))) hV; have tV := hbV.size)) | (go_at_call 5; go_must ((with_reducible refine (asm_any x _).mono ?_); rintro en wU ⟨rfl, hU⟩; have hbU : Below we.heap.size we wU := below_via (by repeat' (first | (with_reducible first | exact bwR _ _ | assumption | refine bdn ?_ | refine bwA ?_ ?_ _ | refine bwD ?_ | refine bwS ?_ ?_ _) | omega | (simp <;> omega))) hU; have tU := hbU.size)))
          have hBU := below_via hBe hbU
          have fx := fun j => (hbU.cell (p := ⟨gx, j, none⟩) lx).trans (kx j)
          have qx := fun j => (hbU.frozen (p := ⟨gx, j, none⟩) lx).trans (yx j)
          have zx : gx < wU.heap.size := by omega
          have lwx : w.heap.size ≤ gx := by omega
          rename Below _ _ _ ∧ _ => hHeld
          clear hHeld H_SK H_hSe H_hE hV hbV tV hU hbU kx yx lx kf lf' ls ks hBe
          have hs9 : s.size ≤ 90000 := by omega
          obtain ⟨c, hc⟩ : ∃ c, moveC s.data.toList = c := ⟨_, rfl⟩
          obtain ⟨v, hv⟩ : ∃ v, moveV s.data.toList = v := ⟨_, rfl⟩
          have hc11' : c ≤ 11 := by rw [← hc]; exact moveC_le' _
          have H_hc := Lib.hid hc
          clear hc
          have H_hv := Lib.hid hv
          clear hv
          ((try go_simp); (repeat go_step))
          refine call_bel (w := w) (by repeat' (first | (with_reducible first | exact bwR _ _ | assumption | refine bdn ?_ | refine bwA ?_ ?_ _ | refine bwD ?_ | refine bwS ?_ ?_ _) | omega | (simp <;> omega))) (fun HB => mread_any ea s _ hs9 (H_hL.out.keep HB rfl) (H_hG.out.keep HB rfl) (Nat.le_trans hng HB.size) (gkeep HB hText rfl) c v H_hc.out H_hv.out) ?_
          intro w20 hb20 hz20 c20 d20 hW20
          have t20 := hb20.size
          try simp only [szA] at hz20 c20 d20
          try simp only [szD] at hz20 c20 d20
          try simp only [szS] at hz20 c20 d20
          try simp only [World.heap_drewN] at hz20 c20 d20
          try simp only [szA] at hz20 c20 d20
          try simp only [szD] at hz20 c20 d20
          try simp only [szS] at hz20 c20 d20
          have s20_0 : gx < w20.heap.size := by omega
          have o20_0 := fun j => c20 (gx) j (by omega)
          have f20_0 := fun j => d20 (gx) j (by omega)
          clear c20 d20 hz20 hW20
          ((try go_simp); (repeat go_step))
          have gk : ∀ j, w20.cell? ⟨gx, j, none⟩ = #[.int .i64 x.A.n, .int .i64 x.A.d, .int .i64 x.B.n, .int .i64 x.B.d, .int .i64 x.C.n, .int .i64 x.C.d, .int .i64 x.D.n, .int .i64 x.D.d, .int .i64 x.E.n, .int .i64 x.E.d, .int .i64 x.F.n, .int .i64 x.F.d][j]? := fun j => (o20_0 j).trans (fx j)
          ((try go_simp); (repeat go_step))
          refine call_bel (w := w) (by repeat' (first | (with_reducible first | exact bwR _ _ | assumption | refine bdn ?_ | refine bwA ?_ ?_ _ | refine bwD ?_ | refine bwS ?_ ?_ _) | omega | (simp <;> omega))) (fun HB => rsixof_any s c v _ hs9 H_hc.out H_hv.out) ?_
          intro w21 hb21 hz21 c21 d21 hW21
          have t21 := hb21.size
          try simp only [szA] at hz21 c21 d21
          try simp only [szD] at hz21 c21 d21
          try simp only [szS] at hz21 c21 d21
          try simp only [World.heap_drewN] at hz21 c21 d21
          try simp only [szA] at hz21 c21 d21
          try simp only [szD] at hz21 c21 d21
          try simp only [szS] at hz21 c21 d21
          have s21_0 : gx < w21.heap.size := by omega
          have o21_0 := fun j => c21 (gx) j (by omega)
          have f21_0 := fun j => d21 (gx) j (by omega)
          clear c21 d21 hz21 hW21
          have kx2 : ∀ j, w21.cell? ⟨gx, j, none⟩ = #[.int .i64 v.A.n, .int .i64 v.A.d, .int .i64 v.B.n, .int .i64 v.B.d, .int .i64 v.C.n, .int .i64 v.C.d, .int .i64 v.D.n, .int .i64 v.D.d, .int .i64 v.E.n, .int .i64 v.E.d, .int .i64 v.F.n, .int .i64 v.F.d][j]? := fun j => (o21_0 j).trans (set12z gk _ _ _ _ _ _ _ _ _ _ _ _ j)
          clear o21_0 f21_0 o20_0 f20_0 gk fx qx
          go_upto_region 31 with fail
          obtain ⟨gy, hgy⟩ : ∃ u, w21.heap.size = u := ⟨_, rfl⟩
          obtain ⟨wf, hwf⟩ : ∃ u, w21.alloc (.cells #[.int .i64 v.A.n, .int .i64 v.A.d, .int .i64 v.B.n, .int .i64 v.B.d, .int .i64 v.C.n, .int .i64 v.C.d, .int .i64 v.D.n, .int .i64 v.D.d, .int .i64 v.E.n, .int .i64 v.E.d, .int .i64 v.F.n, .int .i64 v.F.d] 25) = u := ⟨_, rfl⟩
          have hBf : Below w.heap.size w wf := by rw [← hwf]; exact hb21.alloc t21 _
          have kx3 : ∀ j, wf.cell? ⟨gx, j, none⟩ = #[.int .i64 v.A.n, .int .i64 v.A.d, .int .i64 v.B.n, .int .i64 v.B.d, .int .i64 v.C.n, .int .i64 v.C.d, .int .i64 v.D.n, .int .i64 v.D.d, .int .i64 v.E.n, .int .i64 v.E.d, .int .i64 v.F.n, .int .i64 v.F.d][j]? := fun j => by rw [← hwf, World.cell?_alloc_past _ _ _ s21_0]; exact kx2 j
          have ky3 : ∀ j, wf.cell? ⟨gy, j, none⟩ = #[.int .i64 v.A.n, .int .i64 v.A.d, .int .i64 v.B.n, .int .i64 v.B.d, .int .i64 v.C.n, .int .i64 v.C.d, .int .i64 v.D.n, .int .i64 v.D.d, .int .i64 v.E.n, .int .i64 v.E.d, .int .i64 v.F.n, .int .i64 v.F.d][j]? := fun j => by rw [← hwf, ← hgy, World.cell?_alloc_new]
          have zf3 : wf.heap.size = gy + 1 := by rw [← hwf, ← hgy]; simp
          have zy : gy < wf.heap.size := by omega
          have zx3 : gx < wf.heap.size := by omega
          have hSf := H_hS.out.keep hBf rfl
          have SK : ∀ W, Below wf.heap.size wf W → Below wf.heap.size wf W ∧ (∀ j, W.cell? ⟨gx, j, none⟩ = #[.int .i64 v.A.n, .int .i64 v.A.d, .int .i64 v.B.n, .int .i64 v.B.d, .int .i64 v.C.n, .int .i64 v.C.d, .int .i64 v.D.n, .int .i64 v.D.d, .int .i64 v.E.n, .int .i64 v.E.d, .int .i64 v.F.n, .int .i64 v.F.d][j]?) ∧ (∀ j, W.cell? ⟨gy, j, none⟩ = #[.int .i64 v.A.n, .int .i64 v.A.d, .int .i64 v.B.n, .int .i64 v.B.d, .int .i64 v.C.n, .int .i64 v.C.d, .int .i64 v.D.n, .int .i64 v.D.d, .int .i64 v.E.n, .int .i64 v.E.d, .int .i64 v.F.n, .int .i64 v.F.d][j]?) := fun W h => ⟨h, fun j => (h.cell (p := ⟨gx, j, none⟩) zx3).trans (kx3 j), fun j => (h.cell (p := ⟨gy, j, none⟩) zy).trans (ky3 j)⟩
          rw [hgy, hwf]
          clear kx2 hgy hwf hb21 t21 hb20 t20 s20_0 s21_0
          clear w21
          clear w20
          have H_SK := Lib.hid SK
          clear SK
          have H_hSf := Lib.hid hSf
          clear hSf
          have H_zf3 := Lib.hid zf3
          clear zf3
          go_region_held3 (fun W => Below wf.heap.size wf W ∧ (∀ j, W.cell? ⟨gx, j, none⟩ = #[.int .i64 v.A.n, .int .i64 v.A.d, .int .i64 v.B.n, .int .i64 v.B.d, .int .i64 v.C.n, .int .i64 v.C.d, .int .i64 v.D.n, .int .i64 v.D.d, .int .i64 v.E.n, .int .i64 v.E.d, .int .i64 v.F.n, .int .i64 v.F.d][j]?) ∧ (∀ j, W.cell? ⟨gy, j, none⟩ = #[.int .i64 v.A.n, .int .i64 v.A.d, .int .i64 v.B.n, .int .i64 v.B.d, .int .i64 v.C.n, .int .i64 v.C.d, .int .i64 v.D.n, .int .i64 v.D.d, .int .i64 v.E.n, .int .i64 v.E.d, .int .i64 v.F.n, .int .i64 v.F.d][j]?)) (exact H_SK.out _ (by repeat' (first | (with_reducible first | exact bwR _ _ | assumption | refine bdn ?_ | refine bwA ?_ ?_ _ | refine bwD ?_ | refine bwS ?_ ?_ _) | omega | (simp <;> omega))))
            (first | (go_at_call 17; go_must ((with_reducible refine (coded1_t ea c _ hc11' ?q2).mono ?_); (case q2 => exact H_hSf.out.keep (B := wf.heap.size) (by repeat' (first | (with_reducible first | exact bwR _ _ | assumption | refine bdn ?_ | refine bwA ?_ ?_ _ | refine bwD ?_ | refine bwS ?_ ?_ _) | omega | (simp <;> omega))) rfl); rintro en wV ⟨rfl, hV⟩; have hbV : Below wf.heap.size wf wV := below_via (by repeat' (first | (with_reducible first | exact bwR _ _ | assumption | refine bdn ?_ | refine bwA ?_ ?_ _ | refine bwD ?_ | refine bwS ?_ ?_ _) | omega | (simp <;> omega))) hV; have tV := hbV.size)) | (go_at_call 5; go_must ((with_reducible refine (asm_any v _).mono ?_); rintro en wU ⟨rfl, hU⟩; have hbU : Below wf.heap.size wf wU := below_via (by repeat' (first | (with_reducible first | exact bwR _ _ | assumption | refine bdn ?_ | refine bwA ?_ ?_ _ | refine bwD ?_ | refine bwS ?_ ?_ _) | omega | (simp <;> omega))) hU; have tU := hbU.size)))
          ((try go_simp); (repeat go_step))
          have hBx := below_via hBf hbU
          go_returns
          exact ⟨rfl, by repeat' (first | (with_reducible first | exact bwR _ _ | assumption | refine bdn ?_ | refine bwA ?_ ?_ _ | refine bwD ?_ | refine bwS ?_ ?_ _) | omega | (simp <;> omega))⟩
theorem mg_any (ea : Nat → Addr) (m b : Mv) (p : Pt) (s : ByteArray) (w : World) (im : m.I) (ib : b.I) (ip : p.I) (hL : Libs w) (hS : Sents ea w) (hng : 20 ≤ w.heap.size) :
    Calls Tryz.prog 3 #[.agg #[.int .i64 m.A.n, .int .i64 m.A.d, .int .i64 m.B.n, .int .i64 m.B.d, .int .i64 m.C.n, .int .i64 m.C.d, .int .i64 m.D.n, .int .i64 m.D.d, .int .i64 m.E.n, .int .i64 m.E.d, .int .i64 m.F.n, .int .i64 m.F.d], .agg #[.int .i64 b.A.n, .int .i64 b.A.d, .int .i64 b.B.n, .int .i64 b.B.d, .int .i64 b.C.n, .int .i64 b.C.d, .int .i64 b.D.n, .int .i64 b.D.d, .int .i64 b.E.n, .int .i64 b.E.d, .int .i64 b.F.n, .int .i64 b.F.d], .agg #[.int .i64 p.xn, .int .i64 p.xd, .int .i64 p.yn, .int .i64 p.yd], .string s] w fun e w' => e = .returned (.bool true) ∧ Below w.heap.size w w' := by
  by_cases h : s.size ≤ 200
  · exact mg_law ea m b p s w im ib ip hL hS hng h
  · exact mg_long ea m b p s w im ib ip hL hS hng h
end Go.Proofs.YtlhadgnpkooiaaaGreatDoor
