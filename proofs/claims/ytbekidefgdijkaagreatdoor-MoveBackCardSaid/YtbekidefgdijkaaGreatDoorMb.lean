/-
  The walk over the statement MoveBack. (Written by wip/mkmb.py.)
-/
import Derived.Test.YtbekidefgdijkaaGreatDoorAsm
import Derived.Test.YtbekidefgdijkaaGreatDoorBk4
import Derived.Test.YtbekidefgdijkaaGreatDoorMbp
import Derived.Test.YtbekidefgdijkaaGreatDoorSix
import Derived.Test.YtbekidefgdijkaaGreatDoorRef3
import Derived.Test.YtbekidefgdijkaaGreatDoorFaul
namespace Go.Proofs.YtbekidefgdijkaaGreatDoor
open Go.RowKit Lead

set_option maxHeartbeats 4000000 in
set_option maxRecDepth 100000 in
theorem mb_a (ea : Nat → Addr) (m : Mv) (p : Pt) (w : World) (im : m.I) (ip : p.I) (hL : Libs w) (hS : Sents ea w) (hng : 20 ≤ w.heap.size) (h1 : m.c.1 ≠ 0) (hc : backC m = m.c) :
    Calls Tryz.prog 5 #[.agg #[.int .i64 m.A.n, .int .i64 m.A.d, .int .i64 m.B.n, .int .i64 m.B.d, .int .i64 m.C.n, .int .i64 m.C.d, .int .i64 m.D.n, .int .i64 m.D.d, .int .i64 m.E.n, .int .i64 m.E.d, .int .i64 m.F.n, .int .i64 m.F.d], .agg #[.int .i64 p.xn, .int .i64 p.xd, .int .i64 p.yn, .int .i64 p.yd]] w fun e w' => e = .returned (.bool true) ∧ Below w.heap.size w w' := by
  have hText := hS.c1
  have hG : Gs true ea w := ⟨hS.c2, hS.c3, fun _ => hS.c11⟩
  have zhText := zlt hText
  have xhText := zlts hText
  have yhText := zne hText
  have hv := backV_z (m := m) (by rw [hc]; intro e; rw [e] at h1; exact h1 rfl)
  have hle : m.c.1 ≤ 11 := firstF_le
  obtain ⟨c, hmc⟩ : ∃ c, m.c = c := ⟨_, rfl⟩
  obtain ⟨n, hn⟩ : ∃ n : Int, (m.c.1 : Int) = n := ⟨_, rfl⟩
  obtain ⟨at', ha⟩ : ∃ z : Int, atZ m.c.2 = z := ⟨_, rfl⟩
  have hpos : 0 < n := by omega
  have hn2 : (c.1 : Int) = n := by rw [← hmc]; exact hn
  have ha2 : atI c.2 = at' := by rw [← hmc]; exact ha
  rw [hmc] at h1 hc hle
  have H_hG := Lib.hid hG
  clear hG
  have H_hL := Lib.hid hL
  clear hL
  have H_hS := Lib.hid hS
  clear hS
  have H_im := Lib.hid im
  clear im
  have H_ip := Lib.hid ip
  clear ip
  have H_h1 := Lib.hid h1
  clear h1
  have H_hc := Lib.hid hc
  clear hc
  have H_hv := Lib.hid hv
  clear hv
  have H_hle := Lib.hid hle
  clear hle
  have H_hmc := Lib.hid hmc
  clear hmc
  have H_hn := Lib.hid hn
  clear hn
  have H_ha := Lib.hid ha
  clear ha
  have H_hn2 := Lib.hid hn2
  clear hn2
  have H_ha2 := Lib.hid ha2
  clear ha2
  go_enter Tryz.func5, Tryz.ntmps5
  ((try go_simp); (repeat go_step))
  refine call_bel (w := w) (by repeat' (first | (with_reducible exact Below.refl _ _) | (with_reducible assumption) | (with_reducible refine bdn ?_) | (with_reducible refine Below.alloc ?_ ?_ _) | (with_reducible refine Below.drew ?_) | (with_reducible refine Below.setCell ?_ ?_ _) | omega | (simp <;> omega))) (fun HB => moved_any ea _ (H_hL.out.keep HB rfl) (H_hG.out.keep HB rfl) (Nat.le_trans hng HB.size) (gkeep HB hText rfl)) ?_
  intro w1 hb1 hz1 c1 d1 hW1
  have t1 := hb1.size
  try simp only [World.size_alloc] at hz1 c1 d1
  try simp only [World.size_drew] at hz1 c1 d1
  try simp only [World.size_setCell] at hz1 c1 d1
  try simp only [World.heap_drewN] at hz1 c1 d1
  try simp only [World.size_alloc] at hz1 c1 d1
  try simp only [World.size_drew] at hz1 c1 d1
  try simp only [World.size_setCell] at hz1 c1 d1
  have s1_0 : w.heap.size < w1.heap.size := by omega
  have o1_0 := fun j => c1 (w.heap.size) j (by omega)
  have f1_0 := fun j => d1 (w.heap.size) j (by omega)
  have s1_1 : w.heap.size + 1 < w1.heap.size := by omega
  have o1_1 := fun j => c1 (w.heap.size + 1) j (by omega)
  have f1_1 := fun j => d1 (w.heap.size + 1) j (by omega)
  clear c1 d1 hz1 hW1
  ((try go_simp); (repeat go_step))
  refine call_bel (w := w) (by repeat' (first | (with_reducible exact Below.refl _ _) | (with_reducible assumption) | (with_reducible refine bdn ?_) | (with_reducible refine Below.alloc ?_ ?_ _) | (with_reducible refine Below.drew ?_) | (with_reducible refine Below.setCell ?_ ?_ _) | omega | (simp <;> omega))) (fun HB => asm_any m _) ?_
  intro w2 hb2 hz2 c2 d2 hW2
  have t2 := hb2.size
  try simp only [World.size_alloc] at hz2 c2 d2
  try simp only [World.size_drew] at hz2 c2 d2
  try simp only [World.size_setCell] at hz2 c2 d2
  try simp only [World.heap_drewN] at hz2 c2 d2
  try simp only [World.size_alloc] at hz2 c2 d2
  try simp only [World.size_drew] at hz2 c2 d2
  try simp only [World.size_setCell] at hz2 c2 d2
  have s2_0 : w.heap.size < w2.heap.size := by omega
  have o2_0 := fun j => c2 (w.heap.size) j (by omega)
  have f2_0 := fun j => d2 (w.heap.size) j (by omega)
  have s2_1 : w.heap.size + 1 < w2.heap.size := by omega
  have o2_1 := fun j => c2 (w.heap.size + 1) j (by omega)
  have f2_1 := fun j => d2 (w.heap.size + 1) j (by omega)
  clear c2 d2 hz2 hW2
  ((try go_simp); (repeat go_step))
  refine call_me (w := w) (by repeat' (first | (with_reducible exact Below.refl _ _) | (with_reducible assumption) | (with_reducible refine bdn ?_) | (with_reducible refine Below.alloc ?_ ?_ _) | (with_reducible refine Below.drew ?_) | (with_reducible refine Below.setCell ?_ ?_ _) | omega | (simp <;> omega))) (fun HB => mback_any ea m _ H_im.out (H_hG.out.keep HB rfl) (Nat.le_trans hng HB.size)) ?_
  rw [H_hv.out, H_hc.out]
  intro x3 w3 hx3 hb3 hz3 c3 d3 hW3
  have t3 := hb3.size
  try simp only [World.size_alloc] at hz3 c3 d3
  try simp only [World.size_drew] at hz3 c3 d3
  try simp only [World.size_setCell] at hz3 c3 d3
  try simp only [World.heap_drewN] at hz3 c3 d3
  try simp only [World.size_alloc] at hz3 c3 d3
  try simp only [World.size_drew] at hz3 c3 d3
  try simp only [World.size_setCell] at hz3 c3 d3
  have s3_0 : w.heap.size < w3.heap.size := by omega
  have o3_0 := fun j => c3 (w.heap.size) j (by omega)
  have f3_0 := fun j => d3 (w.heap.size) j (by omega)
  have s3_1 : w.heap.size + 1 < w3.heap.size := by omega
  have o3_1 := fun j => c3 (w.heap.size + 1) j (by omega)
  have f3_1 := fun j => d3 (w.heap.size + 1) j (by omega)
  have s3_2 : w2.heap.size < w3.heap.size := by omega
  have o3_2 := fun j => c3 (w2.heap.size) j (by omega)
  have f3_2 := fun j => d3 (w2.heap.size) j (by omega)
  clear c3 d3 hz3 hW3
  have hx3' := Lib.hid hx3
  obtain ⟨t3', a3, rfl⟩ := hx3.some H_h1.out
  clear hx3
  ((try go_simp); (repeat go_step))
  refine call_bel (w := w) (by repeat' (first | (with_reducible exact Below.refl _ _) | (with_reducible assumption) | (with_reducible refine bdn ?_) | (with_reducible refine Below.alloc ?_ ?_ _) | (with_reducible refine Below.drew ?_) | (with_reducible refine Below.setCell ?_ ?_ _) | omega | (simp <;> omega))) (fun HB => rsix_any m n at' _ H_im.out H_hn.out H_ha.out) ?_
  intro w4 hb4 hz4 c4 d4 hW4
  have t4 := hb4.size
  have e4_3 : Below w3.heap.size w3 w4 := below_via (by repeat' (first | (with_reducible exact Below.refl _ _) | (with_reducible assumption) | (with_reducible refine bdn ?_) | (with_reducible refine Below.alloc ?_ ?_ _) | (with_reducible refine Below.drew ?_) | (with_reducible refine Below.setCell ?_ ?_ _) | omega | (simp <;> omega))) hW4
  have te4_3 := e4_3.size
  try simp only [World.size_alloc] at hz4 c4 d4
  try simp only [World.size_drew] at hz4 c4 d4
  try simp only [World.size_setCell] at hz4 c4 d4
  try simp only [World.heap_drewN] at hz4 c4 d4
  try simp only [World.size_alloc] at hz4 c4 d4
  try simp only [World.size_drew] at hz4 c4 d4
  try simp only [World.size_setCell] at hz4 c4 d4
  have s4_0 : w3.heap.size < w4.heap.size := by omega
  have o4_0 := fun j => c4 (w3.heap.size) j (by omega)
  have f4_0 := fun j => d4 (w3.heap.size) j (by omega)
  clear c4 d4 hz4 hW4
  ((try go_simp); (repeat go_step))
  refine call_bel (w := w) (by repeat' (first | (with_reducible exact Below.refl _ _) | (with_reducible assumption) | (with_reducible refine bdn ?_) | (with_reducible refine Below.alloc ?_ ?_ _) | (with_reducible refine Below.drew ?_) | (with_reducible refine Below.setCell ?_ ?_ _) | omega | (simp <;> omega))) (fun HB => faulted1_any ea c n at' _ _ _ (hx3'.out.keep (B := w3.heap.size) (by repeat' (first | (with_reducible exact Below.refl _ _) | (with_reducible assumption) | (with_reducible refine bdn ?_) | (with_reducible refine Below.alloc ?_ ?_ _) | (with_reducible refine Below.drew ?_) | (with_reducible refine Below.setCell ?_ ?_ _) | omega | (simp <;> omega))) rfl (Nat.le_refl _)) (H_hS.out.keep HB rfl) H_hle.out H_hn2.out H_ha2.out) ?_
  intro w5 hb5 hz5 c5 d5 hW5
  have t5 := hb5.size
  try simp only [World.size_alloc] at hz5 c5 d5
  try simp only [World.size_drew] at hz5 c5 d5
  try simp only [World.size_setCell] at hz5 c5 d5
  try simp only [World.heap_drewN] at hz5 c5 d5
  try simp only [World.size_alloc] at hz5 c5 d5
  try simp only [World.size_drew] at hz5 c5 d5
  try simp only [World.size_setCell] at hz5 c5 d5
  have s5_0 : w3.heap.size < w5.heap.size := by omega
  have o5_0 := fun j => c5 (w3.heap.size) j (by omega)
  have f5_0 := fun j => d5 (w3.heap.size) j (by omega)
  clear c5 d5 hz5 hW5
  ((try go_simp); (repeat go_step))
  go_returns
  exact ⟨rfl, by repeat' (first | (with_reducible exact Below.refl _ _) | (with_reducible assumption) | (with_reducible refine bdn ?_) | (with_reducible refine Below.alloc ?_ ?_ _) | (with_reducible refine Below.drew ?_) | (with_reducible refine Below.setCell ?_ ?_ _) | omega | (simp <;> omega))⟩
set_option maxHeartbeats 4000000 in
set_option maxRecDepth 100000 in
theorem mb_b2 (ea : Nat → Addr) (m : Mv) (p : Pt) (w : World) (im : m.I) (ip : p.I) (hL : Libs w) (hS : Sents ea w) (hng : 20 ≤ w.heap.size) (hmc : m.c = (0, none)) (hk : m.A.mulK m.D ≠ 0 ∨ m.B.mulK m.C ≠ 0) (hc : backC m = (2, none)) :
    Calls Tryz.prog 5 #[.agg #[.int .i64 m.A.n, .int .i64 m.A.d, .int .i64 m.B.n, .int .i64 m.B.d, .int .i64 m.C.n, .int .i64 m.C.d, .int .i64 m.D.n, .int .i64 m.D.d, .int .i64 m.E.n, .int .i64 m.E.d, .int .i64 m.F.n, .int .i64 m.F.d], .agg #[.int .i64 p.xn, .int .i64 p.xd, .int .i64 p.yn, .int .i64 p.yd]] w fun e w' => e = .returned (.bool true) ∧ Below w.heap.size w w' := by
  have hText := hS.c1
  have hG : Gs true ea w := ⟨hS.c2, hS.c3, fun _ => hS.c11⟩
  have zhText := zlt hText
  have xhText := zlts hText
  have yhText := zne hText
  have hR := Mv.c_0 hmc
  have iA := im.A
  have iB := im.B
  have iC := im.C
  have iD := im.D
  obtain ⟨k1, hk1⟩ : ∃ k, m.A.mulK m.D = k := ⟨_, rfl⟩
  obtain ⟨k2, hk2⟩ : ∃ k, m.B.mulK m.C = k := ⟨_, rfl⟩
  obtain ⟨x, hx⟩ : ∃ k, m.A.mul m.D = k := ⟨_, rfl⟩
  obtain ⟨y, hy⟩ : ∃ k, m.B.mul m.C = k := ⟨_, rfl⟩
  have hv := backV_z (m := m) (by rw [hc]; decide)
  have l1 : (k1 : Int) ≤ 11 := by have := opK_le m.A.n m.A.d m.D.n m.D.d (mulN m.A m.D) (addD m.A m.D); unfold Fr.mulK at hk1; omega
  have l2 : (k2 : Int) ≤ 11 := by have := opK_le m.B.n m.B.d m.C.n m.C.d (mulN m.B m.C) (addD m.B m.C); unfold Fr.mulK at hk2; omega
  rw [hk1, hk2] at hk
  have h6 : ((k1 : Int) + (k2 : Int) == 0) = false := by rw [beq_eq_false_iff_ne]; omega
  have H_hG := Lib.hid hG
  clear hG
  have H_hL := Lib.hid hL
  clear hL
  have H_hS := Lib.hid hS
  clear hS
  have H_im := Lib.hid im
  clear im
  have H_ip := Lib.hid ip
  clear ip
  have H_hc := Lib.hid hc
  clear hc
  have H_hv := Lib.hid hv
  clear hv
  have H_hmc := Lib.hid hmc
  clear hmc
  have H_hk1 := Lib.hid hk1
  clear hk1
  have H_hk2 := Lib.hid hk2
  clear hk2
  have H_hx := Lib.hid hx
  clear hx
  have H_hy := Lib.hid hy
  clear hy
  have H_iA := Lib.hid iA
  clear iA
  have H_iB := Lib.hid iB
  clear iB
  have H_iC := Lib.hid iC
  clear iC
  have H_iD := Lib.hid iD
  clear iD
  have H_hR := Lib.hid hR
  clear hR
  have H_hk := Lib.hid hk
  clear hk
  go_enter Tryz.func5, Tryz.ntmps5
  ((try go_simp); (repeat go_step))
  refine call_bel (w := w) (by repeat' (first | (with_reducible exact Below.refl _ _) | (with_reducible assumption) | (with_reducible refine bdn ?_) | (with_reducible refine Below.alloc ?_ ?_ _) | (with_reducible refine Below.drew ?_) | (with_reducible refine Below.setCell ?_ ?_ _) | omega | (simp <;> omega))) (fun HB => moved_any ea _ (H_hL.out.keep HB rfl) (H_hG.out.keep HB rfl) (Nat.le_trans hng HB.size) (gkeep HB hText rfl)) ?_
  intro w1 hb1 hz1 c1 d1 hW1
  have t1 := hb1.size
  try simp only [World.size_alloc] at hz1 c1 d1
  try simp only [World.size_drew] at hz1 c1 d1
  try simp only [World.size_setCell] at hz1 c1 d1
  try simp only [World.heap_drewN] at hz1 c1 d1
  try simp only [World.size_alloc] at hz1 c1 d1
  try simp only [World.size_drew] at hz1 c1 d1
  try simp only [World.size_setCell] at hz1 c1 d1
  have s1_0 : w.heap.size < w1.heap.size := by omega
  have o1_0 := fun j => c1 (w.heap.size) j (by omega)
  have f1_0 := fun j => d1 (w.heap.size) j (by omega)
  have s1_1 : w.heap.size + 1 < w1.heap.size := by omega
  have o1_1 := fun j => c1 (w.heap.size + 1) j (by omega)
  have f1_1 := fun j => d1 (w.heap.size + 1) j (by omega)
  clear c1 d1 hz1 hW1
  ((try go_simp); (repeat go_step))
  refine call_bel (w := w) (by repeat' (first | (with_reducible exact Below.refl _ _) | (with_reducible assumption) | (with_reducible refine bdn ?_) | (with_reducible refine Below.alloc ?_ ?_ _) | (with_reducible refine Below.drew ?_) | (with_reducible refine Below.setCell ?_ ?_ _) | omega | (simp <;> omega))) (fun HB => asm_any m _) ?_
  intro w2 hb2 hz2 c2 d2 hW2
  have t2 := hb2.size
  try simp only [World.size_alloc] at hz2 c2 d2
  try simp only [World.size_drew] at hz2 c2 d2
  try simp only [World.size_setCell] at hz2 c2 d2
  try simp only [World.heap_drewN] at hz2 c2 d2
  try simp only [World.size_alloc] at hz2 c2 d2
  try simp only [World.size_drew] at hz2 c2 d2
  try simp only [World.size_setCell] at hz2 c2 d2
  have s2_0 : w.heap.size < w2.heap.size := by omega
  have o2_0 := fun j => c2 (w.heap.size) j (by omega)
  have f2_0 := fun j => d2 (w.heap.size) j (by omega)
  have s2_1 : w.heap.size + 1 < w2.heap.size := by omega
  have o2_1 := fun j => c2 (w.heap.size + 1) j (by omega)
  have f2_1 := fun j => d2 (w.heap.size + 1) j (by omega)
  clear c2 d2 hz2 hW2
  ((try go_simp); (repeat go_step))
  refine call_me (w := w) (by repeat' (first | (with_reducible exact Below.refl _ _) | (with_reducible assumption) | (with_reducible refine bdn ?_) | (with_reducible refine Below.alloc ?_ ?_ _) | (with_reducible refine Below.drew ?_) | (with_reducible refine Below.setCell ?_ ?_ _) | omega | (simp <;> omega))) (fun HB => mback_any ea m _ H_im.out (H_hG.out.keep HB rfl) (Nat.le_trans hng HB.size)) ?_
  rw [H_hv.out, H_hc.out]
  intro x3 w3 hx3 hb3 hz3 c3 d3 hW3
  have t3 := hb3.size
  try simp only [World.size_alloc] at hz3 c3 d3
  try simp only [World.size_drew] at hz3 c3 d3
  try simp only [World.size_setCell] at hz3 c3 d3
  try simp only [World.heap_drewN] at hz3 c3 d3
  try simp only [World.size_alloc] at hz3 c3 d3
  try simp only [World.size_drew] at hz3 c3 d3
  try simp only [World.size_setCell] at hz3 c3 d3
  have s3_0 : w.heap.size < w3.heap.size := by omega
  have o3_0 := fun j => c3 (w.heap.size) j (by omega)
  have f3_0 := fun j => d3 (w.heap.size) j (by omega)
  have s3_1 : w.heap.size + 1 < w3.heap.size := by omega
  have o3_1 := fun j => c3 (w.heap.size + 1) j (by omega)
  have f3_1 := fun j => d3 (w.heap.size + 1) j (by omega)
  have s3_2 : w2.heap.size < w3.heap.size := by omega
  have o3_2 := fun j => c3 (w2.heap.size) j (by omega)
  have f3_2 := fun j => d3 (w2.heap.size) j (by omega)
  clear c3 d3 hz3 hW3
  obtain rfl : x3 = evl 218 ea 2 := hx3
  rw [evl_n (by decide)]
  ((try go_simp); (repeat go_step))
  refine call_bel (w := w) (by repeat' (first | (with_reducible exact Below.refl _ _) | (with_reducible assumption) | (with_reducible refine bdn ?_) | (with_reducible refine Below.alloc ?_ ?_ _) | (with_reducible refine Below.drew ?_) | (with_reducible refine Below.setCell ?_ ?_ _) | omega | (simp <;> omega))) (fun HB => rsix_any m 0 (-1) _ H_im.out (by rw [H_hmc.out]; rfl) (by rw [H_hmc.out]; rfl)) ?_
  intro w4 hb4 hz4 c4 d4 hW4
  have t4 := hb4.size
  try simp only [World.size_alloc] at hz4 c4 d4
  try simp only [World.size_drew] at hz4 c4 d4
  try simp only [World.size_setCell] at hz4 c4 d4
  try simp only [World.heap_drewN] at hz4 c4 d4
  try simp only [World.size_alloc] at hz4 c4 d4
  try simp only [World.size_drew] at hz4 c4 d4
  try simp only [World.size_setCell] at hz4 c4 d4
  have s4_0 : w.heap.size < w4.heap.size := by omega
  have o4_0 := fun j => c4 (w.heap.size) j (by omega)
  have f4_0 := fun j => d4 (w.heap.size) j (by omega)
  have s4_1 : w.heap.size + 1 < w4.heap.size := by omega
  have o4_1 := fun j => c4 (w.heap.size + 1) j (by omega)
  have f4_1 := fun j => d4 (w.heap.size + 1) j (by omega)
  have s4_2 : w2.heap.size < w4.heap.size := by omega
  have o4_2 := fun j => c4 (w2.heap.size) j (by omega)
  have f4_2 := fun j => d4 (w2.heap.size) j (by omega)
  have s4_3 : w3.heap.size < w4.heap.size := by omega
  have o4_3 := fun j => c4 (w3.heap.size) j (by omega)
  have f4_3 := fun j => d4 (w3.heap.size) j (by omega)
  clear c4 d4 hz4 hW4
  ((try go_simp); (repeat go_step))
  refine call_bel (w := w) (by repeat' (first | (with_reducible exact Below.refl _ _) | (with_reducible assumption) | (with_reducible refine bdn ?_) | (with_reducible refine Below.alloc ?_ ?_ _) | (with_reducible refine Below.drew ?_) | (with_reducible refine Below.setCell ?_ ?_ _) | omega | (simp <;> omega))) (fun HB => rdo_mul m.A m.D x _ H_iA.out H_iD.out H_hx.out) ?_
  intro w5 hb5 hz5 c5 d5 hW5
  have t5 := hb5.size
  try simp only [World.size_alloc] at hz5 c5 d5
  try simp only [World.size_drew] at hz5 c5 d5
  try simp only [World.size_setCell] at hz5 c5 d5
  try simp only [World.heap_drewN] at hz5 c5 d5
  try simp only [World.size_alloc] at hz5 c5 d5
  try simp only [World.size_drew] at hz5 c5 d5
  try simp only [World.size_setCell] at hz5 c5 d5
  have s5_0 : w.heap.size < w5.heap.size := by omega
  have o5_0 := fun j => c5 (w.heap.size) j (by omega)
  have f5_0 := fun j => d5 (w.heap.size) j (by omega)
  have s5_1 : w.heap.size + 1 < w5.heap.size := by omega
  have o5_1 := fun j => c5 (w.heap.size + 1) j (by omega)
  have f5_1 := fun j => d5 (w.heap.size + 1) j (by omega)
  have s5_2 : w2.heap.size < w5.heap.size := by omega
  have o5_2 := fun j => c5 (w2.heap.size) j (by omega)
  have f5_2 := fun j => d5 (w2.heap.size) j (by omega)
  have s5_3 : w3.heap.size < w5.heap.size := by omega
  have o5_3 := fun j => c5 (w3.heap.size) j (by omega)
  have f5_3 := fun j => d5 (w3.heap.size) j (by omega)
  clear c5 d5 hz5 hW5
  rw [H_hk1.out, frN]
  ((try go_simp); (repeat go_step))
  refine call_bel (w := w) (by repeat' (first | (with_reducible exact Below.refl _ _) | (with_reducible assumption) | (with_reducible refine bdn ?_) | (with_reducible refine Below.alloc ?_ ?_ _) | (with_reducible refine Below.drew ?_) | (with_reducible refine Below.setCell ?_ ?_ _) | omega | (simp <;> omega))) (fun HB => rdo_mul m.B m.C y _ H_iB.out H_iC.out H_hy.out) ?_
  intro w6 hb6 hz6 c6 d6 hW6
  have t6 := hb6.size
  try simp only [World.size_alloc] at hz6 c6 d6
  try simp only [World.size_drew] at hz6 c6 d6
  try simp only [World.size_setCell] at hz6 c6 d6
  try simp only [World.heap_drewN] at hz6 c6 d6
  try simp only [World.size_alloc] at hz6 c6 d6
  try simp only [World.size_drew] at hz6 c6 d6
  try simp only [World.size_setCell] at hz6 c6 d6
  have s6_0 : w.heap.size < w6.heap.size := by omega
  have o6_0 := fun j => c6 (w.heap.size) j (by omega)
  have f6_0 := fun j => d6 (w.heap.size) j (by omega)
  have s6_1 : w.heap.size + 1 < w6.heap.size := by omega
  have o6_1 := fun j => c6 (w.heap.size + 1) j (by omega)
  have f6_1 := fun j => d6 (w.heap.size + 1) j (by omega)
  have s6_2 : w2.heap.size < w6.heap.size := by omega
  have o6_2 := fun j => c6 (w2.heap.size) j (by omega)
  have f6_2 := fun j => d6 (w2.heap.size) j (by omega)
  have s6_3 : w3.heap.size < w6.heap.size := by omega
  have o6_3 := fun j => c6 (w3.heap.size) j (by omega)
  have f6_3 := fun j => d6 (w3.heap.size) j (by omega)
  have s6_4 : w5.heap.size < w6.heap.size := by omega
  have o6_4 := fun j => c6 (w5.heap.size) j (by omega)
  have f6_4 := fun j => d6 (w5.heap.size) j (by omega)
  clear c6 d6 hz6 hW6
  rw [H_hk2.out, frN]
  ((try go_simp); (repeat go_step))
  refine call_bel (w := w) (by repeat' (first | (with_reducible exact Below.refl _ _) | (with_reducible assumption) | (with_reducible refine bdn ?_) | (with_reducible refine Below.alloc ?_ ?_ _) | (with_reducible refine Below.drew ?_) | (with_reducible refine Below.setCell ?_ ?_ _) | omega | (simp <;> omega))) (fun HB => coded1_s ea 2 _ (by decide) (by decide) (H_hS.out.keep HB rfl)) ?_
  intro w8 hb8 hz8 c8 d8 hW8
  have t8 := hb8.size
  try simp only [World.size_alloc] at hz8 c8 d8
  try simp only [World.size_drew] at hz8 c8 d8
  try simp only [World.size_setCell] at hz8 c8 d8
  try simp only [World.heap_drewN] at hz8 c8 d8
  try simp only [World.size_alloc] at hz8 c8 d8
  try simp only [World.size_drew] at hz8 c8 d8
  try simp only [World.size_setCell] at hz8 c8 d8
  have s8_0 : w3.heap.size < w8.heap.size := by omega
  have o8_0 := fun j => c8 (w3.heap.size) j (by omega)
  have f8_0 := fun j => d8 (w3.heap.size) j (by omega)
  clear c8 d8 hz8 hW8
  ((try go_simp); (repeat go_step))
  go_returns
  exact ⟨rfl, by repeat' (first | (with_reducible exact Below.refl _ _) | (with_reducible assumption) | (with_reducible refine bdn ?_) | (with_reducible refine Below.alloc ?_ ?_ _) | (with_reducible refine Below.drew ?_) | (with_reducible refine Below.setCell ?_ ?_ _) | omega | (simp <;> omega))⟩
set_option maxHeartbeats 4000000 in
set_option maxRecDepth 100000 in
theorem mb_b1c (ea : Nat → Addr) (m : Mv) (p : Pt) (w : World) (im : m.I) (ip : p.I) (hL : Libs w) (hS : Sents ea w) (hng : 20 ≤ w.heap.size) (hmc : m.c = (0, none)) (h1 : m.A.mulK m.D = 0) (h2 : m.B.mulK m.C = 0) (h3 : (m.A.mul m.D).subK (m.B.mul m.C) ≠ 0) (hc : backC m = (2, none)) :
    Calls Tryz.prog 5 #[.agg #[.int .i64 m.A.n, .int .i64 m.A.d, .int .i64 m.B.n, .int .i64 m.B.d, .int .i64 m.C.n, .int .i64 m.C.d, .int .i64 m.D.n, .int .i64 m.D.d, .int .i64 m.E.n, .int .i64 m.E.d, .int .i64 m.F.n, .int .i64 m.F.d], .agg #[.int .i64 p.xn, .int .i64 p.xd, .int .i64 p.yn, .int .i64 p.yd]] w fun e w' => e = .returned (.bool true) ∧ Below w.heap.size w w' := by
  have hText := hS.c1
  have hG : Gs true ea w := ⟨hS.c2, hS.c3, fun _ => hS.c11⟩
  have zhText := zlt hText
  have xhText := zlts hText
  have yhText := zne hText
  have hR := Mv.c_0 hmc
  have iA := im.A
  have iB := im.B
  have iC := im.C
  have iD := im.D
  obtain ⟨k1, hk1⟩ : ∃ k, m.A.mulK m.D = k := ⟨_, rfl⟩
  obtain ⟨k2, hk2⟩ : ∃ k, m.B.mulK m.C = k := ⟨_, rfl⟩
  obtain ⟨x, hx⟩ : ∃ k, m.A.mul m.D = k := ⟨_, rfl⟩
  obtain ⟨y, hy⟩ : ∃ k, m.B.mul m.C = k := ⟨_, rfl⟩
  rw [hk1] at h1
  rw [hk2] at h2
  subst h1 h2
  rw [hx, hy] at h3
  have jx : x.I := by rw [← hx]; exact (mulK_R hk1).i
  have jy : y.I := by rw [← hy]; exact (mulK_R hk2).i
  obtain ⟨k3, hk3⟩ : ∃ k, x.subK y = k := ⟨_, rfl⟩
  obtain ⟨d, hd⟩ : ∃ k, x.sub y = k := ⟨_, rfl⟩
  have hv := backV_z (m := m) (by rw [hc]; decide)
  rw [hk3] at h3
  have h6 : ((k3 : Int) == 0) = false := by rw [beq_eq_false_iff_ne]; omega
  have H_hG := Lib.hid hG
  clear hG
  have H_hL := Lib.hid hL
  clear hL
  have H_hS := Lib.hid hS
  clear hS
  have H_im := Lib.hid im
  clear im
  have H_ip := Lib.hid ip
  clear ip
  have H_hc := Lib.hid hc
  clear hc
  have H_hv := Lib.hid hv
  clear hv
  have H_hmc := Lib.hid hmc
  clear hmc
  have H_hk1 := Lib.hid hk1
  clear hk1
  have H_hk2 := Lib.hid hk2
  clear hk2
  have H_hx := Lib.hid hx
  clear hx
  have H_hy := Lib.hid hy
  clear hy
  have H_iA := Lib.hid iA
  clear iA
  have H_iB := Lib.hid iB
  clear iB
  have H_iC := Lib.hid iC
  clear iC
  have H_iD := Lib.hid iD
  clear iD
  have H_hR := Lib.hid hR
  clear hR
  have H_jx := Lib.hid jx
  clear jx
  have H_jy := Lib.hid jy
  clear jy
  have H_hk3 := Lib.hid hk3
  clear hk3
  have H_hd := Lib.hid hd
  clear hd
  have H_h3 := Lib.hid h3
  clear h3
  go_enter Tryz.func5, Tryz.ntmps5
  ((try go_simp); (repeat go_step))
  refine call_bel (w := w) (by repeat' (first | (with_reducible exact Below.refl _ _) | (with_reducible assumption) | (with_reducible refine bdn ?_) | (with_reducible refine Below.alloc ?_ ?_ _) | (with_reducible refine Below.drew ?_) | (with_reducible refine Below.setCell ?_ ?_ _) | omega | (simp <;> omega))) (fun HB => moved_any ea _ (H_hL.out.keep HB rfl) (H_hG.out.keep HB rfl) (Nat.le_trans hng HB.size) (gkeep HB hText rfl)) ?_
  intro w1 hb1 hz1 c1 d1 hW1
  have t1 := hb1.size
  try simp only [World.size_alloc] at hz1 c1 d1
  try simp only [World.size_drew] at hz1 c1 d1
  try simp only [World.size_setCell] at hz1 c1 d1
  try simp only [World.heap_drewN] at hz1 c1 d1
  try simp only [World.size_alloc] at hz1 c1 d1
  try simp only [World.size_drew] at hz1 c1 d1
  try simp only [World.size_setCell] at hz1 c1 d1
  have s1_0 : w.heap.size < w1.heap.size := by omega
  have o1_0 := fun j => c1 (w.heap.size) j (by omega)
  have f1_0 := fun j => d1 (w.heap.size) j (by omega)
  have s1_1 : w.heap.size + 1 < w1.heap.size := by omega
  have o1_1 := fun j => c1 (w.heap.size + 1) j (by omega)
  have f1_1 := fun j => d1 (w.heap.size + 1) j (by omega)
  clear c1 d1 hz1 hW1
  ((try go_simp); (repeat go_step))
  refine call_bel (w := w) (by repeat' (first | (with_reducible exact Below.refl _ _) | (with_reducible assumption) | (with_reducible refine bdn ?_) | (with_reducible refine Below.alloc ?_ ?_ _) | (with_reducible refine Below.drew ?_) | (with_reducible refine Below.setCell ?_ ?_ _) | omega | (simp <;> omega))) (fun HB => asm_any m _) ?_
  intro w2 hb2 hz2 c2 d2 hW2
  have t2 := hb2.size
  try simp only [World.size_alloc] at hz2 c2 d2
  try simp only [World.size_drew] at hz2 c2 d2
  try simp only [World.size_setCell] at hz2 c2 d2
  try simp only [World.heap_drewN] at hz2 c2 d2
  try simp only [World.size_alloc] at hz2 c2 d2
  try simp only [World.size_drew] at hz2 c2 d2
  try simp only [World.size_setCell] at hz2 c2 d2
  have s2_0 : w.heap.size < w2.heap.size := by omega
  have o2_0 := fun j => c2 (w.heap.size) j (by omega)
  have f2_0 := fun j => d2 (w.heap.size) j (by omega)
  have s2_1 : w.heap.size + 1 < w2.heap.size := by omega
  have o2_1 := fun j => c2 (w.heap.size + 1) j (by omega)
  have f2_1 := fun j => d2 (w.heap.size + 1) j (by omega)
  clear c2 d2 hz2 hW2
  ((try go_simp); (repeat go_step))
  refine call_me (w := w) (by repeat' (first | (with_reducible exact Below.refl _ _) | (with_reducible assumption) | (with_reducible refine bdn ?_) | (with_reducible refine Below.alloc ?_ ?_ _) | (with_reducible refine Below.drew ?_) | (with_reducible refine Below.setCell ?_ ?_ _) | omega | (simp <;> omega))) (fun HB => mback_any ea m _ H_im.out (H_hG.out.keep HB rfl) (Nat.le_trans hng HB.size)) ?_
  rw [H_hv.out, H_hc.out]
  intro x3 w3 hx3 hb3 hz3 c3 d3 hW3
  have t3 := hb3.size
  try simp only [World.size_alloc] at hz3 c3 d3
  try simp only [World.size_drew] at hz3 c3 d3
  try simp only [World.size_setCell] at hz3 c3 d3
  try simp only [World.heap_drewN] at hz3 c3 d3
  try simp only [World.size_alloc] at hz3 c3 d3
  try simp only [World.size_drew] at hz3 c3 d3
  try simp only [World.size_setCell] at hz3 c3 d3
  have s3_0 : w.heap.size < w3.heap.size := by omega
  have o3_0 := fun j => c3 (w.heap.size) j (by omega)
  have f3_0 := fun j => d3 (w.heap.size) j (by omega)
  have s3_1 : w.heap.size + 1 < w3.heap.size := by omega
  have o3_1 := fun j => c3 (w.heap.size + 1) j (by omega)
  have f3_1 := fun j => d3 (w.heap.size + 1) j (by omega)
  have s3_2 : w2.heap.size < w3.heap.size := by omega
  have o3_2 := fun j => c3 (w2.heap.size) j (by omega)
  have f3_2 := fun j => d3 (w2.heap.size) j (by omega)
  clear c3 d3 hz3 hW3
  obtain rfl : x3 = evl 218 ea 2 := hx3
  rw [evl_n (by decide)]
  ((try go_simp); (repeat go_step))
  refine call_bel (w := w) (by repeat' (first | (with_reducible exact Below.refl _ _) | (with_reducible assumption) | (with_reducible refine bdn ?_) | (with_reducible refine Below.alloc ?_ ?_ _) | (with_reducible refine Below.drew ?_) | (with_reducible refine Below.setCell ?_ ?_ _) | omega | (simp <;> omega))) (fun HB => rsix_any m 0 (-1) _ H_im.out (by rw [H_hmc.out]; rfl) (by rw [H_hmc.out]; rfl)) ?_
  intro w4 hb4 hz4 c4 d4 hW4
  have t4 := hb4.size
  try simp only [World.size_alloc] at hz4 c4 d4
  try simp only [World.size_drew] at hz4 c4 d4
  try simp only [World.size_setCell] at hz4 c4 d4
  try simp only [World.heap_drewN] at hz4 c4 d4
  try simp only [World.size_alloc] at hz4 c4 d4
  try simp only [World.size_drew] at hz4 c4 d4
  try simp only [World.size_setCell] at hz4 c4 d4
  have s4_0 : w.heap.size < w4.heap.size := by omega
  have o4_0 := fun j => c4 (w.heap.size) j (by omega)
  have f4_0 := fun j => d4 (w.heap.size) j (by omega)
  have s4_1 : w.heap.size + 1 < w4.heap.size := by omega
  have o4_1 := fun j => c4 (w.heap.size + 1) j (by omega)
  have f4_1 := fun j => d4 (w.heap.size + 1) j (by omega)
  have s4_2 : w2.heap.size < w4.heap.size := by omega
  have o4_2 := fun j => c4 (w2.heap.size) j (by omega)
  have f4_2 := fun j => d4 (w2.heap.size) j (by omega)
  have s4_3 : w3.heap.size < w4.heap.size := by omega
  have o4_3 := fun j => c4 (w3.heap.size) j (by omega)
  have f4_3 := fun j => d4 (w3.heap.size) j (by omega)
  clear c4 d4 hz4 hW4
  ((try go_simp); (repeat go_step))
  refine call_bel (w := w) (by repeat' (first | (with_reducible exact Below.refl _ _) | (with_reducible assumption) | (with_reducible refine bdn ?_) | (with_reducible refine Below.alloc ?_ ?_ _) | (with_reducible refine Below.drew ?_) | (with_reducible refine Below.setCell ?_ ?_ _) | omega | (simp <;> omega))) (fun HB => rdo_mul m.A m.D x _ H_iA.out H_iD.out H_hx.out) ?_
  intro w5 hb5 hz5 c5 d5 hW5
  have t5 := hb5.size
  try simp only [World.size_alloc] at hz5 c5 d5
  try simp only [World.size_drew] at hz5 c5 d5
  try simp only [World.size_setCell] at hz5 c5 d5
  try simp only [World.heap_drewN] at hz5 c5 d5
  try simp only [World.size_alloc] at hz5 c5 d5
  try simp only [World.size_drew] at hz5 c5 d5
  try simp only [World.size_setCell] at hz5 c5 d5
  have s5_0 : w.heap.size < w5.heap.size := by omega
  have o5_0 := fun j => c5 (w.heap.size) j (by omega)
  have f5_0 := fun j => d5 (w.heap.size) j (by omega)
  have s5_1 : w.heap.size + 1 < w5.heap.size := by omega
  have o5_1 := fun j => c5 (w.heap.size + 1) j (by omega)
  have f5_1 := fun j => d5 (w.heap.size + 1) j (by omega)
  have s5_2 : w2.heap.size < w5.heap.size := by omega
  have o5_2 := fun j => c5 (w2.heap.size) j (by omega)
  have f5_2 := fun j => d5 (w2.heap.size) j (by omega)
  have s5_3 : w3.heap.size < w5.heap.size := by omega
  have o5_3 := fun j => c5 (w3.heap.size) j (by omega)
  have f5_3 := fun j => d5 (w3.heap.size) j (by omega)
  clear c5 d5 hz5 hW5
  rw [H_hk1.out, frN_0 rfl]
  ((try go_simp); (repeat go_step))
  refine call_bel (w := w) (by repeat' (first | (with_reducible exact Below.refl _ _) | (with_reducible assumption) | (with_reducible refine bdn ?_) | (with_reducible refine Below.alloc ?_ ?_ _) | (with_reducible refine Below.drew ?_) | (with_reducible refine Below.setCell ?_ ?_ _) | omega | (simp <;> omega))) (fun HB => rdo_mul m.B m.C y _ H_iB.out H_iC.out H_hy.out) ?_
  intro w6 hb6 hz6 c6 d6 hW6
  have t6 := hb6.size
  try simp only [World.size_alloc] at hz6 c6 d6
  try simp only [World.size_drew] at hz6 c6 d6
  try simp only [World.size_setCell] at hz6 c6 d6
  try simp only [World.heap_drewN] at hz6 c6 d6
  try simp only [World.size_alloc] at hz6 c6 d6
  try simp only [World.size_drew] at hz6 c6 d6
  try simp only [World.size_setCell] at hz6 c6 d6
  have s6_0 : w.heap.size < w6.heap.size := by omega
  have o6_0 := fun j => c6 (w.heap.size) j (by omega)
  have f6_0 := fun j => d6 (w.heap.size) j (by omega)
  have s6_1 : w.heap.size + 1 < w6.heap.size := by omega
  have o6_1 := fun j => c6 (w.heap.size + 1) j (by omega)
  have f6_1 := fun j => d6 (w.heap.size + 1) j (by omega)
  have s6_2 : w2.heap.size < w6.heap.size := by omega
  have o6_2 := fun j => c6 (w2.heap.size) j (by omega)
  have f6_2 := fun j => d6 (w2.heap.size) j (by omega)
  have s6_3 : w3.heap.size < w6.heap.size := by omega
  have o6_3 := fun j => c6 (w3.heap.size) j (by omega)
  have f6_3 := fun j => d6 (w3.heap.size) j (by omega)
  have s6_4 : w5.heap.size < w6.heap.size := by omega
  have o6_4 := fun j => c6 (w5.heap.size) j (by omega)
  have f6_4 := fun j => d6 (w5.heap.size) j (by omega)
  clear c6 d6 hz6 hW6
  rw [H_hk2.out, frN_0 rfl]
  ((try go_simp); (repeat go_step))
  refine call_bel (w := w) (by repeat' (first | (with_reducible exact Below.refl _ _) | (with_reducible assumption) | (with_reducible refine bdn ?_) | (with_reducible refine Below.alloc ?_ ?_ _) | (with_reducible refine Below.drew ?_) | (with_reducible refine Below.setCell ?_ ?_ _) | omega | (simp <;> omega))) (fun HB => rdo_sub x y d _ H_jx.out H_jy.out H_hd.out) ?_
  intro w7 hb7 hz7 c7 d7 hW7
  have t7 := hb7.size
  try simp only [World.size_alloc] at hz7 c7 d7
  try simp only [World.size_drew] at hz7 c7 d7
  try simp only [World.size_setCell] at hz7 c7 d7
  try simp only [World.heap_drewN] at hz7 c7 d7
  try simp only [World.size_alloc] at hz7 c7 d7
  try simp only [World.size_drew] at hz7 c7 d7
  try simp only [World.size_setCell] at hz7 c7 d7
  have s7_0 : w.heap.size < w7.heap.size := by omega
  have o7_0 := fun j => c7 (w.heap.size) j (by omega)
  have f7_0 := fun j => d7 (w.heap.size) j (by omega)
  have s7_1 : w.heap.size + 1 < w7.heap.size := by omega
  have o7_1 := fun j => c7 (w.heap.size + 1) j (by omega)
  have f7_1 := fun j => d7 (w.heap.size + 1) j (by omega)
  have s7_2 : w2.heap.size < w7.heap.size := by omega
  have o7_2 := fun j => c7 (w2.heap.size) j (by omega)
  have f7_2 := fun j => d7 (w2.heap.size) j (by omega)
  have s7_3 : w3.heap.size < w7.heap.size := by omega
  have o7_3 := fun j => c7 (w3.heap.size) j (by omega)
  have f7_3 := fun j => d7 (w3.heap.size) j (by omega)
  clear c7 d7 hz7 hW7
  rw [H_hk3.out, frN_n H_h3.out]
  ((try go_simp); (repeat go_step))
  refine call_bel (w := w) (by repeat' (first | (with_reducible exact Below.refl _ _) | (with_reducible assumption) | (with_reducible refine bdn ?_) | (with_reducible refine Below.alloc ?_ ?_ _) | (with_reducible refine Below.drew ?_) | (with_reducible refine Below.setCell ?_ ?_ _) | omega | (simp <;> omega))) (fun HB => coded1_s ea 2 _ (by decide) (by decide) (H_hS.out.keep HB rfl)) ?_
  intro w8 hb8 hz8 c8 d8 hW8
  have t8 := hb8.size
  try simp only [World.size_alloc] at hz8 c8 d8
  try simp only [World.size_drew] at hz8 c8 d8
  try simp only [World.size_setCell] at hz8 c8 d8
  try simp only [World.heap_drewN] at hz8 c8 d8
  try simp only [World.size_alloc] at hz8 c8 d8
  try simp only [World.size_drew] at hz8 c8 d8
  try simp only [World.size_setCell] at hz8 c8 d8
  have s8_0 : w3.heap.size < w8.heap.size := by omega
  have o8_0 := fun j => c8 (w3.heap.size) j (by omega)
  have f8_0 := fun j => d8 (w3.heap.size) j (by omega)
  clear c8 d8 hz8 hW8
  ((try go_simp); (repeat go_step))
  go_returns
  exact ⟨rfl, by repeat' (first | (with_reducible exact Below.refl _ _) | (with_reducible assumption) | (with_reducible refine bdn ?_) | (with_reducible refine Below.alloc ?_ ?_ _) | (with_reducible refine Below.drew ?_) | (with_reducible refine Below.setCell ?_ ?_ _) | omega | (simp <;> omega))⟩
set_option maxHeartbeats 4000000 in
set_option maxRecDepth 100000 in
theorem mb_b1a (ea : Nat → Addr) (m : Mv) (p : Pt) (w : World) (im : m.I) (ip : p.I) (hL : Libs w) (hS : Sents ea w) (hng : 20 ≤ w.heap.size) (hmc : m.c = (0, none)) (h1 : m.A.mulK m.D = 0) (h2 : m.B.mulK m.C = 0) (h3 : (m.A.mul m.D).subK (m.B.mul m.C) = 0) (h4 : ((m.A.mul m.D).sub (m.B.mul m.C)).n = 0) (hc : backC m = (11, none)) :
    Calls Tryz.prog 5 #[.agg #[.int .i64 m.A.n, .int .i64 m.A.d, .int .i64 m.B.n, .int .i64 m.B.d, .int .i64 m.C.n, .int .i64 m.C.d, .int .i64 m.D.n, .int .i64 m.D.d, .int .i64 m.E.n, .int .i64 m.E.d, .int .i64 m.F.n, .int .i64 m.F.d], .agg #[.int .i64 p.xn, .int .i64 p.xd, .int .i64 p.yn, .int .i64 p.yd]] w fun e w' => e = .returned (.bool true) ∧ Below w.heap.size w w' := by
  have hText := hS.c1
  have hG : Gs true ea w := ⟨hS.c2, hS.c3, fun _ => hS.c11⟩
  have zhText := zlt hText
  have xhText := zlts hText
  have yhText := zne hText
  have hR := Mv.c_0 hmc
  have iA := im.A
  have iB := im.B
  have iC := im.C
  have iD := im.D
  obtain ⟨k1, hk1⟩ : ∃ k, m.A.mulK m.D = k := ⟨_, rfl⟩
  obtain ⟨k2, hk2⟩ : ∃ k, m.B.mulK m.C = k := ⟨_, rfl⟩
  obtain ⟨x, hx⟩ : ∃ k, m.A.mul m.D = k := ⟨_, rfl⟩
  obtain ⟨y, hy⟩ : ∃ k, m.B.mul m.C = k := ⟨_, rfl⟩
  rw [hk1] at h1
  rw [hk2] at h2
  subst h1 h2
  rw [hx, hy] at h3
  have jx : x.I := by rw [← hx]; exact (mulK_R hk1).i
  have jy : y.I := by rw [← hy]; exact (mulK_R hk2).i
  obtain ⟨k3, hk3⟩ : ∃ k, x.subK y = k := ⟨_, rfl⟩
  obtain ⟨d, hd⟩ : ∃ k, x.sub y = k := ⟨_, rfl⟩
  rw [hk3] at h3
  subst h3
  rw [hx, hy, hd] at h4
  have hv := backV_z (m := m) (by rw [hc]; decide)
  have h6 : (d.n == 0) = true := by simp [h4]
  clear h4
  have H_hG := Lib.hid hG
  clear hG
  have H_hL := Lib.hid hL
  clear hL
  have H_hS := Lib.hid hS
  clear hS
  have H_im := Lib.hid im
  clear im
  have H_ip := Lib.hid ip
  clear ip
  have H_hc := Lib.hid hc
  clear hc
  have H_hv := Lib.hid hv
  clear hv
  have H_hmc := Lib.hid hmc
  clear hmc
  have H_hk1 := Lib.hid hk1
  clear hk1
  have H_hk2 := Lib.hid hk2
  clear hk2
  have H_hx := Lib.hid hx
  clear hx
  have H_hy := Lib.hid hy
  clear hy
  have H_iA := Lib.hid iA
  clear iA
  have H_iB := Lib.hid iB
  clear iB
  have H_iC := Lib.hid iC
  clear iC
  have H_iD := Lib.hid iD
  clear iD
  have H_hR := Lib.hid hR
  clear hR
  have H_jx := Lib.hid jx
  clear jx
  have H_jy := Lib.hid jy
  clear jy
  have H_hk3 := Lib.hid hk3
  clear hk3
  have H_hd := Lib.hid hd
  clear hd
  go_enter Tryz.func5, Tryz.ntmps5
  ((try go_simp); (repeat go_step))
  refine call_bel (w := w) (by repeat' (first | (with_reducible exact Below.refl _ _) | (with_reducible assumption) | (with_reducible refine bdn ?_) | (with_reducible refine Below.alloc ?_ ?_ _) | (with_reducible refine Below.drew ?_) | (with_reducible refine Below.setCell ?_ ?_ _) | omega | (simp <;> omega))) (fun HB => moved_any ea _ (H_hL.out.keep HB rfl) (H_hG.out.keep HB rfl) (Nat.le_trans hng HB.size) (gkeep HB hText rfl)) ?_
  intro w1 hb1 hz1 c1 d1 hW1
  have t1 := hb1.size
  try simp only [World.size_alloc] at hz1 c1 d1
  try simp only [World.size_drew] at hz1 c1 d1
  try simp only [World.size_setCell] at hz1 c1 d1
  try simp only [World.heap_drewN] at hz1 c1 d1
  try simp only [World.size_alloc] at hz1 c1 d1
  try simp only [World.size_drew] at hz1 c1 d1
  try simp only [World.size_setCell] at hz1 c1 d1
  have s1_0 : w.heap.size < w1.heap.size := by omega
  have o1_0 := fun j => c1 (w.heap.size) j (by omega)
  have f1_0 := fun j => d1 (w.heap.size) j (by omega)
  have s1_1 : w.heap.size + 1 < w1.heap.size := by omega
  have o1_1 := fun j => c1 (w.heap.size + 1) j (by omega)
  have f1_1 := fun j => d1 (w.heap.size + 1) j (by omega)
  clear c1 d1 hz1 hW1
  ((try go_simp); (repeat go_step))
  refine call_bel (w := w) (by repeat' (first | (with_reducible exact Below.refl _ _) | (with_reducible assumption) | (with_reducible refine bdn ?_) | (with_reducible refine Below.alloc ?_ ?_ _) | (with_reducible refine Below.drew ?_) | (with_reducible refine Below.setCell ?_ ?_ _) | omega | (simp <;> omega))) (fun HB => asm_any m _) ?_
  intro w2 hb2 hz2 c2 d2 hW2
  have t2 := hb2.size
  try simp only [World.size_alloc] at hz2 c2 d2
  try simp only [World.size_drew] at hz2 c2 d2
  try simp only [World.size_setCell] at hz2 c2 d2
  try simp only [World.heap_drewN] at hz2 c2 d2
  try simp only [World.size_alloc] at hz2 c2 d2
  try simp only [World.size_drew] at hz2 c2 d2
  try simp only [World.size_setCell] at hz2 c2 d2
  have s2_0 : w.heap.size < w2.heap.size := by omega
  have o2_0 := fun j => c2 (w.heap.size) j (by omega)
  have f2_0 := fun j => d2 (w.heap.size) j (by omega)
  have s2_1 : w.heap.size + 1 < w2.heap.size := by omega
  have o2_1 := fun j => c2 (w.heap.size + 1) j (by omega)
  have f2_1 := fun j => d2 (w.heap.size + 1) j (by omega)
  clear c2 d2 hz2 hW2
  ((try go_simp); (repeat go_step))
  refine call_me (w := w) (by repeat' (first | (with_reducible exact Below.refl _ _) | (with_reducible assumption) | (with_reducible refine bdn ?_) | (with_reducible refine Below.alloc ?_ ?_ _) | (with_reducible refine Below.drew ?_) | (with_reducible refine Below.setCell ?_ ?_ _) | omega | (simp <;> omega))) (fun HB => mback_any ea m _ H_im.out (H_hG.out.keep HB rfl) (Nat.le_trans hng HB.size)) ?_
  rw [H_hv.out, H_hc.out]
  intro x3 w3 hx3 hb3 hz3 c3 d3 hW3
  have t3 := hb3.size
  try simp only [World.size_alloc] at hz3 c3 d3
  try simp only [World.size_drew] at hz3 c3 d3
  try simp only [World.size_setCell] at hz3 c3 d3
  try simp only [World.heap_drewN] at hz3 c3 d3
  try simp only [World.size_alloc] at hz3 c3 d3
  try simp only [World.size_drew] at hz3 c3 d3
  try simp only [World.size_setCell] at hz3 c3 d3
  have s3_0 : w.heap.size < w3.heap.size := by omega
  have o3_0 := fun j => c3 (w.heap.size) j (by omega)
  have f3_0 := fun j => d3 (w.heap.size) j (by omega)
  have s3_1 : w.heap.size + 1 < w3.heap.size := by omega
  have o3_1 := fun j => c3 (w.heap.size + 1) j (by omega)
  have f3_1 := fun j => d3 (w.heap.size + 1) j (by omega)
  have s3_2 : w2.heap.size < w3.heap.size := by omega
  have o3_2 := fun j => c3 (w2.heap.size) j (by omega)
  have f3_2 := fun j => d3 (w2.heap.size) j (by omega)
  clear c3 d3 hz3 hW3
  obtain rfl : x3 = evl 218 ea 11 := hx3
  rw [evl_n (by decide)]
  ((try go_simp); (repeat go_step))
  refine call_bel (w := w) (by repeat' (first | (with_reducible exact Below.refl _ _) | (with_reducible assumption) | (with_reducible refine bdn ?_) | (with_reducible refine Below.alloc ?_ ?_ _) | (with_reducible refine Below.drew ?_) | (with_reducible refine Below.setCell ?_ ?_ _) | omega | (simp <;> omega))) (fun HB => rsix_any m 0 (-1) _ H_im.out (by rw [H_hmc.out]; rfl) (by rw [H_hmc.out]; rfl)) ?_
  intro w4 hb4 hz4 c4 d4 hW4
  have t4 := hb4.size
  try simp only [World.size_alloc] at hz4 c4 d4
  try simp only [World.size_drew] at hz4 c4 d4
  try simp only [World.size_setCell] at hz4 c4 d4
  try simp only [World.heap_drewN] at hz4 c4 d4
  try simp only [World.size_alloc] at hz4 c4 d4
  try simp only [World.size_drew] at hz4 c4 d4
  try simp only [World.size_setCell] at hz4 c4 d4
  have s4_0 : w.heap.size < w4.heap.size := by omega
  have o4_0 := fun j => c4 (w.heap.size) j (by omega)
  have f4_0 := fun j => d4 (w.heap.size) j (by omega)
  have s4_1 : w.heap.size + 1 < w4.heap.size := by omega
  have o4_1 := fun j => c4 (w.heap.size + 1) j (by omega)
  have f4_1 := fun j => d4 (w.heap.size + 1) j (by omega)
  have s4_2 : w2.heap.size < w4.heap.size := by omega
  have o4_2 := fun j => c4 (w2.heap.size) j (by omega)
  have f4_2 := fun j => d4 (w2.heap.size) j (by omega)
  have s4_3 : w3.heap.size < w4.heap.size := by omega
  have o4_3 := fun j => c4 (w3.heap.size) j (by omega)
  have f4_3 := fun j => d4 (w3.heap.size) j (by omega)
  clear c4 d4 hz4 hW4
  ((try go_simp); (repeat go_step))
  refine call_bel (w := w) (by repeat' (first | (with_reducible exact Below.refl _ _) | (with_reducible assumption) | (with_reducible refine bdn ?_) | (with_reducible refine Below.alloc ?_ ?_ _) | (with_reducible refine Below.drew ?_) | (with_reducible refine Below.setCell ?_ ?_ _) | omega | (simp <;> omega))) (fun HB => rdo_mul m.A m.D x _ H_iA.out H_iD.out H_hx.out) ?_
  intro w5 hb5 hz5 c5 d5 hW5
  have t5 := hb5.size
  try simp only [World.size_alloc] at hz5 c5 d5
  try simp only [World.size_drew] at hz5 c5 d5
  try simp only [World.size_setCell] at hz5 c5 d5
  try simp only [World.heap_drewN] at hz5 c5 d5
  try simp only [World.size_alloc] at hz5 c5 d5
  try simp only [World.size_drew] at hz5 c5 d5
  try simp only [World.size_setCell] at hz5 c5 d5
  have s5_0 : w.heap.size < w5.heap.size := by omega
  have o5_0 := fun j => c5 (w.heap.size) j (by omega)
  have f5_0 := fun j => d5 (w.heap.size) j (by omega)
  have s5_1 : w.heap.size + 1 < w5.heap.size := by omega
  have o5_1 := fun j => c5 (w.heap.size + 1) j (by omega)
  have f5_1 := fun j => d5 (w.heap.size + 1) j (by omega)
  have s5_2 : w2.heap.size < w5.heap.size := by omega
  have o5_2 := fun j => c5 (w2.heap.size) j (by omega)
  have f5_2 := fun j => d5 (w2.heap.size) j (by omega)
  have s5_3 : w3.heap.size < w5.heap.size := by omega
  have o5_3 := fun j => c5 (w3.heap.size) j (by omega)
  have f5_3 := fun j => d5 (w3.heap.size) j (by omega)
  clear c5 d5 hz5 hW5
  rw [H_hk1.out, frN_0 rfl]
  ((try go_simp); (repeat go_step))
  refine call_bel (w := w) (by repeat' (first | (with_reducible exact Below.refl _ _) | (with_reducible assumption) | (with_reducible refine bdn ?_) | (with_reducible refine Below.alloc ?_ ?_ _) | (with_reducible refine Below.drew ?_) | (with_reducible refine Below.setCell ?_ ?_ _) | omega | (simp <;> omega))) (fun HB => rdo_mul m.B m.C y _ H_iB.out H_iC.out H_hy.out) ?_
  intro w6 hb6 hz6 c6 d6 hW6
  have t6 := hb6.size
  try simp only [World.size_alloc] at hz6 c6 d6
  try simp only [World.size_drew] at hz6 c6 d6
  try simp only [World.size_setCell] at hz6 c6 d6
  try simp only [World.heap_drewN] at hz6 c6 d6
  try simp only [World.size_alloc] at hz6 c6 d6
  try simp only [World.size_drew] at hz6 c6 d6
  try simp only [World.size_setCell] at hz6 c6 d6
  have s6_0 : w.heap.size < w6.heap.size := by omega
  have o6_0 := fun j => c6 (w.heap.size) j (by omega)
  have f6_0 := fun j => d6 (w.heap.size) j (by omega)
  have s6_1 : w.heap.size + 1 < w6.heap.size := by omega
  have o6_1 := fun j => c6 (w.heap.size + 1) j (by omega)
  have f6_1 := fun j => d6 (w.heap.size + 1) j (by omega)
  have s6_2 : w2.heap.size < w6.heap.size := by omega
  have o6_2 := fun j => c6 (w2.heap.size) j (by omega)
  have f6_2 := fun j => d6 (w2.heap.size) j (by omega)
  have s6_3 : w3.heap.size < w6.heap.size := by omega
  have o6_3 := fun j => c6 (w3.heap.size) j (by omega)
  have f6_3 := fun j => d6 (w3.heap.size) j (by omega)
  have s6_4 : w5.heap.size < w6.heap.size := by omega
  have o6_4 := fun j => c6 (w5.heap.size) j (by omega)
  have f6_4 := fun j => d6 (w5.heap.size) j (by omega)
  clear c6 d6 hz6 hW6
  rw [H_hk2.out, frN_0 rfl]
  ((try go_simp); (repeat go_step))
  refine call_bel (w := w) (by repeat' (first | (with_reducible exact Below.refl _ _) | (with_reducible assumption) | (with_reducible refine bdn ?_) | (with_reducible refine Below.alloc ?_ ?_ _) | (with_reducible refine Below.drew ?_) | (with_reducible refine Below.setCell ?_ ?_ _) | omega | (simp <;> omega))) (fun HB => rdo_sub x y d _ H_jx.out H_jy.out H_hd.out) ?_
  intro w7 hb7 hz7 c7 d7 hW7
  have t7 := hb7.size
  try simp only [World.size_alloc] at hz7 c7 d7
  try simp only [World.size_drew] at hz7 c7 d7
  try simp only [World.size_setCell] at hz7 c7 d7
  try simp only [World.heap_drewN] at hz7 c7 d7
  try simp only [World.size_alloc] at hz7 c7 d7
  try simp only [World.size_drew] at hz7 c7 d7
  try simp only [World.size_setCell] at hz7 c7 d7
  have s7_0 : w.heap.size < w7.heap.size := by omega
  have o7_0 := fun j => c7 (w.heap.size) j (by omega)
  have f7_0 := fun j => d7 (w.heap.size) j (by omega)
  have s7_1 : w.heap.size + 1 < w7.heap.size := by omega
  have o7_1 := fun j => c7 (w.heap.size + 1) j (by omega)
  have f7_1 := fun j => d7 (w.heap.size + 1) j (by omega)
  have s7_2 : w2.heap.size < w7.heap.size := by omega
  have o7_2 := fun j => c7 (w2.heap.size) j (by omega)
  have f7_2 := fun j => d7 (w2.heap.size) j (by omega)
  have s7_3 : w3.heap.size < w7.heap.size := by omega
  have o7_3 := fun j => c7 (w3.heap.size) j (by omega)
  have f7_3 := fun j => d7 (w3.heap.size) j (by omega)
  clear c7 d7 hz7 hW7
  rw [H_hk3.out, frN_0 rfl]
  ((try go_simp); (repeat go_step))
  refine call_bel (w := w) (by repeat' (first | (with_reducible exact Below.refl _ _) | (with_reducible assumption) | (with_reducible refine bdn ?_) | (with_reducible refine Below.alloc ?_ ?_ _) | (with_reducible refine Below.drew ?_) | (with_reducible refine Below.setCell ?_ ?_ _) | omega | (simp <;> omega))) (fun HB => coded1_s ea 11 _ (by decide) (by decide) (H_hS.out.keep HB rfl)) ?_
  intro w8 hb8 hz8 c8 d8 hW8
  have t8 := hb8.size
  try simp only [World.size_alloc] at hz8 c8 d8
  try simp only [World.size_drew] at hz8 c8 d8
  try simp only [World.size_setCell] at hz8 c8 d8
  try simp only [World.heap_drewN] at hz8 c8 d8
  try simp only [World.size_alloc] at hz8 c8 d8
  try simp only [World.size_drew] at hz8 c8 d8
  try simp only [World.size_setCell] at hz8 c8 d8
  have s8_0 : w3.heap.size < w8.heap.size := by omega
  have o8_0 := fun j => c8 (w3.heap.size) j (by omega)
  have f8_0 := fun j => d8 (w3.heap.size) j (by omega)
  clear c8 d8 hz8 hW8
  ((try go_simp); (repeat go_step))
  go_returns
  exact ⟨rfl, by repeat' (first | (with_reducible exact Below.refl _ _) | (with_reducible assumption) | (with_reducible refine bdn ?_) | (with_reducible refine Below.alloc ?_ ?_ _) | (with_reducible refine Below.drew ?_) | (with_reducible refine Below.setCell ?_ ?_ _) | omega | (simp <;> omega))⟩
set_option maxHeartbeats 4000000 in
set_option maxRecDepth 100000 in
theorem mb_b1b (ea : Nat → Addr) (m : Mv) (p : Pt) (w : World) (im : m.I) (ip : p.I) (hL : Libs w) (hS : Sents ea w) (hng : 20 ≤ w.heap.size) (hmc : m.c = (0, none)) (h1 : m.A.mulK m.D = 0) (h2 : m.B.mulK m.C = 0) (h3 : (m.A.mul m.D).subK (m.B.mul m.C) = 0) (h4 : ((m.A.mul m.D).sub (m.B.mul m.C)).n ≠ 0) (hc : backC m = (2, none)) :
    Calls Tryz.prog 5 #[.agg #[.int .i64 m.A.n, .int .i64 m.A.d, .int .i64 m.B.n, .int .i64 m.B.d, .int .i64 m.C.n, .int .i64 m.C.d, .int .i64 m.D.n, .int .i64 m.D.d, .int .i64 m.E.n, .int .i64 m.E.d, .int .i64 m.F.n, .int .i64 m.F.d], .agg #[.int .i64 p.xn, .int .i64 p.xd, .int .i64 p.yn, .int .i64 p.yd]] w fun e w' => e = .returned (.bool true) ∧ Below w.heap.size w w' := by
  have hText := hS.c1
  have hG : Gs true ea w := ⟨hS.c2, hS.c3, fun _ => hS.c11⟩
  have zhText := zlt hText
  have xhText := zlts hText
  have yhText := zne hText
  have hR := Mv.c_0 hmc
  have iA := im.A
  have iB := im.B
  have iC := im.C
  have iD := im.D
  obtain ⟨k1, hk1⟩ : ∃ k, m.A.mulK m.D = k := ⟨_, rfl⟩
  obtain ⟨k2, hk2⟩ : ∃ k, m.B.mulK m.C = k := ⟨_, rfl⟩
  obtain ⟨x, hx⟩ : ∃ k, m.A.mul m.D = k := ⟨_, rfl⟩
  obtain ⟨y, hy⟩ : ∃ k, m.B.mul m.C = k := ⟨_, rfl⟩
  rw [hk1] at h1
  rw [hk2] at h2
  subst h1 h2
  rw [hx, hy] at h3
  have jx : x.I := by rw [← hx]; exact (mulK_R hk1).i
  have jy : y.I := by rw [← hy]; exact (mulK_R hk2).i
  obtain ⟨k3, hk3⟩ : ∃ k, x.subK y = k := ⟨_, rfl⟩
  obtain ⟨d, hd⟩ : ∃ k, x.sub y = k := ⟨_, rfl⟩
  rw [hk3] at h3
  subst h3
  rw [hx, hy, hd] at h4
  have hv := backV_z (m := m) (by rw [hc]; decide)
  have h6 : (d.n == 0) = false := by simp [h4]
  have H_hG := Lib.hid hG
  clear hG
  have H_hL := Lib.hid hL
  clear hL
  have H_hS := Lib.hid hS
  clear hS
  have H_im := Lib.hid im
  clear im
  have H_ip := Lib.hid ip
  clear ip
  have H_hc := Lib.hid hc
  clear hc
  have H_hv := Lib.hid hv
  clear hv
  have H_hmc := Lib.hid hmc
  clear hmc
  have H_hk1 := Lib.hid hk1
  clear hk1
  have H_hk2 := Lib.hid hk2
  clear hk2
  have H_hx := Lib.hid hx
  clear hx
  have H_hy := Lib.hid hy
  clear hy
  have H_iA := Lib.hid iA
  clear iA
  have H_iB := Lib.hid iB
  clear iB
  have H_iC := Lib.hid iC
  clear iC
  have H_iD := Lib.hid iD
  clear iD
  have H_hR := Lib.hid hR
  clear hR
  have H_jx := Lib.hid jx
  clear jx
  have H_jy := Lib.hid jy
  clear jy
  have H_hk3 := Lib.hid hk3
  clear hk3
  have H_hd := Lib.hid hd
  clear hd
  have H_h4 := Lib.hid h4
  clear h4
  go_enter Tryz.func5, Tryz.ntmps5
  ((try go_simp); (repeat go_step))
  refine call_bel (w := w) (by repeat' (first | (with_reducible exact Below.refl _ _) | (with_reducible assumption) | (with_reducible refine bdn ?_) | (with_reducible refine Below.alloc ?_ ?_ _) | (with_reducible refine Below.drew ?_) | (with_reducible refine Below.setCell ?_ ?_ _) | omega | (simp <;> omega))) (fun HB => moved_any ea _ (H_hL.out.keep HB rfl) (H_hG.out.keep HB rfl) (Nat.le_trans hng HB.size) (gkeep HB hText rfl)) ?_
  intro w1 hb1 hz1 c1 d1 hW1
  have t1 := hb1.size
  try simp only [World.size_alloc] at hz1 c1 d1
  try simp only [World.size_drew] at hz1 c1 d1
  try simp only [World.size_setCell] at hz1 c1 d1
  try simp only [World.heap_drewN] at hz1 c1 d1
  try simp only [World.size_alloc] at hz1 c1 d1
  try simp only [World.size_drew] at hz1 c1 d1
  try simp only [World.size_setCell] at hz1 c1 d1
  have s1_0 : w.heap.size < w1.heap.size := by omega
  have o1_0 := fun j => c1 (w.heap.size) j (by omega)
  have f1_0 := fun j => d1 (w.heap.size) j (by omega)
  have s1_1 : w.heap.size + 1 < w1.heap.size := by omega
  have o1_1 := fun j => c1 (w.heap.size + 1) j (by omega)
  have f1_1 := fun j => d1 (w.heap.size + 1) j (by omega)
  clear c1 d1 hz1 hW1
  ((try go_simp); (repeat go_step))
  refine call_bel (w := w) (by repeat' (first | (with_reducible exact Below.refl _ _) | (with_reducible assumption) | (with_reducible refine bdn ?_) | (with_reducible refine Below.alloc ?_ ?_ _) | (with_reducible refine Below.drew ?_) | (with_reducible refine Below.setCell ?_ ?_ _) | omega | (simp <;> omega))) (fun HB => asm_any m _) ?_
  intro w2 hb2 hz2 c2 d2 hW2
  have t2 := hb2.size
  try simp only [World.size_alloc] at hz2 c2 d2
  try simp only [World.size_drew] at hz2 c2 d2
  try simp only [World.size_setCell] at hz2 c2 d2
  try simp only [World.heap_drewN] at hz2 c2 d2
  try simp only [World.size_alloc] at hz2 c2 d2
  try simp only [World.size_drew] at hz2 c2 d2
  try simp only [World.size_setCell] at hz2 c2 d2
  have s2_0 : w.heap.size < w2.heap.size := by omega
  have o2_0 := fun j => c2 (w.heap.size) j (by omega)
  have f2_0 := fun j => d2 (w.heap.size) j (by omega)
  have s2_1 : w.heap.size + 1 < w2.heap.size := by omega
  have o2_1 := fun j => c2 (w.heap.size + 1) j (by omega)
  have f2_1 := fun j => d2 (w.heap.size + 1) j (by omega)
  clear c2 d2 hz2 hW2
  ((try go_simp); (repeat go_step))
  refine call_me (w := w) (by repeat' (first | (with_reducible exact Below.refl _ _) | (with_reducible assumption) | (with_reducible refine bdn ?_) | (with_reducible refine Below.alloc ?_ ?_ _) | (with_reducible refine Below.drew ?_) | (with_reducible refine Below.setCell ?_ ?_ _) | omega | (simp <;> omega))) (fun HB => mback_any ea m _ H_im.out (H_hG.out.keep HB rfl) (Nat.le_trans hng HB.size)) ?_
  rw [H_hv.out, H_hc.out]
  intro x3 w3 hx3 hb3 hz3 c3 d3 hW3
  have t3 := hb3.size
  try simp only [World.size_alloc] at hz3 c3 d3
  try simp only [World.size_drew] at hz3 c3 d3
  try simp only [World.size_setCell] at hz3 c3 d3
  try simp only [World.heap_drewN] at hz3 c3 d3
  try simp only [World.size_alloc] at hz3 c3 d3
  try simp only [World.size_drew] at hz3 c3 d3
  try simp only [World.size_setCell] at hz3 c3 d3
  have s3_0 : w.heap.size < w3.heap.size := by omega
  have o3_0 := fun j => c3 (w.heap.size) j (by omega)
  have f3_0 := fun j => d3 (w.heap.size) j (by omega)
  have s3_1 : w.heap.size + 1 < w3.heap.size := by omega
  have o3_1 := fun j => c3 (w.heap.size + 1) j (by omega)
  have f3_1 := fun j => d3 (w.heap.size + 1) j (by omega)
  have s3_2 : w2.heap.size < w3.heap.size := by omega
  have o3_2 := fun j => c3 (w2.heap.size) j (by omega)
  have f3_2 := fun j => d3 (w2.heap.size) j (by omega)
  clear c3 d3 hz3 hW3
  obtain rfl : x3 = evl 218 ea 2 := hx3
  rw [evl_n (by decide)]
  ((try go_simp); (repeat go_step))
  refine call_bel (w := w) (by repeat' (first | (with_reducible exact Below.refl _ _) | (with_reducible assumption) | (with_reducible refine bdn ?_) | (with_reducible refine Below.alloc ?_ ?_ _) | (with_reducible refine Below.drew ?_) | (with_reducible refine Below.setCell ?_ ?_ _) | omega | (simp <;> omega))) (fun HB => rsix_any m 0 (-1) _ H_im.out (by rw [H_hmc.out]; rfl) (by rw [H_hmc.out]; rfl)) ?_
  intro w4 hb4 hz4 c4 d4 hW4
  have t4 := hb4.size
  try simp only [World.size_alloc] at hz4 c4 d4
  try simp only [World.size_drew] at hz4 c4 d4
  try simp only [World.size_setCell] at hz4 c4 d4
  try simp only [World.heap_drewN] at hz4 c4 d4
  try simp only [World.size_alloc] at hz4 c4 d4
  try simp only [World.size_drew] at hz4 c4 d4
  try simp only [World.size_setCell] at hz4 c4 d4
  have s4_0 : w.heap.size < w4.heap.size := by omega
  have o4_0 := fun j => c4 (w.heap.size) j (by omega)
  have f4_0 := fun j => d4 (w.heap.size) j (by omega)
  have s4_1 : w.heap.size + 1 < w4.heap.size := by omega
  have o4_1 := fun j => c4 (w.heap.size + 1) j (by omega)
  have f4_1 := fun j => d4 (w.heap.size + 1) j (by omega)
  have s4_2 : w2.heap.size < w4.heap.size := by omega
  have o4_2 := fun j => c4 (w2.heap.size) j (by omega)
  have f4_2 := fun j => d4 (w2.heap.size) j (by omega)
  have s4_3 : w3.heap.size < w4.heap.size := by omega
  have o4_3 := fun j => c4 (w3.heap.size) j (by omega)
  have f4_3 := fun j => d4 (w3.heap.size) j (by omega)
  clear c4 d4 hz4 hW4
  ((try go_simp); (repeat go_step))
  refine call_bel (w := w) (by repeat' (first | (with_reducible exact Below.refl _ _) | (with_reducible assumption) | (with_reducible refine bdn ?_) | (with_reducible refine Below.alloc ?_ ?_ _) | (with_reducible refine Below.drew ?_) | (with_reducible refine Below.setCell ?_ ?_ _) | omega | (simp <;> omega))) (fun HB => rdo_mul m.A m.D x _ H_iA.out H_iD.out H_hx.out) ?_
  intro w5 hb5 hz5 c5 d5 hW5
  have t5 := hb5.size
  try simp only [World.size_alloc] at hz5 c5 d5
  try simp only [World.size_drew] at hz5 c5 d5
  try simp only [World.size_setCell] at hz5 c5 d5
  try simp only [World.heap_drewN] at hz5 c5 d5
  try simp only [World.size_alloc] at hz5 c5 d5
  try simp only [World.size_drew] at hz5 c5 d5
  try simp only [World.size_setCell] at hz5 c5 d5
  have s5_0 : w.heap.size < w5.heap.size := by omega
  have o5_0 := fun j => c5 (w.heap.size) j (by omega)
  have f5_0 := fun j => d5 (w.heap.size) j (by omega)
  have s5_1 : w.heap.size + 1 < w5.heap.size := by omega
  have o5_1 := fun j => c5 (w.heap.size + 1) j (by omega)
  have f5_1 := fun j => d5 (w.heap.size + 1) j (by omega)
  have s5_2 : w2.heap.size < w5.heap.size := by omega
  have o5_2 := fun j => c5 (w2.heap.size) j (by omega)
  have f5_2 := fun j => d5 (w2.heap.size) j (by omega)
  have s5_3 : w3.heap.size < w5.heap.size := by omega
  have o5_3 := fun j => c5 (w3.heap.size) j (by omega)
  have f5_3 := fun j => d5 (w3.heap.size) j (by omega)
  clear c5 d5 hz5 hW5
  rw [H_hk1.out, frN_0 rfl]
  ((try go_simp); (repeat go_step))
  refine call_bel (w := w) (by repeat' (first | (with_reducible exact Below.refl _ _) | (with_reducible assumption) | (with_reducible refine bdn ?_) | (with_reducible refine Below.alloc ?_ ?_ _) | (with_reducible refine Below.drew ?_) | (with_reducible refine Below.setCell ?_ ?_ _) | omega | (simp <;> omega))) (fun HB => rdo_mul m.B m.C y _ H_iB.out H_iC.out H_hy.out) ?_
  intro w6 hb6 hz6 c6 d6 hW6
  have t6 := hb6.size
  try simp only [World.size_alloc] at hz6 c6 d6
  try simp only [World.size_drew] at hz6 c6 d6
  try simp only [World.size_setCell] at hz6 c6 d6
  try simp only [World.heap_drewN] at hz6 c6 d6
  try simp only [World.size_alloc] at hz6 c6 d6
  try simp only [World.size_drew] at hz6 c6 d6
  try simp only [World.size_setCell] at hz6 c6 d6
  have s6_0 : w.heap.size < w6.heap.size := by omega
  have o6_0 := fun j => c6 (w.heap.size) j (by omega)
  have f6_0 := fun j => d6 (w.heap.size) j (by omega)
  have s6_1 : w.heap.size + 1 < w6.heap.size := by omega
  have o6_1 := fun j => c6 (w.heap.size + 1) j (by omega)
  have f6_1 := fun j => d6 (w.heap.size + 1) j (by omega)
  have s6_2 : w2.heap.size < w6.heap.size := by omega
  have o6_2 := fun j => c6 (w2.heap.size) j (by omega)
  have f6_2 := fun j => d6 (w2.heap.size) j (by omega)
  have s6_3 : w3.heap.size < w6.heap.size := by omega
  have o6_3 := fun j => c6 (w3.heap.size) j (by omega)
  have f6_3 := fun j => d6 (w3.heap.size) j (by omega)
  have s6_4 : w5.heap.size < w6.heap.size := by omega
  have o6_4 := fun j => c6 (w5.heap.size) j (by omega)
  have f6_4 := fun j => d6 (w5.heap.size) j (by omega)
  clear c6 d6 hz6 hW6
  rw [H_hk2.out, frN_0 rfl]
  ((try go_simp); (repeat go_step))
  refine call_bel (w := w) (by repeat' (first | (with_reducible exact Below.refl _ _) | (with_reducible assumption) | (with_reducible refine bdn ?_) | (with_reducible refine Below.alloc ?_ ?_ _) | (with_reducible refine Below.drew ?_) | (with_reducible refine Below.setCell ?_ ?_ _) | omega | (simp <;> omega))) (fun HB => rdo_sub x y d _ H_jx.out H_jy.out H_hd.out) ?_
  intro w7 hb7 hz7 c7 d7 hW7
  have t7 := hb7.size
  try simp only [World.size_alloc] at hz7 c7 d7
  try simp only [World.size_drew] at hz7 c7 d7
  try simp only [World.size_setCell] at hz7 c7 d7
  try simp only [World.heap_drewN] at hz7 c7 d7
  try simp only [World.size_alloc] at hz7 c7 d7
  try simp only [World.size_drew] at hz7 c7 d7
  try simp only [World.size_setCell] at hz7 c7 d7
  have s7_0 : w.heap.size < w7.heap.size := by omega
  have o7_0 := fun j => c7 (w.heap.size) j (by omega)
  have f7_0 := fun j => d7 (w.heap.size) j (by omega)
  have s7_1 : w.heap.size + 1 < w7.heap.size := by omega
  have o7_1 := fun j => c7 (w.heap.size + 1) j (by omega)
  have f7_1 := fun j => d7 (w.heap.size + 1) j (by omega)
  have s7_2 : w2.heap.size < w7.heap.size := by omega
  have o7_2 := fun j => c7 (w2.heap.size) j (by omega)
  have f7_2 := fun j => d7 (w2.heap.size) j (by omega)
  have s7_3 : w3.heap.size < w7.heap.size := by omega
  have o7_3 := fun j => c7 (w3.heap.size) j (by omega)
  have f7_3 := fun j => d7 (w3.heap.size) j (by omega)
  clear c7 d7 hz7 hW7
  rw [H_hk3.out, frN_0 rfl]
  ((try go_simp); (repeat go_step))
  refine call_bel (w := w) (by repeat' (first | (with_reducible exact Below.refl _ _) | (with_reducible assumption) | (with_reducible refine bdn ?_) | (with_reducible refine Below.alloc ?_ ?_ _) | (with_reducible refine Below.drew ?_) | (with_reducible refine Below.setCell ?_ ?_ _) | omega | (simp <;> omega))) (fun HB => coded1_s ea 2 _ (by decide) (by decide) (H_hS.out.keep HB rfl)) ?_
  intro w8 hb8 hz8 c8 d8 hW8
  have t8 := hb8.size
  try simp only [World.size_alloc] at hz8 c8 d8
  try simp only [World.size_drew] at hz8 c8 d8
  try simp only [World.size_setCell] at hz8 c8 d8
  try simp only [World.heap_drewN] at hz8 c8 d8
  try simp only [World.size_alloc] at hz8 c8 d8
  try simp only [World.size_drew] at hz8 c8 d8
  try simp only [World.size_setCell] at hz8 c8 d8
  have s8_0 : w3.heap.size < w8.heap.size := by omega
  have o8_0 := fun j => c8 (w3.heap.size) j (by omega)
  have f8_0 := fun j => d8 (w3.heap.size) j (by omega)
  clear c8 d8 hz8 hW8
  ((try go_simp); (repeat go_step))
  go_returns
  exact ⟨rfl, by repeat' (first | (with_reducible exact Below.refl _ _) | (with_reducible assumption) | (with_reducible refine bdn ?_) | (with_reducible refine Below.alloc ?_ ?_ _) | (with_reducible refine Below.drew ?_) | (with_reducible refine Below.setCell ?_ ?_ _) | omega | (simp <;> omega))⟩
theorem back_R {m : Mv} (h : backC m = (0, none)) : (backV m).R := by
  obtain ⟨_, _, _, _, hI⟩ := back_is h
  exact hI.r
set_option maxHeartbeats 4000000 in
set_option maxRecDepth 100000 in
theorem mb_k1 (ea : Nat → Addr) (m : Mv) (p : Pt) (w : World) (im : m.I) (ip : p.I) (hL : Libs w) (hS : Sents ea w) (hng : 20 ≤ w.heap.size) (hmc : m.c = (0, none)) (h1 : m.A.mulK m.D = 0) (h2 : m.B.mulK m.C = 0) (h3 : (m.A.mul m.D).subK (m.B.mul m.C) = 0) (h4 : ((m.A.mul m.D).sub (m.B.mul m.C)).n ≠ 0) (hc : backC m = (0, none)) (h5 : ¬ thenC m (backV m) = (0, none)) :
    Calls Tryz.prog 5 #[.agg #[.int .i64 m.A.n, .int .i64 m.A.d, .int .i64 m.B.n, .int .i64 m.B.d, .int .i64 m.C.n, .int .i64 m.C.d, .int .i64 m.D.n, .int .i64 m.D.d, .int .i64 m.E.n, .int .i64 m.E.d, .int .i64 m.F.n, .int .i64 m.F.d], .agg #[.int .i64 p.xn, .int .i64 p.xd, .int .i64 p.yn, .int .i64 p.yd]] w fun e w' => e = .returned (.bool true) ∧ Below w.heap.size w w' := by
  have hText := hS.c1
  have hG : Gs true ea w := ⟨hS.c2, hS.c3, fun _ => hS.c11⟩
  have zhText := zlt hText
  have xhText := zlts hText
  have yhText := zne hText
  have hR := Mv.c_0 hmc
  have iA := im.A
  have iB := im.B
  have iC := im.C
  have iD := im.D
  obtain ⟨k1, hk1⟩ : ∃ k, m.A.mulK m.D = k := ⟨_, rfl⟩
  obtain ⟨k2, hk2⟩ : ∃ k, m.B.mulK m.C = k := ⟨_, rfl⟩
  obtain ⟨x, hx⟩ : ∃ k, m.A.mul m.D = k := ⟨_, rfl⟩
  obtain ⟨y, hy⟩ : ∃ k, m.B.mul m.C = k := ⟨_, rfl⟩
  rw [hk1] at h1
  rw [hk2] at h2
  subst h1 h2
  rw [hx, hy] at h3
  have jx : x.I := by rw [← hx]; exact (mulK_R hk1).i
  have jy : y.I := by rw [← hy]; exact (mulK_R hk2).i
  obtain ⟨k3, hk3⟩ : ∃ k, x.subK y = k := ⟨_, rfl⟩
  obtain ⟨d, hd⟩ : ∃ k, x.sub y = k := ⟨_, rfl⟩
  rw [hk3] at h3
  subst h3
  rw [hx, hy, hd] at h4
  have h6 : (d.n == 0) = false := by simp [h4]
  have Rb := back_R hc
  obtain ⟨b, hv⟩ : ∃ b, backV m = b := ⟨_, rfl⟩
  rw [hv] at Rb
  have ib := Rb.I
  rw [hv] at h5
  have n5 := thenC_ne2 h5
  have v5 := thenV_z2 h5
  obtain ⟨c5, hc5⟩ : ∃ c, thenC m b = c := ⟨_, rfl⟩
  rw [hc5] at n5
  clear h5
  have H_hG := Lib.hid hG
  clear hG
  have H_hL := Lib.hid hL
  clear hL
  have H_hS := Lib.hid hS
  clear hS
  have H_im := Lib.hid im
  clear im
  have H_ip := Lib.hid ip
  clear ip
  have H_hc := Lib.hid hc
  clear hc
  have H_hv := Lib.hid hv
  clear hv
  have H_hmc := Lib.hid hmc
  clear hmc
  have H_hk1 := Lib.hid hk1
  clear hk1
  have H_hk2 := Lib.hid hk2
  clear hk2
  have H_hx := Lib.hid hx
  clear hx
  have H_hy := Lib.hid hy
  clear hy
  have H_iA := Lib.hid iA
  clear iA
  have H_iB := Lib.hid iB
  clear iB
  have H_iC := Lib.hid iC
  clear iC
  have H_iD := Lib.hid iD
  clear iD
  have H_hR := Lib.hid hR
  clear hR
  have H_jx := Lib.hid jx
  clear jx
  have H_jy := Lib.hid jy
  clear jy
  have H_hk3 := Lib.hid hk3
  clear hk3
  have H_hd := Lib.hid hd
  clear hd
  have H_h4 := Lib.hid h4
  clear h4
  have H_Rb := Lib.hid Rb
  clear Rb
  have H_ib := Lib.hid ib
  clear ib
  have H_n5 := Lib.hid n5
  clear n5
  have H_v5 := Lib.hid v5
  clear v5
  have H_hc5 := Lib.hid hc5
  clear hc5
  go_enter Tryz.func5, Tryz.ntmps5
  ((try go_simp); (repeat go_step))
  refine call_bel (w := w) (by repeat' (first | (with_reducible exact Below.refl _ _) | (with_reducible assumption) | (with_reducible refine bdn ?_) | (with_reducible refine Below.alloc ?_ ?_ _) | (with_reducible refine Below.drew ?_) | (with_reducible refine Below.setCell ?_ ?_ _) | omega | (simp <;> omega))) (fun HB => moved_any ea _ (H_hL.out.keep HB rfl) (H_hG.out.keep HB rfl) (Nat.le_trans hng HB.size) (gkeep HB hText rfl)) ?_
  intro w1 hb1 hz1 c1 d1 hW1
  have t1 := hb1.size
  try simp only [World.size_alloc] at hz1 c1 d1
  try simp only [World.size_drew] at hz1 c1 d1
  try simp only [World.size_setCell] at hz1 c1 d1
  try simp only [World.heap_drewN] at hz1 c1 d1
  try simp only [World.size_alloc] at hz1 c1 d1
  try simp only [World.size_drew] at hz1 c1 d1
  try simp only [World.size_setCell] at hz1 c1 d1
  have s1_0 : w.heap.size < w1.heap.size := by omega
  have o1_0 := fun j => c1 (w.heap.size) j (by omega)
  have f1_0 := fun j => d1 (w.heap.size) j (by omega)
  have s1_1 : w.heap.size + 1 < w1.heap.size := by omega
  have o1_1 := fun j => c1 (w.heap.size + 1) j (by omega)
  have f1_1 := fun j => d1 (w.heap.size + 1) j (by omega)
  clear c1 d1 hz1 hW1
  ((try go_simp); (repeat go_step))
  refine call_bel (w := w) (by repeat' (first | (with_reducible exact Below.refl _ _) | (with_reducible assumption) | (with_reducible refine bdn ?_) | (with_reducible refine Below.alloc ?_ ?_ _) | (with_reducible refine Below.drew ?_) | (with_reducible refine Below.setCell ?_ ?_ _) | omega | (simp <;> omega))) (fun HB => asm_any m _) ?_
  intro w2 hb2 hz2 c2 d2 hW2
  have t2 := hb2.size
  try simp only [World.size_alloc] at hz2 c2 d2
  try simp only [World.size_drew] at hz2 c2 d2
  try simp only [World.size_setCell] at hz2 c2 d2
  try simp only [World.heap_drewN] at hz2 c2 d2
  try simp only [World.size_alloc] at hz2 c2 d2
  try simp only [World.size_drew] at hz2 c2 d2
  try simp only [World.size_setCell] at hz2 c2 d2
  have s2_0 : w.heap.size < w2.heap.size := by omega
  have o2_0 := fun j => c2 (w.heap.size) j (by omega)
  have f2_0 := fun j => d2 (w.heap.size) j (by omega)
  have s2_1 : w.heap.size + 1 < w2.heap.size := by omega
  have o2_1 := fun j => c2 (w.heap.size + 1) j (by omega)
  have f2_1 := fun j => d2 (w.heap.size + 1) j (by omega)
  clear c2 d2 hz2 hW2
  ((try go_simp); (repeat go_step))
  refine call_me (w := w) (by repeat' (first | (with_reducible exact Below.refl _ _) | (with_reducible assumption) | (with_reducible refine bdn ?_) | (with_reducible refine Below.alloc ?_ ?_ _) | (with_reducible refine Below.drew ?_) | (with_reducible refine Below.setCell ?_ ?_ _) | omega | (simp <;> omega))) (fun HB => mback_any ea m _ H_im.out (H_hG.out.keep HB rfl) (Nat.le_trans hng HB.size)) ?_
  rw [H_hv.out, H_hc.out]
  intro x3 w3 hx3 hb3 hz3 c3 d3 hW3
  have t3 := hb3.size
  try simp only [World.size_alloc] at hz3 c3 d3
  try simp only [World.size_drew] at hz3 c3 d3
  try simp only [World.size_setCell] at hz3 c3 d3
  try simp only [World.heap_drewN] at hz3 c3 d3
  try simp only [World.size_alloc] at hz3 c3 d3
  try simp only [World.size_drew] at hz3 c3 d3
  try simp only [World.size_setCell] at hz3 c3 d3
  have s3_0 : w.heap.size < w3.heap.size := by omega
  have o3_0 := fun j => c3 (w.heap.size) j (by omega)
  have f3_0 := fun j => d3 (w.heap.size) j (by omega)
  have s3_1 : w.heap.size + 1 < w3.heap.size := by omega
  have o3_1 := fun j => c3 (w.heap.size + 1) j (by omega)
  have f3_1 := fun j => d3 (w.heap.size + 1) j (by omega)
  have s3_2 : w2.heap.size < w3.heap.size := by omega
  have o3_2 := fun j => c3 (w2.heap.size) j (by omega)
  have f3_2 := fun j => d3 (w2.heap.size) j (by omega)
  clear c3 d3 hz3 hW3
  obtain rfl := hx3.nil rfl
  ((try go_simp); (repeat go_step))
  refine call_bel (w := w) (by repeat' (first | (with_reducible exact Below.refl _ _) | (with_reducible assumption) | (with_reducible refine bdn ?_) | (with_reducible refine Below.alloc ?_ ?_ _) | (with_reducible refine Below.drew ?_) | (with_reducible refine Below.setCell ?_ ?_ _) | omega | (simp <;> omega))) (fun HB => rsix_any m 0 (-1) _ H_im.out (by rw [H_hmc.out]; rfl) (by rw [H_hmc.out]; rfl)) ?_
  intro w4 hb4 hz4 c4 d4 hW4
  have t4 := hb4.size
  try simp only [World.size_alloc] at hz4 c4 d4
  try simp only [World.size_drew] at hz4 c4 d4
  try simp only [World.size_setCell] at hz4 c4 d4
  try simp only [World.heap_drewN] at hz4 c4 d4
  try simp only [World.size_alloc] at hz4 c4 d4
  try simp only [World.size_drew] at hz4 c4 d4
  try simp only [World.size_setCell] at hz4 c4 d4
  have s4_0 : w.heap.size < w4.heap.size := by omega
  have o4_0 := fun j => c4 (w.heap.size) j (by omega)
  have f4_0 := fun j => d4 (w.heap.size) j (by omega)
  have s4_1 : w.heap.size + 1 < w4.heap.size := by omega
  have o4_1 := fun j => c4 (w.heap.size + 1) j (by omega)
  have f4_1 := fun j => d4 (w.heap.size + 1) j (by omega)
  have s4_2 : w2.heap.size < w4.heap.size := by omega
  have o4_2 := fun j => c4 (w2.heap.size) j (by omega)
  have f4_2 := fun j => d4 (w2.heap.size) j (by omega)
  have s4_3 : w3.heap.size < w4.heap.size := by omega
  have o4_3 := fun j => c4 (w3.heap.size) j (by omega)
  have f4_3 := fun j => d4 (w3.heap.size) j (by omega)
  clear c4 d4 hz4 hW4
  ((try go_simp); (repeat go_step))
  refine call_bel (w := w) (by repeat' (first | (with_reducible exact Below.refl _ _) | (with_reducible assumption) | (with_reducible refine bdn ?_) | (with_reducible refine Below.alloc ?_ ?_ _) | (with_reducible refine Below.drew ?_) | (with_reducible refine Below.setCell ?_ ?_ _) | omega | (simp <;> omega))) (fun HB => rdo_mul m.A m.D x _ H_iA.out H_iD.out H_hx.out) ?_
  intro w5 hb5 hz5 c5 d5 hW5
  have t5 := hb5.size
  try simp only [World.size_alloc] at hz5 c5 d5
  try simp only [World.size_drew] at hz5 c5 d5
  try simp only [World.size_setCell] at hz5 c5 d5
  try simp only [World.heap_drewN] at hz5 c5 d5
  try simp only [World.size_alloc] at hz5 c5 d5
  try simp only [World.size_drew] at hz5 c5 d5
  try simp only [World.size_setCell] at hz5 c5 d5
  have s5_0 : w.heap.size < w5.heap.size := by omega
  have o5_0 := fun j => c5 (w.heap.size) j (by omega)
  have f5_0 := fun j => d5 (w.heap.size) j (by omega)
  have s5_1 : w.heap.size + 1 < w5.heap.size := by omega
  have o5_1 := fun j => c5 (w.heap.size + 1) j (by omega)
  have f5_1 := fun j => d5 (w.heap.size + 1) j (by omega)
  have s5_2 : w2.heap.size < w5.heap.size := by omega
  have o5_2 := fun j => c5 (w2.heap.size) j (by omega)
  have f5_2 := fun j => d5 (w2.heap.size) j (by omega)
  have s5_3 : w3.heap.size < w5.heap.size := by omega
  have o5_3 := fun j => c5 (w3.heap.size) j (by omega)
  have f5_3 := fun j => d5 (w3.heap.size) j (by omega)
  clear c5 d5 hz5 hW5
  rw [H_hk1.out, frN_0 rfl]
  ((try go_simp); (repeat go_step))
  refine call_bel (w := w) (by repeat' (first | (with_reducible exact Below.refl _ _) | (with_reducible assumption) | (with_reducible refine bdn ?_) | (with_reducible refine Below.alloc ?_ ?_ _) | (with_reducible refine Below.drew ?_) | (with_reducible refine Below.setCell ?_ ?_ _) | omega | (simp <;> omega))) (fun HB => rdo_mul m.B m.C y _ H_iB.out H_iC.out H_hy.out) ?_
  intro w6 hb6 hz6 c6 d6 hW6
  have t6 := hb6.size
  try simp only [World.size_alloc] at hz6 c6 d6
  try simp only [World.size_drew] at hz6 c6 d6
  try simp only [World.size_setCell] at hz6 c6 d6
  try simp only [World.heap_drewN] at hz6 c6 d6
  try simp only [World.size_alloc] at hz6 c6 d6
  try simp only [World.size_drew] at hz6 c6 d6
  try simp only [World.size_setCell] at hz6 c6 d6
  have s6_0 : w.heap.size < w6.heap.size := by omega
  have o6_0 := fun j => c6 (w.heap.size) j (by omega)
  have f6_0 := fun j => d6 (w.heap.size) j (by omega)
  have s6_1 : w.heap.size + 1 < w6.heap.size := by omega
  have o6_1 := fun j => c6 (w.heap.size + 1) j (by omega)
  have f6_1 := fun j => d6 (w.heap.size + 1) j (by omega)
  have s6_2 : w2.heap.size < w6.heap.size := by omega
  have o6_2 := fun j => c6 (w2.heap.size) j (by omega)
  have f6_2 := fun j => d6 (w2.heap.size) j (by omega)
  have s6_3 : w3.heap.size < w6.heap.size := by omega
  have o6_3 := fun j => c6 (w3.heap.size) j (by omega)
  have f6_3 := fun j => d6 (w3.heap.size) j (by omega)
  have s6_4 : w5.heap.size < w6.heap.size := by omega
  have o6_4 := fun j => c6 (w5.heap.size) j (by omega)
  have f6_4 := fun j => d6 (w5.heap.size) j (by omega)
  clear c6 d6 hz6 hW6
  rw [H_hk2.out, frN_0 rfl]
  ((try go_simp); (repeat go_step))
  refine call_bel (w := w) (by repeat' (first | (with_reducible exact Below.refl _ _) | (with_reducible assumption) | (with_reducible refine bdn ?_) | (with_reducible refine Below.alloc ?_ ?_ _) | (with_reducible refine Below.drew ?_) | (with_reducible refine Below.setCell ?_ ?_ _) | omega | (simp <;> omega))) (fun HB => rdo_sub x y d _ H_jx.out H_jy.out H_hd.out) ?_
  intro w7 hb7 hz7 c7 d7 hW7
  have t7 := hb7.size
  try simp only [World.size_alloc] at hz7 c7 d7
  try simp only [World.size_drew] at hz7 c7 d7
  try simp only [World.size_setCell] at hz7 c7 d7
  try simp only [World.heap_drewN] at hz7 c7 d7
  try simp only [World.size_alloc] at hz7 c7 d7
  try simp only [World.size_drew] at hz7 c7 d7
  try simp only [World.size_setCell] at hz7 c7 d7
  have s7_0 : w.heap.size < w7.heap.size := by omega
  have o7_0 := fun j => c7 (w.heap.size) j (by omega)
  have f7_0 := fun j => d7 (w.heap.size) j (by omega)
  have s7_1 : w.heap.size + 1 < w7.heap.size := by omega
  have o7_1 := fun j => c7 (w.heap.size + 1) j (by omega)
  have f7_1 := fun j => d7 (w.heap.size + 1) j (by omega)
  have s7_2 : w2.heap.size < w7.heap.size := by omega
  have o7_2 := fun j => c7 (w2.heap.size) j (by omega)
  have f7_2 := fun j => d7 (w2.heap.size) j (by omega)
  have s7_3 : w3.heap.size < w7.heap.size := by omega
  have o7_3 := fun j => c7 (w3.heap.size) j (by omega)
  have f7_3 := fun j => d7 (w3.heap.size) j (by omega)
  clear c7 d7 hz7 hW7
  rw [H_hk3.out, frN_0 rfl]
  ((try go_simp); (repeat go_step))
  refine call_me (w := w) (by repeat' (first | (with_reducible exact Below.refl _ _) | (with_reducible assumption) | (with_reducible refine bdn ?_) | (with_reducible refine Below.alloc ?_ ?_ _) | (with_reducible refine Below.drew ?_) | (with_reducible refine Below.setCell ?_ ?_ _) | omega | (simp <;> omega))) (fun HB => mthen_any ea m b _ H_im.out H_ib.out (H_hG.out.keep HB rfl) (Nat.le_trans hng HB.size)) ?_
  rw [H_v5.out, H_hc5.out]
  intro x8 w8 hx8 hb8 hz8 c8 d8 hW8
  have t8 := hb8.size
  try simp only [World.size_alloc] at hz8 c8 d8
  try simp only [World.size_drew] at hz8 c8 d8
  try simp only [World.size_setCell] at hz8 c8 d8
  try simp only [World.heap_drewN] at hz8 c8 d8
  try simp only [World.size_alloc] at hz8 c8 d8
  try simp only [World.size_drew] at hz8 c8 d8
  try simp only [World.size_setCell] at hz8 c8 d8
  have s8_0 : w.heap.size + 1 < w8.heap.size := by omega
  have o8_0 := fun j => c8 (w.heap.size + 1) j (by omega)
  have f8_0 := fun j => d8 (w.heap.size + 1) j (by omega)
  have s8_1 : w2.heap.size < w8.heap.size := by omega
  have o8_1 := fun j => c8 (w2.heap.size) j (by omega)
  have f8_1 := fun j => d8 (w2.heap.size) j (by omega)
  have s8_2 : w3.heap.size < w8.heap.size := by omega
  have o8_2 := fun j => c8 (w3.heap.size) j (by omega)
  have f8_2 := fun j => d8 (w3.heap.size) j (by omega)
  clear c8 d8 hz8 hW8
  obtain ⟨t8', a8, rfl⟩ := hx8.some H_n5.out
  clear hx8
  go_upto_region 18 with fail
  go_quiet (fail)
  by_cases g1 : atC m p = (0, none)
  · have hRq := at_R2 g1
    have hba := fun g2 => back_at H_hc.out g1 g2
    obtain ⟨q, hq⟩ : ∃ q, atV m p = q := ⟨_, rfl⟩
    rw [hq] at hRq hba
    rw [H_hv.out] at hba
    have iq : q.I := ⟨hRq.x.i.1, hRq.x.i.2, hRq.y.i.1, hRq.y.i.2⟩
    by_cases g2 : atC b q = (0, none)
    · have hr := hba g2
      clear hba hRq
      have H_g1 := Lib.hid g1
      clear g1
      have H_hq := Lib.hid hq
      clear hq
      have H_iq := Lib.hid iq
      clear iq
      have H_g2 := Lib.hid g2
      clear g2
      have H_hr := Lib.hid hr
      clear hr
      ((try go_simp); (repeat go_step))
      refine call_qe (w := w) (by repeat' (first | (with_reducible exact Below.refl _ _) | (with_reducible assumption) | (with_reducible refine bdn ?_) | (with_reducible refine Below.alloc ?_ ?_ _) | (with_reducible refine Below.drew ?_) | (with_reducible refine Below.setCell ?_ ?_ _) | omega | (simp <;> omega))) (fun HB => mat_any ea m p _ H_im.out H_ip.out (H_hG.out.keep HB rfl) (Nat.le_trans hng HB.size)) ?_
      rw [H_hq.out, H_g1.out]
      intro x10 w10 hx10 hb10 hz10 c10 d10 hW10
      have t10 := hb10.size
      try simp only [World.size_alloc] at hz10 c10 d10
      try simp only [World.size_drew] at hz10 c10 d10
      try simp only [World.size_setCell] at hz10 c10 d10
      try simp only [World.heap_drewN] at hz10 c10 d10
      try simp only [World.size_alloc] at hz10 c10 d10
      try simp only [World.size_drew] at hz10 c10 d10
      try simp only [World.size_setCell] at hz10 c10 d10
      have s10_0 : w.heap.size + 1 < w10.heap.size := by omega
      have o10_0 := fun j => c10 (w.heap.size + 1) j (by omega)
      have f10_0 := fun j => d10 (w.heap.size + 1) j (by omega)
      have s10_1 : w3.heap.size < w10.heap.size := by omega
      have o10_1 := fun j => c10 (w3.heap.size) j (by omega)
      have f10_1 := fun j => d10 (w3.heap.size) j (by omega)
      clear c10 d10 hz10 hW10
      obtain rfl := hx10.nil rfl
      ((try go_simp); (repeat go_step))
      refine call_qe (w := w) (by repeat' (first | (with_reducible exact Below.refl _ _) | (with_reducible assumption) | (with_reducible refine bdn ?_) | (with_reducible refine Below.alloc ?_ ?_ _) | (with_reducible refine Below.drew ?_) | (with_reducible refine Below.setCell ?_ ?_ _) | omega | (simp <;> omega))) (fun HB => mat_any ea b q _ H_ib.out H_iq.out (H_hG.out.keep HB rfl) (Nat.le_trans hng HB.size)) ?_
      rw [H_hr.out, H_g2.out]
      intro x11 w11 hx11 hb11 hz11 c11 d11 hW11
      have t11 := hb11.size
      try simp only [World.size_alloc] at hz11 c11 d11
      try simp only [World.size_drew] at hz11 c11 d11
      try simp only [World.size_setCell] at hz11 c11 d11
      try simp only [World.heap_drewN] at hz11 c11 d11
      try simp only [World.size_alloc] at hz11 c11 d11
      try simp only [World.size_drew] at hz11 c11 d11
      try simp only [World.size_setCell] at hz11 c11 d11
      have s11_0 : w.heap.size + 1 < w11.heap.size := by omega
      have o11_0 := fun j => c11 (w.heap.size + 1) j (by omega)
      have f11_0 := fun j => d11 (w.heap.size + 1) j (by omega)
      clear c11 d11 hz11 hW11
      obtain rfl := hx11.nil rfl
      ((try go_simp); (repeat go_step))
      go_returns
      exact ⟨rfl, by repeat' (first | (with_reducible exact Below.refl _ _) | (with_reducible assumption) | (with_reducible refine bdn ?_) | (with_reducible refine Below.alloc ?_ ?_ _) | (with_reducible refine Below.drew ?_) | (with_reducible refine Below.setCell ?_ ?_ _) | omega | (simp <;> omega))⟩
    · have n2 := atC_ne2 g2
      have v2 := atV_n n2
      obtain ⟨c2, hc2⟩ : ∃ c, atC b q = c := ⟨_, rfl⟩
      rw [hc2] at n2
      clear hba hRq g2
      have H_g1 := Lib.hid g1
      clear g1
      have H_hq := Lib.hid hq
      clear hq
      have H_iq := Lib.hid iq
      clear iq
      have H_n2 := Lib.hid n2
      clear n2
      have H_v2 := Lib.hid v2
      clear v2
      have H_hc2 := Lib.hid hc2
      clear hc2
      ((try go_simp); (repeat go_step))
      refine call_qe (w := w) (by repeat' (first | (with_reducible exact Below.refl _ _) | (with_reducible assumption) | (with_reducible refine bdn ?_) | (with_reducible refine Below.alloc ?_ ?_ _) | (with_reducible refine Below.drew ?_) | (with_reducible refine Below.setCell ?_ ?_ _) | omega | (simp <;> omega))) (fun HB => mat_any ea m p _ H_im.out H_ip.out (H_hG.out.keep HB rfl) (Nat.le_trans hng HB.size)) ?_
      rw [H_hq.out, H_g1.out]
      intro x10 w10 hx10 hb10 hz10 c10 d10 hW10
      have t10 := hb10.size
      try simp only [World.size_alloc] at hz10 c10 d10
      try simp only [World.size_drew] at hz10 c10 d10
      try simp only [World.size_setCell] at hz10 c10 d10
      try simp only [World.heap_drewN] at hz10 c10 d10
      try simp only [World.size_alloc] at hz10 c10 d10
      try simp only [World.size_drew] at hz10 c10 d10
      try simp only [World.size_setCell] at hz10 c10 d10
      have s10_0 : w.heap.size + 1 < w10.heap.size := by omega
      have o10_0 := fun j => c10 (w.heap.size + 1) j (by omega)
      have f10_0 := fun j => d10 (w.heap.size + 1) j (by omega)
      have s10_1 : w3.heap.size < w10.heap.size := by omega
      have o10_1 := fun j => c10 (w3.heap.size) j (by omega)
      have f10_1 := fun j => d10 (w3.heap.size) j (by omega)
      clear c10 d10 hz10 hW10
      obtain rfl := hx10.nil rfl
      ((try go_simp); (repeat go_step))
      refine call_qe (w := w) (by repeat' (first | (with_reducible exact Below.refl _ _) | (with_reducible assumption) | (with_reducible refine bdn ?_) | (with_reducible refine Below.alloc ?_ ?_ _) | (with_reducible refine Below.drew ?_) | (with_reducible refine Below.setCell ?_ ?_ _) | omega | (simp <;> omega))) (fun HB => mat_any ea b q _ H_ib.out H_iq.out (H_hG.out.keep HB rfl) (Nat.le_trans hng HB.size)) ?_
      rw [H_v2.out, H_hc2.out]
      intro x11 w11 hx11 hb11 hz11 c11 d11 hW11
      have t11 := hb11.size
      try simp only [World.size_alloc] at hz11 c11 d11
      try simp only [World.size_drew] at hz11 c11 d11
      try simp only [World.size_setCell] at hz11 c11 d11
      try simp only [World.heap_drewN] at hz11 c11 d11
      try simp only [World.size_alloc] at hz11 c11 d11
      try simp only [World.size_drew] at hz11 c11 d11
      try simp only [World.size_setCell] at hz11 c11 d11
      have s11_0 : w.heap.size + 1 < w11.heap.size := by omega
      have o11_0 := fun j => c11 (w.heap.size + 1) j (by omega)
      have f11_0 := fun j => d11 (w.heap.size + 1) j (by omega)
      clear c11 d11 hz11 hW11
      obtain ⟨t11', a11, rfl⟩ := hx11.some H_n2.out
      clear hx11
      ((try go_simp); (repeat go_step))
      go_returns
      exact ⟨rfl, by repeat' (first | (with_reducible exact Below.refl _ _) | (with_reducible assumption) | (with_reducible refine bdn ?_) | (with_reducible refine Below.alloc ?_ ?_ _) | (with_reducible refine Below.drew ?_) | (with_reducible refine Below.setCell ?_ ?_ _) | omega | (simp <;> omega))⟩
  · have n1 := atC_ne2 g1
    have v1 := atV_n n1
    obtain ⟨c1, hc1⟩ : ∃ c, atC m p = c := ⟨_, rfl⟩
    rw [hc1] at n1
    clear g1
    have H_n1 := Lib.hid n1
    clear n1
    have H_v1 := Lib.hid v1
    clear v1
    have H_hc1 := Lib.hid hc1
    clear hc1
    ((try go_simp); (repeat go_step))
    refine call_qe (w := w) (by repeat' (first | (with_reducible exact Below.refl _ _) | (with_reducible assumption) | (with_reducible refine bdn ?_) | (with_reducible refine Below.alloc ?_ ?_ _) | (with_reducible refine Below.drew ?_) | (with_reducible refine Below.setCell ?_ ?_ _) | omega | (simp <;> omega))) (fun HB => mat_any ea m p _ H_im.out H_ip.out (H_hG.out.keep HB rfl) (Nat.le_trans hng HB.size)) ?_
    rw [H_v1.out, H_hc1.out]
    intro x10 w10 hx10 hb10 hz10 c10 d10 hW10
    have t10 := hb10.size
    try simp only [World.size_alloc] at hz10 c10 d10
    try simp only [World.size_drew] at hz10 c10 d10
    try simp only [World.size_setCell] at hz10 c10 d10
    try simp only [World.heap_drewN] at hz10 c10 d10
    try simp only [World.size_alloc] at hz10 c10 d10
    try simp only [World.size_drew] at hz10 c10 d10
    try simp only [World.size_setCell] at hz10 c10 d10
    have s10_0 : w.heap.size + 1 < w10.heap.size := by omega
    have o10_0 := fun j => c10 (w.heap.size + 1) j (by omega)
    have f10_0 := fun j => d10 (w.heap.size + 1) j (by omega)
    have s10_1 : w3.heap.size < w10.heap.size := by omega
    have o10_1 := fun j => c10 (w3.heap.size) j (by omega)
    have f10_1 := fun j => d10 (w3.heap.size) j (by omega)
    clear c10 d10 hz10 hW10
    obtain ⟨t10', a10, rfl⟩ := hx10.some H_n1.out
    clear hx10
    ((try go_simp); (repeat go_step))
    go_returns
    exact ⟨rfl, by repeat' (first | (with_reducible exact Below.refl _ _) | (with_reducible assumption) | (with_reducible refine bdn ?_) | (with_reducible refine Below.alloc ?_ ?_ _) | (with_reducible refine Below.drew ?_) | (with_reducible refine Below.setCell ?_ ?_ _) | omega | (simp <;> omega))⟩
set_option maxHeartbeats 4000000 in
set_option maxRecDepth 100000 in
theorem mb_k2 (ea : Nat → Addr) (m : Mv) (p : Pt) (w : World) (im : m.I) (ip : p.I) (hL : Libs w) (hS : Sents ea w) (hng : 20 ≤ w.heap.size) (hmc : m.c = (0, none)) (h1 : m.A.mulK m.D = 0) (h2 : m.B.mulK m.C = 0) (h3 : (m.A.mul m.D).subK (m.B.mul m.C) = 0) (h4 : ((m.A.mul m.D).sub (m.B.mul m.C)).n ≠ 0) (hc : backC m = (0, none)) (h5 : thenC m (backV m) = (0, none)) :
    Calls Tryz.prog 5 #[.agg #[.int .i64 m.A.n, .int .i64 m.A.d, .int .i64 m.B.n, .int .i64 m.B.d, .int .i64 m.C.n, .int .i64 m.C.d, .int .i64 m.D.n, .int .i64 m.D.d, .int .i64 m.E.n, .int .i64 m.E.d, .int .i64 m.F.n, .int .i64 m.F.d], .agg #[.int .i64 p.xn, .int .i64 p.xd, .int .i64 p.yn, .int .i64 p.yd]] w fun e w' => e = .returned (.bool true) ∧ Below w.heap.size w w' := by
  have hText := hS.c1
  have hG : Gs true ea w := ⟨hS.c2, hS.c3, fun _ => hS.c11⟩
  have zhText := zlt hText
  have xhText := zlts hText
  have yhText := zne hText
  have hR := Mv.c_0 hmc
  have iA := im.A
  have iB := im.B
  have iC := im.C
  have iD := im.D
  obtain ⟨k1, hk1⟩ : ∃ k, m.A.mulK m.D = k := ⟨_, rfl⟩
  obtain ⟨k2, hk2⟩ : ∃ k, m.B.mulK m.C = k := ⟨_, rfl⟩
  obtain ⟨x, hx⟩ : ∃ k, m.A.mul m.D = k := ⟨_, rfl⟩
  obtain ⟨y, hy⟩ : ∃ k, m.B.mul m.C = k := ⟨_, rfl⟩
  rw [hk1] at h1
  rw [hk2] at h2
  subst h1 h2
  rw [hx, hy] at h3
  have jx : x.I := by rw [← hx]; exact (mulK_R hk1).i
  have jy : y.I := by rw [← hy]; exact (mulK_R hk2).i
  obtain ⟨k3, hk3⟩ : ∃ k, x.subK y = k := ⟨_, rfl⟩
  obtain ⟨d, hd⟩ : ∃ k, x.sub y = k := ⟨_, rfl⟩
  rw [hk3] at h3
  subst h3
  rw [hx, hy, hd] at h4
  have h6 : (d.n == 0) = false := by simp [h4]
  have Rb := back_R hc
  obtain ⟨b, hv⟩ : ∃ b, backV m = b := ⟨_, rfl⟩
  rw [hv] at Rb
  have ib := Rb.I
  have v5 : thenV m (backV m) = ⟨⟨1, 1⟩, ⟨0, 1⟩, ⟨0, 1⟩, ⟨1, 1⟩, ⟨0, 1⟩, ⟨0, 1⟩⟩ := back_then hc (by exact h5)
  rw [hv] at h5 v5
  have H_hG := Lib.hid hG
  clear hG
  have H_hL := Lib.hid hL
  clear hL
  have H_hS := Lib.hid hS
  clear hS
  have H_im := Lib.hid im
  clear im
  have H_ip := Lib.hid ip
  clear ip
  have H_hc := Lib.hid hc
  clear hc
  have H_hv := Lib.hid hv
  clear hv
  have H_hmc := Lib.hid hmc
  clear hmc
  have H_hk1 := Lib.hid hk1
  clear hk1
  have H_hk2 := Lib.hid hk2
  clear hk2
  have H_hx := Lib.hid hx
  clear hx
  have H_hy := Lib.hid hy
  clear hy
  have H_iA := Lib.hid iA
  clear iA
  have H_iB := Lib.hid iB
  clear iB
  have H_iC := Lib.hid iC
  clear iC
  have H_iD := Lib.hid iD
  clear iD
  have H_hR := Lib.hid hR
  clear hR
  have H_jx := Lib.hid jx
  clear jx
  have H_jy := Lib.hid jy
  clear jy
  have H_hk3 := Lib.hid hk3
  clear hk3
  have H_hd := Lib.hid hd
  clear hd
  have H_h4 := Lib.hid h4
  clear h4
  have H_Rb := Lib.hid Rb
  clear Rb
  have H_ib := Lib.hid ib
  clear ib
  have H_h5 := Lib.hid h5
  clear h5
  have H_v5 := Lib.hid v5
  clear v5
  go_enter Tryz.func5, Tryz.ntmps5
  ((try go_simp); (repeat go_step))
  refine call_bel (w := w) (by repeat' (first | (with_reducible exact Below.refl _ _) | (with_reducible assumption) | (with_reducible refine bdn ?_) | (with_reducible refine Below.alloc ?_ ?_ _) | (with_reducible refine Below.drew ?_) | (with_reducible refine Below.setCell ?_ ?_ _) | omega | (simp <;> omega))) (fun HB => moved_any ea _ (H_hL.out.keep HB rfl) (H_hG.out.keep HB rfl) (Nat.le_trans hng HB.size) (gkeep HB hText rfl)) ?_
  intro w1 hb1 hz1 c1 d1 hW1
  have t1 := hb1.size
  try simp only [World.size_alloc] at hz1 c1 d1
  try simp only [World.size_drew] at hz1 c1 d1
  try simp only [World.size_setCell] at hz1 c1 d1
  try simp only [World.heap_drewN] at hz1 c1 d1
  try simp only [World.size_alloc] at hz1 c1 d1
  try simp only [World.size_drew] at hz1 c1 d1
  try simp only [World.size_setCell] at hz1 c1 d1
  have s1_0 : w.heap.size < w1.heap.size := by omega
  have o1_0 := fun j => c1 (w.heap.size) j (by omega)
  have f1_0 := fun j => d1 (w.heap.size) j (by omega)
  have s1_1 : w.heap.size + 1 < w1.heap.size := by omega
  have o1_1 := fun j => c1 (w.heap.size + 1) j (by omega)
  have f1_1 := fun j => d1 (w.heap.size + 1) j (by omega)
  clear c1 d1 hz1 hW1
  ((try go_simp); (repeat go_step))
  refine call_bel (w := w) (by repeat' (first | (with_reducible exact Below.refl _ _) | (with_reducible assumption) | (with_reducible refine bdn ?_) | (with_reducible refine Below.alloc ?_ ?_ _) | (with_reducible refine Below.drew ?_) | (with_reducible refine Below.setCell ?_ ?_ _) | omega | (simp <;> omega))) (fun HB => asm_any m _) ?_
  intro w2 hb2 hz2 c2 d2 hW2
  have t2 := hb2.size
  try simp only [World.size_alloc] at hz2 c2 d2
  try simp only [World.size_drew] at hz2 c2 d2
  try simp only [World.size_setCell] at hz2 c2 d2
  try simp only [World.heap_drewN] at hz2 c2 d2
  try simp only [World.size_alloc] at hz2 c2 d2
  try simp only [World.size_drew] at hz2 c2 d2
  try simp only [World.size_setCell] at hz2 c2 d2
  have s2_0 : w.heap.size < w2.heap.size := by omega
  have o2_0 := fun j => c2 (w.heap.size) j (by omega)
  have f2_0 := fun j => d2 (w.heap.size) j (by omega)
  have s2_1 : w.heap.size + 1 < w2.heap.size := by omega
  have o2_1 := fun j => c2 (w.heap.size + 1) j (by omega)
  have f2_1 := fun j => d2 (w.heap.size + 1) j (by omega)
  clear c2 d2 hz2 hW2
  ((try go_simp); (repeat go_step))
  refine call_me (w := w) (by repeat' (first | (with_reducible exact Below.refl _ _) | (with_reducible assumption) | (with_reducible refine bdn ?_) | (with_reducible refine Below.alloc ?_ ?_ _) | (with_reducible refine Below.drew ?_) | (with_reducible refine Below.setCell ?_ ?_ _) | omega | (simp <;> omega))) (fun HB => mback_any ea m _ H_im.out (H_hG.out.keep HB rfl) (Nat.le_trans hng HB.size)) ?_
  rw [H_hv.out, H_hc.out]
  intro x3 w3 hx3 hb3 hz3 c3 d3 hW3
  have t3 := hb3.size
  try simp only [World.size_alloc] at hz3 c3 d3
  try simp only [World.size_drew] at hz3 c3 d3
  try simp only [World.size_setCell] at hz3 c3 d3
  try simp only [World.heap_drewN] at hz3 c3 d3
  try simp only [World.size_alloc] at hz3 c3 d3
  try simp only [World.size_drew] at hz3 c3 d3
  try simp only [World.size_setCell] at hz3 c3 d3
  have s3_0 : w.heap.size < w3.heap.size := by omega
  have o3_0 := fun j => c3 (w.heap.size) j (by omega)
  have f3_0 := fun j => d3 (w.heap.size) j (by omega)
  have s3_1 : w.heap.size + 1 < w3.heap.size := by omega
  have o3_1 := fun j => c3 (w.heap.size + 1) j (by omega)
  have f3_1 := fun j => d3 (w.heap.size + 1) j (by omega)
  have s3_2 : w2.heap.size < w3.heap.size := by omega
  have o3_2 := fun j => c3 (w2.heap.size) j (by omega)
  have f3_2 := fun j => d3 (w2.heap.size) j (by omega)
  clear c3 d3 hz3 hW3
  obtain rfl := hx3.nil rfl
  ((try go_simp); (repeat go_step))
  refine call_bel (w := w) (by repeat' (first | (with_reducible exact Below.refl _ _) | (with_reducible assumption) | (with_reducible refine bdn ?_) | (with_reducible refine Below.alloc ?_ ?_ _) | (with_reducible refine Below.drew ?_) | (with_reducible refine Below.setCell ?_ ?_ _) | omega | (simp <;> omega))) (fun HB => rsix_any m 0 (-1) _ H_im.out (by rw [H_hmc.out]; rfl) (by rw [H_hmc.out]; rfl)) ?_
  intro w4 hb4 hz4 c4 d4 hW4
  have t4 := hb4.size
  try simp only [World.size_alloc] at hz4 c4 d4
  try simp only [World.size_drew] at hz4 c4 d4
  try simp only [World.size_setCell] at hz4 c4 d4
  try simp only [World.heap_drewN] at hz4 c4 d4
  try simp only [World.size_alloc] at hz4 c4 d4
  try simp only [World.size_drew] at hz4 c4 d4
  try simp only [World.size_setCell] at hz4 c4 d4
  have s4_0 : w.heap.size < w4.heap.size := by omega
  have o4_0 := fun j => c4 (w.heap.size) j (by omega)
  have f4_0 := fun j => d4 (w.heap.size) j (by omega)
  have s4_1 : w.heap.size + 1 < w4.heap.size := by omega
  have o4_1 := fun j => c4 (w.heap.size + 1) j (by omega)
  have f4_1 := fun j => d4 (w.heap.size + 1) j (by omega)
  have s4_2 : w2.heap.size < w4.heap.size := by omega
  have o4_2 := fun j => c4 (w2.heap.size) j (by omega)
  have f4_2 := fun j => d4 (w2.heap.size) j (by omega)
  have s4_3 : w3.heap.size < w4.heap.size := by omega
  have o4_3 := fun j => c4 (w3.heap.size) j (by omega)
  have f4_3 := fun j => d4 (w3.heap.size) j (by omega)
  clear c4 d4 hz4 hW4
  ((try go_simp); (repeat go_step))
  refine call_bel (w := w) (by repeat' (first | (with_reducible exact Below.refl _ _) | (with_reducible assumption) | (with_reducible refine bdn ?_) | (with_reducible refine Below.alloc ?_ ?_ _) | (with_reducible refine Below.drew ?_) | (with_reducible refine Below.setCell ?_ ?_ _) | omega | (simp <;> omega))) (fun HB => rdo_mul m.A m.D x _ H_iA.out H_iD.out H_hx.out) ?_
  intro w5 hb5 hz5 c5 d5 hW5
  have t5 := hb5.size
  try simp only [World.size_alloc] at hz5 c5 d5
  try simp only [World.size_drew] at hz5 c5 d5
  try simp only [World.size_setCell] at hz5 c5 d5
  try simp only [World.heap_drewN] at hz5 c5 d5
  try simp only [World.size_alloc] at hz5 c5 d5
  try simp only [World.size_drew] at hz5 c5 d5
  try simp only [World.size_setCell] at hz5 c5 d5
  have s5_0 : w.heap.size < w5.heap.size := by omega
  have o5_0 := fun j => c5 (w.heap.size) j (by omega)
  have f5_0 := fun j => d5 (w.heap.size) j (by omega)
  have s5_1 : w.heap.size + 1 < w5.heap.size := by omega
  have o5_1 := fun j => c5 (w.heap.size + 1) j (by omega)
  have f5_1 := fun j => d5 (w.heap.size + 1) j (by omega)
  have s5_2 : w2.heap.size < w5.heap.size := by omega
  have o5_2 := fun j => c5 (w2.heap.size) j (by omega)
  have f5_2 := fun j => d5 (w2.heap.size) j (by omega)
  have s5_3 : w3.heap.size < w5.heap.size := by omega
  have o5_3 := fun j => c5 (w3.heap.size) j (by omega)
  have f5_3 := fun j => d5 (w3.heap.size) j (by omega)
  clear c5 d5 hz5 hW5
  rw [H_hk1.out, frN_0 rfl]
  ((try go_simp); (repeat go_step))
  refine call_bel (w := w) (by repeat' (first | (with_reducible exact Below.refl _ _) | (with_reducible assumption) | (with_reducible refine bdn ?_) | (with_reducible refine Below.alloc ?_ ?_ _) | (with_reducible refine Below.drew ?_) | (with_reducible refine Below.setCell ?_ ?_ _) | omega | (simp <;> omega))) (fun HB => rdo_mul m.B m.C y _ H_iB.out H_iC.out H_hy.out) ?_
  intro w6 hb6 hz6 c6 d6 hW6
  have t6 := hb6.size
  try simp only [World.size_alloc] at hz6 c6 d6
  try simp only [World.size_drew] at hz6 c6 d6
  try simp only [World.size_setCell] at hz6 c6 d6
  try simp only [World.heap_drewN] at hz6 c6 d6
  try simp only [World.size_alloc] at hz6 c6 d6
  try simp only [World.size_drew] at hz6 c6 d6
  try simp only [World.size_setCell] at hz6 c6 d6
  have s6_0 : w.heap.size < w6.heap.size := by omega
  have o6_0 := fun j => c6 (w.heap.size) j (by omega)
  have f6_0 := fun j => d6 (w.heap.size) j (by omega)
  have s6_1 : w.heap.size + 1 < w6.heap.size := by omega
  have o6_1 := fun j => c6 (w.heap.size + 1) j (by omega)
  have f6_1 := fun j => d6 (w.heap.size + 1) j (by omega)
  have s6_2 : w2.heap.size < w6.heap.size := by omega
  have o6_2 := fun j => c6 (w2.heap.size) j (by omega)
  have f6_2 := fun j => d6 (w2.heap.size) j (by omega)
  have s6_3 : w3.heap.size < w6.heap.size := by omega
  have o6_3 := fun j => c6 (w3.heap.size) j (by omega)
  have f6_3 := fun j => d6 (w3.heap.size) j (by omega)
  have s6_4 : w5.heap.size < w6.heap.size := by omega
  have o6_4 := fun j => c6 (w5.heap.size) j (by omega)
  have f6_4 := fun j => d6 (w5.heap.size) j (by omega)
  clear c6 d6 hz6 hW6
  rw [H_hk2.out, frN_0 rfl]
  ((try go_simp); (repeat go_step))
  refine call_bel (w := w) (by repeat' (first | (with_reducible exact Below.refl _ _) | (with_reducible assumption) | (with_reducible refine bdn ?_) | (with_reducible refine Below.alloc ?_ ?_ _) | (with_reducible refine Below.drew ?_) | (with_reducible refine Below.setCell ?_ ?_ _) | omega | (simp <;> omega))) (fun HB => rdo_sub x y d _ H_jx.out H_jy.out H_hd.out) ?_
  intro w7 hb7 hz7 c7 d7 hW7
  have t7 := hb7.size
  try simp only [World.size_alloc] at hz7 c7 d7
  try simp only [World.size_drew] at hz7 c7 d7
  try simp only [World.size_setCell] at hz7 c7 d7
  try simp only [World.heap_drewN] at hz7 c7 d7
  try simp only [World.size_alloc] at hz7 c7 d7
  try simp only [World.size_drew] at hz7 c7 d7
  try simp only [World.size_setCell] at hz7 c7 d7
  have s7_0 : w.heap.size < w7.heap.size := by omega
  have o7_0 := fun j => c7 (w.heap.size) j (by omega)
  have f7_0 := fun j => d7 (w.heap.size) j (by omega)
  have s7_1 : w.heap.size + 1 < w7.heap.size := by omega
  have o7_1 := fun j => c7 (w.heap.size + 1) j (by omega)
  have f7_1 := fun j => d7 (w.heap.size + 1) j (by omega)
  have s7_2 : w2.heap.size < w7.heap.size := by omega
  have o7_2 := fun j => c7 (w2.heap.size) j (by omega)
  have f7_2 := fun j => d7 (w2.heap.size) j (by omega)
  have s7_3 : w3.heap.size < w7.heap.size := by omega
  have o7_3 := fun j => c7 (w3.heap.size) j (by omega)
  have f7_3 := fun j => d7 (w3.heap.size) j (by omega)
  clear c7 d7 hz7 hW7
  rw [H_hk3.out, frN_0 rfl]
  ((try go_simp); (repeat go_step))
  refine call_me (w := w) (by repeat' (first | (with_reducible exact Below.refl _ _) | (with_reducible assumption) | (with_reducible refine bdn ?_) | (with_reducible refine Below.alloc ?_ ?_ _) | (with_reducible refine Below.drew ?_) | (with_reducible refine Below.setCell ?_ ?_ _) | omega | (simp <;> omega))) (fun HB => mthen_any ea m b _ H_im.out H_ib.out (H_hG.out.keep HB rfl) (Nat.le_trans hng HB.size)) ?_
  rw [H_v5.out, H_h5.out]
  intro x8 w8 hx8 hb8 hz8 c8 d8 hW8
  have t8 := hb8.size
  try simp only [World.size_alloc] at hz8 c8 d8
  try simp only [World.size_drew] at hz8 c8 d8
  try simp only [World.size_setCell] at hz8 c8 d8
  try simp only [World.heap_drewN] at hz8 c8 d8
  try simp only [World.size_alloc] at hz8 c8 d8
  try simp only [World.size_drew] at hz8 c8 d8
  try simp only [World.size_setCell] at hz8 c8 d8
  have s8_0 : w.heap.size + 1 < w8.heap.size := by omega
  have o8_0 := fun j => c8 (w.heap.size + 1) j (by omega)
  have f8_0 := fun j => d8 (w.heap.size + 1) j (by omega)
  have s8_1 : w2.heap.size < w8.heap.size := by omega
  have o8_1 := fun j => c8 (w2.heap.size) j (by omega)
  have f8_1 := fun j => d8 (w2.heap.size) j (by omega)
  have s8_2 : w3.heap.size < w8.heap.size := by omega
  have o8_2 := fun j => c8 (w3.heap.size) j (by omega)
  have f8_2 := fun j => d8 (w3.heap.size) j (by omega)
  clear c8 d8 hz8 hW8
  obtain rfl := hx8.nil rfl
  clear hx8
  go_upto_region 18 with fail
  obtain ⟨wz, hwz⟩ : ∃ u, w8.alloc (.cells #[Value.int .i64 1, .int .i64 1, .int .i64 0, .int .i64 1, .int .i64 0, .int .i64 1, .int .i64 1, .int .i64 1, .int .i64 0, .int .i64 1, .int .i64 0, .int .i64 1] 46) = u := ⟨_, rfl⟩
  have hBz : Below w.heap.size w wz := by rw [← hwz]; exact hb8.alloc t8 _
  have kp : ∀ j, wz.cell? ⟨w.heap.size + 1, j, none⟩ = #[Value.int .i64 p.xn, .int .i64 p.xd, .int .i64 p.yn, .int .i64 p.yd][j]? := fun j => by rw [← hwz, World.cell?_alloc_past _ _ _ s8_0, o8_0, World.cell?_alloc_past _ _ _ s7_1, o7_1, World.cell?_alloc_past _ _ _ s6_1, o6_1, World.cell?_alloc_past _ _ _ s5_1, o5_1, World.cell?_alloc_past _ _ _ s4_1, o4_1, World.cell?_alloc_past _ _ _ s3_1, o3_1, World.cell?_alloc_past _ _ _ s2_1, o2_1, o1_1, World.cell?_alloc_at _ _ _ _ (by simp)]
  have km : ∀ j, wz.cell? ⟨w2.heap.size, j, none⟩ = #[.int .i64 m.A.n, .int .i64 m.A.d, .int .i64 m.B.n, .int .i64 m.B.d, .int .i64 m.C.n, .int .i64 m.C.d, .int .i64 m.D.n, .int .i64 m.D.d, .int .i64 m.E.n, .int .i64 m.E.d, .int .i64 m.F.n, .int .i64 m.F.d][j]? := fun j => by rw [← hwz, World.cell?_alloc_past _ _ _ s8_1, o8_1, World.cell?_alloc_past _ _ _ s7_2, o7_2, World.cell?_alloc_past _ _ _ s6_2, o6_2, World.cell?_alloc_past _ _ _ s5_2, o5_2, World.cell?_alloc_past _ _ _ s4_2, o4_2, World.cell?_alloc_past _ _ _ s3_2, o3_2, World.cell?_alloc_new]
  have kb : ∀ j, wz.cell? ⟨w3.heap.size, j, none⟩ = #[.int .i64 b.A.n, .int .i64 b.A.d, .int .i64 b.B.n, .int .i64 b.B.d, .int .i64 b.C.n, .int .i64 b.C.d, .int .i64 b.D.n, .int .i64 b.D.d, .int .i64 b.E.n, .int .i64 b.E.d, .int .i64 b.F.n, .int .i64 b.F.d][j]? := fun j => by rw [← hwz, World.cell?_alloc_past _ _ _ s8_2, o8_2, World.cell?_alloc_past _ _ _ s7_3, o7_3, World.cell?_alloc_past _ _ _ s6_3, o6_3, World.cell?_alloc_past _ _ _ s5_3, o5_3, World.cell?_alloc_past _ _ _ s4_3, o4_3, World.cell?_alloc_new]
  have kt : ∀ j, wz.cell? ⟨w8.heap.size, j, none⟩ = #[Value.int .i64 1, .int .i64 1, .int .i64 0, .int .i64 1, .int .i64 0, .int .i64 1, .int .i64 1, .int .i64 1, .int .i64 0, .int .i64 1, .int .i64 0, .int .i64 1][j]? := fun j => by rw [← hwz, World.cell?_alloc_new]
  have zz : wz.heap.size = w8.heap.size + 1 := by rw [← hwz]; simp
  have zp : w.heap.size + 1 < wz.heap.size := by omega
  have zm : w2.heap.size < wz.heap.size := by omega
  have zb : w3.heap.size < wz.heap.size := by omega
  have zt : w8.heap.size < wz.heap.size := by omega
  have SK : ∀ W, Below wz.heap.size wz W → Below wz.heap.size wz W ∧ ∀ j, W.cell? ⟨w8.heap.size, j, none⟩ = #[Value.int .i64 1, .int .i64 1, .int .i64 0, .int .i64 1, .int .i64 0, .int .i64 1, .int .i64 1, .int .i64 1, .int .i64 0, .int .i64 1, .int .i64 0, .int .i64 1][j]? := fun W h => ⟨h, fun j => by rw [h.cell (p := ⟨w8.heap.size, j, none⟩) zt]; exact kt j⟩
  rw [hwz]
  have H_zz := Lib.hid zz
  clear zz
  have H_SK := Lib.hid SK
  clear SK
  clear o8_0 f8_0 o8_1 f8_1 o8_2 f8_2 s8_0 s8_1 s8_2 hb8 hwz kt
  go_region_held3 (fun W => Below wz.heap.size wz W ∧ ∀ j, W.cell? ⟨w8.heap.size, j, none⟩ = #[Value.int .i64 1, .int .i64 1, .int .i64 0, .int .i64 1, .int .i64 0, .int .i64 1, .int .i64 1, .int .i64 1, .int .i64 0, .int .i64 1, .int .i64 0, .int .i64 1][j]?) (exact H_SK.out _ (by repeat' (first | (with_reducible exact Below.refl _ _) | (with_reducible assumption) | (with_reducible refine bdn ?_) | (with_reducible refine Below.alloc ?_ ?_ _) | (with_reducible refine Below.drew ?_) | (with_reducible refine Below.setCell ?_ ?_ _) | omega | (simp <;> omega))))
    (first | ((with_reducible refine (mone_any _).mono ?_); rintro en wU ⟨rfl, hU⟩; have hbU : Below wz.heap.size wz wU := below_via (by repeat' (first | (with_reducible exact Below.refl _ _) | (with_reducible assumption) | (with_reducible refine bdn ?_) | (with_reducible refine Below.alloc ?_ ?_ _) | (with_reducible refine Below.drew ?_) | (with_reducible refine Below.setCell ?_ ?_ _) | omega | (simp <;> omega))) hU; have tU := hbU.size))
  have hBU := below_via hBz hbU
  have kp' := fun j => (hbU.cell (p := ⟨w.heap.size + 1, j, none⟩) zp).trans (kp j)
  have km' := fun j => (hbU.cell (p := ⟨w2.heap.size, j, none⟩) zm).trans (km j)
  have kb' := fun j => (hbU.cell (p := ⟨w3.heap.size, j, none⟩) zb).trans (kb j)
  have zp' : w.heap.size + 1 < wU.heap.size := by omega
  have zm' : w2.heap.size < wU.heap.size := by omega
  have zb' : w3.heap.size < wU.heap.size := by omega
  clear kp km kb zp zm zb zt hBz hU hbU H_SK
  by_cases g1 : atC m p = (0, none)
  · have hRq := at_R2 g1
    have hba := fun g2 => back_at H_hc.out g1 g2
    obtain ⟨q, hq⟩ : ∃ q, atV m p = q := ⟨_, rfl⟩
    rw [hq] at hRq hba
    rw [H_hv.out] at hba
    have iq : q.I := ⟨hRq.x.i.1, hRq.x.i.2, hRq.y.i.1, hRq.y.i.2⟩
    by_cases g2 : atC b q = (0, none)
    · have hr := hba g2
      clear hba hRq
      have H_g1 := Lib.hid g1
      clear g1
      have H_hq := Lib.hid hq
      clear hq
      have H_iq := Lib.hid iq
      clear iq
      have H_g2 := Lib.hid g2
      clear g2
      have H_hr := Lib.hid hr
      clear hr
      ((try go_simp); (repeat go_step))
      refine call_qe (w := w) (by repeat' (first | (with_reducible exact Below.refl _ _) | (with_reducible assumption) | (with_reducible refine bdn ?_) | (with_reducible refine Below.alloc ?_ ?_ _) | (with_reducible refine Below.drew ?_) | (with_reducible refine Below.setCell ?_ ?_ _) | omega | (simp <;> omega))) (fun HB => mat_any ea m p _ H_im.out H_ip.out (H_hG.out.keep HB rfl) (Nat.le_trans hng HB.size)) ?_
      rw [H_hq.out, H_g1.out]
      intro x10 w10 hx10 hb10 hz10 c10 d10 hW10
      have t10 := hb10.size
      try simp only [World.size_alloc] at hz10 c10 d10
      try simp only [World.size_drew] at hz10 c10 d10
      try simp only [World.size_setCell] at hz10 c10 d10
      try simp only [World.heap_drewN] at hz10 c10 d10
      try simp only [World.size_alloc] at hz10 c10 d10
      try simp only [World.size_drew] at hz10 c10 d10
      try simp only [World.size_setCell] at hz10 c10 d10
      have s10_0 : w.heap.size + 1 < w10.heap.size := by omega
      have o10_0 := fun j => c10 (w.heap.size + 1) j (by omega)
      have f10_0 := fun j => d10 (w.heap.size + 1) j (by omega)
      have s10_1 : w3.heap.size < w10.heap.size := by omega
      have o10_1 := fun j => c10 (w3.heap.size) j (by omega)
      have f10_1 := fun j => d10 (w3.heap.size) j (by omega)
      clear c10 d10 hz10 hW10
      obtain rfl := hx10.nil rfl
      ((try go_simp); (repeat go_step))
      refine call_qe (w := w) (by repeat' (first | (with_reducible exact Below.refl _ _) | (with_reducible assumption) | (with_reducible refine bdn ?_) | (with_reducible refine Below.alloc ?_ ?_ _) | (with_reducible refine Below.drew ?_) | (with_reducible refine Below.setCell ?_ ?_ _) | omega | (simp <;> omega))) (fun HB => mat_any ea b q _ H_ib.out H_iq.out (H_hG.out.keep HB rfl) (Nat.le_trans hng HB.size)) ?_
      rw [H_hr.out, H_g2.out]
      intro x11 w11 hx11 hb11 hz11 c11 d11 hW11
      have t11 := hb11.size
      try simp only [World.size_alloc] at hz11 c11 d11
      try simp only [World.size_drew] at hz11 c11 d11
      try simp only [World.size_setCell] at hz11 c11 d11
      try simp only [World.heap_drewN] at hz11 c11 d11
      try simp only [World.size_alloc] at hz11 c11 d11
      try simp only [World.size_drew] at hz11 c11 d11
      try simp only [World.size_setCell] at hz11 c11 d11
      have s11_0 : w.heap.size + 1 < w11.heap.size := by omega
      have o11_0 := fun j => c11 (w.heap.size + 1) j (by omega)
      have f11_0 := fun j => d11 (w.heap.size + 1) j (by omega)
      clear c11 d11 hz11 hW11
      obtain rfl := hx11.nil rfl
      ((try go_simp); (repeat go_step))
      go_returns
      exact ⟨rfl, by repeat' (first | (with_reducible exact Below.refl _ _) | (with_reducible assumption) | (with_reducible refine bdn ?_) | (with_reducible refine Below.alloc ?_ ?_ _) | (with_reducible refine Below.drew ?_) | (with_reducible refine Below.setCell ?_ ?_ _) | omega | (simp <;> omega))⟩
    · have n2 := atC_ne2 g2
      have v2 := atV_n n2
      obtain ⟨c2, hc2⟩ : ∃ c, atC b q = c := ⟨_, rfl⟩
      rw [hc2] at n2
      clear hba hRq g2
      have H_g1 := Lib.hid g1
      clear g1
      have H_hq := Lib.hid hq
      clear hq
      have H_iq := Lib.hid iq
      clear iq
      have H_n2 := Lib.hid n2
      clear n2
      have H_v2 := Lib.hid v2
      clear v2
      have H_hc2 := Lib.hid hc2
      clear hc2
      ((try go_simp); (repeat go_step))
      refine call_qe (w := w) (by repeat' (first | (with_reducible exact Below.refl _ _) | (with_reducible assumption) | (with_reducible refine bdn ?_) | (with_reducible refine Below.alloc ?_ ?_ _) | (with_reducible refine Below.drew ?_) | (with_reducible refine Below.setCell ?_ ?_ _) | omega | (simp <;> omega))) (fun HB => mat_any ea m p _ H_im.out H_ip.out (H_hG.out.keep HB rfl) (Nat.le_trans hng HB.size)) ?_
      rw [H_hq.out, H_g1.out]
      intro x10 w10 hx10 hb10 hz10 c10 d10 hW10
      have t10 := hb10.size
      try simp only [World.size_alloc] at hz10 c10 d10
      try simp only [World.size_drew] at hz10 c10 d10
      try simp only [World.size_setCell] at hz10 c10 d10
      try simp only [World.heap_drewN] at hz10 c10 d10
      try simp only [World.size_alloc] at hz10 c10 d10
      try simp only [World.size_drew] at hz10 c10 d10
      try simp only [World.size_setCell] at hz10 c10 d10
      have s10_0 : w.heap.size + 1 < w10.heap.size := by omega
      have o10_0 := fun j => c10 (w.heap.size + 1) j (by omega)
      have f10_0 := fun j => d10 (w.heap.size + 1) j (by omega)
      have s10_1 : w3.heap.size < w10.heap.size := by omega
      have o10_1 := fun j => c10 (w3.heap.size) j (by omega)
      have f10_1 := fun j => d10 (w3.heap.size) j (by omega)
      clear c10 d10 hz10 hW10
      obtain rfl := hx10.nil rfl
      ((try go_simp); (repeat go_step))
      refine call_qe (w := w) (by repeat' (first | (with_reducible exact Below.refl _ _) | (with_reducible assumption) | (with_reducible refine bdn ?_) | (with_reducible refine Below.alloc ?_ ?_ _) | (with_reducible refine Below.drew ?_) | (with_reducible refine Below.setCell ?_ ?_ _) | omega | (simp <;> omega))) (fun HB => mat_any ea b q _ H_ib.out H_iq.out (H_hG.out.keep HB rfl) (Nat.le_trans hng HB.size)) ?_
      rw [H_v2.out, H_hc2.out]
      intro x11 w11 hx11 hb11 hz11 c11 d11 hW11
      have t11 := hb11.size
      try simp only [World.size_alloc] at hz11 c11 d11
      try simp only [World.size_drew] at hz11 c11 d11
      try simp only [World.size_setCell] at hz11 c11 d11
      try simp only [World.heap_drewN] at hz11 c11 d11
      try simp only [World.size_alloc] at hz11 c11 d11
      try simp only [World.size_drew] at hz11 c11 d11
      try simp only [World.size_setCell] at hz11 c11 d11
      have s11_0 : w.heap.size + 1 < w11.heap.size := by omega
      have o11_0 := fun j => c11 (w.heap.size + 1) j (by omega)
      have f11_0 := fun j => d11 (w.heap.size + 1) j (by omega)
      clear c11 d11 hz11 hW11
      obtain ⟨t11', a11, rfl⟩ := hx11.some H_n2.out
      clear hx11
      ((try go_simp); (repeat go_step))
      go_returns
      exact ⟨rfl, by repeat' (first | (with_reducible exact Below.refl _ _) | (with_reducible assumption) | (with_reducible refine bdn ?_) | (with_reducible refine Below.alloc ?_ ?_ _) | (with_reducible refine Below.drew ?_) | (with_reducible refine Below.setCell ?_ ?_ _) | omega | (simp <;> omega))⟩
  · have n1 := atC_ne2 g1
    have v1 := atV_n n1
    obtain ⟨c1, hc1⟩ : ∃ c, atC m p = c := ⟨_, rfl⟩
    rw [hc1] at n1
    clear g1
    have H_n1 := Lib.hid n1
    clear n1
    have H_v1 := Lib.hid v1
    clear v1
    have H_hc1 := Lib.hid hc1
    clear hc1
    ((try go_simp); (repeat go_step))
    refine call_qe (w := w) (by repeat' (first | (with_reducible exact Below.refl _ _) | (with_reducible assumption) | (with_reducible refine bdn ?_) | (with_reducible refine Below.alloc ?_ ?_ _) | (with_reducible refine Below.drew ?_) | (with_reducible refine Below.setCell ?_ ?_ _) | omega | (simp <;> omega))) (fun HB => mat_any ea m p _ H_im.out H_ip.out (H_hG.out.keep HB rfl) (Nat.le_trans hng HB.size)) ?_
    rw [H_v1.out, H_hc1.out]
    intro x10 w10 hx10 hb10 hz10 c10 d10 hW10
    have t10 := hb10.size
    try simp only [World.size_alloc] at hz10 c10 d10
    try simp only [World.size_drew] at hz10 c10 d10
    try simp only [World.size_setCell] at hz10 c10 d10
    try simp only [World.heap_drewN] at hz10 c10 d10
    try simp only [World.size_alloc] at hz10 c10 d10
    try simp only [World.size_drew] at hz10 c10 d10
    try simp only [World.size_setCell] at hz10 c10 d10
    have s10_0 : w.heap.size + 1 < w10.heap.size := by omega
    have o10_0 := fun j => c10 (w.heap.size + 1) j (by omega)
    have f10_0 := fun j => d10 (w.heap.size + 1) j (by omega)
    have s10_1 : w3.heap.size < w10.heap.size := by omega
    have o10_1 := fun j => c10 (w3.heap.size) j (by omega)
    have f10_1 := fun j => d10 (w3.heap.size) j (by omega)
    clear c10 d10 hz10 hW10
    obtain ⟨t10', a10, rfl⟩ := hx10.some H_n1.out
    clear hx10
    ((try go_simp); (repeat go_step))
    go_returns
    exact ⟨rfl, by repeat' (first | (with_reducible exact Below.refl _ _) | (with_reducible assumption) | (with_reducible refine bdn ?_) | (with_reducible refine Below.alloc ?_ ?_ _) | (with_reducible refine Below.drew ?_) | (with_reducible refine Below.setCell ?_ ?_ _) | omega | (simp <;> omega))⟩
/-- MoveBack returns true. -/
theorem mb_law (ea : Nat → Addr) (m : Mv) (p : Pt) (w : World) (im : m.I) (ip : p.I) (hL : Libs w) (hS : Sents ea w) (hng : 20 ≤ w.heap.size) :
    Calls Tryz.prog 5 #[.agg #[.int .i64 m.A.n, .int .i64 m.A.d, .int .i64 m.B.n, .int .i64 m.B.d, .int .i64 m.C.n, .int .i64 m.C.d, .int .i64 m.D.n, .int .i64 m.D.d, .int .i64 m.E.n, .int .i64 m.E.d, .int .i64 m.F.n, .int .i64 m.F.d], .agg #[.int .i64 p.xn, .int .i64 p.xd, .int .i64 p.yn, .int .i64 p.yd]] w fun e w' => e = .returned (.bool true) ∧ Below w.heap.size w w' := by
  rcases (firstF_some (l := m.l) (k := 0) : m.c = (0, none) ∨ m.c.1 ≠ 0) with h | h
  · rcases back_ref m h with ⟨h1, hc⟩ | ⟨h1, h2, h3, hc⟩ | ⟨h1, h2, h3, h4, hc⟩ | ⟨h1, h2, h3, h4, hc | hc⟩
    · exact mb_b2 ea m p w im ip hL hS hng h h1 hc
    · exact mb_b1c ea m p w im ip hL hS hng h h1 h2 h3 hc
    · exact mb_b1a ea m p w im ip hL hS hng h h1 h2 h3 h4 hc
    · exact mb_b1b ea m p w im ip hL hS hng h h1 h2 h3 h4 hc
    · by_cases h5 : thenC m (backV m) = (0, none)
      · exact mb_k2 ea m p w im ip hL hS hng h h1 h2 h3 h4 hc h5
      · exact mb_k1 ea m p w im ip hL hS hng h h1 h2 h3 h4 hc h5
  · have hc : backC m = m.c := by unfold backC; rw [if_neg (fun e => h (congrArg Prod.fst e))]
    exact mb_a ea m p w im ip hL hS hng h hc
end Go.Proofs.YtbekidefgdijkaaGreatDoor
