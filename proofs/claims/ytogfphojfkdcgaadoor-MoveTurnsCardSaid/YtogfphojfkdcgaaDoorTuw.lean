/-
  The walk over the statement MoveTurns.
-/
import Derived.Test.YtogfphojfkdcgaaDoorMvd
import Derived.Test.YtogfphojfkdcgaaDoorTup
namespace Go.Proofs.YtogfphojfkdcgaaDoor
open Go.RowKit Lead
variable {gz : Bool}

set_option maxHeartbeats 2000000 in
set_option maxRecDepth 100000 in
theorem tu_law (ea : Nat → Addr) (p : Pt) (w : World) (ip : p.I) (hL : Libs w) (hG : Gs gz ea w) (hng : 13 ≤ w.heap.size) (hText : w.cell? ⟨2, 0, none⟩ = some (.iface 147 (.pointer (some (ea 1))))) :
    Calls Tryd.prog 5 #[.agg #[.int .i64 p.xn, .int .i64 p.xd, .int .i64 p.yn, .int .i64 p.yd]] w fun e w' => e = .returned (.bool true) ∧ Below w.heap.size w w' := by
  have zhText := zlt hText
  have xhText := zlts hText
  have yhText := zne hText
  obtain ⟨c1, v1⟩ := val_turn1
  obtain ⟨c2, v2⟩ := val_turn4
  obtain ⟨c3, v3⟩ := val_turn31
  obtain ⟨c4, v4⟩ := val_scale
  obtain ⟨c5, v5⟩ := val_turn2
  have htI := turnM_R.I
  have hta := @turn_at p
  obtain ⟨tm, htm⟩ : ∃ m, turnM = m := ⟨_, rfl⟩
  obtain ⟨hm, hhm⟩ : ∃ m, halfM = m := ⟨_, rfl⟩
  rw [htm] at v1 htI hta
  rw [hhm] at v4 v5
  have H_hL := Lib.hid hL
  clear hL
  have H_hG := Lib.hid hG
  clear hG
  have H_c1 := Lib.hid c1
  clear c1
  have H_v1 := Lib.hid v1
  clear v1
  have H_c2 := Lib.hid c2
  clear c2
  have H_v2 := Lib.hid v2
  clear v2
  have H_c3 := Lib.hid c3
  clear c3
  have H_v3 := Lib.hid v3
  clear v3
  have H_c4 := Lib.hid c4
  clear c4
  have H_v4 := Lib.hid v4
  clear v4
  have H_c5 := Lib.hid c5
  clear c5
  have H_v5 := Lib.hid v5
  clear v5
  have H_ip := Lib.hid ip
  clear ip
  have H_htI := Lib.hid htI
  clear htI
  have H_hta := Lib.hid hta
  clear hta
  have H_htm := Lib.hid htm
  clear htm
  have H_hhm := Lib.hid hhm
  clear hhm
  go_enter Tryd.func5, Tryd.ntmps5
  ((try go_simp); (repeat go_step))
  refine call_bel (w := w) (by repeat' (first | (with_reducible exact Below.refl _ _) | (with_reducible assumption) | (with_reducible refine bdn ?_) | (with_reducible refine Below.alloc ?_ ?_ _) | (with_reducible refine Below.drew ?_) | (with_reducible refine Below.setCell ?_ ?_ _) | omega | (simp <;> omega))) (fun HB => moved_any ea _ (H_hL.out.keep HB rfl) (H_hG.out.keep HB rfl) (Nat.le_trans hng HB.size) (gkeep HB hText rfl)) ?_
  intro w1 hb1 hz1 c1 d1 hW1
  have t1 := hb1.size
  try simp only [World.size_alloc] at hz1 c1 d1
  try simp only [World.size_drew] at hz1 c1 d1
  try simp only [World.size_setCell] at hz1 c1 d1
  try simp only [World.heap_drewN] at hz1 c1 d1
  try simp only [World.size_alloc] at hz1 c1 d1
  try simp only [World.size_drew] at hz1 c1 d1
  try simp only [World.size_setCell] at hz1 c1 d1
  have s1_0 : w.heap.size < w1.heap.size := by omega
  have o1_0 := fun j => c1 (w.heap.size) j (by omega)
  have f1_0 := fun j => d1 (w.heap.size) j (by omega)
  clear c1 d1 hz1 hW1
  ((try go_simp); (repeat go_step))
  refine call_bel (w := w) (by repeat' (first | (with_reducible exact Below.refl _ _) | (with_reducible assumption) | (with_reducible refine bdn ?_) | (with_reducible refine Below.alloc ?_ ?_ _) | (with_reducible refine Below.drew ?_) | (with_reducible refine Below.setCell ?_ ?_ _) | omega | (simp <;> omega))) (fun HB => mread_any ea ⟨#[116, 117, 114, 110, 32, 49]⟩ _ (by decide) (H_hL.out.keep HB rfl) (H_hG.out.keep HB rfl) (Nat.le_trans hng HB.size) (gkeep HB hText rfl) 0 tm H_c1.out H_v1.out) ?_
  intro w2 hb2 hz2 c2 d2 hW2
  have t2 := hb2.size
  try simp only [World.size_alloc] at hz2 c2 d2
  try simp only [World.size_drew] at hz2 c2 d2
  try simp only [World.size_setCell] at hz2 c2 d2
  try simp only [World.heap_drewN] at hz2 c2 d2
  try simp only [World.size_alloc] at hz2 c2 d2
  try simp only [World.size_drew] at hz2 c2 d2
  try simp only [World.size_setCell] at hz2 c2 d2
  have s2_0 : w.heap.size < w2.heap.size := by omega
  have o2_0 := fun j => c2 (w.heap.size) j (by omega)
  have f2_0 := fun j => d2 (w.heap.size) j (by omega)
  clear c2 d2 hz2 hW2
  rw [evl_0 rfl]
  ((try go_simp); (repeat go_step))
  refine call_bel (w := w) (by repeat' (first | (with_reducible exact Below.refl _ _) | (with_reducible assumption) | (with_reducible refine bdn ?_) | (with_reducible refine Below.alloc ?_ ?_ _) | (with_reducible refine Below.drew ?_) | (with_reducible refine Below.setCell ?_ ?_ _) | omega | (simp <;> omega))) (fun HB => mread_any ea ⟨#[116, 117, 114, 110, 32, 49, 32, 116, 117, 114, 110, 32, 49, 32, 116, 117, 114, 110, 32, 49, 32, 116, 117, 114, 110, 32, 49]⟩ _ (by decide) (H_hL.out.keep HB rfl) (H_hG.out.keep HB rfl) (Nat.le_trans hng HB.size) (gkeep HB hText rfl) 0 ⟨⟨1, 1⟩, ⟨0, 1⟩, ⟨0, 1⟩, ⟨1, 1⟩, ⟨0, 1⟩, ⟨0, 1⟩⟩ H_c2.out H_v2.out) ?_
  intro w3 hb3 hz3 c3 d3 hW3
  have t3 := hb3.size
  try simp only [World.size_alloc] at hz3 c3 d3
  try simp only [World.size_drew] at hz3 c3 d3
  try simp only [World.size_setCell] at hz3 c3 d3
  try simp only [World.heap_drewN] at hz3 c3 d3
  try simp only [World.size_alloc] at hz3 c3 d3
  try simp only [World.size_drew] at hz3 c3 d3
  try simp only [World.size_setCell] at hz3 c3 d3
  have s3_0 : w.heap.size < w3.heap.size := by omega
  have o3_0 := fun j => c3 (w.heap.size) j (by omega)
  have f3_0 := fun j => d3 (w.heap.size) j (by omega)
  have s3_1 : w2.heap.size < w3.heap.size := by omega
  have o3_1 := fun j => c3 (w2.heap.size) j (by omega)
  have f3_1 := fun j => d3 (w2.heap.size) j (by omega)
  clear c3 d3 hz3 hW3
  rw [evl_0 rfl]
  ((try go_simp); (repeat go_step))
  refine call_bel (w := w) (by repeat' (first | (with_reducible exact Below.refl _ _) | (with_reducible assumption) | (with_reducible refine bdn ?_) | (with_reducible refine Below.alloc ?_ ?_ _) | (with_reducible refine Below.drew ?_) | (with_reducible refine Below.setCell ?_ ?_ _) | omega | (simp <;> omega))) (fun HB => mread_any ea ⟨#[116, 117, 114, 110, 32, 51, 32, 116, 117, 114, 110, 32, 49]⟩ _ (by decide) (H_hL.out.keep HB rfl) (H_hG.out.keep HB rfl) (Nat.le_trans hng HB.size) (gkeep HB hText rfl) 0 ⟨⟨1, 1⟩, ⟨0, 1⟩, ⟨0, 1⟩, ⟨1, 1⟩, ⟨0, 1⟩, ⟨0, 1⟩⟩ H_c3.out H_v3.out) ?_
  intro w4 hb4 hz4 c4 d4 hW4
  have t4 := hb4.size
  try simp only [World.size_alloc] at hz4 c4 d4
  try simp only [World.size_drew] at hz4 c4 d4
  try simp only [World.size_setCell] at hz4 c4 d4
  try simp only [World.heap_drewN] at hz4 c4 d4
  try simp only [World.size_alloc] at hz4 c4 d4
  try simp only [World.size_drew] at hz4 c4 d4
  try simp only [World.size_setCell] at hz4 c4 d4
  have s4_0 : w.heap.size < w4.heap.size := by omega
  have o4_0 := fun j => c4 (w.heap.size) j (by omega)
  have f4_0 := fun j => d4 (w.heap.size) j (by omega)
  have s4_1 : w2.heap.size < w4.heap.size := by omega
  have o4_1 := fun j => c4 (w2.heap.size) j (by omega)
  have f4_1 := fun j => d4 (w2.heap.size) j (by omega)
  have s4_2 : w3.heap.size < w4.heap.size := by omega
  have o4_2 := fun j => c4 (w3.heap.size) j (by omega)
  have f4_2 := fun j => d4 (w3.heap.size) j (by omega)
  clear c4 d4 hz4 hW4
  rw [evl_0 rfl]
  ((try go_simp); (repeat go_step))
  refine call_bel (w := w) (by repeat' (first | (with_reducible exact Below.refl _ _) | (with_reducible assumption) | (with_reducible refine bdn ?_) | (with_reducible refine Below.alloc ?_ ?_ _) | (with_reducible refine Below.drew ?_) | (with_reducible refine Below.setCell ?_ ?_ _) | omega | (simp <;> omega))) (fun HB => mread_any ea ⟨#[115, 99, 97, 108, 101, 32, 45, 49, 32, 45, 49]⟩ _ (by decide) (H_hL.out.keep HB rfl) (H_hG.out.keep HB rfl) (Nat.le_trans hng HB.size) (gkeep HB hText rfl) 0 hm H_c4.out H_v4.out) ?_
  intro w5 hb5 hz5 c5 d5 hW5
  have t5 := hb5.size
  try simp only [World.size_alloc] at hz5 c5 d5
  try simp only [World.size_drew] at hz5 c5 d5
  try simp only [World.size_setCell] at hz5 c5 d5
  try simp only [World.heap_drewN] at hz5 c5 d5
  try simp only [World.size_alloc] at hz5 c5 d5
  try simp only [World.size_drew] at hz5 c5 d5
  try simp only [World.size_setCell] at hz5 c5 d5
  have s5_0 : w.heap.size < w5.heap.size := by omega
  have o5_0 := fun j => c5 (w.heap.size) j (by omega)
  have f5_0 := fun j => d5 (w.heap.size) j (by omega)
  have s5_1 : w2.heap.size < w5.heap.size := by omega
  have o5_1 := fun j => c5 (w2.heap.size) j (by omega)
  have f5_1 := fun j => d5 (w2.heap.size) j (by omega)
  have s5_2 : w3.heap.size < w5.heap.size := by omega
  have o5_2 := fun j => c5 (w3.heap.size) j (by omega)
  have f5_2 := fun j => d5 (w3.heap.size) j (by omega)
  have s5_3 : w4.heap.size < w5.heap.size := by omega
  have o5_3 := fun j => c5 (w4.heap.size) j (by omega)
  have f5_3 := fun j => d5 (w4.heap.size) j (by omega)
  clear c5 d5 hz5 hW5
  rw [evl_0 rfl]
  ((try go_simp); (repeat go_step))
  refine call_bel (w := w) (by repeat' (first | (with_reducible exact Below.refl _ _) | (with_reducible assumption) | (with_reducible refine bdn ?_) | (with_reducible refine Below.alloc ?_ ?_ _) | (with_reducible refine Below.drew ?_) | (with_reducible refine Below.setCell ?_ ?_ _) | omega | (simp <;> omega))) (fun HB => mread_any ea ⟨#[116, 117, 114, 110, 32, 50]⟩ _ (by decide) (H_hL.out.keep HB rfl) (H_hG.out.keep HB rfl) (Nat.le_trans hng HB.size) (gkeep HB hText rfl) 0 hm H_c5.out H_v5.out) ?_
  intro w6 hb6 hz6 c6 d6 hW6
  have t6 := hb6.size
  try simp only [World.size_alloc] at hz6 c6 d6
  try simp only [World.size_drew] at hz6 c6 d6
  try simp only [World.size_setCell] at hz6 c6 d6
  try simp only [World.heap_drewN] at hz6 c6 d6
  try simp only [World.size_alloc] at hz6 c6 d6
  try simp only [World.size_drew] at hz6 c6 d6
  try simp only [World.size_setCell] at hz6 c6 d6
  have s6_0 : w.heap.size < w6.heap.size := by omega
  have o6_0 := fun j => c6 (w.heap.size) j (by omega)
  have f6_0 := fun j => d6 (w.heap.size) j (by omega)
  have s6_1 : w2.heap.size < w6.heap.size := by omega
  have o6_1 := fun j => c6 (w2.heap.size) j (by omega)
  have f6_1 := fun j => d6 (w2.heap.size) j (by omega)
  have s6_2 : w3.heap.size < w6.heap.size := by omega
  have o6_2 := fun j => c6 (w3.heap.size) j (by omega)
  have f6_2 := fun j => d6 (w3.heap.size) j (by omega)
  have s6_3 : w4.heap.size < w6.heap.size := by omega
  have o6_3 := fun j => c6 (w4.heap.size) j (by omega)
  have f6_3 := fun j => d6 (w4.heap.size) j (by omega)
  have s6_4 : w5.heap.size < w6.heap.size := by omega
  have o6_4 := fun j => c6 (w5.heap.size) j (by omega)
  have f6_4 := fun j => d6 (w5.heap.size) j (by omega)
  clear c6 d6 hz6 hW6
  rw [evl_0 rfl]
  go_upto_region 11 with fail
  obtain ⟨wz, hwz⟩ : ∃ u, w6.alloc (.cells #[.int .i64 hm.A.n, .int .i64 hm.A.d, .int .i64 hm.B.n, .int .i64 hm.B.d, .int .i64 hm.C.n, .int .i64 hm.C.d, .int .i64 hm.D.n, .int .i64 hm.D.d, .int .i64 hm.E.n, .int .i64 hm.E.d, .int .i64 hm.F.n, .int .i64 hm.F.d] 36) = u := ⟨_, rfl⟩
  have hBz : Below w.heap.size w wz := by rw [← hwz]; exact hb6.alloc t6 _
  have b4 : ∀ j, wz.cell? ⟨w2.heap.size, j, none⟩ = #[.int .i64 tm.A.n, .int .i64 tm.A.d, .int .i64 tm.B.n, .int .i64 tm.B.d, .int .i64 tm.C.n, .int .i64 tm.C.d, .int .i64 tm.D.n, .int .i64 tm.D.d, .int .i64 tm.E.n, .int .i64 tm.E.d, .int .i64 tm.F.n, .int .i64 tm.F.d][j]? := fun j => by rw [← hwz, World.cell?_alloc_past _ _ _ s6_1, o6_1, World.cell?_alloc_past _ _ _ s5_1, o5_1, World.cell?_alloc_past _ _ _ s4_1, o4_1, World.cell?_alloc_past _ _ _ s3_1, o3_1, World.cell?_alloc_new]
  have b6 : ∀ j, wz.cell? ⟨w3.heap.size, j, none⟩ = #[Value.int .i64 1, .int .i64 1, .int .i64 0, .int .i64 1, .int .i64 0, .int .i64 1, .int .i64 1, .int .i64 1, .int .i64 0, .int .i64 1, .int .i64 0, .int .i64 1][j]? := fun j => by rw [← hwz, World.cell?_alloc_past _ _ _ s6_2, o6_2, World.cell?_alloc_past _ _ _ s5_2, o5_2, World.cell?_alloc_past _ _ _ s4_2, o4_2, World.cell?_alloc_new]
  have b8 : ∀ j, wz.cell? ⟨w4.heap.size, j, none⟩ = #[Value.int .i64 1, .int .i64 1, .int .i64 0, .int .i64 1, .int .i64 0, .int .i64 1, .int .i64 1, .int .i64 1, .int .i64 0, .int .i64 1, .int .i64 0, .int .i64 1][j]? := fun j => by rw [← hwz, World.cell?_alloc_past _ _ _ s6_3, o6_3, World.cell?_alloc_past _ _ _ s5_3, o5_3, World.cell?_alloc_new]
  have b10 : ∀ j, wz.cell? ⟨w5.heap.size, j, none⟩ = #[.int .i64 hm.A.n, .int .i64 hm.A.d, .int .i64 hm.B.n, .int .i64 hm.B.d, .int .i64 hm.C.n, .int .i64 hm.C.d, .int .i64 hm.D.n, .int .i64 hm.D.d, .int .i64 hm.E.n, .int .i64 hm.E.d, .int .i64 hm.F.n, .int .i64 hm.F.d][j]? := fun j => by rw [← hwz, World.cell?_alloc_past _ _ _ s6_4, o6_4, World.cell?_alloc_new]
  have b12 : ∀ j, wz.cell? ⟨w6.heap.size, j, none⟩ = #[.int .i64 hm.A.n, .int .i64 hm.A.d, .int .i64 hm.B.n, .int .i64 hm.B.d, .int .i64 hm.C.n, .int .i64 hm.C.d, .int .i64 hm.D.n, .int .i64 hm.D.d, .int .i64 hm.E.n, .int .i64 hm.E.d, .int .i64 hm.F.n, .int .i64 hm.F.d][j]? := fun j => by rw [← hwz, World.cell?_alloc_new]
  have bp : ∀ j, wz.cell? ⟨w.heap.size, j, none⟩ = #[Value.int .i64 p.xn, .int .i64 p.xd, .int .i64 p.yn, .int .i64 p.yd][j]? := fun j => by rw [← hwz, World.cell?_alloc_past _ _ _ s6_0, o6_0, World.cell?_alloc_past _ _ _ s5_0, o5_0, World.cell?_alloc_past _ _ _ s4_0, o4_0, World.cell?_alloc_past _ _ _ s3_0, o3_0, World.cell?_alloc_past _ _ _ s2_0, o2_0, o1_0, World.cell?_alloc_new]
  have zz : wz.heap.size = w6.heap.size + 1 := by rw [← hwz]; simp
  have z2 : w2.heap.size < wz.heap.size := by omega
  have z3 : w3.heap.size < wz.heap.size := by omega
  have z4 : w4.heap.size < wz.heap.size := by omega
  have z5 : w5.heap.size < wz.heap.size := by omega
  have z6 : w6.heap.size < wz.heap.size := by omega
  have z0 : w.heap.size < wz.heap.size := by omega
  have SK : ∀ W, Below wz.heap.size wz W → Below wz.heap.size wz W ∧ (∀ j, W.cell? ⟨w3.heap.size, j, none⟩ = #[Value.int .i64 1, .int .i64 1, .int .i64 0, .int .i64 1, .int .i64 0, .int .i64 1, .int .i64 1, .int .i64 1, .int .i64 0, .int .i64 1, .int .i64 0, .int .i64 1][j]?) ∧ (∀ j, W.cell? ⟨w4.heap.size, j, none⟩ = #[Value.int .i64 1, .int .i64 1, .int .i64 0, .int .i64 1, .int .i64 0, .int .i64 1, .int .i64 1, .int .i64 1, .int .i64 0, .int .i64 1, .int .i64 0, .int .i64 1][j]?) ∧ (∀ j, W.cell? ⟨w5.heap.size, j, none⟩ = #[.int .i64 hm.A.n, .int .i64 hm.A.d, .int .i64 hm.B.n, .int .i64 hm.B.d, .int .i64 hm.C.n, .int .i64 hm.C.d, .int .i64 hm.D.n, .int .i64 hm.D.d, .int .i64 hm.E.n, .int .i64 hm.E.d, .int .i64 hm.F.n, .int .i64 hm.F.d][j]?) ∧ (∀ j, W.cell? ⟨w6.heap.size, j, none⟩ = #[.int .i64 hm.A.n, .int .i64 hm.A.d, .int .i64 hm.B.n, .int .i64 hm.B.d, .int .i64 hm.C.n, .int .i64 hm.C.d, .int .i64 hm.D.n, .int .i64 hm.D.d, .int .i64 hm.E.n, .int .i64 hm.E.d, .int .i64 hm.F.n, .int .i64 hm.F.d][j]?) := fun W h => ⟨h, fun j => by rw [h.cell (p := ⟨w3.heap.size, j, none⟩) z3]; exact b6 j, fun j => by rw [h.cell (p := ⟨w4.heap.size, j, none⟩) z4]; exact b8 j, fun j => by rw [h.cell (p := ⟨w5.heap.size, j, none⟩) z5]; exact b10 j, fun j => by rw [h.cell (p := ⟨w6.heap.size, j, none⟩) z6]; exact b12 j⟩
  rw [hwz]
  clear o1_0 f1_0 o2_0 f2_0 o3_0 f3_0 o3_1 f3_1 o4_0 f4_0 o4_1 f4_1 o4_2 f4_2 o5_0 f5_0 o5_1 f5_1 o5_2 f5_2 o5_3 f5_3 o6_0 f6_0 o6_1 f6_1 o6_2 f6_2 o6_3 f6_3 o6_4 f6_4 hwz
  have H_SK := Lib.hid SK
  clear SK
  go_region_held3 (fun W => Below wz.heap.size wz W ∧ (∀ j, W.cell? ⟨w3.heap.size, j, none⟩ = #[Value.int .i64 1, .int .i64 1, .int .i64 0, .int .i64 1, .int .i64 0, .int .i64 1, .int .i64 1, .int .i64 1, .int .i64 0, .int .i64 1, .int .i64 0, .int .i64 1][j]?) ∧ (∀ j, W.cell? ⟨w4.heap.size, j, none⟩ = #[Value.int .i64 1, .int .i64 1, .int .i64 0, .int .i64 1, .int .i64 0, .int .i64 1, .int .i64 1, .int .i64 1, .int .i64 0, .int .i64 1, .int .i64 0, .int .i64 1][j]?) ∧ (∀ j, W.cell? ⟨w5.heap.size, j, none⟩ = #[.int .i64 hm.A.n, .int .i64 hm.A.d, .int .i64 hm.B.n, .int .i64 hm.B.d, .int .i64 hm.C.n, .int .i64 hm.C.d, .int .i64 hm.D.n, .int .i64 hm.D.d, .int .i64 hm.E.n, .int .i64 hm.E.d, .int .i64 hm.F.n, .int .i64 hm.F.d][j]?) ∧ (∀ j, W.cell? ⟨w6.heap.size, j, none⟩ = #[.int .i64 hm.A.n, .int .i64 hm.A.d, .int .i64 hm.B.n, .int .i64 hm.B.d, .int .i64 hm.C.n, .int .i64 hm.C.d, .int .i64 hm.D.n, .int .i64 hm.D.d, .int .i64 hm.E.n, .int .i64 hm.E.d, .int .i64 hm.F.n, .int .i64 hm.F.d][j]?)) (exact H_SK.out _ (by repeat' (first | (with_reducible exact Below.refl _ _) | (with_reducible assumption) | (with_reducible refine bdn ?_) | (with_reducible refine Below.alloc ?_ ?_ _) | (with_reducible refine Below.drew ?_) | (with_reducible refine Below.setCell ?_ ?_ _) | omega | (simp <;> omega))))
    (first | (have hchk := hbU.size; clear hchk; (with_reducible refine (mone_any _).mono ?_); rintro en wV ⟨rfl, hV⟩; have hbV : Below wz.heap.size wz wV := below_via (by repeat' (first | (with_reducible exact Below.refl _ _) | (with_reducible assumption) | (with_reducible refine bdn ?_) | (with_reducible refine Below.alloc ?_ ?_ _) | (with_reducible refine Below.drew ?_) | (with_reducible refine Below.setCell ?_ ?_ _) | omega | (simp <;> omega))) hV; have tV := hbV.size) | ((with_reducible refine (mone_any _).mono ?_); rintro en wU ⟨rfl, hU⟩; have hbU : Below wz.heap.size wz wU := below_via (by repeat' (first | (with_reducible exact Below.refl _ _) | (with_reducible assumption) | (with_reducible refine bdn ?_) | (with_reducible refine Below.alloc ?_ ?_ _) | (with_reducible refine Below.drew ?_) | (with_reducible refine Below.setCell ?_ ?_ _) | omega | (simp <;> omega))) hU; have tU := hbU.size))
  all_goals
    have c4 := fun j => (hbV.cell (p := ⟨w2.heap.size, j, none⟩) z2).trans (b4 j)
    have cp := fun j => (hbV.cell (p := ⟨w.heap.size, j, none⟩) z0).trans (bp j)
    have hBV : Below w.heap.size w wV := below_via hBz hbV
    have zV0 : w.heap.size < wV.heap.size := by omega
    have zV2 : w2.heap.size < wV.heap.size := by omega
    clear b4 b6 b8 b10 b12 bp H_SK
    by_cases hat : atC tm p = (0, none)
    · obtain ⟨hav, hni⟩ := H_hta.out hat
      have hw : wrap64 (-p.yn) = -p.yn := by
        apply IntWalk.wrap64_in; unfold I64 at hni; omega
      have H_hat := Lib.hid hat
      clear hat
      have H_hav := Lib.hid hav
      clear hav
      ((try go_simp); (repeat go_step))
      refine call_qe (w := w) (by repeat' (first | (with_reducible exact Below.refl _ _) | (with_reducible assumption) | (with_reducible refine bdn ?_) | (with_reducible refine Below.alloc ?_ ?_ _) | (with_reducible refine Below.drew ?_) | (with_reducible refine Below.setCell ?_ ?_ _) | omega | (simp <;> omega))) (fun HB => mat_any ea tm p _ H_htI.out H_ip.out (H_hG.out.keep HB rfl) (Nat.le_trans hng HB.size)) ?_
      rw [H_hav.out, H_hat.out]
      intro x7 w7 hx7 hb7 hz7 c7 d7 hW7
      have t7 := hb7.size
      try simp only [World.size_alloc] at hz7 c7 d7
      try simp only [World.size_drew] at hz7 c7 d7
      try simp only [World.size_setCell] at hz7 c7 d7
      try simp only [World.heap_drewN] at hz7 c7 d7
      try simp only [World.size_alloc] at hz7 c7 d7
      try simp only [World.size_drew] at hz7 c7 d7
      try simp only [World.size_setCell] at hz7 c7 d7
      have s7_0 : w.heap.size < w7.heap.size := by omega
      have o7_0 := fun j => c7 (w.heap.size) j (by omega)
      have f7_0 := fun j => d7 (w.heap.size) j (by omega)
      clear c7 d7 hz7 hW7
      obtain rfl := hx7.nil rfl
      ((try go_simp); (repeat go_step))
      go_returns
      exact ⟨rfl, by repeat' (first | (with_reducible exact Below.refl _ _) | (with_reducible assumption) | (with_reducible refine bdn ?_) | (with_reducible refine Below.alloc ?_ ?_ _) | (with_reducible refine Below.drew ?_) | (with_reducible refine Below.setCell ?_ ?_ _) | omega | (simp <;> omega))⟩
    · have hc1 : (atC tm p).1 ≠ 0 := by
        rcases at_cases tm p with ⟨k, e⟩ | ⟨_, k, e⟩ | ⟨_, _, k, e⟩ | ⟨_, _, _, _, e⟩ | ⟨_, _, _, _, e⟩
        · rw [e]; exact k
        · rw [e]; exact k
        · rw [e]; exact k
        · rw [e]; decide
        · exact absurd e hat
      have hav := atV_n hc1
      obtain ⟨cc, hcc⟩ : ∃ cc, atC tm p = cc := ⟨_, rfl⟩
      rw [hcc] at hc1
      clear hat
      have H_hav := Lib.hid hav
      clear hav
      have H_hc1 := Lib.hid hc1
      clear hc1
      have H_hcc := Lib.hid hcc
      clear hcc
      ((try go_simp); (repeat go_step))
      refine call_qe (w := w) (by repeat' (first | (with_reducible exact Below.refl _ _) | (with_reducible assumption) | (with_reducible refine bdn ?_) | (with_reducible refine Below.alloc ?_ ?_ _) | (with_reducible refine Below.drew ?_) | (with_reducible refine Below.setCell ?_ ?_ _) | omega | (simp <;> omega))) (fun HB => mat_any ea tm p _ H_htI.out H_ip.out (H_hG.out.keep HB rfl) (Nat.le_trans hng HB.size)) ?_
      rw [H_hav.out, H_hcc.out]
      intro x7 w7 hx7 hb7 hz7 c7 d7 hW7
      have t7 := hb7.size
      try simp only [World.size_alloc] at hz7 c7 d7
      try simp only [World.size_drew] at hz7 c7 d7
      try simp only [World.size_setCell] at hz7 c7 d7
      try simp only [World.heap_drewN] at hz7 c7 d7
      try simp only [World.size_alloc] at hz7 c7 d7
      try simp only [World.size_drew] at hz7 c7 d7
      try simp only [World.size_setCell] at hz7 c7 d7
      have s7_0 : w.heap.size < w7.heap.size := by omega
      have o7_0 := fun j => c7 (w.heap.size) j (by omega)
      have f7_0 := fun j => d7 (w.heap.size) j (by omega)
      clear c7 d7 hz7 hW7
      obtain ⟨tt, aa, rfl⟩ := hx7.some H_hc1.out
      clear hx7
      ((try go_simp); (repeat go_step))
      go_returns
      exact ⟨rfl, by repeat' (first | (with_reducible exact Below.refl _ _) | (with_reducible assumption) | (with_reducible refine bdn ?_) | (with_reducible refine Below.alloc ?_ ?_ _) | (with_reducible refine Below.drew ?_) | (with_reducible refine Below.setCell ?_ ?_ _) | omega | (simp <;> omega))⟩
end Go.Proofs.YtogfphojfkdcgaaDoor
