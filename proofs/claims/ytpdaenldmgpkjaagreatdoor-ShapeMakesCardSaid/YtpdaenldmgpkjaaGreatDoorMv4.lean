/-
  Walks over package move: of, to, At.
-/
import Derived.Test.YtpdaenldmgpkjaaGreatDoorMv2
namespace Go.Proofs.YtpdaenldmgpkjaaGreatDoor
open Go.RowKit Lead
variable {gz : Bool}

theorem fmulF (ea : Nat → Addr) (a b : Fr) (ia : a.I) (ib : b.I) (W : World) (g : Gs gz ea W) : Calls Tryz.prog 144 #[.agg #[.int .i64 a.n, .int .i64 a.d], .agg #[.int .i64 b.n, .int .i64 b.d]] W fun en W' => en = .returned (frV 308 ea (a.mulK b) (a.mul b).n (a.mul b).d) ∧ Below W.heap.size W W' := fmul_f ea a b _ W ia ib g.c3 g.c2 rfl
theorem faddF (ea : Nat → Addr) (a b : Fr) (ia : a.I) (ib : b.I) (W : World) (g : Gs gz ea W) : Calls Tryz.prog 55 #[.agg #[.int .i64 a.n, .int .i64 a.d], .agg #[.int .i64 b.n, .int .i64 b.d]] W fun en W' => en = .returned (frV 308 ea (a.addK b) (a.add b).n (a.add b).d) ∧ Below W.heap.size W W' := fadd_f ea a b _ W ia ib g.c3 g.c2 rfl

set_option maxHeartbeats 2000000 in
theorem sof_any (ea : Nat → Addr) (e e' s : Nat) (a b c d v : Fr) (w : World) (hv : ofV e a b c d = v) (he' : ofE e a b c d = e') (ia : a.I) (ib : b.I) (ic : c.I) (id : d.I)
    (hs0 : w.heap[s]? = some (.cells #[evl 308 ea e] 158 (0, 0))) (hsg : 20 ≤ s) (hG : Gs gz ea w) :
    Calls Tryz.prog 120 #[.pointer (some ⟨s, 0, none⟩), .agg #[.int .i64 a.n, .int .i64 a.d], .agg #[.int .i64 b.n, .int .i64 b.d], .agg #[.int .i64 c.n, .int .i64 c.d], .agg #[.int .i64 d.n, .int .i64 d.d]] w fun en w' => en = .returned (.agg #[.int .i64 v.n, .int .i64 v.d]) ∧ But s 158 (evl 308 ea e') w w' := by
  have hc := cell_of_one hs0
  have hf := free_of_one hs0
  have hl := lt_of_block hs0
  have hnw_0 : ¬ w.heap.size = s := by omega
  have hmw_0 : ¬ s = w.heap.size := by omega
  have hnw_1 : ¬ w.heap.size + 1 = s := by omega
  have hmw_1 : ¬ s = w.heap.size + 1 := by omega
  have hlw_1 : s < w.heap.size + 1 := by omega
  have hnw_2 : ¬ w.heap.size + 1 + 1 = s := by omega
  have hmw_2 : ¬ s = w.heap.size + 1 + 1 := by omega
  have hlw_2 : s < w.heap.size + 1 + 1 := by omega
  have hnw_3 : ¬ w.heap.size + 1 + 1 + 1 = s := by omega
  have hmw_3 : ¬ s = w.heap.size + 1 + 1 + 1 := by omega
  have hlw_3 : s < w.heap.size + 1 + 1 + 1 := by omega
  have hnw_4 : ¬ w.heap.size + 1 + 1 + 1 + 1 = s := by omega
  have hmw_4 : ¬ s = w.heap.size + 1 + 1 + 1 + 1 := by omega
  have hlw_4 : s < w.heap.size + 1 + 1 + 1 + 1 := by omega
  have hnw_5 : ¬ w.heap.size + 1 + 1 + 1 + 1 + 1 = s := by omega
  have hmw_5 : ¬ s = w.heap.size + 1 + 1 + 1 + 1 + 1 := by omega
  have hlw_5 : s < w.heap.size + 1 + 1 + 1 + 1 + 1 := by omega
  have iX := ofX_I e a b
  have iY := ofY_I e a b c d
  obtain ⟨x, hX⟩ : ∃ x, ofX e a b = x := ⟨_, rfl⟩
  obtain ⟨y, hY⟩ : ∃ x, ofY e a b c d = x := ⟨_, rfl⟩
  obtain ⟨e1, h1⟩ : ∃ x, ofE1 e a b = x := ⟨_, rfl⟩
  obtain ⟨e2, h2⟩ : ∃ x, ofE2 e a b c d = x := ⟨_, rfl⟩
  have hY' : dV e1 (c.mulK d) (c.mul d) = y := by rw [← h1]; exact hY
  have h2' : dE e1 (c.mulK d) = e2 := by rw [← h1]; exact h2
  have hv' : dV e2 (x.addK y) (x.add y) = v := by rw [← hv, ← hX, ← hY, ← h2]; rfl
  have he'' : dE e2 (x.addK y) = e' := by rw [← he', ← hX, ← hY, ← h2]; rfl
  rw [hX] at iX
  rw [hY] at iY
  have hb0 := But.refl hs0
  have H_hX := Lib.hid hX
  clear hX
  have H_hY := Lib.hid hY
  clear hY
  have H_h1 := Lib.hid h1
  clear h1
  have H_h2 := Lib.hid h2
  clear h2
  have H_hv := Lib.hid hv
  clear hv
  have H_he' := Lib.hid he'
  clear he'
  have H_hs0 := Lib.hid hs0
  clear hs0
  have H_hY' := Lib.hid hY'
  clear hY'
  have H_h2' := Lib.hid h2'
  clear h2'
  have H_hv' := Lib.hid hv'
  clear hv'
  have H_he'' := Lib.hid he''
  clear he''
  have H_hG := Lib.hid hG
  clear hG
  have H_iX := Lib.hid iX
  clear iX
  have H_iY := Lib.hid iY
  clear iY
  have H_ia := Lib.hid ia
  clear ia
  have H_ib := Lib.hid ib
  clear ib
  have H_ic := Lib.hid ic
  clear ic
  have H_id := Lib.hid id
  clear id
  go_enter Tryz.func120, Tryz.ntmps120
  go_wp2_with fail
  refine call_s2 (w := w) (s := s) (t := 158) (by repeat' (first | (with_reducible assumption) | (with_reducible exact But.refl (by assumption)) | (with_reducible refine But.drewN ?_) | (with_reducible refine But.alloc ?_ _) | (with_reducible refine But.drew ?_) | (with_reducible refine But.setCell ?_ ?_ _) | omega | (simp <;> omega))) (fun HB => sdo_mul ea e (a.mulK b) e1 s a b (a.mul b) x _ H_hX.out H_h1.out (fmulF ea a b H_ia.out H_ib.out) HB.at' hsg (H_hG.out.but HB hsg)) ?_
  intro w1 hb1 hz1 c1 d1 hW1
  have t1 := hb1.size
  have hs1 := hb1.here
  have hf1 := hb1.free
  have ha1 := hb1.at'
  have hl1 : s < w1.heap.size := Nat.lt_of_lt_of_le hb1.lt t1
  have hnw1_0 : ¬ w1.heap.size = s := by omega
  have hmw1_0 : ¬ s = w1.heap.size := by omega
  have hnw1_1 : ¬ w1.heap.size + 1 = s := by omega
  have hmw1_1 : ¬ s = w1.heap.size + 1 := by omega
  have hlw1_1 : s < w1.heap.size + 1 := by omega
  have hnw1_2 : ¬ w1.heap.size + 1 + 1 = s := by omega
  have hmw1_2 : ¬ s = w1.heap.size + 1 + 1 := by omega
  have hlw1_2 : s < w1.heap.size + 1 + 1 := by omega
  try simp only [szA] at hz1 c1 d1
  try simp only [szD] at hz1 c1 d1
  try simp only [szS] at hz1 c1 d1
  try simp only [World.heap_drewN] at hz1 c1 d1
  try simp only [szA] at hz1 c1 d1
  try simp only [szD] at hz1 c1 d1
  try simp only [szS] at hz1 c1 d1
  have s1_0 : w.heap.size < w1.heap.size := by omega
  have o1_0 := fun j => c1 (w.heap.size) j (by omega) (by omega)
  have f1_0 := fun j => d1 (w.heap.size) j (by omega) (by omega)
  have s1_1 : w.heap.size + 1 < w1.heap.size := by omega
  have o1_1 := fun j => c1 (w.heap.size + 1) j (by omega) (by omega)
  have f1_1 := fun j => d1 (w.heap.size + 1) j (by omega) (by omega)
  have s1_2 : w.heap.size + 1 + 1 < w1.heap.size := by omega
  have o1_2 := fun j => c1 (w.heap.size + 1 + 1) j (by omega) (by omega)
  have f1_2 := fun j => d1 (w.heap.size + 1 + 1) j (by omega) (by omega)
  have s1_3 : w.heap.size + 1 + 1 + 1 < w1.heap.size := by omega
  have o1_3 := fun j => c1 (w.heap.size + 1 + 1 + 1) j (by omega) (by omega)
  have f1_3 := fun j => d1 (w.heap.size + 1 + 1 + 1) j (by omega) (by omega)
  have s1_4 : w.heap.size + 1 + 1 + 1 + 1 < w1.heap.size := by omega
  have o1_4 := fun j => c1 (w.heap.size + 1 + 1 + 1 + 1) j (by omega) (by omega)
  have f1_4 := fun j => d1 (w.heap.size + 1 + 1 + 1 + 1) j (by omega) (by omega)
  clear c1 d1 hz1
  go_wp2_with fail
  refine call_s2 (w := w) (s := s) (t := 158) (by repeat' (first | (with_reducible assumption) | (with_reducible exact But.refl (by assumption)) | (with_reducible refine But.drewN ?_) | (with_reducible refine But.alloc ?_ _) | (with_reducible refine But.drew ?_) | (with_reducible refine But.setCell ?_ ?_ _) | omega | (simp <;> omega))) (fun HB => sdo_mul ea e1 (c.mulK d) e2 s c d (c.mul d) y _ H_hY'.out H_h2'.out (fmulF ea c d H_ic.out H_id.out) HB.at' hsg (H_hG.out.but HB hsg)) ?_
  intro w2 hb2 hz2 c2 d2 hW2
  have t2 := hb2.size
  have hs2 := hb2.here
  have hf2 := hb2.free
  have ha2 := hb2.at'
  have hl2 : s < w2.heap.size := Nat.lt_of_lt_of_le hb2.lt t2
  have hnw2_0 : ¬ w2.heap.size = s := by omega
  have hmw2_0 : ¬ s = w2.heap.size := by omega
  have hnw2_1 : ¬ w2.heap.size + 1 = s := by omega
  have hmw2_1 : ¬ s = w2.heap.size + 1 := by omega
  have hlw2_1 : s < w2.heap.size + 1 := by omega
  have hnw2_2 : ¬ w2.heap.size + 1 + 1 = s := by omega
  have hmw2_2 : ¬ s = w2.heap.size + 1 + 1 := by omega
  have hlw2_2 : s < w2.heap.size + 1 + 1 := by omega
  try simp only [szA] at hz2 c2 d2
  try simp only [szD] at hz2 c2 d2
  try simp only [szS] at hz2 c2 d2
  try simp only [World.heap_drewN] at hz2 c2 d2
  try simp only [szA] at hz2 c2 d2
  try simp only [szD] at hz2 c2 d2
  try simp only [szS] at hz2 c2 d2
  have s2_0 : w.heap.size < w2.heap.size := by omega
  have o2_0 := fun j => c2 (w.heap.size) j (by omega) (by omega)
  have f2_0 := fun j => d2 (w.heap.size) j (by omega) (by omega)
  have s2_1 : w.heap.size + 1 < w2.heap.size := by omega
  have o2_1 := fun j => c2 (w.heap.size + 1) j (by omega) (by omega)
  have f2_1 := fun j => d2 (w.heap.size + 1) j (by omega) (by omega)
  have s2_2 : w.heap.size + 1 + 1 < w2.heap.size := by omega
  have o2_2 := fun j => c2 (w.heap.size + 1 + 1) j (by omega) (by omega)
  have f2_2 := fun j => d2 (w.heap.size + 1 + 1) j (by omega) (by omega)
  have s2_3 : w.heap.size + 1 + 1 + 1 < w2.heap.size := by omega
  have o2_3 := fun j => c2 (w.heap.size + 1 + 1 + 1) j (by omega) (by omega)
  have f2_3 := fun j => d2 (w.heap.size + 1 + 1 + 1) j (by omega) (by omega)
  have s2_4 : w.heap.size + 1 + 1 + 1 + 1 < w2.heap.size := by omega
  have o2_4 := fun j => c2 (w.heap.size + 1 + 1 + 1 + 1) j (by omega) (by omega)
  have f2_4 := fun j => d2 (w.heap.size + 1 + 1 + 1 + 1) j (by omega) (by omega)
  have s2_5 : w1.heap.size < w2.heap.size := by omega
  have o2_5 := fun j => c2 (w1.heap.size) j (by omega) (by omega)
  have f2_5 := fun j => d2 (w1.heap.size) j (by omega) (by omega)
  clear c2 d2 hz2
  go_wp2_with fail
  refine call_s2 (w := w) (s := s) (t := 158) (by repeat' (first | (with_reducible assumption) | (with_reducible exact But.refl (by assumption)) | (with_reducible refine But.drewN ?_) | (with_reducible refine But.alloc ?_ _) | (with_reducible refine But.drew ?_) | (with_reducible refine But.setCell ?_ ?_ _) | omega | (simp <;> omega))) (fun HB => sdo_add ea e2 (x.addK y) e' s x y (x.add y) v _ H_hv'.out H_he''.out (faddF ea x y H_iX.out H_iY.out) HB.at' hsg (H_hG.out.but HB hsg)) ?_
  intro w3 hb3 hz3 c3 d3 hW3
  have t3 := hb3.size
  have hs3 := hb3.here
  have hf3 := hb3.free
  have ha3 := hb3.at'
  have hl3 : s < w3.heap.size := Nat.lt_of_lt_of_le hb3.lt t3
  have hnw3_0 : ¬ w3.heap.size = s := by omega
  have hmw3_0 : ¬ s = w3.heap.size := by omega
  have hnw3_1 : ¬ w3.heap.size + 1 = s := by omega
  have hmw3_1 : ¬ s = w3.heap.size + 1 := by omega
  have hlw3_1 : s < w3.heap.size + 1 := by omega
  have hnw3_2 : ¬ w3.heap.size + 1 + 1 = s := by omega
  have hmw3_2 : ¬ s = w3.heap.size + 1 + 1 := by omega
  have hlw3_2 : s < w3.heap.size + 1 + 1 := by omega
  try simp only [szA] at hz3 c3 d3
  try simp only [szD] at hz3 c3 d3
  try simp only [szS] at hz3 c3 d3
  try simp only [World.heap_drewN] at hz3 c3 d3
  try simp only [szA] at hz3 c3 d3
  try simp only [szD] at hz3 c3 d3
  try simp only [szS] at hz3 c3 d3
  have s3_0 : w.heap.size + 1 + 1 + 1 + 1 < w3.heap.size := by omega
  have o3_0 := fun j => c3 (w.heap.size + 1 + 1 + 1 + 1) j (by omega) (by omega)
  have f3_0 := fun j => d3 (w.heap.size + 1 + 1 + 1 + 1) j (by omega) (by omega)
  clear c3 d3 hz3
  go_wp2_with fail
  refine bodyPost_ret (by simp [results, Tryz.results120, go_sem, *]; try rfl) rfl ?_
  exact ⟨rfl, by repeat' (first | (with_reducible assumption) | (with_reducible exact But.refl (by assumption)) | (with_reducible refine But.drewN ?_) | (with_reducible refine But.alloc ?_ _) | (with_reducible refine But.drew ?_) | (with_reducible refine But.setCell ?_ ?_ _) | omega | (simp <;> omega))⟩
end Go.Proofs.YtpdaenldmgpkjaaGreatDoor
