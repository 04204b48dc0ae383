/-
  The walk over the statement ShapeHolds: right shapes; all together.
-/
import Derived.Test.YthpicnajemnfdaaDoorHolds2
namespace Go.Proofs.YthpicnajemnfdaaDoor
open Go.RowKit Lead


set_option maxHeartbeats 4000000 in
set_option maxRecDepth 100000 in
theorem hl_ok (ea : Nat → Addr) (ps : List Pt) (p : Pt) (s : ByteArray) (oa : Option Addr) (len cap : Nat) (w : World) (hs : SlP w oa len cap ps) (hpI : p.I) (hS : Sents ea w) (h40 : len ≤ 40) (h60 : s.size ≤ 60) (hc0 : shC ps = (0, none)) (hpc : p.c = 0) (hrule : (s.toList == [119, 105, 110, 100]) = true ∨ (s.toList == [101, 118, 101, 110]) = true ∨ ((s.toList == [119, 105, 110, 100]) = false ∧ (s.toList == [101, 118, 101, 110]) = false)) :
    Calls Tryd.prog 8 #[.slice oa len cap, .agg #[.int .i64 p.xn, .int .i64 p.xd, .int .i64 p.yn, .int .i64 p.yd], .string s] w fun e w' => e = .returned (.bool true) ∧ Below w.heap.size w w' := by
  have hBound := hS.c2
  have hShape := hS.c3
  have hValue := hS.c10
  have zhShape := zlt hShape
  have xhShape := zlts hShape
  have yhShape := zne hShape
  have zhBound := zlt hBound
  have xhBound := zlts hBound
  have yhBound := zne hBound
  have zhValue := zlt hValue
  have xhValue := zlts hValue
  have yhValue := zne hValue
  have g1 : decide (40 < (len : Int)) = false := by simp; omega
  have g2 : decide (60 < (s.size : Int)) = false := by simp; omega
  have hI := hs.2.2.2.1
  have hlen := hs.1
  obtain ⟨c, hcc⟩ : ∃ c : Int, ((shC ps).1 : Int) = c := ⟨_, rfl⟩
  obtain ⟨d, hd⟩ : ∃ d, atI (shC ps).2 = d := ⟨_, rfl⟩
  have g4 : (c == 0) = true := by rw [← hcc, hc0]; rfl
  have g5 : ¬ 0 < c := by have : c = 0 := by rw [← hcc, hc0]; rfl
                          omega
  have hpc' : (p.c : Int) = 0 := by omega
  have hcr : crC ps p = (0, none) := by unfold crC; rw [if_pos hc0, if_pos hpc]
  obtain ⟨n, hn0⟩ : ∃ n, (crL ps p).sum = n := ⟨_, rfl⟩
  obtain ⟨m, hk0⟩ : ∃ n, ((crL ps p).length : Int) = n := ⟨_, rfl⟩
  obtain ⟨be, hbe⟩ : ∃ b, (((crL ps p).length : Int) % 2 == 1) = b := ⟨_, rfl⟩
  obtain ⟨bw, hbw⟩ : ∃ b, ((crL ps p).sum != 0) = b := ⟨_, rfl⟩
  have hbe' : ((m : Int) % 2 == 1) = be := by rw [← hk0]; exact hbe
  have hbw' : (n != 0) = bw := by rw [← hn0]; exact hbw
  have H_hs := Lib.hid hs
  clear hs
  have H_hS := Lib.hid hS
  clear hS
  have H_hcc := Lib.hid hcc
  clear hcc
  have H_hd := Lib.hid hd
  clear hd
  have H_hc0 := Lib.hid hc0
  clear hc0
  have H_hI := Lib.hid hI
  clear hI
  have H_hlen := Lib.hid hlen
  clear hlen
  have H_hcr := Lib.hid hcr
  clear hcr
  have H_hn0 := Lib.hid hn0
  clear hn0
  have H_hk0 := Lib.hid hk0
  clear hk0
  have H_hpc := Lib.hid hpc
  clear hpc
  have H_hpc' := Lib.hid hpc'
  clear hpc'
  have H_hbe := Lib.hid hbe
  clear hbe
  have H_hbw := Lib.hid hbw
  clear hbw
  have H_hbe' := Lib.hid hbe'
  clear hbe'
  have H_hbw' := Lib.hid hbw'
  clear hbw'
  go_enter Tryd.func8, Tryd.ntmps8
  go_wp2_with fail
  refine call_bel (w := w) (by repeat' (first | (with_reducible exact Below.refl _ _) | (with_reducible assumption) | (with_reducible refine bdn ?_) | (with_reducible refine Below.alloc ?_ ?_ _) | (with_reducible refine Below.drew ?_) | (with_reducible refine Below.setCell ?_ ?_ _) | omega | (simp <;> omega))) (fun HB => shaped_any ea _ (gkeep HB hShape rfl) (gkeep HB hBound rfl)) ?_
  intro w1 hb1 hz1 c1 d1 hW1
  have t1 := hb1.size
  try simp only [World.size_alloc] at hz1 c1 d1
  try simp only [World.size_drew] at hz1 c1 d1
  try simp only [World.size_setCell] at hz1 c1 d1
  try simp only [World.heap_drewN] at hz1 c1 d1
  try simp only [World.size_alloc] at hz1 c1 d1
  try simp only [World.size_drew] at hz1 c1 d1
  try simp only [World.size_setCell] at hz1 c1 d1
  have s1_0 : w.heap.size < w1.heap.size := by omega
  have o1_0 := fun j => c1 (w.heap.size) j (by omega)
  have f1_0 := fun j => d1 (w.heap.size) j (by omega)
  clear c1 d1 hz1 hW1
  go_wp2_with fail
  refine call_p (w := w) (by repeat' (first | (with_reducible exact Below.refl _ _) | (with_reducible assumption) | (with_reducible refine bdn ?_) | (with_reducible refine Below.alloc ?_ ?_ _) | (with_reducible refine Below.drew ?_) | (with_reducible refine Below.setCell ?_ ?_ _) | omega | (simp <;> omega))) (fun HB => ownpoints_any ps _ _ _ _ (H_hs.out.keep HB rfl) (by omega)) ?_
  intro v2 w2 hv2 hb2 hz2 c2 d2 hW2
  have t2 := hb2.size
  try simp only [World.size_alloc] at hz2 c2 d2
  try simp only [World.size_drew] at hz2 c2 d2
  try simp only [World.size_setCell] at hz2 c2 d2
  try simp only [World.heap_drewN] at hz2 c2 d2
  try simp only [World.size_alloc] at hz2 c2 d2
  try simp only [World.size_drew] at hz2 c2 d2
  try simp only [World.size_setCell] at hz2 c2 d2
  have s2_0 : w.heap.size < w2.heap.size := by omega
  have o2_0 := fun j => c2 (w.heap.size) j (by omega)
  have f2_0 := fun j => d2 (w.heap.size) j (by omega)
  clear c2 d2 hz2 hW2
  obtain ⟨oa2, cap2, rfl, hs2⟩ := hv2.slp H_hI.out
  have H_hs2 := Lib.hid hs2
  clear hs2
  have H_hv2 := Lib.hid hv2
  clear hv2
  go_wp2_with fail
  refine call_bel (w := w) (by repeat' (first | (with_reducible exact Below.refl _ _) | (with_reducible assumption) | (with_reducible refine bdn ?_) | (with_reducible refine Below.alloc ?_ ?_ _) | (with_reducible refine Below.drew ?_) | (with_reducible refine Below.setCell ?_ ?_ _) | omega | (simp <;> omega))) (fun HB => rshapefault_c ps oa _ cap c d _ (H_hs.out.keep HB rfl) H_hcc.out H_hd.out) ?_
  intro w3 hb3 hz3 c3 d3 hW3
  have t3 := hb3.size
  have e3_2 : Below w2.heap.size w2 w3 := below_via (by repeat' (first | (with_reducible exact Below.refl _ _) | (with_reducible assumption) | (with_reducible refine bdn ?_) | (with_reducible refine Below.alloc ?_ ?_ _) | (with_reducible refine Below.drew ?_) | (with_reducible refine Below.setCell ?_ ?_ _) | omega | (simp <;> omega))) hW3
  have te3_2 := e3_2.size
  try simp only [World.size_alloc] at hz3 c3 d3
  try simp only [World.size_drew] at hz3 c3 d3
  try simp only [World.size_setCell] at hz3 c3 d3
  try simp only [World.heap_drewN] at hz3 c3 d3
  try simp only [World.size_alloc] at hz3 c3 d3
  try simp only [World.size_drew] at hz3 c3 d3
  try simp only [World.size_setCell] at hz3 c3 d3
  have s3_0 : w.heap.size < w3.heap.size := by omega
  have o3_0 := fun j => c3 (w.heap.size) j (by omega)
  have f3_0 := fun j => d3 (w.heap.size) j (by omega)
  have s3_1 : w2.heap.size < w3.heap.size := by omega
  have o3_1 := fun j => c3 (w2.heap.size) j (by omega)
  have f3_1 := fun j => d3 (w2.heap.size) j (by omega)
  clear c3 d3 hz3 hW3
  have p2 : ∀ j, w3.cell? ⟨w2.heap.size, j, none⟩ = #[Value.slice oa2 ps.length cap2][j]? := fun j => by rw [o3_1]; exact World.cell?_alloc_new _ _ _ _
  have p0 : ∀ j, w3.cell? ⟨w.heap.size, j, none⟩ = #[Value.int .i64 p.xn, .int .i64 p.xd, .int .i64 p.yn, .int .i64 p.yd][j]? := fun j => by rw [o3_0, World.cell?_alloc_lt _ _ _ (by simp; omega), o2_0, o1_0]; exact World.cell?_alloc_new _ _ _ _
  have SK : ∀ W, Below (w3.heap.size + 1) (w3.alloc (.cells #[.int .i64 c, .int .i64 d] 68)) W → Below (w3.heap.size + 1) (w3.alloc (.cells #[.int .i64 c, .int .i64 d] 68)) W ∧ (∀ j, W.cell? ⟨w2.heap.size, j, none⟩ = #[Value.slice oa2 ps.length cap2][j]?) ∧ (∀ j, W.cell? ⟨w3.heap.size, j, none⟩ = #[Value.int .i64 c, .int .i64 d][j]?) := by
    intro W h
    refine ⟨h, fun j => ?_, fun j => ?_⟩
    · rw [h.cell (by simp; omega), World.cell?_alloc_lt _ _ _ (by simp; omega)]; exact p2 j
    · rw [h.cell (by simp)]; exact World.cell?_alloc_new _ _ _ _
  have KB : ∀ W, Below (w3.heap.size + 1) (w3.alloc (.cells #[.int .i64 c, .int .i64 d] 68)) W → Below w3.heap.size w3 W := fun W h => ((Below.refl _ _).alloc (Nat.le_refl _) _).trans (h.mono (by omega))
  have HK : ∀ W, Below (w3.heap.size + 1) (w3.alloc (.cells #[.int .i64 c, .int .i64 d] 68)) W ∧ (∀ j, W.cell? ⟨w2.heap.size, j, none⟩ = #[Value.slice oa2 ps.length cap2][j]?) ∧ (∀ j, W.cell? ⟨w3.heap.size, j, none⟩ = #[Value.int .i64 c, .int .i64 d][j]?) → SlP W oa2 ps.length cap2 ps ∧ W.cell? ⟨2, 0, none⟩ = some (.iface 87 (.pointer (some (ea 3)))) ∧ W.cell? ⟨1, 0, none⟩ = some (.iface 87 (.pointer (some (ea 2)))) ∧ Sents ea W := by
    intro W h
    have k := KB W h.1
    have k' := hb3.trans (k.mono t3)
    exact ⟨(H_hs2.out.keep e3_2 rfl).keep k rfl, gkeep k' hShape rfl, gkeep k' hBound rfl, H_hS.out.keep k' rfl⟩
  have h11 := shC_le ps
  have H_SK := Lib.hid SK
  clear SK
  have H_KB := Lib.hid KB
  clear KB
  have H_HK := Lib.hid HK
  clear HK
  have H_h11 := Lib.hid h11
  clear h11
  go_wp2_with fail
  clear o1_0 f1_0 o2_0 f2_0 o3_0 f3_0 o3_1 f3_1
  go_region_held3 (fun W => Below (w3.heap.size + 1) (w3.alloc (.cells #[.int .i64 c, .int .i64 d] 68)) W ∧ (∀ j, W.cell? ⟨w2.heap.size, j, none⟩ = #[Value.slice oa2 ps.length cap2][j]?) ∧ (∀ j, W.cell? ⟨w3.heap.size, j, none⟩ = #[Value.int .i64 c, .int .i64 d][j]?)) (first | exact H_SK.out _ (Below.refl _ _).drew | exact H_SK.out _ (held_step (by simp) (by assumption) (by assumption)))
    (first | (go_at_call 33; (with_reducible refine (shcheck_any ea ps oa2 _ cap2 _ (H_HK.out _ (by assumption)).1 (H_HK.out _ (by assumption)).2.1 (H_HK.out _ (by assumption)).2.2.1).mono ?_); rintro e w' ⟨v, rfl, hx, hbb⟩) | (go_at_call 32; (with_reducible refine (faulted2_any ea (shC ps) c d _ _ _ hx (H_HK.out _ (by assumption)).2.2.2 H_h11.out H_hcc.out H_hd.out).mono ?_); rintro e w' ⟨rfl, hbb⟩))
  rename_i hh
  have hS1 := hh.1
  have o30_1 := hh.2.1
  have o30_2 := hh.2.2
  clear hh
  generalize hW : w' = w30 at *
  clear hW hbb
  have e30_3 : Below w3.heap.size w3 w30 := H_KB.out _ hS1
  have hb30 : Below w.heap.size w w30 := hb3.trans (e30_3.mono t3)
  have e30_2 : Below w2.heap.size w2 w30 := e3_2.trans (e30_3.mono te3_2)
  have o30_0 : ∀ j, w30.cell? ⟨w.heap.size, j, none⟩ = #[Value.int .i64 p.xn, .int .i64 p.xd, .int .i64 p.yn, .int .i64 p.yd][j]? := fun j => by rw [e30_3.cell (by simp; omega)]; exact p0 j
  have t30 : w3.heap.size + 1 ≤ w30.heap.size := by have := hS1.size; simpa using this
  have f30_2 : ∀ j, w30.frozen? ⟨w3.heap.size, j, none⟩ = (w3.alloc (.cells #[.int .i64 c, .int .i64 d] 68)).frozen? ⟨w3.heap.size, j, none⟩ := fun j => hS1.frozen (by simp)
  have s30_0 : w.heap.size < w30.heap.size := by omega
  have s30_1 : w2.heap.size < w30.heap.size := by omega
  have s30_2 : w3.heap.size < w30.heap.size := by omega
  have hShape_30 := gkeep hb30 hShape rfl
  have hBound_30 := gkeep hb30 hBound rfl
  have hValue_30 := gkeep hb30 hValue rfl
  have te30_2 := e30_2.size
  have te30_3 := e30_3.size
  clear p2 p0 hS1 hx
  have H_h11' := H_h11
  go_wp2_with fail
  refine call_bel (w := w) (by repeat' (first | (with_reducible exact Below.refl _ _) | (with_reducible assumption) | (with_reducible refine bdn ?_) | (with_reducible refine Below.alloc ?_ ?_ _) | (with_reducible refine Below.drew ?_) | (with_reducible refine Below.setCell ?_ ?_ _) | omega | (simp <;> omega))) (fun HB => rpoint_c p 0 _ hpI H_hpc'.out) ?_
  intro w31 hb31 hz31 c31 d31 hW31
  have t31 := hb31.size
  have e31_2 : Below w2.heap.size w2 w31 := below_via (by repeat' (first | (with_reducible exact Below.refl _ _) | (with_reducible assumption) | (with_reducible refine bdn ?_) | (with_reducible refine Below.alloc ?_ ?_ _) | (with_reducible refine Below.drew ?_) | (with_reducible refine Below.setCell ?_ ?_ _) | omega | (simp <;> omega))) hW31
  have te31_2 := e31_2.size
  have e31_3 : Below w3.heap.size w3 w31 := below_via (by repeat' (first | (with_reducible exact Below.refl _ _) | (with_reducible assumption) | (with_reducible refine bdn ?_) | (with_reducible refine Below.alloc ?_ ?_ _) | (with_reducible refine Below.drew ?_) | (with_reducible refine Below.setCell ?_ ?_ _) | omega | (simp <;> omega))) hW31
  have te31_3 := e31_3.size
  try simp only [World.size_alloc] at hz31 c31 d31
  try simp only [World.size_drew] at hz31 c31 d31
  try simp only [World.size_setCell] at hz31 c31 d31
  try simp only [World.heap_drewN] at hz31 c31 d31
  try simp only [World.size_alloc] at hz31 c31 d31
  try simp only [World.size_drew] at hz31 c31 d31
  try simp only [World.size_setCell] at hz31 c31 d31
  have s31_0 : w.heap.size < w31.heap.size := by omega
  have o31_0 := fun j => c31 (w.heap.size) j (by omega)
  have f31_0 := fun j => d31 (w.heap.size) j (by omega)
  have s31_1 : w2.heap.size < w31.heap.size := by omega
  have o31_1 := fun j => c31 (w2.heap.size) j (by omega)
  have f31_1 := fun j => d31 (w2.heap.size) j (by omega)
  have s31_2 : w3.heap.size < w31.heap.size := by omega
  have o31_2 := fun j => c31 (w3.heap.size) j (by omega)
  have f31_2 := fun j => d31 (w3.heap.size) j (by omega)
  clear c31 d31 hz31 hW31
  go_wp2_with fail
  refine call_ne (w := w) (by repeat' (first | (with_reducible exact Below.refl _ _) | (with_reducible assumption) | (with_reducible refine bdn ?_) | (with_reducible refine Below.alloc ?_ ?_ _) | (with_reducible refine Below.drew ?_) | (with_reducible refine Below.setCell ?_ ?_ _) | omega | (simp <;> omega))) (fun HB => shwind_any ea ps oa2 _ cap2 p _ (H_hs2.out.keep (B := w2.heap.size) (by repeat' (first | (with_reducible exact Below.refl _ _) | (with_reducible assumption) | (with_reducible refine bdn ?_) | (with_reducible refine Below.alloc ?_ ?_ _) | (with_reducible refine Below.drew ?_) | (with_reducible refine Below.setCell ?_ ?_ _) | omega | (simp <;> omega))) rfl) hpI (gkeep HB hShape rfl) (gkeep HB hBound rfl)) ?_
  rw [H_hn0.out, H_hcr.out]
  intro x4 w4 hx4 hb4 hz4 c4 d4 hW4
  have t4 := hb4.size
  have e4_2 : Below w2.heap.size w2 w4 := below_via (by repeat' (first | (with_reducible exact Below.refl _ _) | (with_reducible assumption) | (with_reducible refine bdn ?_) | (with_reducible refine Below.alloc ?_ ?_ _) | (with_reducible refine Below.drew ?_) | (with_reducible refine Below.setCell ?_ ?_ _) | omega | (simp <;> omega))) hW4
  have te4_2 := e4_2.size
  have e4_3 : Below w3.heap.size w3 w4 := below_via (by repeat' (first | (with_reducible exact Below.refl _ _) | (with_reducible assumption) | (with_reducible refine bdn ?_) | (with_reducible refine Below.alloc ?_ ?_ _) | (with_reducible refine Below.drew ?_) | (with_reducible refine Below.setCell ?_ ?_ _) | omega | (simp <;> omega))) hW4
  have te4_3 := e4_3.size
  try simp only [World.size_alloc] at hz4 c4 d4
  try simp only [World.size_drew] at hz4 c4 d4
  try simp only [World.size_setCell] at hz4 c4 d4
  try simp only [World.heap_drewN] at hz4 c4 d4
  try simp only [World.size_alloc] at hz4 c4 d4
  try simp only [World.size_drew] at hz4 c4 d4
  try simp only [World.size_setCell] at hz4 c4 d4
  have s4_0 : w.heap.size < w4.heap.size := by omega
  have o4_0 := fun j => c4 (w.heap.size) j (by omega)
  have f4_0 := fun j => d4 (w.heap.size) j (by omega)
  have s4_1 : w2.heap.size < w4.heap.size := by omega
  have o4_1 := fun j => c4 (w2.heap.size) j (by omega)
  have f4_1 := fun j => d4 (w2.heap.size) j (by omega)
  have s4_2 : w3.heap.size < w4.heap.size := by omega
  have o4_2 := fun j => c4 (w3.heap.size) j (by omega)
  have f4_2 := fun j => d4 (w3.heap.size) j (by omega)
  clear c4 d4 hz4 hW4
  obtain rfl := hx4.nil rfl
  go_wp2_with fail
  refine call_ne (w := w) (by repeat' (first | (with_reducible exact Below.refl _ _) | (with_reducible assumption) | (with_reducible refine bdn ?_) | (with_reducible refine Below.alloc ?_ ?_ _) | (with_reducible refine Below.drew ?_) | (with_reducible refine Below.setCell ?_ ?_ _) | omega | (simp <;> omega))) (fun HB => shcross_any' ea ps oa2 _ cap2 p _ (H_hs2.out.keep (B := w2.heap.size) (by repeat' (first | (with_reducible exact Below.refl _ _) | (with_reducible assumption) | (with_reducible refine bdn ?_) | (with_reducible refine Below.alloc ?_ ?_ _) | (with_reducible refine Below.drew ?_) | (with_reducible refine Below.setCell ?_ ?_ _) | omega | (simp <;> omega))) rfl) hpI (gkeep HB hShape rfl) (gkeep HB hBound rfl)) ?_
  rw [H_hk0.out, H_hcr.out]
  intro x5 w5 hx5 hb5 hz5 c5 d5 hW5
  have t5 := hb5.size
  have e5_2 : Below w2.heap.size w2 w5 := below_via (by repeat' (first | (with_reducible exact Below.refl _ _) | (with_reducible assumption) | (with_reducible refine bdn ?_) | (with_reducible refine Below.alloc ?_ ?_ _) | (with_reducible refine Below.drew ?_) | (with_reducible refine Below.setCell ?_ ?_ _) | omega | (simp <;> omega))) hW5
  have te5_2 := e5_2.size
  have e5_3 : Below w3.heap.size w3 w5 := below_via (by repeat' (first | (with_reducible exact Below.refl _ _) | (with_reducible assumption) | (with_reducible refine bdn ?_) | (with_reducible refine Below.alloc ?_ ?_ _) | (with_reducible refine Below.drew ?_) | (with_reducible refine Below.setCell ?_ ?_ _) | omega | (simp <;> omega))) hW5
  have te5_3 := e5_3.size
  have e5_4 : Below w4.heap.size w4 w5 := below_via (by repeat' (first | (with_reducible exact Below.refl _ _) | (with_reducible assumption) | (with_reducible refine bdn ?_) | (with_reducible refine Below.alloc ?_ ?_ _) | (with_reducible refine Below.drew ?_) | (with_reducible refine Below.setCell ?_ ?_ _) | omega | (simp <;> omega))) hW5
  have te5_4 := e5_4.size
  try simp only [World.size_alloc] at hz5 c5 d5
  try simp only [World.size_drew] at hz5 c5 d5
  try simp only [World.size_setCell] at hz5 c5 d5
  try simp only [World.heap_drewN] at hz5 c5 d5
  try simp only [World.size_alloc] at hz5 c5 d5
  try simp only [World.size_drew] at hz5 c5 d5
  try simp only [World.size_setCell] at hz5 c5 d5
  have s5_0 : w.heap.size < w5.heap.size := by omega
  have o5_0 := fun j => c5 (w.heap.size) j (by omega)
  have f5_0 := fun j => d5 (w.heap.size) j (by omega)
  have s5_1 : w2.heap.size < w5.heap.size := by omega
  have o5_1 := fun j => c5 (w2.heap.size) j (by omega)
  have f5_1 := fun j => d5 (w2.heap.size) j (by omega)
  have s5_2 : w3.heap.size < w5.heap.size := by omega
  have o5_2 := fun j => c5 (w3.heap.size) j (by omega)
  have f5_2 := fun j => d5 (w3.heap.size) j (by omega)
  clear c5 d5 hz5 hW5
  obtain rfl := hx5.nil rfl
  clear hx4 hx5
  rcases hrule with hr1 | hr1 | ⟨hr1, hr2⟩
  · rw [str_lit hr1]
    clear hr1
    go_wp2_with fail
    refine call_be (w := w) (by repeat' (first | (with_reducible exact Below.refl _ _) | (with_reducible assumption) | (with_reducible refine bdn ?_) | (with_reducible refine Below.alloc ?_ ?_ _) | (with_reducible refine Below.drew ?_) | (with_reducible refine Below.setCell ?_ ?_ _) | omega | (simp <;> omega))) (fun HB => shholds_wind ea ps oa2 _ cap2 p _ (H_hs2.out.keep (B := w2.heap.size) (by repeat' (first | (with_reducible exact Below.refl _ _) | (with_reducible assumption) | (with_reducible refine bdn ?_) | (with_reducible refine Below.alloc ?_ ?_ _) | (with_reducible refine Below.drew ?_) | (with_reducible refine Below.setCell ?_ ?_ _) | omega | (simp <;> omega))) rfl) hpI (gkeep HB hShape rfl) (gkeep HB hBound rfl)) ?_
    rw [H_hbw.out, H_hcr.out]
    intro x6 w6 hx6 hb6 hz6 c6 d6 hW6
    have t6 := hb6.size
    have e6_2 : Below w2.heap.size w2 w6 := below_via (by repeat' (first | (with_reducible exact Below.refl _ _) | (with_reducible assumption) | (with_reducible refine bdn ?_) | (with_reducible refine Below.alloc ?_ ?_ _) | (with_reducible refine Below.drew ?_) | (with_reducible refine Below.setCell ?_ ?_ _) | omega | (simp <;> omega))) hW6
    have te6_2 := e6_2.size
    have e6_3 : Below w3.heap.size w3 w6 := below_via (by repeat' (first | (with_reducible exact Below.refl _ _) | (with_reducible assumption) | (with_reducible refine bdn ?_) | (with_reducible refine Below.alloc ?_ ?_ _) | (with_reducible refine Below.drew ?_) | (with_reducible refine Below.setCell ?_ ?_ _) | omega | (simp <;> omega))) hW6
    have te6_3 := e6_3.size
    have e6_4 : Below w4.heap.size w4 w6 := below_via (by repeat' (first | (with_reducible exact Below.refl _ _) | (with_reducible assumption) | (with_reducible refine bdn ?_) | (with_reducible refine Below.alloc ?_ ?_ _) | (with_reducible refine Below.drew ?_) | (with_reducible refine Below.setCell ?_ ?_ _) | omega | (simp <;> omega))) hW6
    have te6_4 := e6_4.size
    have e6_5 : Below w5.heap.size w5 w6 := below_via (by repeat' (first | (with_reducible exact Below.refl _ _) | (with_reducible assumption) | (with_reducible refine bdn ?_) | (with_reducible refine Below.alloc ?_ ?_ _) | (with_reducible refine Below.drew ?_) | (with_reducible refine Below.setCell ?_ ?_ _) | omega | (simp <;> omega))) hW6
    have te6_5 := e6_5.size
    try simp only [World.size_alloc] at hz6 c6 d6
    try simp only [World.size_drew] at hz6 c6 d6
    try simp only [World.size_setCell] at hz6 c6 d6
    try simp only [World.heap_drewN] at hz6 c6 d6
    try simp only [World.size_alloc] at hz6 c6 d6
    try simp only [World.size_drew] at hz6 c6 d6
    try simp only [World.size_setCell] at hz6 c6 d6
    have s6_0 : w.heap.size < w6.heap.size := by omega
    have o6_0 := fun j => c6 (w.heap.size) j (by omega)
    have f6_0 := fun j => d6 (w.heap.size) j (by omega)
    have s6_1 : w2.heap.size < w6.heap.size := by omega
    have o6_1 := fun j => c6 (w2.heap.size) j (by omega)
    have f6_1 := fun j => d6 (w2.heap.size) j (by omega)
    have s6_2 : w3.heap.size < w6.heap.size := by omega
    have o6_2 := fun j => c6 (w3.heap.size) j (by omega)
    have f6_2 := fun j => d6 (w3.heap.size) j (by omega)
    clear c6 d6 hz6 hW6
    obtain rfl := hx6.nil rfl
    clear hx6
    go_wp2_with fail
    refine call_bel (w := w) (by repeat' (first | (with_reducible exact Below.refl _ _) | (with_reducible assumption) | (with_reducible refine bdn ?_) | (with_reducible refine Below.alloc ?_ ?_ _) | (with_reducible refine Below.drew ?_) | (with_reducible refine Below.setCell ?_ ?_ _) | omega | (simp <;> omega))) (fun HB => rcrossings_any ps p oa len cap m n _ (H_hs.out.keep HB rfl) H_hcr.out H_hk0.out H_hn0.out) ?_
    intro w7 hb7 hz7 c7 d7 hW7
    have t7 := hb7.size
    have e7_2 : Below w2.heap.size w2 w7 := below_via (by repeat' (first | (with_reducible exact Below.refl _ _) | (with_reducible assumption) | (with_reducible refine bdn ?_) | (with_reducible refine Below.alloc ?_ ?_ _) | (with_reducible refine Below.drew ?_) | (with_reducible refine Below.setCell ?_ ?_ _) | omega | (simp <;> omega))) hW7
    have te7_2 := e7_2.size
    have e7_3 : Below w3.heap.size w3 w7 := below_via (by repeat' (first | (with_reducible exact Below.refl _ _) | (with_reducible assumption) | (with_reducible refine bdn ?_) | (with_reducible refine Below.alloc ?_ ?_ _) | (with_reducible refine Below.drew ?_) | (with_reducible refine Below.setCell ?_ ?_ _) | omega | (simp <;> omega))) hW7
    have te7_3 := e7_3.size
    have e7_4 : Below w4.heap.size w4 w7 := below_via (by repeat' (first | (with_reducible exact Below.refl _ _) | (with_reducible assumption) | (with_reducible refine bdn ?_) | (with_reducible refine Below.alloc ?_ ?_ _) | (with_reducible refine Below.drew ?_) | (with_reducible refine Below.setCell ?_ ?_ _) | omega | (simp <;> omega))) hW7
    have te7_4 := e7_4.size
    have e7_5 : Below w5.heap.size w5 w7 := below_via (by repeat' (first | (with_reducible exact Below.refl _ _) | (with_reducible assumption) | (with_reducible refine bdn ?_) | (with_reducible refine Below.alloc ?_ ?_ _) | (with_reducible refine Below.drew ?_) | (with_reducible refine Below.setCell ?_ ?_ _) | omega | (simp <;> omega))) hW7
    have te7_5 := e7_5.size
    have e7_6 : Below w6.heap.size w6 w7 := below_via (by repeat' (first | (with_reducible exact Below.refl _ _) | (with_reducible assumption) | (with_reducible refine bdn ?_) | (with_reducible refine Below.alloc ?_ ?_ _) | (with_reducible refine Below.drew ?_) | (with_reducible refine Below.setCell ?_ ?_ _) | omega | (simp <;> omega))) hW7
    have te7_6 := e7_6.size
    try simp only [World.size_alloc] at hz7 c7 d7
    try simp only [World.size_drew] at hz7 c7 d7
    try simp only [World.size_setCell] at hz7 c7 d7
    try simp only [World.heap_drewN] at hz7 c7 d7
    try simp only [World.size_alloc] at hz7 c7 d7
    try simp only [World.size_drew] at hz7 c7 d7
    try simp only [World.size_setCell] at hz7 c7 d7
    have s7_0 : w.heap.size < w7.heap.size := by omega
    have o7_0 := fun j => c7 (w.heap.size) j (by omega)
    have f7_0 := fun j => d7 (w.heap.size) j (by omega)
    have s7_1 : w2.heap.size < w7.heap.size := by omega
    have o7_1 := fun j => c7 (w2.heap.size) j (by omega)
    have f7_1 := fun j => d7 (w2.heap.size) j (by omega)
    have s7_2 : w3.heap.size < w7.heap.size := by omega
    have o7_2 := fun j => c7 (w3.heap.size) j (by omega)
    have f7_2 := fun j => d7 (w3.heap.size) j (by omega)
    have s7_3 : w6.heap.size < w7.heap.size := by omega
    have o7_3 := fun j => c7 (w6.heap.size) j (by omega)
    have f7_3 := fun j => d7 (w6.heap.size) j (by omega)
    clear c7 d7 hz7 hW7
    go_wp2_with fail
    refine call_bel (w := w) (by repeat' (first | (with_reducible exact Below.refl _ _) | (with_reducible assumption) | (with_reducible refine bdn ?_) | (with_reducible refine Below.alloc ?_ ?_ _) | (with_reducible refine Below.drew ?_) | (with_reducible refine Below.setCell ?_ ?_ _) | omega | (simp <;> omega))) (fun HB => rholds_wind ps p oa len cap _ (H_hs.out.keep HB rfl) H_hcr.out) ?_
    intro w8 hb8 hz8 c8 d8 hW8
    have t8 := hb8.size
    have e8_2 : Below w2.heap.size w2 w8 := below_via (by repeat' (first | (with_reducible exact Below.refl _ _) | (with_reducible assumption) | (with_reducible refine bdn ?_) | (with_reducible refine Below.alloc ?_ ?_ _) | (with_reducible refine Below.drew ?_) | (with_reducible refine Below.setCell ?_ ?_ _) | omega | (simp <;> omega))) hW8
    have te8_2 := e8_2.size
    have e8_3 : Below w3.heap.size w3 w8 := below_via (by repeat' (first | (with_reducible exact Below.refl _ _) | (with_reducible assumption) | (with_reducible refine bdn ?_) | (with_reducible refine Below.alloc ?_ ?_ _) | (with_reducible refine Below.drew ?_) | (with_reducible refine Below.setCell ?_ ?_ _) | omega | (simp <;> omega))) hW8
    have te8_3 := e8_3.size
    have e8_4 : Below w4.heap.size w4 w8 := below_via (by repeat' (first | (with_reducible exact Below.refl _ _) | (with_reducible assumption) | (with_reducible refine bdn ?_) | (with_reducible refine Below.alloc ?_ ?_ _) | (with_reducible refine Below.drew ?_) | (with_reducible refine Below.setCell ?_ ?_ _) | omega | (simp <;> omega))) hW8
    have te8_4 := e8_4.size
    have e8_5 : Below w5.heap.size w5 w8 := below_via (by repeat' (first | (with_reducible exact Below.refl _ _) | (with_reducible assumption) | (with_reducible refine bdn ?_) | (with_reducible refine Below.alloc ?_ ?_ _) | (with_reducible refine Below.drew ?_) | (with_reducible refine Below.setCell ?_ ?_ _) | omega | (simp <;> omega))) hW8
    have te8_5 := e8_5.size
    have e8_6 : Below w6.heap.size w6 w8 := below_via (by repeat' (first | (with_reducible exact Below.refl _ _) | (with_reducible assumption) | (with_reducible refine bdn ?_) | (with_reducible refine Below.alloc ?_ ?_ _) | (with_reducible refine Below.drew ?_) | (with_reducible refine Below.setCell ?_ ?_ _) | omega | (simp <;> omega))) hW8
    have te8_6 := e8_6.size
    try simp only [World.size_alloc] at hz8 c8 d8
    try simp only [World.size_drew] at hz8 c8 d8
    try simp only [World.size_setCell] at hz8 c8 d8
    try simp only [World.heap_drewN] at hz8 c8 d8
    try simp only [World.size_alloc] at hz8 c8 d8
    try simp only [World.size_drew] at hz8 c8 d8
    try simp only [World.size_setCell] at hz8 c8 d8
    have s8_0 : w.heap.size < w8.heap.size := by omega
    have o8_0 := fun j => c8 (w.heap.size) j (by omega)
    have f8_0 := fun j => d8 (w.heap.size) j (by omega)
    have s8_1 : w2.heap.size < w8.heap.size := by omega
    have o8_1 := fun j => c8 (w2.heap.size) j (by omega)
    have f8_1 := fun j => d8 (w2.heap.size) j (by omega)
    have s8_2 : w3.heap.size < w8.heap.size := by omega
    have o8_2 := fun j => c8 (w3.heap.size) j (by omega)
    have f8_2 := fun j => d8 (w3.heap.size) j (by omega)
    have s8_3 : w6.heap.size < w8.heap.size := by omega
    have o8_3 := fun j => c8 (w6.heap.size) j (by omega)
    have f8_3 := fun j => d8 (w6.heap.size) j (by omega)
    clear c8 d8 hz8 hW8
    rw [H_hbw.out]
    go_wp2_with fail
    go_returns
    exact ⟨rfl, by repeat' (first | (with_reducible exact Below.refl _ _) | (with_reducible assumption) | (with_reducible refine bdn ?_) | (with_reducible refine Below.alloc ?_ ?_ _) | (with_reducible refine Below.drew ?_) | (with_reducible refine Below.setCell ?_ ?_ _) | omega | (simp <;> omega))⟩
  · rw [str_lit hr1]
    clear hr1
    go_wp2_with fail
    refine call_be (w := w) (by repeat' (first | (with_reducible exact Below.refl _ _) | (with_reducible assumption) | (with_reducible refine bdn ?_) | (with_reducible refine Below.alloc ?_ ?_ _) | (with_reducible refine Below.drew ?_) | (with_reducible refine Below.setCell ?_ ?_ _) | omega | (simp <;> omega))) (fun HB => shholds_even ea ps oa2 _ cap2 p _ (H_hs2.out.keep (B := w2.heap.size) (by repeat' (first | (with_reducible exact Below.refl _ _) | (with_reducible assumption) | (with_reducible refine bdn ?_) | (with_reducible refine Below.alloc ?_ ?_ _) | (with_reducible refine Below.drew ?_) | (with_reducible refine Below.setCell ?_ ?_ _) | omega | (simp <;> omega))) rfl) hpI (gkeep HB hShape rfl) (gkeep HB hBound rfl)) ?_
    rw [H_hbe.out, H_hcr.out]
    intro x6 w6 hx6 hb6 hz6 c6 d6 hW6
    have t6 := hb6.size
    have e6_2 : Below w2.heap.size w2 w6 := below_via (by repeat' (first | (with_reducible exact Below.refl _ _) | (with_reducible assumption) | (with_reducible refine bdn ?_) | (with_reducible refine Below.alloc ?_ ?_ _) | (with_reducible refine Below.drew ?_) | (with_reducible refine Below.setCell ?_ ?_ _) | omega | (simp <;> omega))) hW6
    have te6_2 := e6_2.size
    have e6_3 : Below w3.heap.size w3 w6 := below_via (by repeat' (first | (with_reducible exact Below.refl _ _) | (with_reducible assumption) | (with_reducible refine bdn ?_) | (with_reducible refine Below.alloc ?_ ?_ _) | (with_reducible refine Below.drew ?_) | (with_reducible refine Below.setCell ?_ ?_ _) | omega | (simp <;> omega))) hW6
    have te6_3 := e6_3.size
    have e6_4 : Below w4.heap.size w4 w6 := below_via (by repeat' (first | (with_reducible exact Below.refl _ _) | (with_reducible assumption) | (with_reducible refine bdn ?_) | (with_reducible refine Below.alloc ?_ ?_ _) | (with_reducible refine Below.drew ?_) | (with_reducible refine Below.setCell ?_ ?_ _) | omega | (simp <;> omega))) hW6
    have te6_4 := e6_4.size
    have e6_5 : Below w5.heap.size w5 w6 := below_via (by repeat' (first | (with_reducible exact Below.refl _ _) | (with_reducible assumption) | (with_reducible refine bdn ?_) | (with_reducible refine Below.alloc ?_ ?_ _) | (with_reducible refine Below.drew ?_) | (with_reducible refine Below.setCell ?_ ?_ _) | omega | (simp <;> omega))) hW6
    have te6_5 := e6_5.size
    try simp only [World.size_alloc] at hz6 c6 d6
    try simp only [World.size_drew] at hz6 c6 d6
    try simp only [World.size_setCell] at hz6 c6 d6
    try simp only [World.heap_drewN] at hz6 c6 d6
    try simp only [World.size_alloc] at hz6 c6 d6
    try simp only [World.size_drew] at hz6 c6 d6
    try simp only [World.size_setCell] at hz6 c6 d6
    have s6_0 : w.heap.size < w6.heap.size := by omega
    have o6_0 := fun j => c6 (w.heap.size) j (by omega)
    have f6_0 := fun j => d6 (w.heap.size) j (by omega)
    have s6_1 : w2.heap.size < w6.heap.size := by omega
    have o6_1 := fun j => c6 (w2.heap.size) j (by omega)
    have f6_1 := fun j => d6 (w2.heap.size) j (by omega)
    have s6_2 : w3.heap.size < w6.heap.size := by omega
    have o6_2 := fun j => c6 (w3.heap.size) j (by omega)
    have f6_2 := fun j => d6 (w3.heap.size) j (by omega)
    clear c6 d6 hz6 hW6
    obtain rfl := hx6.nil rfl
    clear hx6
    go_wp2_with fail
    refine call_bel (w := w) (by repeat' (first | (with_reducible exact Below.refl _ _) | (with_reducible assumption) | (with_reducible refine bdn ?_) | (with_reducible refine Below.alloc ?_ ?_ _) | (with_reducible refine Below.drew ?_) | (with_reducible refine Below.setCell ?_ ?_ _) | omega | (simp <;> omega))) (fun HB => rcrossings_any ps p oa len cap m n _ (H_hs.out.keep HB rfl) H_hcr.out H_hk0.out H_hn0.out) ?_
    intro w7 hb7 hz7 c7 d7 hW7
    have t7 := hb7.size
    have e7_2 : Below w2.heap.size w2 w7 := below_via (by repeat' (first | (with_reducible exact Below.refl _ _) | (with_reducible assumption) | (with_reducible refine bdn ?_) | (with_reducible refine Below.alloc ?_ ?_ _) | (with_reducible refine Below.drew ?_) | (with_reducible refine Below.setCell ?_ ?_ _) | omega | (simp <;> omega))) hW7
    have te7_2 := e7_2.size
    have e7_3 : Below w3.heap.size w3 w7 := below_via (by repeat' (first | (with_reducible exact Below.refl _ _) | (with_reducible assumption) | (with_reducible refine bdn ?_) | (with_reducible refine Below.alloc ?_ ?_ _) | (with_reducible refine Below.drew ?_) | (with_reducible refine Below.setCell ?_ ?_ _) | omega | (simp <;> omega))) hW7
    have te7_3 := e7_3.size
    have e7_4 : Below w4.heap.size w4 w7 := below_via (by repeat' (first | (with_reducible exact Below.refl _ _) | (with_reducible assumption) | (with_reducible refine bdn ?_) | (with_reducible refine Below.alloc ?_ ?_ _) | (with_reducible refine Below.drew ?_) | (with_reducible refine Below.setCell ?_ ?_ _) | omega | (simp <;> omega))) hW7
    have te7_4 := e7_4.size
    have e7_5 : Below w5.heap.size w5 w7 := below_via (by repeat' (first | (with_reducible exact Below.refl _ _) | (with_reducible assumption) | (with_reducible refine bdn ?_) | (with_reducible refine Below.alloc ?_ ?_ _) | (with_reducible refine Below.drew ?_) | (with_reducible refine Below.setCell ?_ ?_ _) | omega | (simp <;> omega))) hW7
    have te7_5 := e7_5.size
    have e7_6 : Below w6.heap.size w6 w7 := below_via (by repeat' (first | (with_reducible exact Below.refl _ _) | (with_reducible assumption) | (with_reducible refine bdn ?_) | (with_reducible refine Below.alloc ?_ ?_ _) | (with_reducible refine Below.drew ?_) | (with_reducible refine Below.setCell ?_ ?_ _) | omega | (simp <;> omega))) hW7
    have te7_6 := e7_6.size
    try simp only [World.size_alloc] at hz7 c7 d7
    try simp only [World.size_drew] at hz7 c7 d7
    try simp only [World.size_setCell] at hz7 c7 d7
    try simp only [World.heap_drewN] at hz7 c7 d7
    try simp only [World.size_alloc] at hz7 c7 d7
    try simp only [World.size_drew] at hz7 c7 d7
    try simp only [World.size_setCell] at hz7 c7 d7
    have s7_0 : w.heap.size < w7.heap.size := by omega
    have o7_0 := fun j => c7 (w.heap.size) j (by omega)
    have f7_0 := fun j => d7 (w.heap.size) j (by omega)
    have s7_1 : w2.heap.size < w7.heap.size := by omega
    have o7_1 := fun j => c7 (w2.heap.size) j (by omega)
    have f7_1 := fun j => d7 (w2.heap.size) j (by omega)
    have s7_2 : w3.heap.size < w7.heap.size := by omega
    have o7_2 := fun j => c7 (w3.heap.size) j (by omega)
    have f7_2 := fun j => d7 (w3.heap.size) j (by omega)
    have s7_3 : w6.heap.size < w7.heap.size := by omega
    have o7_3 := fun j => c7 (w6.heap.size) j (by omega)
    have f7_3 := fun j => d7 (w6.heap.size) j (by omega)
    clear c7 d7 hz7 hW7
    go_wp2_with fail
    refine call_bel (w := w) (by repeat' (first | (with_reducible exact Below.refl _ _) | (with_reducible assumption) | (with_reducible refine bdn ?_) | (with_reducible refine Below.alloc ?_ ?_ _) | (with_reducible refine Below.drew ?_) | (with_reducible refine Below.setCell ?_ ?_ _) | omega | (simp <;> omega))) (fun HB => rholds_even ps p oa len cap _ (H_hs.out.keep HB rfl) H_hcr.out) ?_
    intro w8 hb8 hz8 c8 d8 hW8
    have t8 := hb8.size
    have e8_2 : Below w2.heap.size w2 w8 := below_via (by repeat' (first | (with_reducible exact Below.refl _ _) | (with_reducible assumption) | (with_reducible refine bdn ?_) | (with_reducible refine Below.alloc ?_ ?_ _) | (with_reducible refine Below.drew ?_) | (with_reducible refine Below.setCell ?_ ?_ _) | omega | (simp <;> omega))) hW8
    have te8_2 := e8_2.size
    have e8_3 : Below w3.heap.size w3 w8 := below_via (by repeat' (first | (with_reducible exact Below.refl _ _) | (with_reducible assumption) | (with_reducible refine bdn ?_) | (with_reducible refine Below.alloc ?_ ?_ _) | (with_reducible refine Below.drew ?_) | (with_reducible refine Below.setCell ?_ ?_ _) | omega | (simp <;> omega))) hW8
    have te8_3 := e8_3.size
    have e8_4 : Below w4.heap.size w4 w8 := below_via (by repeat' (first | (with_reducible exact Below.refl _ _) | (with_reducible assumption) | (with_reducible refine bdn ?_) | (with_reducible refine Below.alloc ?_ ?_ _) | (with_reducible refine Below.drew ?_) | (with_reducible refine Below.setCell ?_ ?_ _) | omega | (simp <;> omega))) hW8
    have te8_4 := e8_4.size
    have e8_5 : Below w5.heap.size w5 w8 := below_via (by repeat' (first | (with_reducible exact Below.refl _ _) | (with_reducible assumption) | (with_reducible refine bdn ?_) | (with_reducible refine Below.alloc ?_ ?_ _) | (with_reducible refine Below.drew ?_) | (with_reducible refine Below.setCell ?_ ?_ _) | omega | (simp <;> omega))) hW8
    have te8_5 := e8_5.size
    have e8_6 : Below w6.heap.size w6 w8 := below_via (by repeat' (first | (with_reducible exact Below.refl _ _) | (with_reducible assumption) | (with_reducible refine bdn ?_) | (with_reducible refine Below.alloc ?_ ?_ _) | (with_reducible refine Below.drew ?_) | (with_reducible refine Below.setCell ?_ ?_ _) | omega | (simp <;> omega))) hW8
    have te8_6 := e8_6.size
    try simp only [World.size_alloc] at hz8 c8 d8
    try simp only [World.size_drew] at hz8 c8 d8
    try simp only [World.size_setCell] at hz8 c8 d8
    try simp only [World.heap_drewN] at hz8 c8 d8
    try simp only [World.size_alloc] at hz8 c8 d8
    try simp only [World.size_drew] at hz8 c8 d8
    try simp only [World.size_setCell] at hz8 c8 d8
    have s8_0 : w.heap.size < w8.heap.size := by omega
    have o8_0 := fun j => c8 (w.heap.size) j (by omega)
    have f8_0 := fun j => d8 (w.heap.size) j (by omega)
    have s8_1 : w2.heap.size < w8.heap.size := by omega
    have o8_1 := fun j => c8 (w2.heap.size) j (by omega)
    have f8_1 := fun j => d8 (w2.heap.size) j (by omega)
    have s8_2 : w3.heap.size < w8.heap.size := by omega
    have o8_2 := fun j => c8 (w3.heap.size) j (by omega)
    have f8_2 := fun j => d8 (w3.heap.size) j (by omega)
    have s8_3 : w6.heap.size < w8.heap.size := by omega
    have o8_3 := fun j => c8 (w6.heap.size) j (by omega)
    have f8_3 := fun j => d8 (w6.heap.size) j (by omega)
    clear c8 d8 hz8 hW8
    rw [H_hbe.out]
    go_wp2_with fail
    go_returns
    exact ⟨rfl, by repeat' (first | (with_reducible exact Below.refl _ _) | (with_reducible assumption) | (with_reducible refine bdn ?_) | (with_reducible refine Below.alloc ?_ ?_ _) | (with_reducible refine Below.drew ?_) | (with_reducible refine Below.setCell ?_ ?_ _) | omega | (simp <;> omega))⟩
  · go_wp2_with fail
    refine call_be (w := w) (by repeat' (first | (with_reducible exact Below.refl _ _) | (with_reducible assumption) | (with_reducible refine bdn ?_) | (with_reducible refine Below.alloc ?_ ?_ _) | (with_reducible refine Below.drew ?_) | (with_reducible refine Below.setCell ?_ ?_ _) | omega | (simp <;> omega))) (fun HB => shholds_other ea oa2 _ cap2 p s _ hr1 hr2 (gkeep HB hValue rfl)) ?_
    intro x6 w6 hx6 hb6 hz6 c6 d6 hW6
    have t6 := hb6.size
    have e6_2 : Below w2.heap.size w2 w6 := below_via (by repeat' (first | (with_reducible exact Below.refl _ _) | (with_reducible assumption) | (with_reducible refine bdn ?_) | (with_reducible refine Below.alloc ?_ ?_ _) | (with_reducible refine Below.drew ?_) | (with_reducible refine Below.setCell ?_ ?_ _) | omega | (simp <;> omega))) hW6
    have te6_2 := e6_2.size
    have e6_3 : Below w3.heap.size w3 w6 := below_via (by repeat' (first | (with_reducible exact Below.refl _ _) | (with_reducible assumption) | (with_reducible refine bdn ?_) | (with_reducible refine Below.alloc ?_ ?_ _) | (with_reducible refine Below.drew ?_) | (with_reducible refine Below.setCell ?_ ?_ _) | omega | (simp <;> omega))) hW6
    have te6_3 := e6_3.size
    have e6_4 : Below w4.heap.size w4 w6 := below_via (by repeat' (first | (with_reducible exact Below.refl _ _) | (with_reducible assumption) | (with_reducible refine bdn ?_) | (with_reducible refine Below.alloc ?_ ?_ _) | (with_reducible refine Below.drew ?_) | (with_reducible refine Below.setCell ?_ ?_ _) | omega | (simp <;> omega))) hW6
    have te6_4 := e6_4.size
    have e6_5 : Below w5.heap.size w5 w6 := below_via (by repeat' (first | (with_reducible exact Below.refl _ _) | (with_reducible assumption) | (with_reducible refine bdn ?_) | (with_reducible refine Below.alloc ?_ ?_ _) | (with_reducible refine Below.drew ?_) | (with_reducible refine Below.setCell ?_ ?_ _) | omega | (simp <;> omega))) hW6
    have te6_5 := e6_5.size
    try simp only [World.size_alloc] at hz6 c6 d6
    try simp only [World.size_drew] at hz6 c6 d6
    try simp only [World.size_setCell] at hz6 c6 d6
    try simp only [World.heap_drewN] at hz6 c6 d6
    try simp only [World.size_alloc] at hz6 c6 d6
    try simp only [World.size_drew] at hz6 c6 d6
    try simp only [World.size_setCell] at hz6 c6 d6
    have s6_0 : w.heap.size < w6.heap.size := by omega
    have o6_0 := fun j => c6 (w.heap.size) j (by omega)
    have f6_0 := fun j => d6 (w.heap.size) j (by omega)
    have s6_1 : w2.heap.size < w6.heap.size := by omega
    have o6_1 := fun j => c6 (w2.heap.size) j (by omega)
    have f6_1 := fun j => d6 (w2.heap.size) j (by omega)
    have s6_2 : w3.heap.size < w6.heap.size := by omega
    have o6_2 := fun j => c6 (w3.heap.size) j (by omega)
    have f6_2 := fun j => d6 (w3.heap.size) j (by omega)
    clear c6 d6 hz6 hW6
    go_wp2_with fail
    refine call_bel (w := w) (by repeat' (first | (with_reducible exact Below.refl _ _) | (with_reducible assumption) | (with_reducible refine bdn ?_) | (with_reducible refine Below.alloc ?_ ?_ _) | (with_reducible refine Below.drew ?_) | (with_reducible refine Below.setCell ?_ ?_ _) | omega | (simp <;> omega))) (fun HB => rbare_any 10 _) ?_
    intro w20 hb20 hz20 c20 d20 hW20
    have t20 := hb20.size
    have e20_2 : Below w2.heap.size w2 w20 := below_via (by repeat' (first | (with_reducible exact Below.refl _ _) | (with_reducible assumption) | (with_reducible refine bdn ?_) | (with_reducible refine Below.alloc ?_ ?_ _) | (with_reducible refine Below.drew ?_) | (with_reducible refine Below.setCell ?_ ?_ _) | omega | (simp <;> omega))) hW20
    have te20_2 := e20_2.size
    have e20_3 : Below w3.heap.size w3 w20 := below_via (by repeat' (first | (with_reducible exact Below.refl _ _) | (with_reducible assumption) | (with_reducible refine bdn ?_) | (with_reducible refine Below.alloc ?_ ?_ _) | (with_reducible refine Below.drew ?_) | (with_reducible refine Below.setCell ?_ ?_ _) | omega | (simp <;> omega))) hW20
    have te20_3 := e20_3.size
    have e20_4 : Below w4.heap.size w4 w20 := below_via (by repeat' (first | (with_reducible exact Below.refl _ _) | (with_reducible assumption) | (with_reducible refine bdn ?_) | (with_reducible refine Below.alloc ?_ ?_ _) | (with_reducible refine Below.drew ?_) | (with_reducible refine Below.setCell ?_ ?_ _) | omega | (simp <;> omega))) hW20
    have te20_4 := e20_4.size
    have e20_5 : Below w5.heap.size w5 w20 := below_via (by repeat' (first | (with_reducible exact Below.refl _ _) | (with_reducible assumption) | (with_reducible refine bdn ?_) | (with_reducible refine Below.alloc ?_ ?_ _) | (with_reducible refine Below.drew ?_) | (with_reducible refine Below.setCell ?_ ?_ _) | omega | (simp <;> omega))) hW20
    have te20_5 := e20_5.size
    have e20_6 : Below w6.heap.size w6 w20 := below_via (by repeat' (first | (with_reducible exact Below.refl _ _) | (with_reducible assumption) | (with_reducible refine bdn ?_) | (with_reducible refine Below.alloc ?_ ?_ _) | (with_reducible refine Below.drew ?_) | (with_reducible refine Below.setCell ?_ ?_ _) | omega | (simp <;> omega))) hW20
    have te20_6 := e20_6.size
    try simp only [World.size_alloc] at hz20 c20 d20
    try simp only [World.size_drew] at hz20 c20 d20
    try simp only [World.size_setCell] at hz20 c20 d20
    try simp only [World.heap_drewN] at hz20 c20 d20
    try simp only [World.size_alloc] at hz20 c20 d20
    try simp only [World.size_drew] at hz20 c20 d20
    try simp only [World.size_setCell] at hz20 c20 d20
    have s20_0 : w.heap.size < w20.heap.size := by omega
    have o20_0 := fun j => c20 (w.heap.size) j (by omega)
    have f20_0 := fun j => d20 (w.heap.size) j (by omega)
    have s20_1 : w2.heap.size < w20.heap.size := by omega
    have o20_1 := fun j => c20 (w2.heap.size) j (by omega)
    have f20_1 := fun j => d20 (w2.heap.size) j (by omega)
    have s20_2 : w3.heap.size < w20.heap.size := by omega
    have o20_2 := fun j => c20 (w3.heap.size) j (by omega)
    have f20_2 := fun j => d20 (w3.heap.size) j (by omega)
    have s20_3 : w6.heap.size < w20.heap.size := by omega
    have o20_3 := fun j => c20 (w6.heap.size) j (by omega)
    have f20_3 := fun j => d20 (w6.heap.size) j (by omega)
    clear c20 d20 hz20 hW20
    go_wp2_with fail
    refine call_bel (w := w) (by repeat' (first | (with_reducible exact Below.refl _ _) | (with_reducible assumption) | (with_reducible refine bdn ?_) | (with_reducible refine Below.alloc ?_ ?_ _) | (with_reducible refine Below.drew ?_) | (with_reducible refine Below.setCell ?_ ?_ _) | omega | (simp <;> omega))) (fun HB => rcrossings_any ps p oa len cap m n _ (H_hs.out.keep HB rfl) H_hcr.out H_hk0.out H_hn0.out) ?_
    intro w7 hb7 hz7 c7 d7 hW7
    have t7 := hb7.size
    have e7_2 : Below w2.heap.size w2 w7 := below_via (by repeat' (first | (with_reducible exact Below.refl _ _) | (with_reducible assumption) | (with_reducible refine bdn ?_) | (with_reducible refine Below.alloc ?_ ?_ _) | (with_reducible refine Below.drew ?_) | (with_reducible refine Below.setCell ?_ ?_ _) | omega | (simp <;> omega))) hW7
    have te7_2 := e7_2.size
    have e7_3 : Below w3.heap.size w3 w7 := below_via (by repeat' (first | (with_reducible exact Below.refl _ _) | (with_reducible assumption) | (with_reducible refine bdn ?_) | (with_reducible refine Below.alloc ?_ ?_ _) | (with_reducible refine Below.drew ?_) | (with_reducible refine Below.setCell ?_ ?_ _) | omega | (simp <;> omega))) hW7
    have te7_3 := e7_3.size
    have e7_4 : Below w4.heap.size w4 w7 := below_via (by repeat' (first | (with_reducible exact Below.refl _ _) | (with_reducible assumption) | (with_reducible refine bdn ?_) | (with_reducible refine Below.alloc ?_ ?_ _) | (with_reducible refine Below.drew ?_) | (with_reducible refine Below.setCell ?_ ?_ _) | omega | (simp <;> omega))) hW7
    have te7_4 := e7_4.size
    have e7_5 : Below w5.heap.size w5 w7 := below_via (by repeat' (first | (with_reducible exact Below.refl _ _) | (with_reducible assumption) | (with_reducible refine bdn ?_) | (with_reducible refine Below.alloc ?_ ?_ _) | (with_reducible refine Below.drew ?_) | (with_reducible refine Below.setCell ?_ ?_ _) | omega | (simp <;> omega))) hW7
    have te7_5 := e7_5.size
    have e7_6 : Below w6.heap.size w6 w7 := below_via (by repeat' (first | (with_reducible exact Below.refl _ _) | (with_reducible assumption) | (with_reducible refine bdn ?_) | (with_reducible refine Below.alloc ?_ ?_ _) | (with_reducible refine Below.drew ?_) | (with_reducible refine Below.setCell ?_ ?_ _) | omega | (simp <;> omega))) hW7
    have te7_6 := e7_6.size
    try simp only [World.size_alloc] at hz7 c7 d7
    try simp only [World.size_drew] at hz7 c7 d7
    try simp only [World.size_setCell] at hz7 c7 d7
    try simp only [World.heap_drewN] at hz7 c7 d7
    try simp only [World.size_alloc] at hz7 c7 d7
    try simp only [World.size_drew] at hz7 c7 d7
    try simp only [World.size_setCell] at hz7 c7 d7
    have s7_0 : w.heap.size < w7.heap.size := by omega
    have o7_0 := fun j => c7 (w.heap.size) j (by omega)
    have f7_0 := fun j => d7 (w.heap.size) j (by omega)
    have s7_1 : w2.heap.size < w7.heap.size := by omega
    have o7_1 := fun j => c7 (w2.heap.size) j (by omega)
    have f7_1 := fun j => d7 (w2.heap.size) j (by omega)
    have s7_2 : w3.heap.size < w7.heap.size := by omega
    have o7_2 := fun j => c7 (w3.heap.size) j (by omega)
    have f7_2 := fun j => d7 (w3.heap.size) j (by omega)
    have s7_3 : w6.heap.size < w7.heap.size := by omega
    have o7_3 := fun j => c7 (w6.heap.size) j (by omega)
    have f7_3 := fun j => d7 (w6.heap.size) j (by omega)
    clear c7 d7 hz7 hW7
    go_wp2_with fail
    refine call_bel (w := w) (by repeat' (first | (with_reducible exact Below.refl _ _) | (with_reducible assumption) | (with_reducible refine bdn ?_) | (with_reducible refine Below.alloc ?_ ?_ _) | (with_reducible refine Below.drew ?_) | (with_reducible refine Below.setCell ?_ ?_ _) | omega | (simp <;> omega))) (fun HB => faulted2_any ea _ _ _ _ _ _ (hx6.keep (B := w6.heap.size) (by repeat' (first | (with_reducible exact Below.refl _ _) | (with_reducible assumption) | (with_reducible refine bdn ?_) | (with_reducible refine Below.alloc ?_ ?_ _) | (with_reducible refine Below.drew ?_) | (with_reducible refine Below.setCell ?_ ?_ _) | omega | (simp <;> omega))) rfl (Nat.le_refl _)) (H_hS.out.keep HB rfl) (by decide) rfl rfl) ?_
    intro w8 hb8 hz8 c8 d8 hW8
    have t8 := hb8.size
    have e8_2 : Below w2.heap.size w2 w8 := below_via (by repeat' (first | (with_reducible exact Below.refl _ _) | (with_reducible assumption) | (with_reducible refine bdn ?_) | (with_reducible refine Below.alloc ?_ ?_ _) | (with_reducible refine Below.drew ?_) | (with_reducible refine Below.setCell ?_ ?_ _) | omega | (simp <;> omega))) hW8
    have te8_2 := e8_2.size
    have e8_3 : Below w3.heap.size w3 w8 := below_via (by repeat' (first | (with_reducible exact Below.refl _ _) | (with_reducible assumption) | (with_reducible refine bdn ?_) | (with_reducible refine Below.alloc ?_ ?_ _) | (with_reducible refine Below.drew ?_) | (with_reducible refine Below.setCell ?_ ?_ _) | omega | (simp <;> omega))) hW8
    have te8_3 := e8_3.size
    have e8_4 : Below w4.heap.size w4 w8 := below_via (by repeat' (first | (with_reducible exact Below.refl _ _) | (with_reducible assumption) | (with_reducible refine bdn ?_) | (with_reducible refine Below.alloc ?_ ?_ _) | (with_reducible refine Below.drew ?_) | (with_reducible refine Below.setCell ?_ ?_ _) | omega | (simp <;> omega))) hW8
    have te8_4 := e8_4.size
    have e8_5 : Below w5.heap.size w5 w8 := below_via (by repeat' (first | (with_reducible exact Below.refl _ _) | (with_reducible assumption) | (with_reducible refine bdn ?_) | (with_reducible refine Below.alloc ?_ ?_ _) | (with_reducible refine Below.drew ?_) | (with_reducible refine Below.setCell ?_ ?_ _) | omega | (simp <;> omega))) hW8
    have te8_5 := e8_5.size
    have e8_6 : Below w6.heap.size w6 w8 := below_via (by repeat' (first | (with_reducible exact Below.refl _ _) | (with_reducible assumption) | (with_reducible refine bdn ?_) | (with_reducible refine Below.alloc ?_ ?_ _) | (with_reducible refine Below.drew ?_) | (with_reducible refine Below.setCell ?_ ?_ _) | omega | (simp <;> omega))) hW8
    have te8_6 := e8_6.size
    try simp only [World.size_alloc] at hz8 c8 d8
    try simp only [World.size_drew] at hz8 c8 d8
    try simp only [World.size_setCell] at hz8 c8 d8
    try simp only [World.heap_drewN] at hz8 c8 d8
    try simp only [World.size_alloc] at hz8 c8 d8
    try simp only [World.size_drew] at hz8 c8 d8
    try simp only [World.size_setCell] at hz8 c8 d8
    have s8_0 : w.heap.size < w8.heap.size := by omega
    have o8_0 := fun j => c8 (w.heap.size) j (by omega)
    have f8_0 := fun j => d8 (w.heap.size) j (by omega)
    have s8_1 : w2.heap.size < w8.heap.size := by omega
    have o8_1 := fun j => c8 (w2.heap.size) j (by omega)
    have f8_1 := fun j => d8 (w2.heap.size) j (by omega)
    have s8_2 : w3.heap.size < w8.heap.size := by omega
    have o8_2 := fun j => c8 (w3.heap.size) j (by omega)
    have f8_2 := fun j => d8 (w3.heap.size) j (by omega)
    have s8_3 : w6.heap.size < w8.heap.size := by omega
    have o8_3 := fun j => c8 (w6.heap.size) j (by omega)
    have f8_3 := fun j => d8 (w6.heap.size) j (by omega)
    clear c8 d8 hz8 hW8
    go_wp2_with fail
    go_returns
    exact ⟨rfl, by repeat' (first | (with_reducible exact Below.refl _ _) | (with_reducible assumption) | (with_reducible refine bdn ?_) | (with_reducible refine Below.alloc ?_ ?_ _) | (with_reducible refine Below.drew ?_) | (with_reducible refine Below.setCell ?_ ?_ _) | omega | (simp <;> omega))⟩

set_option maxHeartbeats 1000000 in
theorem hl_far (ea : Nat → Addr) (p : Pt) (s : ByteArray) (oa : Option Addr) (len cap : Nat) (w : World) (hlc : len ≤ maxLen) (hS : Sents ea w) (h40 : 40 < len ∨ (len ≤ 40 ∧ 60 < s.size)) :
    Calls Tryd.prog 8 #[.slice oa len cap, .agg #[.int .i64 p.xn, .int .i64 p.xd, .int .i64 p.yn, .int .i64 p.yd], .string s] w fun e w' => e = .returned (.bool true) ∧ Below w.heap.size w w' := by
  have hBound := hS.c2
  have hShape := hS.c3
  have zhShape := zlt hShape
  have xhShape := zlts hShape
  have yhShape := zne hShape
  have zhBound := zlt hBound
  have xhBound := zlts hBound
  have yhBound := zne hBound
  unfold maxLen at hlc
  have H_hS := Lib.hid hS
  clear hS
  rcases h40 with h40 | ⟨h40, h60⟩
  · have g1 : decide (40 < (len : Int)) = true := by simp; omega
    go_enter Tryd.func8, Tryd.ntmps8
    go_wp2_with fail
    refine call_bel (w := w) (by repeat' (first | (with_reducible exact Below.refl _ _) | (with_reducible assumption) | (with_reducible refine bdn ?_) | (with_reducible refine Below.alloc ?_ ?_ _) | (with_reducible refine Below.drew ?_) | (with_reducible refine Below.setCell ?_ ?_ _) | omega | (simp <;> omega))) (fun HB => shaped_any ea _ (gkeep HB hShape rfl) (gkeep HB hBound rfl)) ?_
    intro w1 hb1 hz1 c1 d1 hW1
    have t1 := hb1.size
    try simp only [World.size_alloc] at hz1 c1 d1
    try simp only [World.size_drew] at hz1 c1 d1
    try simp only [World.size_setCell] at hz1 c1 d1
    try simp only [World.heap_drewN] at hz1 c1 d1
    try simp only [World.size_alloc] at hz1 c1 d1
    try simp only [World.size_drew] at hz1 c1 d1
    try simp only [World.size_setCell] at hz1 c1 d1
    have s1_0 : w.heap.size < w1.heap.size := by omega
    have o1_0 := fun j => c1 (w.heap.size) j (by omega)
    have f1_0 := fun j => d1 (w.heap.size) j (by omega)
    clear c1 d1 hz1 hW1
    go_wp2_with fail
    go_returns
    exact ⟨rfl, by repeat' (first | (with_reducible exact Below.refl _ _) | (with_reducible assumption) | (with_reducible refine bdn ?_) | (with_reducible refine Below.alloc ?_ ?_ _) | (with_reducible refine Below.drew ?_) | (with_reducible refine Below.setCell ?_ ?_ _) | omega | (simp <;> omega))⟩
  · have g1 : decide (40 < (len : Int)) = false := by simp; omega
    have g2 : decide (60 < (s.size : Int)) = true := by simp; omega
    go_enter Tryd.func8, Tryd.ntmps8
    go_wp2_with fail
    refine call_bel (w := w) (by repeat' (first | (with_reducible exact Below.refl _ _) | (with_reducible assumption) | (with_reducible refine bdn ?_) | (with_reducible refine Below.alloc ?_ ?_ _) | (with_reducible refine Below.drew ?_) | (with_reducible refine Below.setCell ?_ ?_ _) | omega | (simp <;> omega))) (fun HB => shaped_any ea _ (gkeep HB hShape rfl) (gkeep HB hBound rfl)) ?_
    intro w1 hb1 hz1 c1 d1 hW1
    have t1 := hb1.size
    try simp only [World.size_alloc] at hz1 c1 d1
    try simp only [World.size_drew] at hz1 c1 d1
    try simp only [World.size_setCell] at hz1 c1 d1
    try simp only [World.heap_drewN] at hz1 c1 d1
    try simp only [World.size_alloc] at hz1 c1 d1
    try simp only [World.size_drew] at hz1 c1 d1
    try simp only [World.size_setCell] at hz1 c1 d1
    have s1_0 : w.heap.size < w1.heap.size := by omega
    have o1_0 := fun j => c1 (w.heap.size) j (by omega)
    have f1_0 := fun j => d1 (w.heap.size) j (by omega)
    clear c1 d1 hz1 hW1
    go_wp2_with fail
    go_returns
    exact ⟨rfl, by repeat' (first | (with_reducible exact Below.refl _ _) | (with_reducible assumption) | (with_reducible refine bdn ?_) | (with_reducible refine Below.alloc ?_ ?_ _) | (with_reducible refine Below.drew ?_) | (with_reducible refine Below.setCell ?_ ?_ _) | omega | (simp <;> omega))⟩
theorem holds_law (ea : Nat → Addr) (ps : List Pt) (p : Pt) (s : ByteArray) (oa : Option Addr) (len cap : Nat) (w : World) (hs : SlP w oa len cap ps) (hpI : p.I) (hS : Sents ea w) :
    Calls Tryd.prog 8 #[.slice oa len cap, .agg #[.int .i64 p.xn, .int .i64 p.xd, .int .i64 p.yn, .int .i64 p.yd], .string s] w fun e w' => e = .returned (.bool true) ∧ Below w.heap.size w w' := by
  by_cases h40 : 40 < len
  · exact hl_far ea p s oa len cap w hs.2.2.1 hS (.inl h40)
  by_cases h60 : 60 < s.size
  · exact hl_far ea p s oa len cap w hs.2.2.1 hS (.inr ⟨by omega, h60⟩)
  have hrule : (s.toList == [119, 105, 110, 100]) = true ∨ (s.toList == [101, 118, 101, 110]) = true ∨ ((s.toList == [119, 105, 110, 100]) = false ∧ (s.toList == [101, 118, 101, 110]) = false) := by
    cases h1 : (s.toList == [119, 105, 110, 100])
    · cases h2 : (s.toList == [101, 118, 101, 110])
      · exact .inr (.inr ⟨rfl, rfl⟩)
      · exact .inr (.inl rfl)
    · exact .inl rfl
  rcases shC_some ps with h0 | h0
  · by_cases hp : p.c = 0
    · exact hl_ok ea ps p s oa len cap w hs hpI hS (by omega) (by omega) h0 hp hrule
    · exact hl_err2 ea ps p s oa len cap w hs hpI hS (by omega) (by omega) h0 hp hrule
  · exact hl_err1 ea ps p s oa len cap w hs hpI hS (by omega) (by omega) h0 hrule
end Go.Proofs.YthpicnajemnfdaaDoor
