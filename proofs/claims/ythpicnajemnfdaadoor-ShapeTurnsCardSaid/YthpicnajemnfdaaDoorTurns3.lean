/-
  The walk over the statement ShapeTurns: what is out of bounds, what tells an error, nil; and all of it.
-/
import Derived.Test.YthpicnajemnfdaaDoorTurns1
import Derived.Test.YthpicnajemnfdaaDoorTurns2
namespace Go.Proofs.YthpicnajemnfdaaDoor
open Go.RowKit Lead

set_option maxHeartbeats 1000000 in
set_option maxRecDepth 100000 in
theorem turns_out (ea : Nat → Addr) (p : Pt) (oa : Option Addr) (len cap : Nat) (z : Int) (w : World) (h : (15 < len) ∨ z < 0 ∨ (len : Int) < z) (hShape : w.cell? ⟨2, 0, none⟩ = some (.iface 87 (.pointer (some (ea 3))))) (hBound : w.cell? ⟨1, 0, none⟩ = some (.iface 87 (.pointer (some (ea 2))))) :
    Calls Tryd.prog 3 #[.slice oa len cap, .agg #[.int .i64 p.xn, .int .i64 p.xd, .int .i64 p.yn, .int .i64 p.yd], .int .i64 z] w fun e w' => e = .returned (.bool true) ∧ Below w.heap.size w w' := by
  have zhShape := zlt hShape
  have xhShape := zlts hShape
  have yhShape := zne hShape
  have zhBound := zlt hBound
  have xhBound := zlts hBound
  have yhBound := zne hBound
  by_cases h1 : 15 < len
  · have g1 : decide (15 < (len : Int)) = true := by simp; omega
    clear h
    go_enter Tryd.func3, Tryd.ntmps3
    go_wp2_with fail
    refine call_bel (w := w) (by repeat' (first | (with_reducible exact Below.refl _ _) | (with_reducible assumption) | (with_reducible refine bdn ?_) | (with_reducible refine Below.alloc ?_ ?_ _) | (with_reducible refine Below.drew ?_) | (with_reducible refine Below.setCell ?_ ?_ _) | omega | (simp only [World.size_alloc, World.size_setCell, World.size_drew, World.heap_drewN]; omega) | (simp; omega))) (fun HB => shaped_any ea _ (gkeep HB hShape rfl) (gkeep HB hBound rfl)) ?_
    intro w1 hb1 hz1 c1 d1 hW1
    have t1 := hb1.size
    try simp only [World.size_alloc, World.size_drew, World.size_setCell, World.heap_drewN] at hz1 c1 d1
    have s1_0 : w.heap.size < w1.heap.size := by omega
    have o1_0 := fun j => c1 (w.heap.size) j (by omega)
    have f1_0 := fun j => d1 (w.heap.size) j (by omega)
    clear c1 d1 hz1 hW1
    go_wp2_with fail
    go_returns
    exact ⟨rfl, by repeat' (first | (with_reducible exact Below.refl _ _) | (with_reducible assumption) | (with_reducible refine bdn ?_) | (with_reducible refine Below.alloc ?_ ?_ _) | (with_reducible refine Below.drew ?_) | (with_reducible refine Below.setCell ?_ ?_ _) | omega | (simp only [World.size_alloc, World.size_setCell, World.size_drew, World.heap_drewN]; omega) | (simp; omega))⟩
  · have g1 : decide (15 < (len : Int)) = false := by simp; omega
    by_cases h2 : z < 0
    · have g2 : decide (z < 0) = true := by simpa using h2
      clear h
      go_enter Tryd.func3, Tryd.ntmps3
      go_wp2_with fail
      refine call_bel (w := w) (by repeat' (first | (with_reducible exact Below.refl _ _) | (with_reducible assumption) | (with_reducible refine bdn ?_) | (with_reducible refine Below.alloc ?_ ?_ _) | (with_reducible refine Below.drew ?_) | (with_reducible refine Below.setCell ?_ ?_ _) | omega | (simp only [World.size_alloc, World.size_setCell, World.size_drew, World.heap_drewN]; omega) | (simp; omega))) (fun HB => shaped_any ea _ (gkeep HB hShape rfl) (gkeep HB hBound rfl)) ?_
      intro w1 hb1 hz1 c1 d1 hW1
      have t1 := hb1.size
      try simp only [World.size_alloc, World.size_drew, World.size_setCell, World.heap_drewN] at hz1 c1 d1
      have s1_0 : w.heap.size < w1.heap.size := by omega
      have o1_0 := fun j => c1 (w.heap.size) j (by omega)
      have f1_0 := fun j => d1 (w.heap.size) j (by omega)
      clear c1 d1 hz1 hW1
      go_wp2_with fail
      go_returns
      exact ⟨rfl, by repeat' (first | (with_reducible exact Below.refl _ _) | (with_reducible assumption) | (with_reducible refine bdn ?_) | (with_reducible refine Below.alloc ?_ ?_ _) | (with_reducible refine Below.drew ?_) | (with_reducible refine Below.setCell ?_ ?_ _) | omega | (simp only [World.size_alloc, World.size_setCell, World.size_drew, World.heap_drewN]; omega) | (simp; omega))⟩
    · have g2 : decide (z < 0) = false := by simp; omega
      have g3 : decide ((len : Int) < z) = true := by simp; omega
      clear h
      go_enter Tryd.func3, Tryd.ntmps3
      go_wp2_with fail
      refine call_bel (w := w) (by repeat' (first | (with_reducible exact Below.refl _ _) | (with_reducible assumption) | (with_reducible refine bdn ?_) | (with_reducible refine Below.alloc ?_ ?_ _) | (with_reducible refine Below.drew ?_) | (with_reducible refine Below.setCell ?_ ?_ _) | omega | (simp only [World.size_alloc, World.size_setCell, World.size_drew, World.heap_drewN]; omega) | (simp; omega))) (fun HB => shaped_any ea _ (gkeep HB hShape rfl) (gkeep HB hBound rfl)) ?_
      intro w1 hb1 hz1 c1 d1 hW1
      have t1 := hb1.size
      try simp only [World.size_alloc, World.size_drew, World.size_setCell, World.heap_drewN] at hz1 c1 d1
      have s1_0 : w.heap.size < w1.heap.size := by omega
      have o1_0 := fun j => c1 (w.heap.size) j (by omega)
      have f1_0 := fun j => d1 (w.heap.size) j (by omega)
      clear c1 d1 hz1 hW1
      go_wp2_with fail
      go_returns
      exact ⟨rfl, by repeat' (first | (with_reducible exact Below.refl _ _) | (with_reducible assumption) | (with_reducible refine bdn ?_) | (with_reducible refine Below.alloc ?_ ?_ _) | (with_reducible refine Below.drew ?_) | (with_reducible refine Below.setCell ?_ ?_ _) | omega | (simp only [World.size_alloc, World.size_setCell, World.size_drew, World.heap_drewN]; omega) | (simp; omega))⟩

set_option maxHeartbeats 1000000 in
set_option maxRecDepth 100000 in
theorem turns_err (ea : Nat → Addr) (ps : List Pt) (p : Pt) (oa : Option Addr) (len cap k : Nat) (w : World) (hs : SlP w oa len cap ps) (hpI : p.I) (hbad : (crC ps p).1 ≠ 0) (hempty : crL ps p = []) (h15 : len ≤ 15) (hk : k ≤ len) (hShape : w.cell? ⟨2, 0, none⟩ = some (.iface 87 (.pointer (some (ea 3))))) (hBound : w.cell? ⟨1, 0, none⟩ = some (.iface 87 (.pointer (some (ea 2))))) :
    Calls Tryd.prog 3 #[.slice oa len cap, .agg #[.int .i64 p.xn, .int .i64 p.xd, .int .i64 p.yn, .int .i64 p.yd], .int .i64 k] w fun e w' => e = .returned (.bool true) ∧ Below w.heap.size w w' := by
  have zhShape := zlt hShape
  have xhShape := zlts hShape
  have yhShape := zne hShape
  have zhBound := zlt hBound
  have xhBound := zlts hBound
  have yhBound := zne hBound
  have g1 : decide (15 < (len : Int)) = false := by simp; omega
  have g2 : decide ((k : Int) < 0) = false := by simp
  have g3 : decide ((len : Int) < k) = false := by simp <;> omega
  have hI := hs.2.2.2.1
  have hn : (crL ps p).sum = 0 := by rw [hempty]; rfl
  have H_hs := Lib.hid hs
  clear hs
  have H_hbad := Lib.hid hbad
  clear hbad
  have H_hempty := Lib.hid hempty
  clear hempty
  have H_hI := Lib.hid hI
  clear hI
  have H_hn := Lib.hid hn
  clear hn
  go_enter Tryd.func3, Tryd.ntmps3
  go_wp2_with fail
  refine call_bel (w := w) (by repeat' (first | (with_reducible exact Below.refl _ _) | (with_reducible assumption) | (with_reducible refine bdn ?_) | (with_reducible refine Below.alloc ?_ ?_ _) | (with_reducible refine Below.drew ?_) | (with_reducible refine Below.setCell ?_ ?_ _) | omega | (simp only [World.size_alloc, World.size_setCell, World.size_drew, World.heap_drewN]; omega) | (simp; omega))) (fun HB => shaped_any ea _ (gkeep HB hShape rfl) (gkeep HB hBound rfl)) ?_
  intro w1 hb1 hz1 c1 d1 hW1
  have t1 := hb1.size
  try simp only [World.size_alloc, World.size_drew, World.size_setCell, World.heap_drewN] at hz1 c1 d1
  have s1_0 : w.heap.size < w1.heap.size := by omega
  have o1_0 := fun j => c1 (w.heap.size) j (by omega)
  have f1_0 := fun j => d1 (w.heap.size) j (by omega)
  clear c1 d1 hz1 hW1
  go_wp2_with fail
  refine call_p (w := w) (by repeat' (first | (with_reducible exact Below.refl _ _) | (with_reducible assumption) | (with_reducible refine bdn ?_) | (with_reducible refine Below.alloc ?_ ?_ _) | (with_reducible refine Below.drew ?_) | (with_reducible refine Below.setCell ?_ ?_ _) | omega | (simp only [World.size_alloc, World.size_setCell, World.size_drew, World.heap_drewN]; omega) | (simp; omega))) (fun HB => ownpoints_any ps _ _ _ _ (H_hs.out.keep HB rfl) (by omega)) ?_
  intro v2 w2 hv2 hb2 hz2 c2 d2 hW2
  have t2 := hb2.size
  try simp only [World.size_alloc, World.size_drew, World.size_setCell, World.heap_drewN] at hz2 c2 d2
  have s2_0 : w.heap.size < w2.heap.size := by omega
  have o2_0 := fun j => c2 (w.heap.size) j (by omega)
  have f2_0 := fun j => d2 (w.heap.size) j (by omega)
  clear c2 d2 hz2 hW2
  obtain ⟨oa2, cap2, rfl, hs2⟩ := hv2.slp H_hI.out
  have H_hs2 := Lib.hid hs2
  clear hs2
  have H_hv2 := Lib.hid hv2
  clear hv2
  go_wp2_with fail
  refine call_ne (w := w) (by repeat' (first | (with_reducible exact Below.refl _ _) | (with_reducible assumption) | (with_reducible refine bdn ?_) | (with_reducible refine Below.alloc ?_ ?_ _) | (with_reducible refine Below.drew ?_) | (with_reducible refine Below.setCell ?_ ?_ _) | omega | (simp only [World.size_alloc, World.size_setCell, World.size_drew, World.heap_drewN]; omega) | (simp; omega))) (fun HB => shwind_any ea ps oa2 _ cap2 p _ (H_hs2.out.keep (B := w2.heap.size) (by repeat' (first | (with_reducible exact Below.refl _ _) | (with_reducible assumption) | (with_reducible refine bdn ?_) | (with_reducible refine Below.alloc ?_ ?_ _) | (with_reducible refine Below.drew ?_) | (with_reducible refine Below.setCell ?_ ?_ _) | omega | (simp only [World.size_alloc, World.size_setCell, World.size_drew, World.heap_drewN]; omega) | (simp; omega))) rfl) hpI (gkeep HB hShape rfl) (gkeep HB hBound rfl)) ?_
  rw [H_hn.out]
  intro x w3 hx hb3 hz3 c3 d3 _
  obtain ⟨t, ad, rfl⟩ := hx.some H_hbad.out
  clear hx c3 d3
  go_wp2_with fail
  go_returns
  exact ⟨rfl, by repeat' (first | (with_reducible exact Below.refl _ _) | (with_reducible assumption) | (with_reducible refine bdn ?_) | (with_reducible refine Below.alloc ?_ ?_ _) | (with_reducible refine Below.drew ?_) | (with_reducible refine Below.setCell ?_ ?_ _) | omega | (simp only [World.size_alloc, World.size_setCell, World.size_drew, World.heap_drewN]; omega) | (simp; omega))⟩

set_option maxHeartbeats 4000000 in
set_option maxRecDepth 100000 in
theorem turns_nil (ea : Nat → Addr) (p : Pt) (w : World) (hpI : p.I) (hp : PtOk p) (hShape : w.cell? ⟨2, 0, none⟩ = some (.iface 87 (.pointer (some (ea 3))))) (hBound : w.cell? ⟨1, 0, none⟩ = some (.iface 87 (.pointer (some (ea 2))))) :
    Calls Tryd.prog 3 #[.slice none 0 0, .agg #[.int .i64 p.xn, .int .i64 p.xd, .int .i64 p.yn, .int .i64 p.yd], .int .i64 0] w fun e w' => e = .returned (.bool true) ∧ Below w.heap.size w w' := by
  have zhShape := zlt hShape
  have xhShape := zlts hShape
  have yhShape := zne hShape
  have zhBound := zlt hBound
  have xhBound := zlts hBound
  have yhBound := zne hBound
  have hs : SlP w none 0 0 [] := ⟨rfl, Nat.le_refl _, Nat.zero_le _, (fun q hq => by cases hq), .inl ⟨rfl, rfl, rfl⟩⟩
  have hI : ∀ q ∈ ([] : List Pt), q.I := fun q hq => by cases hq
  have hok : crC [] p = (0, none) := crC_ok (fun q hq => by cases hq) hp (by simp)
  have hl : crL [] p = [] := by unfold crL; rw [hok]; rfl
  have hn : (crL [] p).sum = 0 := by rw [hl]; rfl
  have hm : ((crL [] p).length : Int) = 0 := by rw [hl]; rfl
  have H_hs := Lib.hid hs
  clear hs
  have H_hI := Lib.hid hI
  clear hI
  have H_hok := Lib.hid hok
  clear hok
  have H_hl := Lib.hid hl
  clear hl
  have H_hn := Lib.hid hn
  clear hn
  have H_hm := Lib.hid hm
  clear hm
  go_enter Tryd.func3, Tryd.ntmps3
  go_wp2_with fail
  refine call_bel (w := w) (by repeat' (first | (with_reducible exact Below.refl _ _) | (with_reducible assumption) | (with_reducible refine bdn ?_) | (with_reducible refine Below.alloc ?_ ?_ _) | (with_reducible refine Below.drew ?_) | (with_reducible refine Below.setCell ?_ ?_ _) | omega | (simp only [World.size_alloc, World.size_setCell, World.size_drew, World.heap_drewN]; omega) | (simp; omega))) (fun HB => shaped_any ea _ (gkeep HB hShape rfl) (gkeep HB hBound rfl)) ?_
  intro w1 hb1 hz1 c1 d1 hW1
  have t1 := hb1.size
  try simp only [World.size_alloc, World.size_drew, World.size_setCell, World.heap_drewN] at hz1 c1 d1
  have s1_0 : w.heap.size < w1.heap.size := by omega
  have o1_0 := fun j => c1 (w.heap.size) j (by omega)
  have f1_0 := fun j => d1 (w.heap.size) j (by omega)
  clear c1 d1 hz1 hW1
  go_wp2_with fail
  refine call_p (w := w) (by repeat' (first | (with_reducible exact Below.refl _ _) | (with_reducible assumption) | (with_reducible refine bdn ?_) | (with_reducible refine Below.alloc ?_ ?_ _) | (with_reducible refine Below.drew ?_) | (with_reducible refine Below.setCell ?_ ?_ _) | omega | (simp only [World.size_alloc, World.size_setCell, World.size_drew, World.heap_drewN]; omega) | (simp; omega))) (fun HB => ownpoints_any [] none 0 0 _ (H_hs.out.keep HB rfl) (by omega)) ?_
  intro v2 w2 hv2 hb2 hz2 c2 d2 hW2
  have t2 := hb2.size
  try simp only [World.size_alloc, World.size_drew, World.size_setCell, World.heap_drewN] at hz2 c2 d2
  have s2_0 : w.heap.size < w2.heap.size := by omega
  have o2_0 := fun j => c2 (w.heap.size) j (by omega)
  have f2_0 := fun j => d2 (w.heap.size) j (by omega)
  clear c2 d2 hz2 hW2
  obtain ⟨oa2, cap2, rfl, hs2⟩ := hv2.slp H_hI.out
  have H_hs2 := Lib.hid hs2
  clear hs2
  have H_hv2 := Lib.hid hv2
  clear hv2
  go_wp2_with fail
  refine call_ne (w := w) (by repeat' (first | (with_reducible exact Below.refl _ _) | (with_reducible assumption) | (with_reducible refine bdn ?_) | (with_reducible refine Below.alloc ?_ ?_ _) | (with_reducible refine Below.drew ?_) | (with_reducible refine Below.setCell ?_ ?_ _) | omega | (simp only [World.size_alloc, World.size_setCell, World.size_drew, World.heap_drewN]; omega) | (simp; omega))) (fun HB => shwind_any ea [] oa2 _ cap2 p _ (H_hs2.out.keep (B := w2.heap.size) (by repeat' (first | (with_reducible exact Below.refl _ _) | (with_reducible assumption) | (with_reducible refine bdn ?_) | (with_reducible refine Below.alloc ?_ ?_ _) | (with_reducible refine Below.drew ?_) | (with_reducible refine Below.setCell ?_ ?_ _) | omega | (simp only [World.size_alloc, World.size_setCell, World.size_drew, World.heap_drewN]; omega) | (simp; omega))) rfl) hpI (gkeep HB hShape rfl) (gkeep HB hBound rfl)) ?_
  rw [H_hn.out, H_hok.out]
  intro x3 w3 hx3 hb3 hz3 c3 d3 hW3
  have t3 := hb3.size
  have e3_2 : Below w2.heap.size w2 w3 := below_via (by repeat' (first | (with_reducible exact Below.refl _ _) | (with_reducible assumption) | (with_reducible refine bdn ?_) | (with_reducible refine Below.alloc ?_ ?_ _) | (with_reducible refine Below.drew ?_) | (with_reducible refine Below.setCell ?_ ?_ _) | omega | (simp only [World.size_alloc, World.size_setCell, World.size_drew, World.heap_drewN]; omega) | (simp; omega))) hW3
  have te3_2 := e3_2.size
  try simp only [World.size_alloc, World.size_drew, World.size_setCell, World.heap_drewN] at hz3 c3 d3
  have s3_0 : w.heap.size < w3.heap.size := by omega
  have o3_0 := fun j => c3 (w.heap.size) j (by omega)
  have f3_0 := fun j => d3 (w.heap.size) j (by omega)
  have s3_1 : w2.heap.size < w3.heap.size := by omega
  have o3_1 := fun j => c3 (w2.heap.size) j (by omega)
  have f3_1 := fun j => d3 (w2.heap.size) j (by omega)
  clear c3 d3 hz3 hW3
  obtain rfl := hx3.nil rfl
  clear hx3
  go_wp2_with fail
  refine call_ne (w := w) (by repeat' (first | (with_reducible exact Below.refl _ _) | (with_reducible assumption) | (with_reducible refine bdn ?_) | (with_reducible refine Below.alloc ?_ ?_ _) | (with_reducible refine Below.drew ?_) | (with_reducible refine Below.setCell ?_ ?_ _) | omega | (simp only [World.size_alloc, World.size_setCell, World.size_drew, World.heap_drewN]; omega) | (simp; omega))) (fun HB => shcross_any' ea [] oa2 _ cap2 p _ (H_hs2.out.keep (B := w2.heap.size) (by repeat' (first | (with_reducible exact Below.refl _ _) | (with_reducible assumption) | (with_reducible refine bdn ?_) | (with_reducible refine Below.alloc ?_ ?_ _) | (with_reducible refine Below.drew ?_) | (with_reducible refine Below.setCell ?_ ?_ _) | omega | (simp only [World.size_alloc, World.size_setCell, World.size_drew, World.heap_drewN]; omega) | (simp; omega))) rfl) hpI (gkeep HB hShape rfl) (gkeep HB hBound rfl)) ?_
  rw [H_hm.out, H_hok.out]
  intro x4 w4 hx4 hb4 hz4 c4 d4 hW4
  have t4 := hb4.size
  try simp only [World.size_alloc, World.size_drew, World.size_setCell, World.heap_drewN] at hz4 c4 d4
  have s4_0 : w.heap.size < w4.heap.size := by omega
  have o4_0 := fun j => c4 (w.heap.size) j (by omega)
  have f4_0 := fun j => d4 (w.heap.size) j (by omega)
  clear c4 d4 hz4 hW4
  obtain rfl := hx4.nil rfl
  clear hx4
  go_wp2_with fail
  refine call_ne (w := w) (by repeat' (first | (with_reducible exact Below.refl _ _) | (with_reducible assumption) | (with_reducible refine bdn ?_) | (with_reducible refine Below.alloc ?_ ?_ _) | (with_reducible refine Below.drew ?_) | (with_reducible refine Below.setCell ?_ ?_ _) | omega | (simp only [World.size_alloc, World.size_setCell, World.size_drew, World.heap_drewN]; omega) | (simp; omega))) (fun HB => shwind_any ea [] none 0 0 p _ (H_hs.out.keep HB rfl) hpI (gkeep HB hShape rfl) (gkeep HB hBound rfl)) ?_
  rw [H_hn.out, H_hok.out]
  intro x7 w7 hx7 hb7 hz7 c7 d7 hW7
  have t7 := hb7.size
  try simp only [World.size_alloc, World.size_drew, World.size_setCell, World.heap_drewN] at hz7 c7 d7
  have s7_0 : w.heap.size < w7.heap.size := by omega
  have o7_0 := fun j => c7 (w.heap.size) j (by omega)
  have f7_0 := fun j => d7 (w.heap.size) j (by omega)
  clear c7 d7 hz7 hW7
  obtain rfl := hx7.nil rfl
  clear hx7
  go_wp2_with fail
  refine wp_loop_rounds 1 ?_
  rw [rounds_succ]
  go_wp2_with fail
  refine call_p (w := w) (by repeat' (first | (with_reducible exact Below.refl _ _) | (with_reducible assumption) | (with_reducible refine bdn ?_) | (with_reducible refine Below.alloc ?_ ?_ _) | (with_reducible refine Below.drew ?_) | (with_reducible refine Below.setCell ?_ ?_ _) | omega | (simp only [World.size_alloc, World.size_setCell, World.size_drew, World.heap_drewN]; omega) | (simp; omega))) (fun HB => ownpoints_any [] none 0 0 _ (H_hs.out.keep HB rfl) (by omega)) ?_
  intro v9 w9 hv9 hb9 hz9 c9 d9 hW9
  have t9 := hb9.size
  try simp only [World.size_alloc, World.size_drew, World.size_setCell, World.heap_drewN] at hz9 c9 d9
  have s9_0 : w.heap.size < w9.heap.size := by omega
  have o9_0 := fun j => c9 (w.heap.size) j (by omega)
  have f9_0 := fun j => d9 (w.heap.size) j (by omega)
  clear c9 d9 hz9 hW9
  obtain ⟨oa9, cap9, rfl, hs9⟩ := hv9.slp H_hI.out
  have H_hs9 := Lib.hid hs9
  clear hs9
  have H_hv9 := Lib.hid hv9
  clear hv9
  go_wp2_with fail
  refine call_ne (w := w) (by repeat' (first | (with_reducible exact Below.refl _ _) | (with_reducible assumption) | (with_reducible refine bdn ?_) | (with_reducible refine Below.alloc ?_ ?_ _) | (with_reducible refine Below.drew ?_) | (with_reducible refine Below.setCell ?_ ?_ _) | omega | (simp only [World.size_alloc, World.size_setCell, World.size_drew, World.heap_drewN]; omega) | (simp; omega))) (fun HB => shwind_any ea [] oa9 _ cap9 p _ (H_hs9.out.keep (B := w9.heap.size) (by repeat' (first | (with_reducible exact Below.refl _ _) | (with_reducible assumption) | (with_reducible refine bdn ?_) | (with_reducible refine Below.alloc ?_ ?_ _) | (with_reducible refine Below.drew ?_) | (with_reducible refine Below.setCell ?_ ?_ _) | omega | (simp only [World.size_alloc, World.size_setCell, World.size_drew, World.heap_drewN]; omega) | (simp; omega))) rfl) hpI (gkeep HB hShape rfl) (gkeep HB hBound rfl)) ?_
  rw [H_hn.out, H_hok.out]
  intro x10 w10 hx10 hb10 hz10 c10 d10 hW10
  have t10 := hb10.size
  clear c10 d10 hz10 hW10
  obtain rfl := hx10.nil rfl
  clear hx10
  go_wp2_with fail
  go_returns
  exact ⟨rfl, by repeat' (first | (with_reducible exact Below.refl _ _) | (with_reducible assumption) | (with_reducible refine bdn ?_) | (with_reducible refine Below.alloc ?_ ?_ _) | (with_reducible refine Below.drew ?_) | (with_reducible refine Below.setCell ?_ ?_ _) | omega | (simp only [World.size_alloc, World.size_setCell, World.size_drew, World.heap_drewN]; omega) | (simp; omega))⟩

theorem turns_any (ea : Nat → Addr) (ps : List Pt) (p : Pt) (oa : Option Addr) (len cap : Nat) (z : Int) (w : World) (hs : SlP w oa len cap ps) (hpI : p.I) (hShape : w.cell? ⟨2, 0, none⟩ = some (.iface 87 (.pointer (some (ea 3))))) (hBound : w.cell? ⟨1, 0, none⟩ = some (.iface 87 (.pointer (some (ea 2))))) :
    Calls Tryd.prog 3 #[.slice oa len cap, .agg #[.int .i64 p.xn, .int .i64 p.xd, .int .i64 p.yn, .int .i64 p.yd], .int .i64 z] w fun e w' => e = .returned (.bool true) ∧ Below w.heap.size w w' := by
  by_cases hout : (15 < len) ∨ z < 0 ∨ (len : Int) < z
  · exact turns_out ea p oa len cap z w hout hShape hBound
  obtain ⟨k, rfl⟩ : ∃ k : Nat, z = k := ⟨z.toNat, by omega⟩
  have h15 : len ≤ 15 := by omega
  have hk : k ≤ len := by omega
  rcases crC_some ps p with hok | ⟨hbad, hempty⟩
  · obtain ⟨hall, hp, _⟩ := crC_inv hok
    have h2 := hs.2.1
    rcases hs.2.2.2.2 with ⟨rfl, rfl, rfl⟩ | ⟨b, off, rfl, hbl, hpt⟩
    · obtain rfl : k = 0 := by omega
      exact turns_nil ea p w hpI hp hShape hBound
    · by_cases hck : cap = k
      · obtain rfl : len = k := by omega
        subst hck
        exact turns_full ea ps p b off _ w hs hpI hok h15 hShape hBound
      · exact turns_some ea ps p b off len cap k w hs hpI hok h15 hk hck hShape hBound
  · exact turns_err ea ps p oa len cap k w hs hpI hbad hempty h15 hk hShape hBound
end Go.Proofs.YthpicnajemnfdaaDoor
