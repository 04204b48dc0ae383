/-
  The walk over the statement ShapeMoves.
-/
import Derived.Test.YtogfphojfkdcgaaDoorSmv
import Derived.Test.YtogfphojfkdcgaaDoorSame
import Derived.Test.YtogfphojfkdcgaaDoorBk4
import Derived.Test.YtogfphojfkdcgaaDoorRef2
import Derived.Test.YtogfphojfkdcgaaDoorSet
import Derived.Deep.DeepCutAuto
namespace Go.Proofs.YtogfphojfkdcgaaDoor
open Go.RowKit Lead

theorem shmove_step (ea : Nat → Addr) (x y : Int) (ps : List Pt) (oa : Option Addr) (len cap : Nat) (w : World) (im : (stepM x y).I) (hs : SlP w oa len cap ps) (hG : Gs true ea w) (hsz : 13 ≤ w.heap.size) (c : Nat × Option Nat) (q : List Pt) (hc : movC (stepM x y) ps = c) (hq : movL (stepM x y) ps = q) :
    Calls Tryd.prog 10 #[.agg #[.slice oa len cap], .agg #[.int .i64 1, .int .i64 1, .int .i64 0, .int .i64 1, .int .i64 0, .int .i64 1, .int .i64 1, .int .i64 1, .int .i64 x, .int .i64 1, .int .i64 y, .int .i64 1]] w (RetPE 147 63 ea 26 c q w) := by
  subst hc hq
  exact shmove_any ea (stepM x y) ps oa len cap w im hs hG hsz
theorem mat_stepc (ea : Nat → Addr) (x y : Int) (p q : Pt) (w : World) (im : (stepM x y).I) (ip : p.I) (hG : Gs true ea w) (hsz : 13 ≤ w.heap.size) (hc : atC (stepM x y) p = (0, none)) (hq : atV (stepM x y) p = q) :
    Calls Tryd.prog 11 #[.agg #[.int .i64 1, .int .i64 1, .int .i64 0, .int .i64 1, .int .i64 0, .int .i64 1, .int .i64 1, .int .i64 1, .int .i64 x, .int .i64 1, .int .i64 y, .int .i64 1], .agg #[.int .i64 p.xn, .int .i64 p.xd, .int .i64 p.yn, .int .i64 p.yd]] w fun e w' => e = .returned (.tuple #[.agg #[.int .i64 q.xn, .int .i64 q.xd, .int .i64 q.yn, .int .i64 q.yd], .nilIface]) ∧ Below w.heap.size w w' := by
  subst hq
  have h := mat_any ea (stepM x y) p w im ip hG hsz
  rw [hc] at h
  exact h.mono fun e w' ⟨x, he, hx, hb⟩ => by
    obtain rfl := hx.nil rfl
    exact ⟨he, hb⟩
theorem mback_step (ea : Nat → Addr) (x y : Int) (w : World) (hx : -1000 ≤ x ∧ x ≤ 1000) (hy : -1000 ≤ y ∧ y ≤ 1000) (hG : Gs true ea w) (hsz : 13 ≤ w.heap.size) :
    Calls Tryd.prog 13 #[.agg #[.int .i64 1, .int .i64 1, .int .i64 0, .int .i64 1, .int .i64 0, .int .i64 1, .int .i64 1, .int .i64 1, .int .i64 x, .int .i64 1, .int .i64 y, .int .i64 1]] w fun e w' => e = .returned (.tuple #[.agg #[.int .i64 1, .int .i64 1, .int .i64 0, .int .i64 1, .int .i64 0, .int .i64 1, .int .i64 1, .int .i64 1, .int .i64 (-x), .int .i64 1, .int .i64 (-y), .int .i64 1], .nilIface]) ∧ Below w.heap.size w w' := by
  obtain ⟨h1, h2⟩ := step_back hx hy
  have h := mback_any ea (stepM x y) w (stepM_R hx hy).I hG hsz
  rw [h1, h2] at h
  exact h.mono fun e w' ⟨x, he, hx, hb⟩ => by
    obtain rfl := hx.nil rfl
    exact ⟨he, hb⟩

theorem rpoint_c2 (p : Pt) (c : Int) (w : World) (hI : p.I) (h : (p.c : Int) = c) :
    Calls Tryd.prog 12 #[.agg #[.int .i64 p.xn, .int .i64 p.xd, .int .i64 p.yn, .int .i64 p.yd]] w fun e w' => e = .returned (.int .i64 c) ∧ Below w.heap.size w w' := by
  have k := rpoint_any p w hI
  rw [h] at k
  exact k

set_option maxHeartbeats 1000000 in
set_option maxRecDepth 100000 in
theorem smv_err (ea : Nat → Addr) (ps : List Pt) (p : Pt) (x y : Int) (oa : Option Addr) (len cap : Nat) (w : World) (hs : SlP w oa len cap ps) (hpI : p.I) (hG : Gs true ea w) (h20 : len ≤ 20) (hx : -100 ≤ x ∧ x ≤ 100) (hy : -100 ≤ y ∧ y ≤ 100) (hbad : (crC ps p).1 ≠ 0) (hempty : crL ps p = []) :
    Calls Tryd.prog 3 #[.slice oa len cap, .agg #[.int .i64 p.xn, .int .i64 p.xd, .int .i64 p.yn, .int .i64 p.yd], .int .i64 x, .int .i64 y] w fun e w' => e = .returned (.bool true) ∧ Below w.heap.size w w' := by
  have g1 : decide (20 < (len : Int)) = false := by simp; omega
  have g2 : decide (x < -100) = false := by simp; omega
  have g3 : decide (100 < x) = false := by simp; omega
  have g4 : decide (y < -100) = false := by simp; omega
  have g5 : decide (100 < y) = false := by simp; omega
  have hI := hs.2.2.2.1
  have hBound := hG.c2
  have hShape := hG.c3
  have zhShape := zlt hShape
  have xhShape := zlts hShape
  have yhShape := zne hShape
  have zhBound := zlt hBound
  have xhBound := zlts hBound
  have yhBound := zne hBound
  have hn : (crL ps p).sum = 0 := by rw [hempty]; rfl
  obtain ⟨c, hok⟩ : ∃ c, crC ps p = c := ⟨_, rfl⟩
  rw [hok] at hbad
  have H_hs := Lib.hid hs
  clear hs
  have H_hbad := Lib.hid hbad
  clear hbad
  have H_hempty := Lib.hid hempty
  clear hempty
  have H_hI := Lib.hid hI
  clear hI
  have H_hn := Lib.hid hn
  clear hn
  have H_hG := Lib.hid hG
  clear hG
  have H_hok := Lib.hid hok
  clear hok
  go_enter Tryd.func3, Tryd.ntmps3
  go_wp2_with fail
  refine call_bel (w := w) (by repeat' (first | (with_reducible exact Below.refl _ _) | (with_reducible assumption) | (with_reducible refine bdn ?_) | (with_reducible refine Below.alloc ?_ ?_ _) | (with_reducible refine Below.drew ?_) | (with_reducible refine Below.setCell ?_ ?_ _) | omega | (simp <;> omega))) (fun HB => shaped_any ea _ (gkeep HB hShape rfl) (gkeep HB hBound rfl)) ?_
  intro w1 hb1 hz1 c1 d1 hW1
  have t1 := hb1.size
  try simp only [World.size_alloc] at hz1 c1 d1
  try simp only [World.size_drew] at hz1 c1 d1
  try simp only [World.size_setCell] at hz1 c1 d1
  try simp only [World.heap_drewN] at hz1 c1 d1
  try simp only [World.size_alloc] at hz1 c1 d1
  try simp only [World.size_drew] at hz1 c1 d1
  try simp only [World.size_setCell] at hz1 c1 d1
  have s1_0 : w.heap.size < w1.heap.size := by omega
  have o1_0 := fun j => c1 (w.heap.size) j (by omega)
  have f1_0 := fun j => d1 (w.heap.size) j (by omega)
  clear c1 d1 hz1 hW1
  go_wp2_with fail
  refine call_p (w := w) (by repeat' (first | (with_reducible exact Below.refl _ _) | (with_reducible assumption) | (with_reducible refine bdn ?_) | (with_reducible refine Below.alloc ?_ ?_ _) | (with_reducible refine Below.drew ?_) | (with_reducible refine Below.setCell ?_ ?_ _) | omega | (simp <;> omega))) (fun HB => ownpoints_any ps _ _ _ _ (H_hs.out.keep HB rfl) (by omega)) ?_
  intro v2 w2 hv2 hb2 hz2 c2 d2 hW2
  have t2 := hb2.size
  try simp only [World.size_alloc] at hz2 c2 d2
  try simp only [World.size_drew] at hz2 c2 d2
  try simp only [World.size_setCell] at hz2 c2 d2
  try simp only [World.heap_drewN] at hz2 c2 d2
  try simp only [World.size_alloc] at hz2 c2 d2
  try simp only [World.size_drew] at hz2 c2 d2
  try simp only [World.size_setCell] at hz2 c2 d2
  have s2_0 : w.heap.size < w2.heap.size := by omega
  have o2_0 := fun j => c2 (w.heap.size) j (by omega)
  have f2_0 := fun j => d2 (w.heap.size) j (by omega)
  clear c2 d2 hz2 hW2
  obtain ⟨oa2, cap2, rfl, hs2⟩ := hv2.slp H_hI.out
  have H_hs2 := Lib.hid hs2
  clear hs2
  have H_hv2 := Lib.hid hv2
  clear hv2
  go_wp2_with fail
  refine call_ne (w := w) (by repeat' (first | (with_reducible exact Below.refl _ _) | (with_reducible assumption) | (with_reducible refine bdn ?_) | (with_reducible refine Below.alloc ?_ ?_ _) | (with_reducible refine Below.drew ?_) | (with_reducible refine Below.setCell ?_ ?_ _) | omega | (simp <;> omega))) (fun HB => shwind_any ea ps oa2 _ cap2 p _ (H_hs2.out.keep (B := w2.heap.size) (by repeat' (first | (with_reducible exact Below.refl _ _) | (with_reducible assumption) | (with_reducible refine bdn ?_) | (with_reducible refine Below.alloc ?_ ?_ _) | (with_reducible refine Below.drew ?_) | (with_reducible refine Below.setCell ?_ ?_ _) | omega | (simp <;> omega))) rfl) hpI (gkeep HB hShape rfl) (gkeep HB hBound rfl)) ?_
  rw [H_hn.out, H_hok.out]
  intro x3 w3 hx3 hb3 hz3 c3 d3 hW3
  have t3 := hb3.size
  have e3_2 : Below w2.heap.size w2 w3 := below_via (by repeat' (first | (with_reducible exact Below.refl _ _) | (with_reducible assumption) | (with_reducible refine bdn ?_) | (with_reducible refine Below.alloc ?_ ?_ _) | (with_reducible refine Below.drew ?_) | (with_reducible refine Below.setCell ?_ ?_ _) | omega | (simp <;> omega))) hW3
  have te3_2 := e3_2.size
  try simp only [World.size_alloc] at hz3 c3 d3
  try simp only [World.size_drew] at hz3 c3 d3
  try simp only [World.size_setCell] at hz3 c3 d3
  try simp only [World.heap_drewN] at hz3 c3 d3
  try simp only [World.size_alloc] at hz3 c3 d3
  try simp only [World.size_drew] at hz3 c3 d3
  try simp only [World.size_setCell] at hz3 c3 d3
  have s3_0 : w.heap.size < w3.heap.size := by omega
  have o3_0 := fun j => c3 (w.heap.size) j (by omega)
  have f3_0 := fun j => d3 (w.heap.size) j (by omega)
  have s3_1 : w2.heap.size < w3.heap.size := by omega
  have o3_1 := fun j => c3 (w2.heap.size) j (by omega)
  have f3_1 := fun j => d3 (w2.heap.size) j (by omega)
  clear c3 d3 hz3 hW3
  obtain ⟨t, ad, rfl⟩ := hx3.some H_hbad.out
  clear hx3
  go_wp2_with fail
  go_returns
  exact ⟨rfl, by repeat' (first | (with_reducible exact Below.refl _ _) | (with_reducible assumption) | (with_reducible refine bdn ?_) | (with_reducible refine Below.alloc ?_ ?_ _) | (with_reducible refine Below.drew ?_) | (with_reducible refine Below.setCell ?_ ?_ _) | omega | (simp <;> omega))⟩

set_option maxHeartbeats 1000000 in
set_option maxRecDepth 100000 in
theorem smv_ok (ea : Nat → Addr) (ps : List Pt) (p : Pt) (x y : Int) (oa : Option Addr) (len cap : Nat) (w : World) (hs : SlP w oa len cap ps) (hpI : p.I) (hG : Gs true ea w) (hsz : 13 ≤ w.heap.size) (h20 : len ≤ 20) (hx : -100 ≤ x ∧ x ≤ 100) (hy : -100 ≤ y ∧ y ≤ 100) (hok : crC ps p = (0, none)) :
    Calls Tryd.prog 3 #[.slice oa len cap, .agg #[.int .i64 p.xn, .int .i64 p.xd, .int .i64 p.yn, .int .i64 p.yd], .int .i64 x, .int .i64 y] w fun e w' => e = .returned (.bool true) ∧ Below w.heap.size w w' := by
  have g1 : decide (20 < (len : Int)) = false := by simp; omega
  have g2 : decide (x < -100) = false := by simp; omega
  have g3 : decide (100 < x) = false := by simp; omega
  have g4 : decide (y < -100) = false := by simp; omega
  have g5 : decide (100 < y) = false := by simp; omega
  have hI := hs.2.2.2.1
  have hBound := hG.c2
  have hShape := hG.c3
  have zhShape := zlt hShape
  have xhShape := zlts hShape
  have yhShape := zne hShape
  have zhBound := zlt hBound
  have xhBound := zlts hBound
  have yhBound := zne hBound
  obtain ⟨hall, hp, h30⟩ := crC_inv hok
  obtain ⟨n, hn⟩ : ∃ n, (crL ps p).sum = n := ⟨_, rfl⟩
  obtain ⟨hat, hav⟩ := step_at (x := x) (y := y) hp (by omega) (by omega)
  have im := (stepM_R (x := x) (y := y) (by omega) (by omega)).I
  obtain ⟨q, hq⟩ : ∃ q, shPt x y p = q := ⟨_, rfl⟩
  rw [hq] at hav
  have hqI : q.I := by
    have b1 := sh_bound (x := x) ⟨hp.x.d0, hp.xs.1⟩ hp.xs.2 (by omega)
    have b2 := sh_bound (x := y) ⟨hp.y.d0, hp.ys.1⟩ hp.ys.2 (by omega)
    rw [← hq]
    exact ⟨by show I64 (p.xn + x * p.xd); unfold I64; omega, hp.I.xd, by show I64 (p.yn + y * p.yd); unfold I64; omega, hp.I.yd⟩
  rcases movC_some (m := stepM x y) (ps := ps) (stepM_R (by omega) (by omega)) (shC_of hall h30) with hmc | ⟨hmc, hll⟩
  · obtain ⟨hL, hall'⟩ := step_shape hall h30 (by omega) (by omega) hmc
    obtain ⟨ps', hps⟩ : ∃ u, ps.map (shPt x y) = u := ⟨_, rfl⟩
    have hll : movL (stepM x y) ps = ps' := hL.trans hps
    have hI2 : ∀ a ∈ ps', a.I := by rw [← hps]; exact fun a ha => (hall' a ha).I
    obtain ⟨hbc, hbl⟩ := step_home hall h30 (x := x) (y := y) (by omega) (by omega) hall'
    rw [hps] at hbc hbl
    have im' := (stepM_R (x := -x) (y := -y) (by omega) (by omega)).I
    obtain ⟨cq, hcq⟩ : ∃ c : Int, (q.c : Int) = c := ⟨_, rfl⟩
    have hcc := hmc
    by_cases hq0 : q.c = 0
    · have hqok : PtOk q := pt_ok hq0
      obtain ⟨hok2, hn2⟩ := step_wind hall hp h30 hall' (by rw [hq]; exact hqok)
      rw [hps, hq] at hok2 hn2
      rw [hn] at hn2
      obtain rfl : cq = 0 := by rw [← hcq, hq0]; rfl
      have H_hs := Lib.hid hs
      clear hs
      have H_hI := Lib.hid hI
      clear hI
      have H_hn := Lib.hid hn
      clear hn
      have H_hG := Lib.hid hG
      clear hG
      have H_hok := Lib.hid hok
      clear hok
      have H_hall := Lib.hid hall
      clear hall
      have H_hp := Lib.hid hp
      clear hp
      have H_h30 := Lib.hid h30
      clear h30
      have H_hat := Lib.hid hat
      clear hat
      have H_hav := Lib.hid hav
      clear hav
      have H_hq := Lib.hid hq
      clear hq
      have H_im := Lib.hid im
      clear im
      have H_hqI := Lib.hid hqI
      clear hqI
      have H_hL := Lib.hid hL
      clear hL
      have H_hall' := Lib.hid hall'
      clear hall'
      have H_hps := Lib.hid hps
      clear hps
      have H_hll := Lib.hid hll
      clear hll
      have H_hI2 := Lib.hid hI2
      clear hI2
      have H_hbc := Lib.hid hbc
      clear hbc
      have H_hbl := Lib.hid hbl
      clear hbl
      have H_im' := Lib.hid im'
      clear im'
      have H_hcq := Lib.hid hcq
      clear hcq
      have H_hcc := Lib.hid hcc
      clear hcc
      have H_hmc := Lib.hid hmc
      clear hmc
      have H_hok2 := Lib.hid hok2
      clear hok2
      have H_hn2 := Lib.hid hn2
      clear hn2
      have H_hqok := Lib.hid hqok
      clear hqok
      have H_hq0 := Lib.hid hq0
      clear hq0
      go_enter Tryd.func3, Tryd.ntmps3
      go_wp2_with fail
      refine call_bel (w := w) (by repeat' (first | (with_reducible exact Below.refl _ _) | (with_reducible assumption) | (with_reducible refine bdn ?_) | (with_reducible refine Below.alloc ?_ ?_ _) | (with_reducible refine Below.drew ?_) | (with_reducible refine Below.setCell ?_ ?_ _) | omega | (simp <;> omega))) (fun HB => shaped_any ea _ (gkeep HB hShape rfl) (gkeep HB hBound rfl)) ?_
      intro w1 hb1 hz1 c1 d1 hW1
      have t1 := hb1.size
      try simp only [World.size_alloc] at hz1 c1 d1
      try simp only [World.size_drew] at hz1 c1 d1
      try simp only [World.size_setCell] at hz1 c1 d1
      try simp only [World.heap_drewN] at hz1 c1 d1
      try simp only [World.size_alloc] at hz1 c1 d1
      try simp only [World.size_drew] at hz1 c1 d1
      try simp only [World.size_setCell] at hz1 c1 d1
      have s1_0 : w.heap.size < w1.heap.size := by omega
      have o1_0 := fun j => c1 (w.heap.size) j (by omega)
      have f1_0 := fun j => d1 (w.heap.size) j (by omega)
      clear c1 d1 hz1 hW1
      go_wp2_with fail
      refine call_p (w := w) (by repeat' (first | (with_reducible exact Below.refl _ _) | (with_reducible assumption) | (with_reducible refine bdn ?_) | (with_reducible refine Below.alloc ?_ ?_ _) | (with_reducible refine Below.drew ?_) | (with_reducible refine Below.setCell ?_ ?_ _) | omega | (simp <;> omega))) (fun HB => ownpoints_any ps _ _ _ _ (H_hs.out.keep HB rfl) (by omega)) ?_
      intro v2 w2 hv2 hb2 hz2 c2 d2 hW2
      have t2 := hb2.size
      try simp only [World.size_alloc] at hz2 c2 d2
      try simp only [World.size_drew] at hz2 c2 d2
      try simp only [World.size_setCell] at hz2 c2 d2
      try simp only [World.heap_drewN] at hz2 c2 d2
      try simp only [World.size_alloc] at hz2 c2 d2
      try simp only [World.size_drew] at hz2 c2 d2
      try simp only [World.size_setCell] at hz2 c2 d2
      have s2_0 : w.heap.size < w2.heap.size := by omega
      have o2_0 := fun j => c2 (w.heap.size) j (by omega)
      have f2_0 := fun j => d2 (w.heap.size) j (by omega)
      clear c2 d2 hz2 hW2
      obtain ⟨oa2, cap2, rfl, hs2⟩ := hv2.slp H_hI.out
      have H_hs2 := Lib.hid hs2
      clear hs2
      have H_hv2 := Lib.hid hv2
      clear hv2
      go_wp2_with fail
      refine call_ne (w := w) (by repeat' (first | (with_reducible exact Below.refl _ _) | (with_reducible assumption) | (with_reducible refine bdn ?_) | (with_reducible refine Below.alloc ?_ ?_ _) | (with_reducible refine Below.drew ?_) | (with_reducible refine Below.setCell ?_ ?_ _) | omega | (simp <;> omega))) (fun HB => shwind_any ea ps oa2 _ cap2 p _ (H_hs2.out.keep (B := w2.heap.size) (by repeat' (first | (with_reducible exact Below.refl _ _) | (with_reducible assumption) | (with_reducible refine bdn ?_) | (with_reducible refine Below.alloc ?_ ?_ _) | (with_reducible refine Below.drew ?_) | (with_reducible refine Below.setCell ?_ ?_ _) | omega | (simp <;> omega))) rfl) hpI (gkeep HB hShape rfl) (gkeep HB hBound rfl)) ?_
      rw [H_hn.out, H_hok.out]
      intro x3 w3 hx3 hb3 hz3 c3 d3 hW3
      have t3 := hb3.size
      have e3_2 : Below w2.heap.size w2 w3 := below_via (by repeat' (first | (with_reducible exact Below.refl _ _) | (with_reducible assumption) | (with_reducible refine bdn ?_) | (with_reducible refine Below.alloc ?_ ?_ _) | (with_reducible refine Below.drew ?_) | (with_reducible refine Below.setCell ?_ ?_ _) | omega | (simp <;> omega))) hW3
      have te3_2 := e3_2.size
      try simp only [World.size_alloc] at hz3 c3 d3
      try simp only [World.size_drew] at hz3 c3 d3
      try simp only [World.size_setCell] at hz3 c3 d3
      try simp only [World.heap_drewN] at hz3 c3 d3
      try simp only [World.size_alloc] at hz3 c3 d3
      try simp only [World.size_drew] at hz3 c3 d3
      try simp only [World.size_setCell] at hz3 c3 d3
      have s3_0 : w.heap.size < w3.heap.size := by omega
      have o3_0 := fun j => c3 (w.heap.size) j (by omega)
      have f3_0 := fun j => d3 (w.heap.size) j (by omega)
      have s3_1 : w2.heap.size < w3.heap.size := by omega
      have o3_1 := fun j => c3 (w2.heap.size) j (by omega)
      have f3_1 := fun j => d3 (w2.heap.size) j (by omega)
      clear c3 d3 hz3 hW3
      obtain rfl := hx3.nil rfl
      clear hx3
      go_wp2_with fail
      refine call_bel (w := w) (by repeat' (first | (with_reducible exact Below.refl _ _) | (with_reducible assumption) | (with_reducible refine bdn ?_) | (with_reducible refine Below.alloc ?_ ?_ _) | (with_reducible refine Below.drew ?_) | (with_reducible refine Below.setCell ?_ ?_ _) | omega | (simp <;> omega))) (fun HB => mone_any _) ?_
      intro w4 hb4 hz4 c4 d4 hW4
      have t4 := hb4.size
      have e4_2 : Below w2.heap.size w2 w4 := below_via (by repeat' (first | (with_reducible exact Below.refl _ _) | (with_reducible assumption) | (with_reducible refine bdn ?_) | (with_reducible refine Below.alloc ?_ ?_ _) | (with_reducible refine Below.drew ?_) | (with_reducible refine Below.setCell ?_ ?_ _) | omega | (simp <;> omega))) hW4
      have te4_2 := e4_2.size
      try simp only [World.size_alloc] at hz4 c4 d4
      try simp only [World.size_drew] at hz4 c4 d4
      try simp only [World.size_setCell] at hz4 c4 d4
      try simp only [World.heap_drewN] at hz4 c4 d4
      try simp only [World.size_alloc] at hz4 c4 d4
      try simp only [World.size_drew] at hz4 c4 d4
      try simp only [World.size_setCell] at hz4 c4 d4
      have s4_0 : w.heap.size < w4.heap.size := by omega
      have o4_0 := fun j => c4 (w.heap.size) j (by omega)
      have f4_0 := fun j => d4 (w.heap.size) j (by omega)
      have s4_1 : w2.heap.size < w4.heap.size := by omega
      have o4_1 := fun j => c4 (w2.heap.size) j (by omega)
      have f4_1 := fun j => d4 (w2.heap.size) j (by omega)
      clear c4 d4 hz4 hW4
      go_upto_region 11 with fail
      obtain ⟨wz, hwz⟩ : ∃ u, w4.alloc (.cells #[.int .i64 1, .int .i64 1, .int .i64 0, .int .i64 1, .int .i64 0, .int .i64 1, .int .i64 1, .int .i64 1, .int .i64 x, .int .i64 1, .int .i64 y, .int .i64 1] 36) = u := ⟨_, rfl⟩
      rw [hwz]
      have zz : wz.heap.size = w4.heap.size + 1 := by rw [← hwz]; simp
      have hBz : Below w.heap.size w wz := by rw [← hwz]; exact by repeat' (first | (with_reducible exact Below.refl _ _) | (with_reducible assumption) | (with_reducible refine bdn ?_) | (with_reducible refine Below.alloc ?_ ?_ _) | (with_reducible refine Below.drew ?_) | (with_reducible refine Below.setCell ?_ ?_ _) | omega | (simp <;> omega))
      have hB4 : Below w4.heap.size w4 wz := by rw [← hwz]; exact by repeat' (first | (with_reducible exact Below.refl _ _) | (with_reducible assumption) | (with_reducible refine bdn ?_) | (with_reducible refine Below.alloc ?_ ?_ _) | (with_reducible refine Below.drew ?_) | (with_reducible refine Below.setCell ?_ ?_ _) | omega | (simp <;> omega))
      have hB2 : Below w2.heap.size w2 wz := below_via e4_2 hB4
      have km : ∀ j, wz.cell? ⟨w4.heap.size, j, none⟩ = (#[.int .i64 1, .int .i64 1, .int .i64 0, .int .i64 1, .int .i64 0, .int .i64 1, .int .i64 1, .int .i64 1, .int .i64 x, .int .i64 1, .int .i64 y, .int .i64 1] : Array Value)[j]? := by rw [← hwz]; exact fun j => World.cell?_alloc_new _ _ _ _
      have ks : wz.cell? ⟨w2.heap.size, 0, none⟩ = some (.slice oa2 ps.length cap2) := by rw [hB4.cell s4_1, o4_1, o3_1, World.cell?_alloc_new]; rfl
      have kp : ∀ j, wz.cell? ⟨w.heap.size, j, none⟩ = (#[.int .i64 p.xn, .int .i64 p.xd, .int .i64 p.yn, .int .i64 p.yd] : Array Value)[j]? := fun j => by rw [hB4.cell s4_0, o4_0, o3_0, World.cell?_alloc_past _ _ _ s2_0, o2_0, o1_0, World.cell?_alloc_new]
      have zm : w4.heap.size < wz.heap.size := by omega
      have zs : w2.heap.size < wz.heap.size := by omega
      have zp : w.heap.size < wz.heap.size := by omega
      have hs5 : SlP wz oa2 ps.length cap2 ps := H_hs2.out.keep (B := w2.heap.size) hB2 rfl
      clear o1_0 f1_0 o2_0 f2_0 o3_0 f3_0 o3_1 f3_1 o4_0 f4_0 o4_1 f4_1 s1_0 s2_0 s3_0 s3_1 s4_0 s4_1 hwz hB2 hB4 hb1 hb2 hb3 hb4 e3_2 e4_2 te3_2 te4_2 H_hs2 H_hv2 zz t1 t2 t3 t4
      have H_hs5 := Lib.hid hs5
      clear hs5
      ((try go_simp); (repeat go_step))
      refine call_pe (w := w) (by repeat' (first | (with_reducible exact Below.refl _ _) | (with_reducible assumption) | (with_reducible refine bdn ?_) | (with_reducible refine Below.alloc ?_ ?_ _) | (with_reducible refine Below.drew ?_) | (with_reducible refine Below.setCell ?_ ?_ _) | omega | (simp <;> omega))) (fun HB => shmove_step ea x y ps oa2 _ cap2 _ H_im.out H_hs5.out (H_hG.out.keep HB rfl) (Nat.le_trans hsz HB.size) _ _ H_hcc.out H_hll.out) ?_
      intro v5 x5 w5 hx5 hb5 hz5 c5 d5 hW5
      have t5 := hb5.size
      try simp only [World.size_alloc] at hz5 c5 d5
      try simp only [World.size_drew] at hz5 c5 d5
      try simp only [World.size_setCell] at hz5 c5 d5
      try simp only [World.heap_drewN] at hz5 c5 d5
      try simp only [World.size_alloc] at hz5 c5 d5
      try simp only [World.size_drew] at hz5 c5 d5
      try simp only [World.size_setCell] at hz5 c5 d5
      have s5_0 : w.heap.size < w5.heap.size := by omega
      have o5_0 := fun j => c5 (w.heap.size) j (by omega)
      have f5_0 := fun j => d5 (w.heap.size) j (by omega)
      have s5_1 : w2.heap.size < w5.heap.size := by omega
      have o5_1 := fun j => c5 (w2.heap.size) j (by omega)
      have f5_1 := fun j => d5 (w2.heap.size) j (by omega)
      have s5_2 : w4.heap.size < w5.heap.size := by omega
      have o5_2 := fun j => c5 (w4.heap.size) j (by omega)
      have f5_2 := fun j => d5 (w4.heap.size) j (by omega)
      clear c5 d5 hz5 hW5
      obtain ⟨hx5, hv5⟩ := hx5
      obtain ⟨oa5, cap5, rfl, hs6⟩ := hv5.slp H_hI2.out
      have H_hs6 := Lib.hid hs6
      clear hs6
      have H_hv5 := Lib.hid hv5
      clear hv5
      obtain rfl := hx5.nil rfl
      clear hx5
      ((try go_simp); (repeat go_step))
      refine call_bel (w := w) (by repeat' (first | (with_reducible exact Below.refl _ _) | (with_reducible assumption) | (with_reducible refine bdn ?_) | (with_reducible refine Below.alloc ?_ ?_ _) | (with_reducible refine Below.drew ?_) | (with_reducible refine Below.setCell ?_ ?_ _) | omega | (simp <;> omega))) (fun HB => mat_stepc ea x y p q _ H_im.out hpI (H_hG.out.keep HB rfl) (Nat.le_trans hsz HB.size) H_hat.out H_hav.out) ?_
      intro w6 hb6 hz6 c6 d6 hW6
      have t6 := hb6.size
      have e6_5 : Below w5.heap.size w5 w6 := below_via (by repeat' (first | (with_reducible exact Below.refl _ _) | (with_reducible assumption) | (with_reducible refine bdn ?_) | (with_reducible refine Below.alloc ?_ ?_ _) | (with_reducible refine Below.drew ?_) | (with_reducible refine Below.setCell ?_ ?_ _) | omega | (simp <;> omega))) hW6
      have te6_5 := e6_5.size
      try simp only [World.size_alloc] at hz6 c6 d6
      try simp only [World.size_drew] at hz6 c6 d6
      try simp only [World.size_setCell] at hz6 c6 d6
      try simp only [World.heap_drewN] at hz6 c6 d6
      try simp only [World.size_alloc] at hz6 c6 d6
      try simp only [World.size_drew] at hz6 c6 d6
      try simp only [World.size_setCell] at hz6 c6 d6
      have s6_0 : w.heap.size < w6.heap.size := by omega
      have o6_0 := fun j => c6 (w.heap.size) j (by omega)
      have f6_0 := fun j => d6 (w.heap.size) j (by omega)
      have s6_1 : w2.heap.size < w6.heap.size := by omega
      have o6_1 := fun j => c6 (w2.heap.size) j (by omega)
      have f6_1 := fun j => d6 (w2.heap.size) j (by omega)
      have s6_2 : w4.heap.size < w6.heap.size := by omega
      have o6_2 := fun j => c6 (w4.heap.size) j (by omega)
      have f6_2 := fun j => d6 (w4.heap.size) j (by omega)
      have s6_3 : w5.heap.size < w6.heap.size := by omega
      have o6_3 := fun j => c6 (w5.heap.size) j (by omega)
      have f6_3 := fun j => d6 (w5.heap.size) j (by omega)
      clear c6 d6 hz6 hW6
      ((try go_simp); (repeat go_step))
      refine call_bel (w := w) (by repeat' (first | (with_reducible exact Below.refl _ _) | (with_reducible assumption) | (with_reducible refine bdn ?_) | (with_reducible refine Below.alloc ?_ ?_ _) | (with_reducible refine Below.drew ?_) | (with_reducible refine Below.setCell ?_ ?_ _) | omega | (simp <;> omega))) (fun HB => rpoint_c2 q 0 _ H_hqI.out H_hcq.out) ?_
      intro w7 hb7 hz7 c7 d7 hW7
      have t7 := hb7.size
      have e7_5 : Below w5.heap.size w5 w7 := below_via (by repeat' (first | (with_reducible exact Below.refl _ _) | (with_reducible assumption) | (with_reducible refine bdn ?_) | (with_reducible refine Below.alloc ?_ ?_ _) | (with_reducible refine Below.drew ?_) | (with_reducible refine Below.setCell ?_ ?_ _) | omega | (simp <;> omega))) hW7
      have te7_5 := e7_5.size
      try simp only [World.size_alloc] at hz7 c7 d7
      try simp only [World.size_drew] at hz7 c7 d7
      try simp only [World.size_setCell] at hz7 c7 d7
      try simp only [World.heap_drewN] at hz7 c7 d7
      try simp only [World.size_alloc] at hz7 c7 d7
      try simp only [World.size_drew] at hz7 c7 d7
      try simp only [World.size_setCell] at hz7 c7 d7
      have s7_0 : w.heap.size < w7.heap.size := by omega
      have o7_0 := fun j => c7 (w.heap.size) j (by omega)
      have f7_0 := fun j => d7 (w.heap.size) j (by omega)
      have s7_1 : w2.heap.size < w7.heap.size := by omega
      have o7_1 := fun j => c7 (w2.heap.size) j (by omega)
      have f7_1 := fun j => d7 (w2.heap.size) j (by omega)
      have s7_2 : w4.heap.size < w7.heap.size := by omega
      have o7_2 := fun j => c7 (w4.heap.size) j (by omega)
      have f7_2 := fun j => d7 (w4.heap.size) j (by omega)
      have s7_3 : w5.heap.size < w7.heap.size := by omega
      have o7_3 := fun j => c7 (w5.heap.size) j (by omega)
      have f7_3 := fun j => d7 (w5.heap.size) j (by omega)
      have s7_4 : w6.heap.size < w7.heap.size := by omega
      have o7_4 := fun j => c7 (w6.heap.size) j (by omega)
      have f7_4 := fun j => d7 (w6.heap.size) j (by omega)
      clear c7 d7 hz7 hW7
      ((try go_simp); (repeat go_step))
      refine call_ne (w := w) (by repeat' (first | (with_reducible exact Below.refl _ _) | (with_reducible assumption) | (with_reducible refine bdn ?_) | (with_reducible refine Below.alloc ?_ ?_ _) | (with_reducible refine Below.drew ?_) | (with_reducible refine Below.setCell ?_ ?_ _) | omega | (simp <;> omega))) (fun HB => shwind_any ea ps' oa5 _ cap5 q _ (H_hs6.out.keep (B := w5.heap.size) (by repeat' (first | (with_reducible exact Below.refl _ _) | (with_reducible assumption) | (with_reducible refine bdn ?_) | (with_reducible refine Below.alloc ?_ ?_ _) | (with_reducible refine Below.drew ?_) | (with_reducible refine Below.setCell ?_ ?_ _) | omega | (simp <;> omega))) rfl) H_hqI.out (gkeep HB hShape rfl) (gkeep HB hBound rfl)) ?_
      rw [H_hn2.out, H_hok2.out]
      intro x8 w8 hx8 hb8 hz8 c8 d8 hW8
      have t8 := hb8.size
      have e8_5 : Below w5.heap.size w5 w8 := below_via (by repeat' (first | (with_reducible exact Below.refl _ _) | (with_reducible assumption) | (with_reducible refine bdn ?_) | (with_reducible refine Below.alloc ?_ ?_ _) | (with_reducible refine Below.drew ?_) | (with_reducible refine Below.setCell ?_ ?_ _) | omega | (simp <;> omega))) hW8
      have te8_5 := e8_5.size
      try simp only [World.size_alloc] at hz8 c8 d8
      try simp only [World.size_drew] at hz8 c8 d8
      try simp only [World.size_setCell] at hz8 c8 d8
      try simp only [World.heap_drewN] at hz8 c8 d8
      try simp only [World.size_alloc] at hz8 c8 d8
      try simp only [World.size_drew] at hz8 c8 d8
      try simp only [World.size_setCell] at hz8 c8 d8
      have s8_0 : w.heap.size < w8.heap.size := by omega
      have o8_0 := fun j => c8 (w.heap.size) j (by omega)
      have f8_0 := fun j => d8 (w.heap.size) j (by omega)
      have s8_1 : w2.heap.size < w8.heap.size := by omega
      have o8_1 := fun j => c8 (w2.heap.size) j (by omega)
      have f8_1 := fun j => d8 (w2.heap.size) j (by omega)
      have s8_2 : w4.heap.size < w8.heap.size := by omega
      have o8_2 := fun j => c8 (w4.heap.size) j (by omega)
      have f8_2 := fun j => d8 (w4.heap.size) j (by omega)
      have s8_3 : w5.heap.size < w8.heap.size := by omega
      have o8_3 := fun j => c8 (w5.heap.size) j (by omega)
      have f8_3 := fun j => d8 (w5.heap.size) j (by omega)
      have s8_4 : w6.heap.size < w8.heap.size := by omega
      have o8_4 := fun j => c8 (w6.heap.size) j (by omega)
      have f8_4 := fun j => d8 (w6.heap.size) j (by omega)
      clear c8 d8 hz8 hW8
      obtain rfl := hx8.nil rfl
      clear hx8
      ((try go_simp); (repeat go_step))
      refine call_bel (w := w) (by repeat' (first | (with_reducible exact Below.refl _ _) | (with_reducible assumption) | (with_reducible refine bdn ?_) | (with_reducible refine Below.alloc ?_ ?_ _) | (with_reducible refine Below.drew ?_) | (with_reducible refine Below.setCell ?_ ?_ _) | omega | (simp <;> omega))) (fun HB => mback_step ea x y _ (by omega) (by omega) (H_hG.out.keep HB rfl) (Nat.le_trans hsz HB.size)) ?_
      intro w9 hb9 hz9 c9 d9 hW9
      have t9 := hb9.size
      have e9_5 : Below w5.heap.size w5 w9 := below_via (by repeat' (first | (with_reducible exact Below.refl _ _) | (with_reducible assumption) | (with_reducible refine bdn ?_) | (with_reducible refine Below.alloc ?_ ?_ _) | (with_reducible refine Below.drew ?_) | (with_reducible refine Below.setCell ?_ ?_ _) | omega | (simp <;> omega))) hW9
      have te9_5 := e9_5.size
      try simp only [World.size_alloc] at hz9 c9 d9
      try simp only [World.size_drew] at hz9 c9 d9
      try simp only [World.size_setCell] at hz9 c9 d9
      try simp only [World.heap_drewN] at hz9 c9 d9
      try simp only [World.size_alloc] at hz9 c9 d9
      try simp only [World.size_drew] at hz9 c9 d9
      try simp only [World.size_setCell] at hz9 c9 d9
      have s9_0 : w.heap.size < w9.heap.size := by omega
      have o9_0 := fun j => c9 (w.heap.size) j (by omega)
      have f9_0 := fun j => d9 (w.heap.size) j (by omega)
      have s9_1 : w2.heap.size < w9.heap.size := by omega
      have o9_1 := fun j => c9 (w2.heap.size) j (by omega)
      have f9_1 := fun j => d9 (w2.heap.size) j (by omega)
      have s9_2 : w4.heap.size < w9.heap.size := by omega
      have o9_2 := fun j => c9 (w4.heap.size) j (by omega)
      have f9_2 := fun j => d9 (w4.heap.size) j (by omega)
      have s9_3 : w5.heap.size < w9.heap.size := by omega
      have o9_3 := fun j => c9 (w5.heap.size) j (by omega)
      have f9_3 := fun j => d9 (w5.heap.size) j (by omega)
      have s9_4 : w6.heap.size < w9.heap.size := by omega
      have o9_4 := fun j => c9 (w6.heap.size) j (by omega)
      have f9_4 := fun j => d9 (w6.heap.size) j (by omega)
      clear c9 d9 hz9 hW9
      ((try go_simp); (repeat go_step))
      refine call_pe (w := w) (by repeat' (first | (with_reducible exact Below.refl _ _) | (with_reducible assumption) | (with_reducible refine bdn ?_) | (with_reducible refine Below.alloc ?_ ?_ _) | (with_reducible refine Below.drew ?_) | (with_reducible refine Below.setCell ?_ ?_ _) | omega | (simp <;> omega))) (fun HB => shmove_step ea (-x) (-y) ps' oa5 _ cap5 _ H_im'.out (H_hs6.out.keep (B := w5.heap.size) (by repeat' (first | (with_reducible exact Below.refl _ _) | (with_reducible assumption) | (with_reducible refine bdn ?_) | (with_reducible refine Below.alloc ?_ ?_ _) | (with_reducible refine Below.drew ?_) | (with_reducible refine Below.setCell ?_ ?_ _) | omega | (simp <;> omega))) rfl) (H_hG.out.keep HB rfl) (Nat.le_trans hsz HB.size) _ _ H_hbc.out H_hbl.out) ?_
      intro v10 x10 w10 hx10 hb10 hz10 c10 d10 hW10
      have t10 := hb10.size
      try simp only [World.size_alloc] at hz10 c10 d10
      try simp only [World.size_drew] at hz10 c10 d10
      try simp only [World.size_setCell] at hz10 c10 d10
      try simp only [World.heap_drewN] at hz10 c10 d10
      try simp only [World.size_alloc] at hz10 c10 d10
      try simp only [World.size_drew] at hz10 c10 d10
      try simp only [World.size_setCell] at hz10 c10 d10
      have s10_0 : w.heap.size < w10.heap.size := by omega
      have o10_0 := fun j => c10 (w.heap.size) j (by omega)
      have f10_0 := fun j => d10 (w.heap.size) j (by omega)
      have s10_1 : w2.heap.size < w10.heap.size := by omega
      have o10_1 := fun j => c10 (w2.heap.size) j (by omega)
      have f10_1 := fun j => d10 (w2.heap.size) j (by omega)
      have s10_2 : w4.heap.size < w10.heap.size := by omega
      have o10_2 := fun j => c10 (w4.heap.size) j (by omega)
      have f10_2 := fun j => d10 (w4.heap.size) j (by omega)
      have s10_3 : w5.heap.size < w10.heap.size := by omega
      have o10_3 := fun j => c10 (w5.heap.size) j (by omega)
      have f10_3 := fun j => d10 (w5.heap.size) j (by omega)
      have s10_4 : w6.heap.size < w10.heap.size := by omega
      have o10_4 := fun j => c10 (w6.heap.size) j (by omega)
      have f10_4 := fun j => d10 (w6.heap.size) j (by omega)
      have s10_5 : w9.heap.size < w10.heap.size := by omega
      have o10_5 := fun j => c10 (w9.heap.size) j (by omega)
      have f10_5 := fun j => d10 (w9.heap.size) j (by omega)
      clear c10 d10 hz10 hW10
      obtain ⟨hx10, hv10⟩ := hx10
      obtain rfl := hx10.nil rfl
      obtain ⟨oa10, cap10, rfl, hs10⟩ := hv10.slp H_hI.out
      clear hx10
      have H_hs10 := Lib.hid hs10
      clear hs10
      have H_hv10 := Lib.hid hv10
      clear hv10
      ((try go_simp); (repeat go_step))
      refine call_bel (w := w) (by repeat' (first | (with_reducible exact Below.refl _ _) | (with_reducible assumption) | (with_reducible refine bdn ?_) | (with_reducible refine Below.alloc ?_ ?_ _) | (with_reducible refine Below.drew ?_) | (with_reducible refine Below.setCell ?_ ?_ _) | omega | (simp <;> omega))) (fun HB => same_any ps oa10 oa _ cap10 len cap _ (H_hs10.out.keep (B := w10.heap.size) (by repeat' (first | (with_reducible exact Below.refl _ _) | (with_reducible assumption) | (with_reducible refine bdn ?_) | (with_reducible refine Below.alloc ?_ ?_ _) | (with_reducible refine Below.drew ?_) | (with_reducible refine Below.setCell ?_ ?_ _) | omega | (simp <;> omega))) rfl) (H_hs.out.keep HB rfl)) ?_
      intro w11 hb11 hz11 c11 d11 hW11
      have t11 := hb11.size
      try simp only [World.size_alloc] at hz11 c11 d11
      try simp only [World.size_drew] at hz11 c11 d11
      try simp only [World.size_setCell] at hz11 c11 d11
      try simp only [World.heap_drewN] at hz11 c11 d11
      try simp only [World.size_alloc] at hz11 c11 d11
      try simp only [World.size_drew] at hz11 c11 d11
      try simp only [World.size_setCell] at hz11 c11 d11
      have s11_0 : w.heap.size < w11.heap.size := by omega
      have o11_0 := fun j => c11 (w.heap.size) j (by omega)
      have f11_0 := fun j => d11 (w.heap.size) j (by omega)
      clear c11 d11 hz11 hW11
      ((try go_simp); (repeat go_step))
      go_returns
      exact ⟨rfl, by repeat' (first | (with_reducible exact Below.refl _ _) | (with_reducible assumption) | (with_reducible refine bdn ?_) | (with_reducible refine Below.alloc ?_ ?_ _) | (with_reducible refine Below.drew ?_) | (with_reducible refine Below.setCell ?_ ?_ _) | omega | (simp <;> omega))⟩
    · have hc0 : decide (0 < cq) = true := by simp; omega
      have H_hs := Lib.hid hs
      clear hs
      have H_hI := Lib.hid hI
      clear hI
      have H_hn := Lib.hid hn
      clear hn
      have H_hG := Lib.hid hG
      clear hG
      have H_hok := Lib.hid hok
      clear hok
      have H_hall := Lib.hid hall
      clear hall
      have H_hp := Lib.hid hp
      clear hp
      have H_h30 := Lib.hid h30
      clear h30
      have H_hat := Lib.hid hat
      clear hat
      have H_hav := Lib.hid hav
      clear hav
      have H_hq := Lib.hid hq
      clear hq
      have H_im := Lib.hid im
      clear im
      have H_hqI := Lib.hid hqI
      clear hqI
      have H_hL := Lib.hid hL
      clear hL
      have H_hall' := Lib.hid hall'
      clear hall'
      have H_hps := Lib.hid hps
      clear hps
      have H_hll := Lib.hid hll
      clear hll
      have H_hI2 := Lib.hid hI2
      clear hI2
      have H_hbc := Lib.hid hbc
      clear hbc
      have H_hbl := Lib.hid hbl
      clear hbl
      have H_im' := Lib.hid im'
      clear im'
      have H_hcq := Lib.hid hcq
      clear hcq
      have H_hcc := Lib.hid hcc
      clear hcc
      have H_hmc := Lib.hid hmc
      clear hmc
      go_enter Tryd.func3, Tryd.ntmps3
      go_wp2_with fail
      refine call_bel (w := w) (by repeat' (first | (with_reducible exact Below.refl _ _) | (with_reducible assumption) | (with_reducible refine bdn ?_) | (with_reducible refine Below.alloc ?_ ?_ _) | (with_reducible refine Below.drew ?_) | (with_reducible refine Below.setCell ?_ ?_ _) | omega | (simp <;> omega))) (fun HB => shaped_any ea _ (gkeep HB hShape rfl) (gkeep HB hBound rfl)) ?_
      intro w1 hb1 hz1 c1 d1 hW1
      have t1 := hb1.size
      try simp only [World.size_alloc] at hz1 c1 d1
      try simp only [World.size_drew] at hz1 c1 d1
      try simp only [World.size_setCell] at hz1 c1 d1
      try simp only [World.heap_drewN] at hz1 c1 d1
      try simp only [World.size_alloc] at hz1 c1 d1
      try simp only [World.size_drew] at hz1 c1 d1
      try simp only [World.size_setCell] at hz1 c1 d1
      have s1_0 : w.heap.size < w1.heap.size := by omega
      have o1_0 := fun j => c1 (w.heap.size) j (by omega)
      have f1_0 := fun j => d1 (w.heap.size) j (by omega)
      clear c1 d1 hz1 hW1
      go_wp2_with fail
      refine call_p (w := w) (by repeat' (first | (with_reducible exact Below.refl _ _) | (with_reducible assumption) | (with_reducible refine bdn ?_) | (with_reducible refine Below.alloc ?_ ?_ _) | (with_reducible refine Below.drew ?_) | (with_reducible refine Below.setCell ?_ ?_ _) | omega | (simp <;> omega))) (fun HB => ownpoints_any ps _ _ _ _ (H_hs.out.keep HB rfl) (by omega)) ?_
      intro v2 w2 hv2 hb2 hz2 c2 d2 hW2
      have t2 := hb2.size
      try simp only [World.size_alloc] at hz2 c2 d2
      try simp only [World.size_drew] at hz2 c2 d2
      try simp only [World.size_setCell] at hz2 c2 d2
      try simp only [World.heap_drewN] at hz2 c2 d2
      try simp only [World.size_alloc] at hz2 c2 d2
      try simp only [World.size_drew] at hz2 c2 d2
      try simp only [World.size_setCell] at hz2 c2 d2
      have s2_0 : w.heap.size < w2.heap.size := by omega
      have o2_0 := fun j => c2 (w.heap.size) j (by omega)
      have f2_0 := fun j => d2 (w.heap.size) j (by omega)
      clear c2 d2 hz2 hW2
      obtain ⟨oa2, cap2, rfl, hs2⟩ := hv2.slp H_hI.out
      have H_hs2 := Lib.hid hs2
      clear hs2
      have H_hv2 := Lib.hid hv2
      clear hv2
      go_wp2_with fail
      refine call_ne (w := w) (by repeat' (first | (with_reducible exact Below.refl _ _) | (with_reducible assumption) | (with_reducible refine bdn ?_) | (with_reducible refine Below.alloc ?_ ?_ _) | (with_reducible refine Below.drew ?_) | (with_reducible refine Below.setCell ?_ ?_ _) | omega | (simp <;> omega))) (fun HB => shwind_any ea ps oa2 _ cap2 p _ (H_hs2.out.keep (B := w2.heap.size) (by repeat' (first | (with_reducible exact Below.refl _ _) | (with_reducible assumption) | (with_reducible refine bdn ?_) | (with_reducible refine Below.alloc ?_ ?_ _) | (with_reducible refine Below.drew ?_) | (with_reducible refine Below.setCell ?_ ?_ _) | omega | (simp <;> omega))) rfl) hpI (gkeep HB hShape rfl) (gkeep HB hBound rfl)) ?_
      rw [H_hn.out, H_hok.out]
      intro x3 w3 hx3 hb3 hz3 c3 d3 hW3
      have t3 := hb3.size
      have e3_2 : Below w2.heap.size w2 w3 := below_via (by repeat' (first | (with_reducible exact Below.refl _ _) | (with_reducible assumption) | (with_reducible refine bdn ?_) | (with_reducible refine Below.alloc ?_ ?_ _) | (with_reducible refine Below.drew ?_) | (with_reducible refine Below.setCell ?_ ?_ _) | omega | (simp <;> omega))) hW3
      have te3_2 := e3_2.size
      try simp only [World.size_alloc] at hz3 c3 d3
      try simp only [World.size_drew] at hz3 c3 d3
      try simp only [World.size_setCell] at hz3 c3 d3
      try simp only [World.heap_drewN] at hz3 c3 d3
      try simp only [World.size_alloc] at hz3 c3 d3
      try simp only [World.size_drew] at hz3 c3 d3
      try simp only [World.size_setCell] at hz3 c3 d3
      have s3_0 : w.heap.size < w3.heap.size := by omega
      have o3_0 := fun j => c3 (w.heap.size) j (by omega)
      have f3_0 := fun j => d3 (w.heap.size) j (by omega)
      have s3_1 : w2.heap.size < w3.heap.size := by omega
      have o3_1 := fun j => c3 (w2.heap.size) j (by omega)
      have f3_1 := fun j => d3 (w2.heap.size) j (by omega)
      clear c3 d3 hz3 hW3
      obtain rfl := hx3.nil rfl
      clear hx3
      go_wp2_with fail
      refine call_bel (w := w) (by repeat' (first | (with_reducible exact Below.refl _ _) | (with_reducible assumption) | (with_reducible refine bdn ?_) | (with_reducible refine Below.alloc ?_ ?_ _) | (with_reducible refine Below.drew ?_) | (with_reducible refine Below.setCell ?_ ?_ _) | omega | (simp <;> omega))) (fun HB => mone_any _) ?_
      intro w4 hb4 hz4 c4 d4 hW4
      have t4 := hb4.size
      have e4_2 : Below w2.heap.size w2 w4 := below_via (by repeat' (first | (with_reducible exact Below.refl _ _) | (with_reducible assumption) | (with_reducible refine bdn ?_) | (with_reducible refine Below.alloc ?_ ?_ _) | (with_reducible refine Below.drew ?_) | (with_reducible refine Below.setCell ?_ ?_ _) | omega | (simp <;> omega))) hW4
      have te4_2 := e4_2.size
      try simp only [World.size_alloc] at hz4 c4 d4
      try simp only [World.size_drew] at hz4 c4 d4
      try simp only [World.size_setCell] at hz4 c4 d4
      try simp only [World.heap_drewN] at hz4 c4 d4
      try simp only [World.size_alloc] at hz4 c4 d4
      try simp only [World.size_drew] at hz4 c4 d4
      try simp only [World.size_setCell] at hz4 c4 d4
      have s4_0 : w.heap.size < w4.heap.size := by omega
      have o4_0 := fun j => c4 (w.heap.size) j (by omega)
      have f4_0 := fun j => d4 (w.heap.size) j (by omega)
      have s4_1 : w2.heap.size < w4.heap.size := by omega
      have o4_1 := fun j => c4 (w2.heap.size) j (by omega)
      have f4_1 := fun j => d4 (w2.heap.size) j (by omega)
      clear c4 d4 hz4 hW4
      go_upto_region 11 with fail
      obtain ⟨wz, hwz⟩ : ∃ u, w4.alloc (.cells #[.int .i64 1, .int .i64 1, .int .i64 0, .int .i64 1, .int .i64 0, .int .i64 1, .int .i64 1, .int .i64 1, .int .i64 x, .int .i64 1, .int .i64 y, .int .i64 1] 36) = u := ⟨_, rfl⟩
      rw [hwz]
      have zz : wz.heap.size = w4.heap.size + 1 := by rw [← hwz]; simp
      have hBz : Below w.heap.size w wz := by rw [← hwz]; exact by repeat' (first | (with_reducible exact Below.refl _ _) | (with_reducible assumption) | (with_reducible refine bdn ?_) | (with_reducible refine Below.alloc ?_ ?_ _) | (with_reducible refine Below.drew ?_) | (with_reducible refine Below.setCell ?_ ?_ _) | omega | (simp <;> omega))
      have hB4 : Below w4.heap.size w4 wz := by rw [← hwz]; exact by repeat' (first | (with_reducible exact Below.refl _ _) | (with_reducible assumption) | (with_reducible refine bdn ?_) | (with_reducible refine Below.alloc ?_ ?_ _) | (with_reducible refine Below.drew ?_) | (with_reducible refine Below.setCell ?_ ?_ _) | omega | (simp <;> omega))
      have hB2 : Below w2.heap.size w2 wz := below_via e4_2 hB4
      have km : ∀ j, wz.cell? ⟨w4.heap.size, j, none⟩ = (#[.int .i64 1, .int .i64 1, .int .i64 0, .int .i64 1, .int .i64 0, .int .i64 1, .int .i64 1, .int .i64 1, .int .i64 x, .int .i64 1, .int .i64 y, .int .i64 1] : Array Value)[j]? := by rw [← hwz]; exact fun j => World.cell?_alloc_new _ _ _ _
      have ks : wz.cell? ⟨w2.heap.size, 0, none⟩ = some (.slice oa2 ps.length cap2) := by rw [hB4.cell s4_1, o4_1, o3_1, World.cell?_alloc_new]; rfl
      have kp : ∀ j, wz.cell? ⟨w.heap.size, j, none⟩ = (#[.int .i64 p.xn, .int .i64 p.xd, .int .i64 p.yn, .int .i64 p.yd] : Array Value)[j]? := fun j => by rw [hB4.cell s4_0, o4_0, o3_0, World.cell?_alloc_past _ _ _ s2_0, o2_0, o1_0, World.cell?_alloc_new]
      have zm : w4.heap.size < wz.heap.size := by omega
      have zs : w2.heap.size < wz.heap.size := by omega
      have zp : w.heap.size < wz.heap.size := by omega
      have hs5 : SlP wz oa2 ps.length cap2 ps := H_hs2.out.keep (B := w2.heap.size) hB2 rfl
      clear o1_0 f1_0 o2_0 f2_0 o3_0 f3_0 o3_1 f3_1 o4_0 f4_0 o4_1 f4_1 s1_0 s2_0 s3_0 s3_1 s4_0 s4_1 hwz hB2 hB4 hb1 hb2 hb3 hb4 e3_2 e4_2 te3_2 te4_2 H_hs2 H_hv2 zz t1 t2 t3 t4
      have H_hs5 := Lib.hid hs5
      clear hs5
      ((try go_simp); (repeat go_step))
      refine call_pe (w := w) (by repeat' (first | (with_reducible exact Below.refl _ _) | (with_reducible assumption) | (with_reducible refine bdn ?_) | (with_reducible refine Below.alloc ?_ ?_ _) | (with_reducible refine Below.drew ?_) | (with_reducible refine Below.setCell ?_ ?_ _) | omega | (simp <;> omega))) (fun HB => shmove_step ea x y ps oa2 _ cap2 _ H_im.out H_hs5.out (H_hG.out.keep HB rfl) (Nat.le_trans hsz HB.size) _ _ H_hcc.out H_hll.out) ?_
      intro v5 x5 w5 hx5 hb5 hz5 c5 d5 hW5
      have t5 := hb5.size
      try simp only [World.size_alloc] at hz5 c5 d5
      try simp only [World.size_drew] at hz5 c5 d5
      try simp only [World.size_setCell] at hz5 c5 d5
      try simp only [World.heap_drewN] at hz5 c5 d5
      try simp only [World.size_alloc] at hz5 c5 d5
      try simp only [World.size_drew] at hz5 c5 d5
      try simp only [World.size_setCell] at hz5 c5 d5
      have s5_0 : w.heap.size < w5.heap.size := by omega
      have o5_0 := fun j => c5 (w.heap.size) j (by omega)
      have f5_0 := fun j => d5 (w.heap.size) j (by omega)
      have s5_1 : w2.heap.size < w5.heap.size := by omega
      have o5_1 := fun j => c5 (w2.heap.size) j (by omega)
      have f5_1 := fun j => d5 (w2.heap.size) j (by omega)
      have s5_2 : w4.heap.size < w5.heap.size := by omega
      have o5_2 := fun j => c5 (w4.heap.size) j (by omega)
      have f5_2 := fun j => d5 (w4.heap.size) j (by omega)
      clear c5 d5 hz5 hW5
      obtain ⟨hx5, hv5⟩ := hx5
      obtain ⟨oa5, cap5, rfl, hs6⟩ := hv5.slp H_hI2.out
      have H_hs6 := Lib.hid hs6
      clear hs6
      have H_hv5 := Lib.hid hv5
      clear hv5
      obtain rfl := hx5.nil rfl
      clear hx5
      ((try go_simp); (repeat go_step))
      refine call_bel (w := w) (by repeat' (first | (with_reducible exact Below.refl _ _) | (with_reducible assumption) | (with_reducible refine bdn ?_) | (with_reducible refine Below.alloc ?_ ?_ _) | (with_reducible refine Below.drew ?_) | (with_reducible refine Below.setCell ?_ ?_ _) | omega | (simp <;> omega))) (fun HB => mat_stepc ea x y p q _ H_im.out hpI (H_hG.out.keep HB rfl) (Nat.le_trans hsz HB.size) H_hat.out H_hav.out) ?_
      intro w6 hb6 hz6 c6 d6 hW6
      have t6 := hb6.size
      have e6_5 : Below w5.heap.size w5 w6 := below_via (by repeat' (first | (with_reducible exact Below.refl _ _) | (with_reducible assumption) | (with_reducible refine bdn ?_) | (with_reducible refine Below.alloc ?_ ?_ _) | (with_reducible refine Below.drew ?_) | (with_reducible refine Below.setCell ?_ ?_ _) | omega | (simp <;> omega))) hW6
      have te6_5 := e6_5.size
      try simp only [World.size_alloc] at hz6 c6 d6
      try simp only [World.size_drew] at hz6 c6 d6
      try simp only [World.size_setCell] at hz6 c6 d6
      try simp only [World.heap_drewN] at hz6 c6 d6
      try simp only [World.size_alloc] at hz6 c6 d6
      try simp only [World.size_drew] at hz6 c6 d6
      try simp only [World.size_setCell] at hz6 c6 d6
      have s6_0 : w.heap.size < w6.heap.size := by omega
      have o6_0 := fun j => c6 (w.heap.size) j (by omega)
      have f6_0 := fun j => d6 (w.heap.size) j (by omega)
      have s6_1 : w2.heap.size < w6.heap.size := by omega
      have o6_1 := fun j => c6 (w2.heap.size) j (by omega)
      have f6_1 := fun j => d6 (w2.heap.size) j (by omega)
      have s6_2 : w4.heap.size < w6.heap.size := by omega
      have o6_2 := fun j => c6 (w4.heap.size) j (by omega)
      have f6_2 := fun j => d6 (w4.heap.size) j (by omega)
      have s6_3 : w5.heap.size < w6.heap.size := by omega
      have o6_3 := fun j => c6 (w5.heap.size) j (by omega)
      have f6_3 := fun j => d6 (w5.heap.size) j (by omega)
      clear c6 d6 hz6 hW6
      ((try go_simp); (repeat go_step))
      refine call_bel (w := w) (by repeat' (first | (with_reducible exact Below.refl _ _) | (with_reducible assumption) | (with_reducible refine bdn ?_) | (with_reducible refine Below.alloc ?_ ?_ _) | (with_reducible refine Below.drew ?_) | (with_reducible refine Below.setCell ?_ ?_ _) | omega | (simp <;> omega))) (fun HB => rpoint_c2 q cq _ H_hqI.out H_hcq.out) ?_
      intro w7 hb7 hz7 c7 d7 hW7
      have t7 := hb7.size
      have e7_5 : Below w5.heap.size w5 w7 := below_via (by repeat' (first | (with_reducible exact Below.refl _ _) | (with_reducible assumption) | (with_reducible refine bdn ?_) | (with_reducible refine Below.alloc ?_ ?_ _) | (with_reducible refine Below.drew ?_) | (with_reducible refine Below.setCell ?_ ?_ _) | omega | (simp <;> omega))) hW7
      have te7_5 := e7_5.size
      try simp only [World.size_alloc] at hz7 c7 d7
      try simp only [World.size_drew] at hz7 c7 d7
      try simp only [World.size_setCell] at hz7 c7 d7
      try simp only [World.heap_drewN] at hz7 c7 d7
      try simp only [World.size_alloc] at hz7 c7 d7
      try simp only [World.size_drew] at hz7 c7 d7
      try simp only [World.size_setCell] at hz7 c7 d7
      have s7_0 : w.heap.size < w7.heap.size := by omega
      have o7_0 := fun j => c7 (w.heap.size) j (by omega)
      have f7_0 := fun j => d7 (w.heap.size) j (by omega)
      have s7_1 : w2.heap.size < w7.heap.size := by omega
      have o7_1 := fun j => c7 (w2.heap.size) j (by omega)
      have f7_1 := fun j => d7 (w2.heap.size) j (by omega)
      have s7_2 : w4.heap.size < w7.heap.size := by omega
      have o7_2 := fun j => c7 (w4.heap.size) j (by omega)
      have f7_2 := fun j => d7 (w4.heap.size) j (by omega)
      have s7_3 : w5.heap.size < w7.heap.size := by omega
      have o7_3 := fun j => c7 (w5.heap.size) j (by omega)
      have f7_3 := fun j => d7 (w5.heap.size) j (by omega)
      have s7_4 : w6.heap.size < w7.heap.size := by omega
      have o7_4 := fun j => c7 (w6.heap.size) j (by omega)
      have f7_4 := fun j => d7 (w6.heap.size) j (by omega)
      clear c7 d7 hz7 hW7
      ((try go_simp); (repeat go_step))
      go_returns
      exact ⟨rfl, by repeat' (first | (with_reducible exact Below.refl _ _) | (with_reducible assumption) | (with_reducible refine bdn ?_) | (with_reducible refine Below.alloc ?_ ?_ _) | (with_reducible refine Below.drew ?_) | (with_reducible refine Below.setCell ?_ ?_ _) | omega | (simp <;> omega))⟩
  · obtain ⟨c, hcc⟩ : ∃ c, movC (stepM x y) ps = c := ⟨_, rfl⟩
    rw [hcc] at hmc
    have hI2 : ∀ a ∈ ([] : List Pt), a.I := fun _ h => by cases h
    have H_hs := Lib.hid hs
    clear hs
    have H_hI := Lib.hid hI
    clear hI
    have H_hn := Lib.hid hn
    clear hn
    have H_hG := Lib.hid hG
    clear hG
    have H_hok := Lib.hid hok
    clear hok
    have H_hall := Lib.hid hall
    clear hall
    have H_hp := Lib.hid hp
    clear hp
    have H_h30 := Lib.hid h30
    clear h30
    have H_hat := Lib.hid hat
    clear hat
    have H_hav := Lib.hid hav
    clear hav
    have H_hq := Lib.hid hq
    clear hq
    have H_im := Lib.hid im
    clear im
    have H_hqI := Lib.hid hqI
    clear hqI
    have H_hcc := Lib.hid hcc
    clear hcc
    have H_hll := Lib.hid hll
    clear hll
    have H_hmc := Lib.hid hmc
    clear hmc
    have H_hI2 := Lib.hid hI2
    clear hI2
    go_enter Tryd.func3, Tryd.ntmps3
    go_wp2_with fail
    refine call_bel (w := w) (by repeat' (first | (with_reducible exact Below.refl _ _) | (with_reducible assumption) | (with_reducible refine bdn ?_) | (with_reducible refine Below.alloc ?_ ?_ _) | (with_reducible refine Below.drew ?_) | (with_reducible refine Below.setCell ?_ ?_ _) | omega | (simp <;> omega))) (fun HB => shaped_any ea _ (gkeep HB hShape rfl) (gkeep HB hBound rfl)) ?_
    intro w1 hb1 hz1 c1 d1 hW1
    have t1 := hb1.size
    try simp only [World.size_alloc] at hz1 c1 d1
    try simp only [World.size_drew] at hz1 c1 d1
    try simp only [World.size_setCell] at hz1 c1 d1
    try simp only [World.heap_drewN] at hz1 c1 d1
    try simp only [World.size_alloc] at hz1 c1 d1
    try simp only [World.size_drew] at hz1 c1 d1
    try simp only [World.size_setCell] at hz1 c1 d1
    have s1_0 : w.heap.size < w1.heap.size := by omega
    have o1_0 := fun j => c1 (w.heap.size) j (by omega)
    have f1_0 := fun j => d1 (w.heap.size) j (by omega)
    clear c1 d1 hz1 hW1
    go_wp2_with fail
    refine call_p (w := w) (by repeat' (first | (with_reducible exact Below.refl _ _) | (with_reducible assumption) | (with_reducible refine bdn ?_) | (with_reducible refine Below.alloc ?_ ?_ _) | (with_reducible refine Below.drew ?_) | (with_reducible refine Below.setCell ?_ ?_ _) | omega | (simp <;> omega))) (fun HB => ownpoints_any ps _ _ _ _ (H_hs.out.keep HB rfl) (by omega)) ?_
    intro v2 w2 hv2 hb2 hz2 c2 d2 hW2
    have t2 := hb2.size
    try simp only [World.size_alloc] at hz2 c2 d2
    try simp only [World.size_drew] at hz2 c2 d2
    try simp only [World.size_setCell] at hz2 c2 d2
    try simp only [World.heap_drewN] at hz2 c2 d2
    try simp only [World.size_alloc] at hz2 c2 d2
    try simp only [World.size_drew] at hz2 c2 d2
    try simp only [World.size_setCell] at hz2 c2 d2
    have s2_0 : w.heap.size < w2.heap.size := by omega
    have o2_0 := fun j => c2 (w.heap.size) j (by omega)
    have f2_0 := fun j => d2 (w.heap.size) j (by omega)
    clear c2 d2 hz2 hW2
    obtain ⟨oa2, cap2, rfl, hs2⟩ := hv2.slp H_hI.out
    have H_hs2 := Lib.hid hs2
    clear hs2
    have H_hv2 := Lib.hid hv2
    clear hv2
    go_wp2_with fail
    refine call_ne (w := w) (by repeat' (first | (with_reducible exact Below.refl _ _) | (with_reducible assumption) | (with_reducible refine bdn ?_) | (with_reducible refine Below.alloc ?_ ?_ _) | (with_reducible refine Below.drew ?_) | (with_reducible refine Below.setCell ?_ ?_ _) | omega | (simp <;> omega))) (fun HB => shwind_any ea ps oa2 _ cap2 p _ (H_hs2.out.keep (B := w2.heap.size) (by repeat' (first | (with_reducible exact Below.refl _ _) | (with_reducible assumption) | (with_reducible refine bdn ?_) | (with_reducible refine Below.alloc ?_ ?_ _) | (with_reducible refine Below.drew ?_) | (with_reducible refine Below.setCell ?_ ?_ _) | omega | (simp <;> omega))) rfl) hpI (gkeep HB hShape rfl) (gkeep HB hBound rfl)) ?_
    rw [H_hn.out, H_hok.out]
    intro x3 w3 hx3 hb3 hz3 c3 d3 hW3
    have t3 := hb3.size
    have e3_2 : Below w2.heap.size w2 w3 := below_via (by repeat' (first | (with_reducible exact Below.refl _ _) | (with_reducible assumption) | (with_reducible refine bdn ?_) | (with_reducible refine Below.alloc ?_ ?_ _) | (with_reducible refine Below.drew ?_) | (with_reducible refine Below.setCell ?_ ?_ _) | omega | (simp <;> omega))) hW3
    have te3_2 := e3_2.size
    try simp only [World.size_alloc] at hz3 c3 d3
    try simp only [World.size_drew] at hz3 c3 d3
    try simp only [World.size_setCell] at hz3 c3 d3
    try simp only [World.heap_drewN] at hz3 c3 d3
    try simp only [World.size_alloc] at hz3 c3 d3
    try simp only [World.size_drew] at hz3 c3 d3
    try simp only [World.size_setCell] at hz3 c3 d3
    have s3_0 : w.heap.size < w3.heap.size := by omega
    have o3_0 := fun j => c3 (w.heap.size) j (by omega)
    have f3_0 := fun j => d3 (w.heap.size) j (by omega)
    have s3_1 : w2.heap.size < w3.heap.size := by omega
    have o3_1 := fun j => c3 (w2.heap.size) j (by omega)
    have f3_1 := fun j => d3 (w2.heap.size) j (by omega)
    clear c3 d3 hz3 hW3
    obtain rfl := hx3.nil rfl
    clear hx3
    go_wp2_with fail
    refine call_bel (w := w) (by repeat' (first | (with_reducible exact Below.refl _ _) | (with_reducible assumption) | (with_reducible refine bdn ?_) | (with_reducible refine Below.alloc ?_ ?_ _) | (with_reducible refine Below.drew ?_) | (with_reducible refine Below.setCell ?_ ?_ _) | omega | (simp <;> omega))) (fun HB => mone_any _) ?_
    intro w4 hb4 hz4 c4 d4 hW4
    have t4 := hb4.size
    have e4_2 : Below w2.heap.size w2 w4 := below_via (by repeat' (first | (with_reducible exact Below.refl _ _) | (with_reducible assumption) | (with_reducible refine bdn ?_) | (with_reducible refine Below.alloc ?_ ?_ _) | (with_reducible refine Below.drew ?_) | (with_reducible refine Below.setCell ?_ ?_ _) | omega | (simp <;> omega))) hW4
    have te4_2 := e4_2.size
    try simp only [World.size_alloc] at hz4 c4 d4
    try simp only [World.size_drew] at hz4 c4 d4
    try simp only [World.size_setCell] at hz4 c4 d4
    try simp only [World.heap_drewN] at hz4 c4 d4
    try simp only [World.size_alloc] at hz4 c4 d4
    try simp only [World.size_drew] at hz4 c4 d4
    try simp only [World.size_setCell] at hz4 c4 d4
    have s4_0 : w.heap.size < w4.heap.size := by omega
    have o4_0 := fun j => c4 (w.heap.size) j (by omega)
    have f4_0 := fun j => d4 (w.heap.size) j (by omega)
    have s4_1 : w2.heap.size < w4.heap.size := by omega
    have o4_1 := fun j => c4 (w2.heap.size) j (by omega)
    have f4_1 := fun j => d4 (w2.heap.size) j (by omega)
    clear c4 d4 hz4 hW4
    go_upto_region 11 with fail
    obtain ⟨wz, hwz⟩ : ∃ u, w4.alloc (.cells #[.int .i64 1, .int .i64 1, .int .i64 0, .int .i64 1, .int .i64 0, .int .i64 1, .int .i64 1, .int .i64 1, .int .i64 x, .int .i64 1, .int .i64 y, .int .i64 1] 36) = u := ⟨_, rfl⟩
    rw [hwz]
    have zz : wz.heap.size = w4.heap.size + 1 := by rw [← hwz]; simp
    have hBz : Below w.heap.size w wz := by rw [← hwz]; exact by repeat' (first | (with_reducible exact Below.refl _ _) | (with_reducible assumption) | (with_reducible refine bdn ?_) | (with_reducible refine Below.alloc ?_ ?_ _) | (with_reducible refine Below.drew ?_) | (with_reducible refine Below.setCell ?_ ?_ _) | omega | (simp <;> omega))
    have hB4 : Below w4.heap.size w4 wz := by rw [← hwz]; exact by repeat' (first | (with_reducible exact Below.refl _ _) | (with_reducible assumption) | (with_reducible refine bdn ?_) | (with_reducible refine Below.alloc ?_ ?_ _) | (with_reducible refine Below.drew ?_) | (with_reducible refine Below.setCell ?_ ?_ _) | omega | (simp <;> omega))
    have hB2 : Below w2.heap.size w2 wz := below_via e4_2 hB4
    have km : ∀ j, wz.cell? ⟨w4.heap.size, j, none⟩ = (#[.int .i64 1, .int .i64 1, .int .i64 0, .int .i64 1, .int .i64 0, .int .i64 1, .int .i64 1, .int .i64 1, .int .i64 x, .int .i64 1, .int .i64 y, .int .i64 1] : Array Value)[j]? := by rw [← hwz]; exact fun j => World.cell?_alloc_new _ _ _ _
    have ks : wz.cell? ⟨w2.heap.size, 0, none⟩ = some (.slice oa2 ps.length cap2) := by rw [hB4.cell s4_1, o4_1, o3_1, World.cell?_alloc_new]; rfl
    have kp : ∀ j, wz.cell? ⟨w.heap.size, j, none⟩ = (#[.int .i64 p.xn, .int .i64 p.xd, .int .i64 p.yn, .int .i64 p.yd] : Array Value)[j]? := fun j => by rw [hB4.cell s4_0, o4_0, o3_0, World.cell?_alloc_past _ _ _ s2_0, o2_0, o1_0, World.cell?_alloc_new]
    have zm : w4.heap.size < wz.heap.size := by omega
    have zs : w2.heap.size < wz.heap.size := by omega
    have zp : w.heap.size < wz.heap.size := by omega
    have hs5 : SlP wz oa2 ps.length cap2 ps := H_hs2.out.keep (B := w2.heap.size) hB2 rfl
    clear o1_0 f1_0 o2_0 f2_0 o3_0 f3_0 o3_1 f3_1 o4_0 f4_0 o4_1 f4_1 s1_0 s2_0 s3_0 s3_1 s4_0 s4_1 hwz hB2 hB4 hb1 hb2 hb3 hb4 e3_2 e4_2 te3_2 te4_2 H_hs2 H_hv2 zz t1 t2 t3 t4
    have H_hs5 := Lib.hid hs5
    clear hs5
    ((try go_simp); (repeat go_step))
    refine call_pe (w := w) (by repeat' (first | (with_reducible exact Below.refl _ _) | (with_reducible assumption) | (with_reducible refine bdn ?_) | (with_reducible refine Below.alloc ?_ ?_ _) | (with_reducible refine Below.drew ?_) | (with_reducible refine Below.setCell ?_ ?_ _) | omega | (simp <;> omega))) (fun HB => shmove_step ea x y ps oa2 _ cap2 _ H_im.out H_hs5.out (H_hG.out.keep HB rfl) (Nat.le_trans hsz HB.size) _ _ H_hcc.out H_hll.out) ?_
    intro v5 x5 w5 hx5 hb5 hz5 c5 d5 hW5
    have t5 := hb5.size
    try simp only [World.size_alloc] at hz5 c5 d5
    try simp only [World.size_drew] at hz5 c5 d5
    try simp only [World.size_setCell] at hz5 c5 d5
    try simp only [World.heap_drewN] at hz5 c5 d5
    try simp only [World.size_alloc] at hz5 c5 d5
    try simp only [World.size_drew] at hz5 c5 d5
    try simp only [World.size_setCell] at hz5 c5 d5
    have s5_0 : w.heap.size < w5.heap.size := by omega
    have o5_0 := fun j => c5 (w.heap.size) j (by omega)
    have f5_0 := fun j => d5 (w.heap.size) j (by omega)
    have s5_1 : w2.heap.size < w5.heap.size := by omega
    have o5_1 := fun j => c5 (w2.heap.size) j (by omega)
    have f5_1 := fun j => d5 (w2.heap.size) j (by omega)
    have s5_2 : w4.heap.size < w5.heap.size := by omega
    have o5_2 := fun j => c5 (w4.heap.size) j (by omega)
    have f5_2 := fun j => d5 (w4.heap.size) j (by omega)
    clear c5 d5 hz5 hW5
    obtain ⟨hx5, hv5⟩ := hx5
    obtain ⟨oa5, cap5, rfl, hs6⟩ := hv5.slp H_hI2.out
    have H_hs6 := Lib.hid hs6
    clear hs6
    have H_hv5 := Lib.hid hv5
    clear hv5
    obtain ⟨t5', a5, rfl⟩ := hx5.some H_hmc.out
    clear hx5
    ((try go_simp); (repeat go_step))
    refine call_bel (w := w) (by repeat' (first | (with_reducible exact Below.refl _ _) | (with_reducible assumption) | (with_reducible refine bdn ?_) | (with_reducible refine Below.alloc ?_ ?_ _) | (with_reducible refine Below.drew ?_) | (with_reducible refine Below.setCell ?_ ?_ _) | omega | (simp <;> omega))) (fun HB => mat_stepc ea x y p q _ H_im.out hpI (H_hG.out.keep HB rfl) (Nat.le_trans hsz HB.size) H_hat.out H_hav.out) ?_
    intro w6 hb6 hz6 c6 d6 hW6
    have t6 := hb6.size
    have e6_5 : Below w5.heap.size w5 w6 := below_via (by repeat' (first | (with_reducible exact Below.refl _ _) | (with_reducible assumption) | (with_reducible refine bdn ?_) | (with_reducible refine Below.alloc ?_ ?_ _) | (with_reducible refine Below.drew ?_) | (with_reducible refine Below.setCell ?_ ?_ _) | omega | (simp <;> omega))) hW6
    have te6_5 := e6_5.size
    try simp only [World.size_alloc] at hz6 c6 d6
    try simp only [World.size_drew] at hz6 c6 d6
    try simp only [World.size_setCell] at hz6 c6 d6
    try simp only [World.heap_drewN] at hz6 c6 d6
    try simp only [World.size_alloc] at hz6 c6 d6
    try simp only [World.size_drew] at hz6 c6 d6
    try simp only [World.size_setCell] at hz6 c6 d6
    have s6_0 : w.heap.size < w6.heap.size := by omega
    have o6_0 := fun j => c6 (w.heap.size) j (by omega)
    have f6_0 := fun j => d6 (w.heap.size) j (by omega)
    have s6_1 : w2.heap.size < w6.heap.size := by omega
    have o6_1 := fun j => c6 (w2.heap.size) j (by omega)
    have f6_1 := fun j => d6 (w2.heap.size) j (by omega)
    have s6_2 : w4.heap.size < w6.heap.size := by omega
    have o6_2 := fun j => c6 (w4.heap.size) j (by omega)
    have f6_2 := fun j => d6 (w4.heap.size) j (by omega)
    have s6_3 : w5.heap.size < w6.heap.size := by omega
    have o6_3 := fun j => c6 (w5.heap.size) j (by omega)
    have f6_3 := fun j => d6 (w5.heap.size) j (by omega)
    clear c6 d6 hz6 hW6
    ((try go_simp); (repeat go_step))
    go_returns
    exact ⟨rfl, by repeat' (first | (with_reducible exact Below.refl _ _) | (with_reducible assumption) | (with_reducible refine bdn ?_) | (with_reducible refine Below.alloc ?_ ?_ _) | (with_reducible refine Below.drew ?_) | (with_reducible refine Below.setCell ?_ ?_ _) | omega | (simp <;> omega))⟩
set_option maxHeartbeats 1000000 in
theorem smv_out (ea : Nat → Addr) (p : Pt) (x y : Int) (oa : Option Addr) (len cap : Nat) (w : World) (hG : Gs true ea w) (h : 20 < len ∨ x < -100 ∨ 100 < x ∨ y < -100 ∨ 100 < y) :
    Calls Tryd.prog 3 #[.slice oa len cap, .agg #[.int .i64 p.xn, .int .i64 p.xd, .int .i64 p.yn, .int .i64 p.yd], .int .i64 x, .int .i64 y] w fun e w' => e = .returned (.bool true) ∧ Below w.heap.size w w' := by
  have hBound := hG.c2
  have hShape := hG.c3
  have zhShape := zlt hShape
  have xhShape := zlts hShape
  have yhShape := zne hShape
  have zhBound := zlt hBound
  have xhBound := zlts hBound
  have yhBound := zne hBound
  by_cases h1 : 20 < len
  · have g1 : decide (20 < (len : Int)) = true := by simp; omega
    clear h h1
    go_enter Tryd.func3, Tryd.ntmps3
    go_wp2_with fail
    refine call_bel (w := w) (by repeat' (first | (with_reducible exact Below.refl _ _) | (with_reducible assumption) | (with_reducible refine bdn ?_) | (with_reducible refine Below.alloc ?_ ?_ _) | (with_reducible refine Below.drew ?_) | (with_reducible refine Below.setCell ?_ ?_ _) | omega | (simp <;> omega))) (fun HB => shaped_any ea _ (gkeep HB hShape rfl) (gkeep HB hBound rfl)) ?_
    intro w1 hb1 hz1 c1 d1 hW1
    have t1 := hb1.size
    try simp only [World.size_alloc] at hz1 c1 d1
    try simp only [World.size_drew] at hz1 c1 d1
    try simp only [World.size_setCell] at hz1 c1 d1
    try simp only [World.heap_drewN] at hz1 c1 d1
    try simp only [World.size_alloc] at hz1 c1 d1
    try simp only [World.size_drew] at hz1 c1 d1
    try simp only [World.size_setCell] at hz1 c1 d1
    have s1_0 : w.heap.size < w1.heap.size := by omega
    have o1_0 := fun j => c1 (w.heap.size) j (by omega)
    have f1_0 := fun j => d1 (w.heap.size) j (by omega)
    clear c1 d1 hz1 hW1
    go_wp2_with fail
    go_returns
    exact ⟨rfl, by repeat' (first | (with_reducible exact Below.refl _ _) | (with_reducible assumption) | (with_reducible refine bdn ?_) | (with_reducible refine Below.alloc ?_ ?_ _) | (with_reducible refine Below.drew ?_) | (with_reducible refine Below.setCell ?_ ?_ _) | omega | (simp <;> omega))⟩
  have g1 : decide (20 < (len : Int)) = false := by simp; omega
  by_cases h2 : x < -100
  · have g2 : decide (x < -100) = true := by simp; omega
    clear h h1 h2
    go_enter Tryd.func3, Tryd.ntmps3
    go_wp2_with fail
    refine call_bel (w := w) (by repeat' (first | (with_reducible exact Below.refl _ _) | (with_reducible assumption) | (with_reducible refine bdn ?_) | (with_reducible refine Below.alloc ?_ ?_ _) | (with_reducible refine Below.drew ?_) | (with_reducible refine Below.setCell ?_ ?_ _) | omega | (simp <;> omega))) (fun HB => shaped_any ea _ (gkeep HB hShape rfl) (gkeep HB hBound rfl)) ?_
    intro w1 hb1 hz1 c1 d1 hW1
    have t1 := hb1.size
    try simp only [World.size_alloc] at hz1 c1 d1
    try simp only [World.size_drew] at hz1 c1 d1
    try simp only [World.size_setCell] at hz1 c1 d1
    try simp only [World.heap_drewN] at hz1 c1 d1
    try simp only [World.size_alloc] at hz1 c1 d1
    try simp only [World.size_drew] at hz1 c1 d1
    try simp only [World.size_setCell] at hz1 c1 d1
    have s1_0 : w.heap.size < w1.heap.size := by omega
    have o1_0 := fun j => c1 (w.heap.size) j (by omega)
    have f1_0 := fun j => d1 (w.heap.size) j (by omega)
    clear c1 d1 hz1 hW1
    go_wp2_with fail
    go_returns
    exact ⟨rfl, by repeat' (first | (with_reducible exact Below.refl _ _) | (with_reducible assumption) | (with_reducible refine bdn ?_) | (with_reducible refine Below.alloc ?_ ?_ _) | (with_reducible refine Below.drew ?_) | (with_reducible refine Below.setCell ?_ ?_ _) | omega | (simp <;> omega))⟩
  have g2 : decide (x < -100) = false := by simp; omega
  by_cases h3 : 100 < x
  · have g3 : decide (100 < x) = true := by simp; omega
    clear h h1 h2 h3
    go_enter Tryd.func3, Tryd.ntmps3
    go_wp2_with fail
    refine call_bel (w := w) (by repeat' (first | (with_reducible exact Below.refl _ _) | (with_reducible assumption) | (with_reducible refine bdn ?_) | (with_reducible refine Below.alloc ?_ ?_ _) | (with_reducible refine Below.drew ?_) | (with_reducible refine Below.setCell ?_ ?_ _) | omega | (simp <;> omega))) (fun HB => shaped_any ea _ (gkeep HB hShape rfl) (gkeep HB hBound rfl)) ?_
    intro w1 hb1 hz1 c1 d1 hW1
    have t1 := hb1.size
    try simp only [World.size_alloc] at hz1 c1 d1
    try simp only [World.size_drew] at hz1 c1 d1
    try simp only [World.size_setCell] at hz1 c1 d1
    try simp only [World.heap_drewN] at hz1 c1 d1
    try simp only [World.size_alloc] at hz1 c1 d1
    try simp only [World.size_drew] at hz1 c1 d1
    try simp only [World.size_setCell] at hz1 c1 d1
    have s1_0 : w.heap.size < w1.heap.size := by omega
    have o1_0 := fun j => c1 (w.heap.size) j (by omega)
    have f1_0 := fun j => d1 (w.heap.size) j (by omega)
    clear c1 d1 hz1 hW1
    go_wp2_with fail
    go_returns
    exact ⟨rfl, by repeat' (first | (with_reducible exact Below.refl _ _) | (with_reducible assumption) | (with_reducible refine bdn ?_) | (with_reducible refine Below.alloc ?_ ?_ _) | (with_reducible refine Below.drew ?_) | (with_reducible refine Below.setCell ?_ ?_ _) | omega | (simp <;> omega))⟩
  have g3 : decide (100 < x) = false := by simp; omega
  by_cases h4 : y < -100
  · have g4 : decide (y < -100) = true := by simp; omega
    clear h h1 h2 h3 h4
    go_enter Tryd.func3, Tryd.ntmps3
    go_wp2_with fail
    refine call_bel (w := w) (by repeat' (first | (with_reducible exact Below.refl _ _) | (with_reducible assumption) | (with_reducible refine bdn ?_) | (with_reducible refine Below.alloc ?_ ?_ _) | (with_reducible refine Below.drew ?_) | (with_reducible refine Below.setCell ?_ ?_ _) | omega | (simp <;> omega))) (fun HB => shaped_any ea _ (gkeep HB hShape rfl) (gkeep HB hBound rfl)) ?_
    intro w1 hb1 hz1 c1 d1 hW1
    have t1 := hb1.size
    try simp only [World.size_alloc] at hz1 c1 d1
    try simp only [World.size_drew] at hz1 c1 d1
    try simp only [World.size_setCell] at hz1 c1 d1
    try simp only [World.heap_drewN] at hz1 c1 d1
    try simp only [World.size_alloc] at hz1 c1 d1
    try simp only [World.size_drew] at hz1 c1 d1
    try simp only [World.size_setCell] at hz1 c1 d1
    have s1_0 : w.heap.size < w1.heap.size := by omega
    have o1_0 := fun j => c1 (w.heap.size) j (by omega)
    have f1_0 := fun j => d1 (w.heap.size) j (by omega)
    clear c1 d1 hz1 hW1
    go_wp2_with fail
    go_returns
    exact ⟨rfl, by repeat' (first | (with_reducible exact Below.refl _ _) | (with_reducible assumption) | (with_reducible refine bdn ?_) | (with_reducible refine Below.alloc ?_ ?_ _) | (with_reducible refine Below.drew ?_) | (with_reducible refine Below.setCell ?_ ?_ _) | omega | (simp <;> omega))⟩
  have g4 : decide (y < -100) = false := by simp; omega
  have g5 : decide (100 < y) = true := by simp; omega
  clear h h1 h2 h3 h4
  go_enter Tryd.func3, Tryd.ntmps3
  go_wp2_with fail
  refine call_bel (w := w) (by repeat' (first | (with_reducible exact Below.refl _ _) | (with_reducible assumption) | (with_reducible refine bdn ?_) | (with_reducible refine Below.alloc ?_ ?_ _) | (with_reducible refine Below.drew ?_) | (with_reducible refine Below.setCell ?_ ?_ _) | omega | (simp <;> omega))) (fun HB => shaped_any ea _ (gkeep HB hShape rfl) (gkeep HB hBound rfl)) ?_
  intro w1 hb1 hz1 c1 d1 hW1
  have t1 := hb1.size
  try simp only [World.size_alloc] at hz1 c1 d1
  try simp only [World.size_drew] at hz1 c1 d1
  try simp only [World.size_setCell] at hz1 c1 d1
  try simp only [World.heap_drewN] at hz1 c1 d1
  try simp only [World.size_alloc] at hz1 c1 d1
  try simp only [World.size_drew] at hz1 c1 d1
  try simp only [World.size_setCell] at hz1 c1 d1
  have s1_0 : w.heap.size < w1.heap.size := by omega
  have o1_0 := fun j => c1 (w.heap.size) j (by omega)
  have f1_0 := fun j => d1 (w.heap.size) j (by omega)
  clear c1 d1 hz1 hW1
  go_wp2_with fail
  go_returns
  exact ⟨rfl, by repeat' (first | (with_reducible exact Below.refl _ _) | (with_reducible assumption) | (with_reducible refine bdn ?_) | (with_reducible refine Below.alloc ?_ ?_ _) | (with_reducible refine Below.drew ?_) | (with_reducible refine Below.setCell ?_ ?_ _) | omega | (simp <;> omega))⟩
/-- The statement's walk, all ways. -/
theorem smv_any (ea : Nat → Addr) (ps : List Pt) (p : Pt) (x y : Int) (oa : Option Addr) (len cap : Nat) (w : World) (hs : SlP w oa len cap ps) (hpI : p.I) (hG : Gs true ea w) (hsz : 13 ≤ w.heap.size) :
    Calls Tryd.prog 3 #[.slice oa len cap, .agg #[.int .i64 p.xn, .int .i64 p.xd, .int .i64 p.yn, .int .i64 p.yd], .int .i64 x, .int .i64 y] w fun e w' => e = .returned (.bool true) ∧ Below w.heap.size w w' := by
  by_cases h20 : 20 < len ∨ x < -100 ∨ 100 < x ∨ y < -100 ∨ 100 < y
  · exact smv_out ea p x y oa len cap w hG h20
  · rcases crC_some ps p with h | h
    · exact smv_ok ea ps p x y oa len cap w hs hpI hG hsz (by omega) (by omega) (by omega) h
    · exact smv_err ea ps p x y oa len cap w hs hpI hG (by omega) (by omega) (by omega) h.1 h.2
end Go.Proofs.YtogfphojfkdcgaaDoor
