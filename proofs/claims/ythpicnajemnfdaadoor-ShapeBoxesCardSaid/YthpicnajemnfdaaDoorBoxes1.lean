/-
  The walk over the statement ShapeBoxes: no box; a point that is not right; a side below 0.
-/
import Derived.Test.YthpicnajemnfdaaDoorShape10
import Derived.Test.YthpicnajemnfdaaDoorRef2
import Derived.Test.YthpicnajemnfdaaDoorPl9
namespace Go.Proofs.YthpicnajemnfdaaDoor
open Go.RowKit Lead

set_option maxHeartbeats 4000000 in
theorem boxes_e (ea : Nat → Addr) (x y u h : Fr) (p : Pt) (w : World) (hx : x.I) (hy : y.I) (hu : u.I) (hh : h.I) (hp : p.I) (hShape : w.cell? ⟨2, 0, none⟩ = some (.iface 87 (.pointer (some (ea 3))))) (hBound : w.cell? ⟨1, 0, none⟩ = some (.iface 87 (.pointer (some (ea 2))))) (hc : (boxC x y u h).1 ≠ 0) :
    Calls Tryd.prog 4 #[.agg #[.int .i64 x.n, .int .i64 x.d], .agg #[.int .i64 y.n, .int .i64 y.d], .agg #[.int .i64 u.n, .int .i64 u.d], .agg #[.int .i64 h.n, .int .i64 h.d], .agg #[.int .i64 p.xn, .int .i64 p.xd, .int .i64 p.yn, .int .i64 p.yd]] w fun e w' => e = .returned (.bool true) ∧ Below w.heap.size w w' := by
  have zhShape := zlt hShape
  have xhShape := zlts hShape
  have yhShape := zne hShape
  have zhBound := zlt hBound
  have xhBound := zlts hBound
  have yhBound := zne hBound
  have hL : boxL x y u h = [] := by unfold boxL; rw [if_neg (fun e => hc (by rw [e]))]
  have H_hx := Lib.hid hx
  clear hx
  have H_hy := Lib.hid hy
  clear hy
  have H_hu := Lib.hid hu
  clear hu
  have H_hh := Lib.hid hh
  clear hh
  have H_hp := Lib.hid hp
  clear hp
  have H_hc := Lib.hid hc
  clear hc
  have H_hL := Lib.hid hL
  clear hL
  go_enter Tryd.func4, Tryd.ntmps4
  go_wp2_with fail
  refine call_bel (w := w) (by repeat' (first | (with_reducible exact Below.refl _ _) | (with_reducible assumption) | (with_reducible refine bdn ?_) | (with_reducible refine Below.alloc ?_ ?_ _) | (with_reducible refine Below.drew ?_) | (with_reducible refine Below.setCell ?_ ?_ _) | omega | (simp <;> omega))) (fun HB => shaped_any ea _ (gkeep HB hShape rfl) (gkeep HB hBound rfl)) ?_
  intro w1 hb1 hz1 c1 d1 hW1
  have t1 := hb1.size
  try simp only [World.size_alloc] at hz1 c1 d1
  try simp only [World.size_drew] at hz1 c1 d1
  try simp only [World.size_setCell] at hz1 c1 d1
  try simp only [World.heap_drewN] at hz1 c1 d1
  have s1_0 : w.heap.size < w1.heap.size := by omega
  have o1_0 := fun j => c1 (w.heap.size) j (by omega)
  have f1_0 := fun j => d1 (w.heap.size) j (by omega)
  have s1_1 : w.heap.size + 1 < w1.heap.size := by omega
  have o1_1 := fun j => c1 (w.heap.size + 1) j (by omega)
  have f1_1 := fun j => d1 (w.heap.size + 1) j (by omega)
  have s1_2 : w.heap.size + 1 + 1 < w1.heap.size := by omega
  have o1_2 := fun j => c1 (w.heap.size + 1 + 1) j (by omega)
  have f1_2 := fun j => d1 (w.heap.size + 1 + 1) j (by omega)
  have s1_3 : w.heap.size + 1 + 1 + 1 < w1.heap.size := by omega
  have o1_3 := fun j => c1 (w.heap.size + 1 + 1 + 1) j (by omega)
  have f1_3 := fun j => d1 (w.heap.size + 1 + 1 + 1) j (by omega)
  have s1_4 : w.heap.size + 1 + 1 + 1 + 1 < w1.heap.size := by omega
  have o1_4 := fun j => c1 (w.heap.size + 1 + 1 + 1 + 1) j (by omega)
  have f1_4 := fun j => d1 (w.heap.size + 1 + 1 + 1 + 1) j (by omega)
  clear c1 d1 hz1 hW1
  go_wp2_with fail
  go_wp2_with fail
  refine call_pe (w := w) (by repeat' (first | (with_reducible exact Below.refl _ _) | (with_reducible assumption) | (with_reducible refine bdn ?_) | (with_reducible refine Below.alloc ?_ ?_ _) | (with_reducible refine Below.drew ?_) | (with_reducible refine Below.setCell ?_ ?_ _) | omega | (simp <;> omega))) (fun HB => shbox_any ea x y u h _ H_hx.out H_hy.out H_hu.out H_hh.out (gkeep HB hShape rfl) (gkeep HB hBound rfl)) ?_
  intro v2 x2 w2 hx2 hb2 hz2 c2 d2 hW2
  have t2 := hb2.size
  try simp only [World.size_alloc] at hz2 c2 d2
  try simp only [World.size_drew] at hz2 c2 d2
  try simp only [World.size_setCell] at hz2 c2 d2
  try simp only [World.heap_drewN] at hz2 c2 d2
  have s2_0 : w.heap.size < w2.heap.size := by omega
  have o2_0 := fun j => c2 (w.heap.size) j (by omega)
  have f2_0 := fun j => d2 (w.heap.size) j (by omega)
  clear c2 d2 hz2 hW2
  obtain ⟨hx2a, hx2b⟩ := hx2
  obtain ⟨t, ad, rfl⟩ := hx2a.some H_hc.out
  rw [H_hL.out] at hx2b
  obtain ⟨oa, cap, rfl, _⟩ := hx2b.slp (fun q hq => by cases hq)
  clear hx2a hx2b
  go_wp2_with fail
  go_returns
  exact ⟨rfl, by repeat' (first | (with_reducible exact Below.refl _ _) | (with_reducible assumption) | (with_reducible refine bdn ?_) | (with_reducible refine Below.alloc ?_ ?_ _) | (with_reducible refine Below.drew ?_) | (with_reducible refine Below.setCell ?_ ?_ _) | omega | (simp <;> omega))⟩

set_option maxHeartbeats 4000000 in
theorem boxes_p (ea : Nat → Addr) (x y u h : Fr) (p : Pt) (w : World) (hx : x.I) (hy : y.I) (hu : u.I) (hh : h.I) (hp : p.I) (hShape : w.cell? ⟨2, 0, none⟩ = some (.iface 87 (.pointer (some (ea 3))))) (hBound : w.cell? ⟨1, 0, none⟩ = some (.iface 87 (.pointer (some (ea 2))))) (hc : boxC x y u h = (0, none)) (hpc : p.c ≠ 0) :
    Calls Tryd.prog 4 #[.agg #[.int .i64 x.n, .int .i64 x.d], .agg #[.int .i64 y.n, .int .i64 y.d], .agg #[.int .i64 u.n, .int .i64 u.d], .agg #[.int .i64 h.n, .int .i64 h.d], .agg #[.int .i64 p.xn, .int .i64 p.xd, .int .i64 p.yn, .int .i64 p.yd]] w fun e w' => e = .returned (.bool true) ∧ Below w.heap.size w w' := by
  have zhShape := zlt hShape
  have xhShape := zlts hShape
  have yhShape := zne hShape
  have zhBound := zlt hBound
  have xhBound := zlts hBound
  have yhBound := zne hBound
  have hL : boxL x y u h = boxP x y u h := if_pos hc
  have hs : boxC x y u h = (0, none) := hc
  have hPI : ∀ q ∈ boxP x y u h, q.I := by
    rcases boxC_cases x y u h with ⟨g1, g2⟩ | ⟨_, g1, g2⟩ | ⟨_, _, g1, g2⟩ | ⟨_, _, _, g1, g2⟩ | ⟨_, _, _, _, g1, g2⟩ | ⟨_, _, _, _, _, g1, g2⟩ | ⟨_, _, _, _, g1, g2, g3⟩
    · rw [hc] at g2; exact absurd (congrArg Prod.snd g2) (by simp)
    · rw [hc] at g2; exact absurd (congrArg Prod.snd g2) (by simp)
    · rw [hc] at g2; exact absurd (congrArg Prod.snd g2) (by simp)
    · rw [hc] at g2; exact absurd (congrArg Prod.snd g2) (by simp)
    · rw [hc] at g2; exact absurd (congrArg Prod.fst g2) (by simp)
    · rw [hc] at g2; exact absurd (congrArg Prod.fst g2) (by simp)
    · exact boxP_I hx hy g1 g2
  clear hs
  have hp0 : (0 : Int) < (p.c : Int) := by omega
  have H_hx := Lib.hid hx
  clear hx
  have H_hy := Lib.hid hy
  clear hy
  have H_hu := Lib.hid hu
  clear hu
  have H_hh := Lib.hid hh
  clear hh
  have H_hp := Lib.hid hp
  clear hp
  have H_hc := Lib.hid hc
  clear hc
  have H_hL := Lib.hid hL
  clear hL
  have H_hPI := Lib.hid hPI
  clear hPI
  have H_hpc := Lib.hid hpc
  clear hpc
  go_enter Tryd.func4, Tryd.ntmps4
  go_wp2_with fail
  refine call_bel (w := w) (by repeat' (first | (with_reducible exact Below.refl _ _) | (with_reducible assumption) | (with_reducible refine bdn ?_) | (with_reducible refine Below.alloc ?_ ?_ _) | (with_reducible refine Below.drew ?_) | (with_reducible refine Below.setCell ?_ ?_ _) | omega | (simp <;> omega))) (fun HB => shaped_any ea _ (gkeep HB hShape rfl) (gkeep HB hBound rfl)) ?_
  intro w1 hb1 hz1 c1 d1 hW1
  have t1 := hb1.size
  try simp only [World.size_alloc] at hz1 c1 d1
  try simp only [World.size_drew] at hz1 c1 d1
  try simp only [World.size_setCell] at hz1 c1 d1
  try simp only [World.heap_drewN] at hz1 c1 d1
  have s1_0 : w.heap.size < w1.heap.size := by omega
  have o1_0 := fun j => c1 (w.heap.size) j (by omega)
  have f1_0 := fun j => d1 (w.heap.size) j (by omega)
  have s1_1 : w.heap.size + 1 < w1.heap.size := by omega
  have o1_1 := fun j => c1 (w.heap.size + 1) j (by omega)
  have f1_1 := fun j => d1 (w.heap.size + 1) j (by omega)
  have s1_2 : w.heap.size + 1 + 1 < w1.heap.size := by omega
  have o1_2 := fun j => c1 (w.heap.size + 1 + 1) j (by omega)
  have f1_2 := fun j => d1 (w.heap.size + 1 + 1) j (by omega)
  have s1_3 : w.heap.size + 1 + 1 + 1 < w1.heap.size := by omega
  have o1_3 := fun j => c1 (w.heap.size + 1 + 1 + 1) j (by omega)
  have f1_3 := fun j => d1 (w.heap.size + 1 + 1 + 1) j (by omega)
  have s1_4 : w.heap.size + 1 + 1 + 1 + 1 < w1.heap.size := by omega
  have o1_4 := fun j => c1 (w.heap.size + 1 + 1 + 1 + 1) j (by omega)
  have f1_4 := fun j => d1 (w.heap.size + 1 + 1 + 1 + 1) j (by omega)
  clear c1 d1 hz1 hW1
  go_wp2_with fail
  refine call_pe (w := w) (by repeat' (first | (with_reducible exact Below.refl _ _) | (with_reducible assumption) | (with_reducible refine bdn ?_) | (with_reducible refine Below.alloc ?_ ?_ _) | (with_reducible refine Below.drew ?_) | (with_reducible refine Below.setCell ?_ ?_ _) | omega | (simp <;> omega))) (fun HB => shbox_any ea x y u h _ H_hx.out H_hy.out H_hu.out H_hh.out (gkeep HB hShape rfl) (gkeep HB hBound rfl)) ?_
  rw [H_hL.out, H_hc.out]
  intro v2 x2 w2 hx2 hb2 hz2 c2 d2 hW2
  have t2 := hb2.size
  try simp only [World.size_alloc] at hz2 c2 d2
  try simp only [World.size_drew] at hz2 c2 d2
  try simp only [World.size_setCell] at hz2 c2 d2
  try simp only [World.heap_drewN] at hz2 c2 d2
  have s2_0 : w.heap.size < w2.heap.size := by omega
  have o2_0 := fun j => c2 (w.heap.size) j (by omega)
  have f2_0 := fun j => d2 (w.heap.size) j (by omega)
  have s2_1 : w.heap.size + 1 < w2.heap.size := by omega
  have o2_1 := fun j => c2 (w.heap.size + 1) j (by omega)
  have f2_1 := fun j => d2 (w.heap.size + 1) j (by omega)
  have s2_2 : w.heap.size + 1 + 1 < w2.heap.size := by omega
  have o2_2 := fun j => c2 (w.heap.size + 1 + 1) j (by omega)
  have f2_2 := fun j => d2 (w.heap.size + 1 + 1) j (by omega)
  have s2_3 : w.heap.size + 1 + 1 + 1 < w2.heap.size := by omega
  have o2_3 := fun j => c2 (w.heap.size + 1 + 1 + 1) j (by omega)
  have f2_3 := fun j => d2 (w.heap.size + 1 + 1 + 1) j (by omega)
  have s2_4 : w.heap.size + 1 + 1 + 1 + 1 < w2.heap.size := by omega
  have o2_4 := fun j => c2 (w.heap.size + 1 + 1 + 1 + 1) j (by omega)
  have f2_4 := fun j => d2 (w.heap.size + 1 + 1 + 1 + 1) j (by omega)
  clear c2 d2 hz2 hW2
  obtain ⟨hx2a, hx2b⟩ := hx2
  obtain rfl := hx2a.nil rfl
  obtain ⟨oa, cap, rfl, hs2⟩ := hx2b.slp H_hPI.out
  have H_hs2 := Lib.hid hs2
  clear hs2
  have H_hx2b := Lib.hid hx2b
  clear hx2b
  clear hx2a
  go_wp2_with fail
  refine call_bel (w := w) (by repeat' (first | (with_reducible exact Below.refl _ _) | (with_reducible assumption) | (with_reducible refine bdn ?_) | (with_reducible refine Below.alloc ?_ ?_ _) | (with_reducible refine Below.drew ?_) | (with_reducible refine Below.setCell ?_ ?_ _) | omega | (simp <;> omega))) (fun HB => rpoint_any p _ H_hp.out) ?_
  intro w3 hb3 hz3 c3 d3 hW3
  have t3 := hb3.size
  try simp only [World.size_alloc] at hz3 c3 d3
  try simp only [World.size_drew] at hz3 c3 d3
  try simp only [World.size_setCell] at hz3 c3 d3
  try simp only [World.heap_drewN] at hz3 c3 d3
  have s3_0 : w.heap.size < w3.heap.size := by omega
  have o3_0 := fun j => c3 (w.heap.size) j (by omega)
  have f3_0 := fun j => d3 (w.heap.size) j (by omega)
  clear c3 d3 hz3 hW3
  go_wp2_with fail
  go_returns
  exact ⟨rfl, by repeat' (first | (with_reducible exact Below.refl _ _) | (with_reducible assumption) | (with_reducible refine bdn ?_) | (with_reducible refine Below.alloc ?_ ?_ _) | (with_reducible refine Below.drew ?_) | (with_reducible refine Below.setCell ?_ ?_ _) | omega | (simp <;> omega))⟩
set_option maxHeartbeats 4000000 in
theorem boxes_n1 (ea : Nat → Addr) (x y u h : Fr) (p : Pt) (w : World) (hx : x.I) (hy : y.I) (hu : u.I) (hh : h.I) (hp : p.I) (hShape : w.cell? ⟨2, 0, none⟩ = some (.iface 87 (.pointer (some (ea 3))))) (hBound : w.cell? ⟨1, 0, none⟩ = some (.iface 87 (.pointer (some (ea 2))))) (hc : boxC x y u h = (0, none)) (hpc : p.c = 0) (hn : u.n < 0) :
    Calls Tryd.prog 4 #[.agg #[.int .i64 x.n, .int .i64 x.d], .agg #[.int .i64 y.n, .int .i64 y.d], .agg #[.int .i64 u.n, .int .i64 u.d], .agg #[.int .i64 h.n, .int .i64 h.d], .agg #[.int .i64 p.xn, .int .i64 p.xd, .int .i64 p.yn, .int .i64 p.yd]] w fun e w' => e = .returned (.bool true) ∧ Below w.heap.size w w' := by
  have zhShape := zlt hShape
  have xhShape := zlts hShape
  have yhShape := zne hShape
  have zhBound := zlt hBound
  have xhBound := zlts hBound
  have yhBound := zne hBound
  have hL : boxL x y u h = boxP x y u h := if_pos hc
  have hs : boxC x y u h = (0, none) := hc
  have hPI : ∀ q ∈ boxP x y u h, q.I := by
    rcases boxC_cases x y u h with ⟨g1, g2⟩ | ⟨_, g1, g2⟩ | ⟨_, _, g1, g2⟩ | ⟨_, _, _, g1, g2⟩ | ⟨_, _, _, _, g1, g2⟩ | ⟨_, _, _, _, _, g1, g2⟩ | ⟨_, _, _, _, g1, g2, g3⟩
    · rw [hc] at g2; exact absurd (congrArg Prod.snd g2) (by simp)
    · rw [hc] at g2; exact absurd (congrArg Prod.snd g2) (by simp)
    · rw [hc] at g2; exact absurd (congrArg Prod.snd g2) (by simp)
    · rw [hc] at g2; exact absurd (congrArg Prod.snd g2) (by simp)
    · rw [hc] at g2; exact absurd (congrArg Prod.fst g2) (by simp)
    · rw [hc] at g2; exact absurd (congrArg Prod.fst g2) (by simp)
    · exact boxP_I hx hy g1 g2
  clear hs
  have H_hx := Lib.hid hx
  clear hx
  have H_hy := Lib.hid hy
  clear hy
  have H_hu := Lib.hid hu
  clear hu
  have H_hh := Lib.hid hh
  clear hh
  have H_hp := Lib.hid hp
  clear hp
  have H_hc := Lib.hid hc
  clear hc
  have H_hL := Lib.hid hL
  clear hL
  have H_hPI := Lib.hid hPI
  clear hPI
  go_enter Tryd.func4, Tryd.ntmps4
  go_wp2_with fail
  refine call_bel (w := w) (by repeat' (first | (with_reducible exact Below.refl _ _) | (with_reducible assumption) | (with_reducible refine bdn ?_) | (with_reducible refine Below.alloc ?_ ?_ _) | (with_reducible refine Below.drew ?_) | (with_reducible refine Below.setCell ?_ ?_ _) | omega | (simp <;> omega))) (fun HB => shaped_any ea _ (gkeep HB hShape rfl) (gkeep HB hBound rfl)) ?_
  intro w1 hb1 hz1 c1 d1 hW1
  have t1 := hb1.size
  try simp only [World.size_alloc] at hz1 c1 d1
  try simp only [World.size_drew] at hz1 c1 d1
  try simp only [World.size_setCell] at hz1 c1 d1
  try simp only [World.heap_drewN] at hz1 c1 d1
  have s1_0 : w.heap.size < w1.heap.size := by omega
  have o1_0 := fun j => c1 (w.heap.size) j (by omega)
  have f1_0 := fun j => d1 (w.heap.size) j (by omega)
  have s1_1 : w.heap.size + 1 < w1.heap.size := by omega
  have o1_1 := fun j => c1 (w.heap.size + 1) j (by omega)
  have f1_1 := fun j => d1 (w.heap.size + 1) j (by omega)
  have s1_2 : w.heap.size + 1 + 1 < w1.heap.size := by omega
  have o1_2 := fun j => c1 (w.heap.size + 1 + 1) j (by omega)
  have f1_2 := fun j => d1 (w.heap.size + 1 + 1) j (by omega)
  have s1_3 : w.heap.size + 1 + 1 + 1 < w1.heap.size := by omega
  have o1_3 := fun j => c1 (w.heap.size + 1 + 1 + 1) j (by omega)
  have f1_3 := fun j => d1 (w.heap.size + 1 + 1 + 1) j (by omega)
  have s1_4 : w.heap.size + 1 + 1 + 1 + 1 < w1.heap.size := by omega
  have o1_4 := fun j => c1 (w.heap.size + 1 + 1 + 1 + 1) j (by omega)
  have f1_4 := fun j => d1 (w.heap.size + 1 + 1 + 1 + 1) j (by omega)
  clear c1 d1 hz1 hW1
  go_wp2_with fail
  refine call_pe (w := w) (by repeat' (first | (with_reducible exact Below.refl _ _) | (with_reducible assumption) | (with_reducible refine bdn ?_) | (with_reducible refine Below.alloc ?_ ?_ _) | (with_reducible refine Below.drew ?_) | (with_reducible refine Below.setCell ?_ ?_ _) | omega | (simp <;> omega))) (fun HB => shbox_any ea x y u h _ H_hx.out H_hy.out H_hu.out H_hh.out (gkeep HB hShape rfl) (gkeep HB hBound rfl)) ?_
  rw [H_hL.out, H_hc.out]
  intro v2 x2 w2 hx2 hb2 hz2 c2 d2 hW2
  have t2 := hb2.size
  try simp only [World.size_alloc] at hz2 c2 d2
  try simp only [World.size_drew] at hz2 c2 d2
  try simp only [World.size_setCell] at hz2 c2 d2
  try simp only [World.heap_drewN] at hz2 c2 d2
  have s2_0 : w.heap.size < w2.heap.size := by omega
  have o2_0 := fun j => c2 (w.heap.size) j (by omega)
  have f2_0 := fun j => d2 (w.heap.size) j (by omega)
  have s2_1 : w.heap.size + 1 < w2.heap.size := by omega
  have o2_1 := fun j => c2 (w.heap.size + 1) j (by omega)
  have f2_1 := fun j => d2 (w.heap.size + 1) j (by omega)
  have s2_2 : w.heap.size + 1 + 1 < w2.heap.size := by omega
  have o2_2 := fun j => c2 (w.heap.size + 1 + 1) j (by omega)
  have f2_2 := fun j => d2 (w.heap.size + 1 + 1) j (by omega)
  have s2_3 : w.heap.size + 1 + 1 + 1 < w2.heap.size := by omega
  have o2_3 := fun j => c2 (w.heap.size + 1 + 1 + 1) j (by omega)
  have f2_3 := fun j => d2 (w.heap.size + 1 + 1 + 1) j (by omega)
  have s2_4 : w.heap.size + 1 + 1 + 1 + 1 < w2.heap.size := by omega
  have o2_4 := fun j => c2 (w.heap.size + 1 + 1 + 1 + 1) j (by omega)
  have f2_4 := fun j => d2 (w.heap.size + 1 + 1 + 1 + 1) j (by omega)
  clear c2 d2 hz2 hW2
  obtain ⟨hx2a, hx2b⟩ := hx2
  obtain rfl := hx2a.nil rfl
  obtain ⟨oa, cap, rfl, hs2⟩ := hx2b.slp H_hPI.out
  have H_hs2 := Lib.hid hs2
  clear hs2
  have H_hx2b := Lib.hid hx2b
  clear hx2b
  clear hx2a
  go_wp2_with fail
  refine call_bel (w := w) (by repeat' (first | (with_reducible exact Below.refl _ _) | (with_reducible assumption) | (with_reducible refine bdn ?_) | (with_reducible refine Below.alloc ?_ ?_ _) | (with_reducible refine Below.drew ?_) | (with_reducible refine Below.setCell ?_ ?_ _) | omega | (simp <;> omega))) (fun HB => rpoint_any p _ H_hp.out) ?_
  intro w3 hb3 hz3 c3 d3 hW3
  have t3 := hb3.size
  try simp only [World.size_alloc] at hz3 c3 d3
  try simp only [World.size_drew] at hz3 c3 d3
  try simp only [World.size_setCell] at hz3 c3 d3
  try simp only [World.heap_drewN] at hz3 c3 d3
  have s3_0 : w.heap.size < w3.heap.size := by omega
  have o3_0 := fun j => c3 (w.heap.size) j (by omega)
  have f3_0 := fun j => d3 (w.heap.size) j (by omega)
  have s3_1 : w.heap.size + 1 < w3.heap.size := by omega
  have o3_1 := fun j => c3 (w.heap.size + 1) j (by omega)
  have f3_1 := fun j => d3 (w.heap.size + 1) j (by omega)
  have s3_2 : w.heap.size + 1 + 1 < w3.heap.size := by omega
  have o3_2 := fun j => c3 (w.heap.size + 1 + 1) j (by omega)
  have f3_2 := fun j => d3 (w.heap.size + 1 + 1) j (by omega)
  have s3_3 : w.heap.size + 1 + 1 + 1 < w3.heap.size := by omega
  have o3_3 := fun j => c3 (w.heap.size + 1 + 1 + 1) j (by omega)
  have f3_3 := fun j => d3 (w.heap.size + 1 + 1 + 1) j (by omega)
  have s3_4 : w.heap.size + 1 + 1 + 1 + 1 < w3.heap.size := by omega
  have o3_4 := fun j => c3 (w.heap.size + 1 + 1 + 1 + 1) j (by omega)
  have f3_4 := fun j => d3 (w.heap.size + 1 + 1 + 1 + 1) j (by omega)
  clear c3 d3 hz3 hW3
  rw [hpc]
  go_wp2_with fail
  go_returns
  exact ⟨rfl, by repeat' (first | (with_reducible exact Below.refl _ _) | (with_reducible assumption) | (with_reducible refine bdn ?_) | (with_reducible refine Below.alloc ?_ ?_ _) | (with_reducible refine Below.drew ?_) | (with_reducible refine Below.setCell ?_ ?_ _) | omega | (simp <;> omega))⟩
set_option maxHeartbeats 4000000 in
theorem boxes_n2 (ea : Nat → Addr) (x y u h : Fr) (p : Pt) (w : World) (hx : x.I) (hy : y.I) (hu : u.I) (hh : h.I) (hp : p.I) (hShape : w.cell? ⟨2, 0, none⟩ = some (.iface 87 (.pointer (some (ea 3))))) (hBound : w.cell? ⟨1, 0, none⟩ = some (.iface 87 (.pointer (some (ea 2))))) (hc : boxC x y u h = (0, none)) (hpc : p.c = 0) (hn : ¬ u.n < 0) (hn2 : h.n < 0) :
    Calls Tryd.prog 4 #[.agg #[.int .i64 x.n, .int .i64 x.d], .agg #[.int .i64 y.n, .int .i64 y.d], .agg #[.int .i64 u.n, .int .i64 u.d], .agg #[.int .i64 h.n, .int .i64 h.d], .agg #[.int .i64 p.xn, .int .i64 p.xd, .int .i64 p.yn, .int .i64 p.yd]] w fun e w' => e = .returned (.bool true) ∧ Below w.heap.size w w' := by
  have zhShape := zlt hShape
  have xhShape := zlts hShape
  have yhShape := zne hShape
  have zhBound := zlt hBound
  have xhBound := zlts hBound
  have yhBound := zne hBound
  have hL : boxL x y u h = boxP x y u h := if_pos hc
  have hs : boxC x y u h = (0, none) := hc
  have hPI : ∀ q ∈ boxP x y u h, q.I := by
    rcases boxC_cases x y u h with ⟨g1, g2⟩ | ⟨_, g1, g2⟩ | ⟨_, _, g1, g2⟩ | ⟨_, _, _, g1, g2⟩ | ⟨_, _, _, _, g1, g2⟩ | ⟨_, _, _, _, _, g1, g2⟩ | ⟨_, _, _, _, g1, g2, g3⟩
    · rw [hc] at g2; exact absurd (congrArg Prod.snd g2) (by simp)
    · rw [hc] at g2; exact absurd (congrArg Prod.snd g2) (by simp)
    · rw [hc] at g2; exact absurd (congrArg Prod.snd g2) (by simp)
    · rw [hc] at g2; exact absurd (congrArg Prod.snd g2) (by simp)
    · rw [hc] at g2; exact absurd (congrArg Prod.fst g2) (by simp)
    · rw [hc] at g2; exact absurd (congrArg Prod.fst g2) (by simp)
    · exact boxP_I hx hy g1 g2
  clear hs
  have H_hx := Lib.hid hx
  clear hx
  have H_hy := Lib.hid hy
  clear hy
  have H_hu := Lib.hid hu
  clear hu
  have H_hh := Lib.hid hh
  clear hh
  have H_hp := Lib.hid hp
  clear hp
  have H_hc := Lib.hid hc
  clear hc
  have H_hL := Lib.hid hL
  clear hL
  have H_hPI := Lib.hid hPI
  clear hPI
  go_enter Tryd.func4, Tryd.ntmps4
  go_wp2_with fail
  refine call_bel (w := w) (by repeat' (first | (with_reducible exact Below.refl _ _) | (with_reducible assumption) | (with_reducible refine bdn ?_) | (with_reducible refine Below.alloc ?_ ?_ _) | (with_reducible refine Below.drew ?_) | (with_reducible refine Below.setCell ?_ ?_ _) | omega | (simp <;> omega))) (fun HB => shaped_any ea _ (gkeep HB hShape rfl) (gkeep HB hBound rfl)) ?_
  intro w1 hb1 hz1 c1 d1 hW1
  have t1 := hb1.size
  try simp only [World.size_alloc] at hz1 c1 d1
  try simp only [World.size_drew] at hz1 c1 d1
  try simp only [World.size_setCell] at hz1 c1 d1
  try simp only [World.heap_drewN] at hz1 c1 d1
  have s1_0 : w.heap.size < w1.heap.size := by omega
  have o1_0 := fun j => c1 (w.heap.size) j (by omega)
  have f1_0 := fun j => d1 (w.heap.size) j (by omega)
  have s1_1 : w.heap.size + 1 < w1.heap.size := by omega
  have o1_1 := fun j => c1 (w.heap.size + 1) j (by omega)
  have f1_1 := fun j => d1 (w.heap.size + 1) j (by omega)
  have s1_2 : w.heap.size + 1 + 1 < w1.heap.size := by omega
  have o1_2 := fun j => c1 (w.heap.size + 1 + 1) j (by omega)
  have f1_2 := fun j => d1 (w.heap.size + 1 + 1) j (by omega)
  have s1_3 : w.heap.size + 1 + 1 + 1 < w1.heap.size := by omega
  have o1_3 := fun j => c1 (w.heap.size + 1 + 1 + 1) j (by omega)
  have f1_3 := fun j => d1 (w.heap.size + 1 + 1 + 1) j (by omega)
  have s1_4 : w.heap.size + 1 + 1 + 1 + 1 < w1.heap.size := by omega
  have o1_4 := fun j => c1 (w.heap.size + 1 + 1 + 1 + 1) j (by omega)
  have f1_4 := fun j => d1 (w.heap.size + 1 + 1 + 1 + 1) j (by omega)
  clear c1 d1 hz1 hW1
  go_wp2_with fail
  refine call_pe (w := w) (by repeat' (first | (with_reducible exact Below.refl _ _) | (with_reducible assumption) | (with_reducible refine bdn ?_) | (with_reducible refine Below.alloc ?_ ?_ _) | (with_reducible refine Below.drew ?_) | (with_reducible refine Below.setCell ?_ ?_ _) | omega | (simp <;> omega))) (fun HB => shbox_any ea x y u h _ H_hx.out H_hy.out H_hu.out H_hh.out (gkeep HB hShape rfl) (gkeep HB hBound rfl)) ?_
  rw [H_hL.out, H_hc.out]
  intro v2 x2 w2 hx2 hb2 hz2 c2 d2 hW2
  have t2 := hb2.size
  try simp only [World.size_alloc] at hz2 c2 d2
  try simp only [World.size_drew] at hz2 c2 d2
  try simp only [World.size_setCell] at hz2 c2 d2
  try simp only [World.heap_drewN] at hz2 c2 d2
  have s2_0 : w.heap.size < w2.heap.size := by omega
  have o2_0 := fun j => c2 (w.heap.size) j (by omega)
  have f2_0 := fun j => d2 (w.heap.size) j (by omega)
  have s2_1 : w.heap.size + 1 < w2.heap.size := by omega
  have o2_1 := fun j => c2 (w.heap.size + 1) j (by omega)
  have f2_1 := fun j => d2 (w.heap.size + 1) j (by omega)
  have s2_2 : w.heap.size + 1 + 1 < w2.heap.size := by omega
  have o2_2 := fun j => c2 (w.heap.size + 1 + 1) j (by omega)
  have f2_2 := fun j => d2 (w.heap.size + 1 + 1) j (by omega)
  have s2_3 : w.heap.size + 1 + 1 + 1 < w2.heap.size := by omega
  have o2_3 := fun j => c2 (w.heap.size + 1 + 1 + 1) j (by omega)
  have f2_3 := fun j => d2 (w.heap.size + 1 + 1 + 1) j (by omega)
  have s2_4 : w.heap.size + 1 + 1 + 1 + 1 < w2.heap.size := by omega
  have o2_4 := fun j => c2 (w.heap.size + 1 + 1 + 1 + 1) j (by omega)
  have f2_4 := fun j => d2 (w.heap.size + 1 + 1 + 1 + 1) j (by omega)
  clear c2 d2 hz2 hW2
  obtain ⟨hx2a, hx2b⟩ := hx2
  obtain rfl := hx2a.nil rfl
  obtain ⟨oa, cap, rfl, hs2⟩ := hx2b.slp H_hPI.out
  have H_hs2 := Lib.hid hs2
  clear hs2
  have H_hx2b := Lib.hid hx2b
  clear hx2b
  clear hx2a
  go_wp2_with fail
  refine call_bel (w := w) (by repeat' (first | (with_reducible exact Below.refl _ _) | (with_reducible assumption) | (with_reducible refine bdn ?_) | (with_reducible refine Below.alloc ?_ ?_ _) | (with_reducible refine Below.drew ?_) | (with_reducible refine Below.setCell ?_ ?_ _) | omega | (simp <;> omega))) (fun HB => rpoint_any p _ H_hp.out) ?_
  intro w3 hb3 hz3 c3 d3 hW3
  have t3 := hb3.size
  try simp only [World.size_alloc] at hz3 c3 d3
  try simp only [World.size_drew] at hz3 c3 d3
  try simp only [World.size_setCell] at hz3 c3 d3
  try simp only [World.heap_drewN] at hz3 c3 d3
  have s3_0 : w.heap.size < w3.heap.size := by omega
  have o3_0 := fun j => c3 (w.heap.size) j (by omega)
  have f3_0 := fun j => d3 (w.heap.size) j (by omega)
  have s3_1 : w.heap.size + 1 < w3.heap.size := by omega
  have o3_1 := fun j => c3 (w.heap.size + 1) j (by omega)
  have f3_1 := fun j => d3 (w.heap.size + 1) j (by omega)
  have s3_2 : w.heap.size + 1 + 1 < w3.heap.size := by omega
  have o3_2 := fun j => c3 (w.heap.size + 1 + 1) j (by omega)
  have f3_2 := fun j => d3 (w.heap.size + 1 + 1) j (by omega)
  have s3_3 : w.heap.size + 1 + 1 + 1 < w3.heap.size := by omega
  have o3_3 := fun j => c3 (w.heap.size + 1 + 1 + 1) j (by omega)
  have f3_3 := fun j => d3 (w.heap.size + 1 + 1 + 1) j (by omega)
  have s3_4 : w.heap.size + 1 + 1 + 1 + 1 < w3.heap.size := by omega
  have o3_4 := fun j => c3 (w.heap.size + 1 + 1 + 1 + 1) j (by omega)
  have f3_4 := fun j => d3 (w.heap.size + 1 + 1 + 1 + 1) j (by omega)
  clear c3 d3 hz3 hW3
  rw [hpc]
  go_wp2_with fail
  go_returns
  exact ⟨rfl, by repeat' (first | (with_reducible exact Below.refl _ _) | (with_reducible assumption) | (with_reducible refine bdn ?_) | (with_reducible refine Below.alloc ?_ ?_ _) | (with_reducible refine Below.drew ?_) | (with_reducible refine Below.setCell ?_ ?_ _) | omega | (simp <;> omega))⟩
end Go.Proofs.YthpicnajemnfdaaDoor
