/-
  The walk over the statement FracSums.
-/
import Derived.Test.YthpicnajemnfdaaDoorRef3
namespace Lead
open Go Go.RowKit
theorem lowC_le (x y : Int) : lowC x y ≤ 2 := by
  rcases lowC_cases x y with ⟨_, h⟩ | ⟨_, _, h⟩ | ⟨_, _, h⟩ <;> omega
theorem chk_le (n d : Int) : chk n d ≤ 3 := by
  rcases chk_cases n d with ⟨_, h⟩ | ⟨_, _, h⟩ | ⟨_, _, _, h⟩ | ⟨_, _, _, _, h⟩ | ⟨_, _, _, _, h⟩ <;> omega
theorem bothC_le (n d n' d' : Int) : bothC n d n' d' ≤ 3 := by
  have := chk_le n d; have := chk_le n' d'
  unfold bothC; split <;> omega
theorem opC_le (n d n' d' x y : Int) : opC n d n' d' x y ≤ 11 := by
  have := lowC_le x y; have := bothC_le n d n' d'
  unfold opC; split <;> omega
theorem addK_le (a b : Fr) : a.addK b ≤ 11 := opC_le _ _ _ _ _ _
theorem subK_le (a b : Fr) : a.subK b ≤ 11 := opC_le _ _ _ _ _ _
theorem mulK_le (a b : Fr) : a.mulK b ≤ 11 := opC_le _ _ _ _ _ _
theorem divK_le (a b : Fr) : a.divK b ≤ 11 := by
  unfold Fr.divK divC
  have := lowC_le (divN a b) (divD a b); have := bothC_le a.n a.d b.n b.d
  split
  · split <;> omega
  · omega
end Lead
namespace Go.Proofs.YthpicnajemnfdaaDoor
open Go.RowKit Lead

set_option maxHeartbeats 8000000 in
theorem sums_any (ea : Nat → Addr) (a b : Fr) (w : World) (ia : a.I) (ib : b.I) (hS : Sents ea w) (htab : Lib.TabIs Tryd.prog w "internal/strconv.uint64pow10" .u64 Lib.pow10Tab) :
    Calls Tryd.prog 9 #[.agg #[.int .i64 a.n, .int .i64 a.d], .agg #[.int .i64 b.n, .int .i64 b.d]] w fun e w' => e = .returned (.bool true) ∧ Below w.heap.size w w' := by
  have hBound := hS.c2
  have hShape := hS.c3
  have hZero := hS.c11
  have zhShape := zlt hShape
  have xhShape := zlts hShape
  have yhShape := zne hShape
  have zhBound := zlt hBound
  have xhBound := zlts hBound
  have yhBound := zne hBound
  have zhZero := zlt hZero
  have xhZero := zlts hZero
  have yhZero := zne hZero
  obtain ⟨ia1, ia2⟩ := ia
  obtain ⟨ib1, ib2⟩ := ib
  have H_hS := Lib.hid hS
  clear hS
  go_enter Tryd.func9, Tryd.ntmps9
  go_wp2_with fail
  refine call_bel (w := w) (by repeat' (first | (with_reducible exact Below.refl _ _) | (with_reducible assumption) | (with_reducible refine bdn ?_) | (with_reducible refine Below.alloc ?_ ?_ _) | (with_reducible refine Below.drew ?_) | (with_reducible refine Below.setCell ?_ ?_ _) | omega | (simp <;> omega))) (fun HB => halved_any ea _ (gkeep HB hBound rfl) (gkeep HB hZero rfl) (tab_keep htab HB rfl)) ?_
  intro w1 hb1 hz1 c1 d1 hW1
  have t1 := hb1.size
  try simp only [World.size_alloc] at hz1 c1 d1
  try simp only [World.size_drew] at hz1 c1 d1
  try simp only [World.size_setCell] at hz1 c1 d1
  try simp only [World.heap_drewN] at hz1 c1 d1
  have s1_0 : w.heap.size < w1.heap.size := by omega
  have o1_0 := fun j => c1 (w.heap.size) j (by omega)
  have f1_0 := fun j => d1 (w.heap.size) j (by omega)
  have s1_1 : w.heap.size + 1 < w1.heap.size := by omega
  have o1_1 := fun j => c1 (w.heap.size + 1) j (by omega)
  have f1_1 := fun j => d1 (w.heap.size + 1) j (by omega)
  clear c1 d1 hz1 hW1
  go_wp2_with fail
  refine call_bel (w := w) (by repeat' (first | (with_reducible exact Below.refl _ _) | (with_reducible assumption) | (with_reducible refine bdn ?_) | (with_reducible refine Below.alloc ?_ ?_ _) | (with_reducible refine Below.drew ?_) | (with_reducible refine Below.setCell ?_ ?_ _) | omega | (simp <;> omega))) (fun HB => fadd_f ea a b _ _ ⟨ia1, ia2⟩ ⟨ib1, ib2⟩ (gkeep HB hShape rfl) (gkeep HB hBound rfl) rfl) ?_
  intro w2 hb2 hz2 c2 d2 hW2
  have t2 := hb2.size
  try simp only [World.size_alloc] at hz2 c2 d2
  try simp only [World.size_drew] at hz2 c2 d2
  try simp only [World.size_setCell] at hz2 c2 d2
  try simp only [World.heap_drewN] at hz2 c2 d2
  have s2_0 : w.heap.size < w2.heap.size := by omega
  have o2_0 := fun j => c2 (w.heap.size) j (by omega)
  have f2_0 := fun j => d2 (w.heap.size) j (by omega)
  have s2_1 : w.heap.size + 1 < w2.heap.size := by omega
  have o2_1 := fun j => c2 (w.heap.size + 1) j (by omega)
  have f2_1 := fun j => d2 (w.heap.size + 1) j (by omega)
  clear c2 d2 hz2 hW2
  rw [frV_z]
  go_wp2_with fail
  refine call_bel (w := w) (by repeat' (first | (with_reducible exact Below.refl _ _) | (with_reducible assumption) | (with_reducible refine bdn ?_) | (with_reducible refine Below.alloc ?_ ?_ _) | (with_reducible refine Below.drew ?_) | (with_reducible refine Below.setCell ?_ ?_ _) | omega | (simp <;> omega))) (fun HB => fsub_f ea a b _ _ ⟨ia1, ia2⟩ ⟨ib1, ib2⟩ (gkeep HB hShape rfl) (gkeep HB hBound rfl) rfl) ?_
  intro w3 hb3 hz3 c3 d3 hW3
  have t3 := hb3.size
  have e3_2 : Below w2.heap.size w2 w3 := below_via (by repeat' (first | (with_reducible exact Below.refl _ _) | (with_reducible assumption) | (with_reducible refine bdn ?_) | (with_reducible refine Below.alloc ?_ ?_ _) | (with_reducible refine Below.drew ?_) | (with_reducible refine Below.setCell ?_ ?_ _) | omega | (simp <;> omega))) hW3
  have te3_2 := e3_2.size
  try simp only [World.size_alloc] at hz3 c3 d3
  try simp only [World.size_drew] at hz3 c3 d3
  try simp only [World.size_setCell] at hz3 c3 d3
  try simp only [World.heap_drewN] at hz3 c3 d3
  have s3_0 : w.heap.size < w3.heap.size := by omega
  have o3_0 := fun j => c3 (w.heap.size) j (by omega)
  have f3_0 := fun j => d3 (w.heap.size) j (by omega)
  have s3_1 : w.heap.size + 1 < w3.heap.size := by omega
  have o3_1 := fun j => c3 (w.heap.size + 1) j (by omega)
  have f3_1 := fun j => d3 (w.heap.size + 1) j (by omega)
  have s3_2 : w2.heap.size < w3.heap.size := by omega
  have o3_2 := fun j => c3 (w2.heap.size) j (by omega)
  have f3_2 := fun j => d3 (w2.heap.size) j (by omega)
  clear c3 d3 hz3 hW3
  rw [frV_z]
  go_wp2_with fail
  refine call_bel (w := w) (by repeat' (first | (with_reducible exact Below.refl _ _) | (with_reducible assumption) | (with_reducible refine bdn ?_) | (with_reducible refine Below.alloc ?_ ?_ _) | (with_reducible refine Below.drew ?_) | (with_reducible refine Below.setCell ?_ ?_ _) | omega | (simp <;> omega))) (fun HB => fmul_f ea a b _ _ ⟨ia1, ia2⟩ ⟨ib1, ib2⟩ (gkeep HB hShape rfl) (gkeep HB hBound rfl) rfl) ?_
  intro w4 hb4 hz4 c4 d4 hW4
  have t4 := hb4.size
  have e4_2 : Below w2.heap.size w2 w4 := below_via (by repeat' (first | (with_reducible exact Below.refl _ _) | (with_reducible assumption) | (with_reducible refine bdn ?_) | (with_reducible refine Below.alloc ?_ ?_ _) | (with_reducible refine Below.drew ?_) | (with_reducible refine Below.setCell ?_ ?_ _) | omega | (simp <;> omega))) hW4
  have te4_2 := e4_2.size
  have e4_3 : Below w3.heap.size w3 w4 := below_via (by repeat' (first | (with_reducible exact Below.refl _ _) | (with_reducible assumption) | (with_reducible refine bdn ?_) | (with_reducible refine Below.alloc ?_ ?_ _) | (with_reducible refine Below.drew ?_) | (with_reducible refine Below.setCell ?_ ?_ _) | omega | (simp <;> omega))) hW4
  have te4_3 := e4_3.size
  try simp only [World.size_alloc] at hz4 c4 d4
  try simp only [World.size_drew] at hz4 c4 d4
  try simp only [World.size_setCell] at hz4 c4 d4
  try simp only [World.heap_drewN] at hz4 c4 d4
  have s4_0 : w.heap.size < w4.heap.size := by omega
  have o4_0 := fun j => c4 (w.heap.size) j (by omega)
  have f4_0 := fun j => d4 (w.heap.size) j (by omega)
  have s4_1 : w.heap.size + 1 < w4.heap.size := by omega
  have o4_1 := fun j => c4 (w.heap.size + 1) j (by omega)
  have f4_1 := fun j => d4 (w.heap.size + 1) j (by omega)
  have s4_2 : w2.heap.size < w4.heap.size := by omega
  have o4_2 := fun j => c4 (w2.heap.size) j (by omega)
  have f4_2 := fun j => d4 (w2.heap.size) j (by omega)
  have s4_3 : w3.heap.size < w4.heap.size := by omega
  have o4_3 := fun j => c4 (w3.heap.size) j (by omega)
  have f4_3 := fun j => d4 (w3.heap.size) j (by omega)
  clear c4 d4 hz4 hW4
  rw [frV_z]
  go_wp2_with fail
  refine call_bel (w := w) (by repeat' (first | (with_reducible exact Below.refl _ _) | (with_reducible assumption) | (with_reducible refine bdn ?_) | (with_reducible refine Below.alloc ?_ ?_ _) | (with_reducible refine Below.drew ?_) | (with_reducible refine Below.setCell ?_ ?_ _) | omega | (simp <;> omega))) (fun HB => fdiv_f ea a b _ _ ⟨ia1, ia2⟩ ⟨ib1, ib2⟩ (gkeep HB hShape rfl) (gkeep HB hBound rfl) (gkeep HB hZero rfl) rfl) ?_
  intro w5 hb5 hz5 c5 d5 hW5
  have t5 := hb5.size
  have e5_2 : Below w2.heap.size w2 w5 := below_via (by repeat' (first | (with_reducible exact Below.refl _ _) | (with_reducible assumption) | (with_reducible refine bdn ?_) | (with_reducible refine Below.alloc ?_ ?_ _) | (with_reducible refine Below.drew ?_) | (with_reducible refine Below.setCell ?_ ?_ _) | omega | (simp <;> omega))) hW5
  have te5_2 := e5_2.size
  have e5_3 : Below w3.heap.size w3 w5 := below_via (by repeat' (first | (with_reducible exact Below.refl _ _) | (with_reducible assumption) | (with_reducible refine bdn ?_) | (with_reducible refine Below.alloc ?_ ?_ _) | (with_reducible refine Below.drew ?_) | (with_reducible refine Below.setCell ?_ ?_ _) | omega | (simp <;> omega))) hW5
  have te5_3 := e5_3.size
  have e5_4 : Below w4.heap.size w4 w5 := below_via (by repeat' (first | (with_reducible exact Below.refl _ _) | (with_reducible assumption) | (with_reducible refine bdn ?_) | (with_reducible refine Below.alloc ?_ ?_ _) | (with_reducible refine Below.drew ?_) | (with_reducible refine Below.setCell ?_ ?_ _) | omega | (simp <;> omega))) hW5
  have te5_4 := e5_4.size
  try simp only [World.size_alloc] at hz5 c5 d5
  try simp only [World.size_drew] at hz5 c5 d5
  try simp only [World.size_setCell] at hz5 c5 d5
  try simp only [World.heap_drewN] at hz5 c5 d5
  have s5_0 : w.heap.size < w5.heap.size := by omega
  have o5_0 := fun j => c5 (w.heap.size) j (by omega)
  have f5_0 := fun j => d5 (w.heap.size) j (by omega)
  have s5_1 : w.heap.size + 1 < w5.heap.size := by omega
  have o5_1 := fun j => c5 (w.heap.size + 1) j (by omega)
  have f5_1 := fun j => d5 (w.heap.size + 1) j (by omega)
  have s5_2 : w2.heap.size < w5.heap.size := by omega
  have o5_2 := fun j => c5 (w2.heap.size) j (by omega)
  have f5_2 := fun j => d5 (w2.heap.size) j (by omega)
  have s5_3 : w3.heap.size < w5.heap.size := by omega
  have o5_3 := fun j => c5 (w3.heap.size) j (by omega)
  have f5_3 := fun j => d5 (w3.heap.size) j (by omega)
  have s5_4 : w4.heap.size < w5.heap.size := by omega
  have o5_4 := fun j => c5 (w4.heap.size) j (by omega)
  have f5_4 := fun j => d5 (w4.heap.size) j (by omega)
  clear c5 d5 hz5 hW5
  rw [frV_z]
  go_wp2_with fail
  refine call_bel (w := w) (by repeat' (first | (with_reducible exact Below.refl _ _) | (with_reducible assumption) | (with_reducible refine bdn ?_) | (with_reducible refine Below.alloc ?_ ?_ _) | (with_reducible refine Below.drew ?_) | (with_reducible refine Below.setCell ?_ ?_ _) | omega | (simp <;> omega))) (fun HB => rdo_add a b _ _ ⟨ia1, ia2⟩ ⟨ib1, ib2⟩ rfl) ?_
  intro w6 hb6 hz6 c6 d6 hW6
  have t6 := hb6.size
  have e6_2 : Below w2.heap.size w2 w6 := below_via (by repeat' (first | (with_reducible exact Below.refl _ _) | (with_reducible assumption) | (with_reducible refine bdn ?_) | (with_reducible refine Below.alloc ?_ ?_ _) | (with_reducible refine Below.drew ?_) | (with_reducible refine Below.setCell ?_ ?_ _) | omega | (simp <;> omega))) hW6
  have te6_2 := e6_2.size
  have e6_3 : Below w3.heap.size w3 w6 := below_via (by repeat' (first | (with_reducible exact Below.refl _ _) | (with_reducible assumption) | (with_reducible refine bdn ?_) | (with_reducible refine Below.alloc ?_ ?_ _) | (with_reducible refine Below.drew ?_) | (with_reducible refine Below.setCell ?_ ?_ _) | omega | (simp <;> omega))) hW6
  have te6_3 := e6_3.size
  have e6_4 : Below w4.heap.size w4 w6 := below_via (by repeat' (first | (with_reducible exact Below.refl _ _) | (with_reducible assumption) | (with_reducible refine bdn ?_) | (with_reducible refine Below.alloc ?_ ?_ _) | (with_reducible refine Below.drew ?_) | (with_reducible refine Below.setCell ?_ ?_ _) | omega | (simp <;> omega))) hW6
  have te6_4 := e6_4.size
  have e6_5 : Below w5.heap.size w5 w6 := below_via (by repeat' (first | (with_reducible exact Below.refl _ _) | (with_reducible assumption) | (with_reducible refine bdn ?_) | (with_reducible refine Below.alloc ?_ ?_ _) | (with_reducible refine Below.drew ?_) | (with_reducible refine Below.setCell ?_ ?_ _) | omega | (simp <;> omega))) hW6
  have te6_5 := e6_5.size
  try simp only [World.size_alloc] at hz6 c6 d6
  try simp only [World.size_drew] at hz6 c6 d6
  try simp only [World.size_setCell] at hz6 c6 d6
  try simp only [World.heap_drewN] at hz6 c6 d6
  have s6_0 : w.heap.size < w6.heap.size := by omega
  have o6_0 := fun j => c6 (w.heap.size) j (by omega)
  have f6_0 := fun j => d6 (w.heap.size) j (by omega)
  have s6_1 : w.heap.size + 1 < w6.heap.size := by omega
  have o6_1 := fun j => c6 (w.heap.size + 1) j (by omega)
  have f6_1 := fun j => d6 (w.heap.size + 1) j (by omega)
  have s6_2 : w2.heap.size < w6.heap.size := by omega
  have o6_2 := fun j => c6 (w2.heap.size) j (by omega)
  have f6_2 := fun j => d6 (w2.heap.size) j (by omega)
  have s6_3 : w3.heap.size < w6.heap.size := by omega
  have o6_3 := fun j => c6 (w3.heap.size) j (by omega)
  have f6_3 := fun j => d6 (w3.heap.size) j (by omega)
  have s6_4 : w4.heap.size < w6.heap.size := by omega
  have o6_4 := fun j => c6 (w4.heap.size) j (by omega)
  have f6_4 := fun j => d6 (w4.heap.size) j (by omega)
  have s6_5 : w5.heap.size < w6.heap.size := by omega
  have o6_5 := fun j => c6 (w5.heap.size) j (by omega)
  have f6_5 := fun j => d6 (w5.heap.size) j (by omega)
  clear c6 d6 hz6 hW6
  rw [frN]
  go_wp2_with fail
  refine call_bel (w := w) (by repeat' (first | (with_reducible exact Below.refl _ _) | (with_reducible assumption) | (with_reducible refine bdn ?_) | (with_reducible refine Below.alloc ?_ ?_ _) | (with_reducible refine Below.drew ?_) | (with_reducible refine Below.setCell ?_ ?_ _) | omega | (simp <;> omega))) (fun HB => rdo_sub a b _ _ ⟨ia1, ia2⟩ ⟨ib1, ib2⟩ rfl) ?_
  intro w7 hb7 hz7 c7 d7 hW7
  have t7 := hb7.size
  have e7_2 : Below w2.heap.size w2 w7 := below_via (by repeat' (first | (with_reducible exact Below.refl _ _) | (with_reducible assumption) | (with_reducible refine bdn ?_) | (with_reducible refine Below.alloc ?_ ?_ _) | (with_reducible refine Below.drew ?_) | (with_reducible refine Below.setCell ?_ ?_ _) | omega | (simp <;> omega))) hW7
  have te7_2 := e7_2.size
  have e7_3 : Below w3.heap.size w3 w7 := below_via (by repeat' (first | (with_reducible exact Below.refl _ _) | (with_reducible assumption) | (with_reducible refine bdn ?_) | (with_reducible refine Below.alloc ?_ ?_ _) | (with_reducible refine Below.drew ?_) | (with_reducible refine Below.setCell ?_ ?_ _) | omega | (simp <;> omega))) hW7
  have te7_3 := e7_3.size
  have e7_4 : Below w4.heap.size w4 w7 := below_via (by repeat' (first | (with_reducible exact Below.refl _ _) | (with_reducible assumption) | (with_reducible refine bdn ?_) | (with_reducible refine Below.alloc ?_ ?_ _) | (with_reducible refine Below.drew ?_) | (with_reducible refine Below.setCell ?_ ?_ _) | omega | (simp <;> omega))) hW7
  have te7_4 := e7_4.size
  have e7_5 : Below w5.heap.size w5 w7 := below_via (by repeat' (first | (with_reducible exact Below.refl _ _) | (with_reducible assumption) | (with_reducible refine bdn ?_) | (with_reducible refine Below.alloc ?_ ?_ _) | (with_reducible refine Below.drew ?_) | (with_reducible refine Below.setCell ?_ ?_ _) | omega | (simp <;> omega))) hW7
  have te7_5 := e7_5.size
  have e7_6 : Below w6.heap.size w6 w7 := below_via (by repeat' (first | (with_reducible exact Below.refl _ _) | (with_reducible assumption) | (with_reducible refine bdn ?_) | (with_reducible refine Below.alloc ?_ ?_ _) | (with_reducible refine Below.drew ?_) | (with_reducible refine Below.setCell ?_ ?_ _) | omega | (simp <;> omega))) hW7
  have te7_6 := e7_6.size
  try simp only [World.size_alloc] at hz7 c7 d7
  try simp only [World.size_drew] at hz7 c7 d7
  try simp only [World.size_setCell] at hz7 c7 d7
  try simp only [World.heap_drewN] at hz7 c7 d7
  have s7_0 : w.heap.size < w7.heap.size := by omega
  have o7_0 := fun j => c7 (w.heap.size) j (by omega)
  have f7_0 := fun j => d7 (w.heap.size) j (by omega)
  have s7_1 : w.heap.size + 1 < w7.heap.size := by omega
  have o7_1 := fun j => c7 (w.heap.size + 1) j (by omega)
  have f7_1 := fun j => d7 (w.heap.size + 1) j (by omega)
  have s7_2 : w2.heap.size < w7.heap.size := by omega
  have o7_2 := fun j => c7 (w2.heap.size) j (by omega)
  have f7_2 := fun j => d7 (w2.heap.size) j (by omega)
  have s7_3 : w3.heap.size < w7.heap.size := by omega
  have o7_3 := fun j => c7 (w3.heap.size) j (by omega)
  have f7_3 := fun j => d7 (w3.heap.size) j (by omega)
  have s7_4 : w4.heap.size < w7.heap.size := by omega
  have o7_4 := fun j => c7 (w4.heap.size) j (by omega)
  have f7_4 := fun j => d7 (w4.heap.size) j (by omega)
  have s7_5 : w5.heap.size < w7.heap.size := by omega
  have o7_5 := fun j => c7 (w5.heap.size) j (by omega)
  have f7_5 := fun j => d7 (w5.heap.size) j (by omega)
  have s7_6 : w6.heap.size < w7.heap.size := by omega
  have o7_6 := fun j => c7 (w6.heap.size) j (by omega)
  have f7_6 := fun j => d7 (w6.heap.size) j (by omega)
  clear c7 d7 hz7 hW7
  rw [frN]
  go_wp2_with fail
  refine call_bel (w := w) (by repeat' (first | (with_reducible exact Below.refl _ _) | (with_reducible assumption) | (with_reducible refine bdn ?_) | (with_reducible refine Below.alloc ?_ ?_ _) | (with_reducible refine Below.drew ?_) | (with_reducible refine Below.setCell ?_ ?_ _) | omega | (simp <;> omega))) (fun HB => rdo_mul a b _ _ ⟨ia1, ia2⟩ ⟨ib1, ib2⟩ rfl) ?_
  intro w8 hb8 hz8 c8 d8 hW8
  have t8 := hb8.size
  have e8_2 : Below w2.heap.size w2 w8 := below_via (by repeat' (first | (with_reducible exact Below.refl _ _) | (with_reducible assumption) | (with_reducible refine bdn ?_) | (with_reducible refine Below.alloc ?_ ?_ _) | (with_reducible refine Below.drew ?_) | (with_reducible refine Below.setCell ?_ ?_ _) | omega | (simp <;> omega))) hW8
  have te8_2 := e8_2.size
  have e8_3 : Below w3.heap.size w3 w8 := below_via (by repeat' (first | (with_reducible exact Below.refl _ _) | (with_reducible assumption) | (with_reducible refine bdn ?_) | (with_reducible refine Below.alloc ?_ ?_ _) | (with_reducible refine Below.drew ?_) | (with_reducible refine Below.setCell ?_ ?_ _) | omega | (simp <;> omega))) hW8
  have te8_3 := e8_3.size
  have e8_4 : Below w4.heap.size w4 w8 := below_via (by repeat' (first | (with_reducible exact Below.refl _ _) | (with_reducible assumption) | (with_reducible refine bdn ?_) | (with_reducible refine Below.alloc ?_ ?_ _) | (with_reducible refine Below.drew ?_) | (with_reducible refine Below.setCell ?_ ?_ _) | omega | (simp <;> omega))) hW8
  have te8_4 := e8_4.size
  have e8_5 : Below w5.heap.size w5 w8 := below_via (by repeat' (first | (with_reducible exact Below.refl _ _) | (with_reducible assumption) | (with_reducible refine bdn ?_) | (with_reducible refine Below.alloc ?_ ?_ _) | (with_reducible refine Below.drew ?_) | (with_reducible refine Below.setCell ?_ ?_ _) | omega | (simp <;> omega))) hW8
  have te8_5 := e8_5.size
  have e8_6 : Below w6.heap.size w6 w8 := below_via (by repeat' (first | (with_reducible exact Below.refl _ _) | (with_reducible assumption) | (with_reducible refine bdn ?_) | (with_reducible refine Below.alloc ?_ ?_ _) | (with_reducible refine Below.drew ?_) | (with_reducible refine Below.setCell ?_ ?_ _) | omega | (simp <;> omega))) hW8
  have te8_6 := e8_6.size
  have e8_7 : Below w7.heap.size w7 w8 := below_via (by repeat' (first | (with_reducible exact Below.refl _ _) | (with_reducible assumption) | (with_reducible refine bdn ?_) | (with_reducible refine Below.alloc ?_ ?_ _) | (with_reducible refine Below.drew ?_) | (with_reducible refine Below.setCell ?_ ?_ _) | omega | (simp <;> omega))) hW8
  have te8_7 := e8_7.size
  try simp only [World.size_alloc] at hz8 c8 d8
  try simp only [World.size_drew] at hz8 c8 d8
  try simp only [World.size_setCell] at hz8 c8 d8
  try simp only [World.heap_drewN] at hz8 c8 d8
  have s8_0 : w.heap.size < w8.heap.size := by omega
  have o8_0 := fun j => c8 (w.heap.size) j (by omega)
  have f8_0 := fun j => d8 (w.heap.size) j (by omega)
  have s8_1 : w.heap.size + 1 < w8.heap.size := by omega
  have o8_1 := fun j => c8 (w.heap.size + 1) j (by omega)
  have f8_1 := fun j => d8 (w.heap.size + 1) j (by omega)
  have s8_2 : w2.heap.size < w8.heap.size := by omega
  have o8_2 := fun j => c8 (w2.heap.size) j (by omega)
  have f8_2 := fun j => d8 (w2.heap.size) j (by omega)
  have s8_3 : w3.heap.size < w8.heap.size := by omega
  have o8_3 := fun j => c8 (w3.heap.size) j (by omega)
  have f8_3 := fun j => d8 (w3.heap.size) j (by omega)
  have s8_4 : w4.heap.size < w8.heap.size := by omega
  have o8_4 := fun j => c8 (w4.heap.size) j (by omega)
  have f8_4 := fun j => d8 (w4.heap.size) j (by omega)
  have s8_5 : w5.heap.size < w8.heap.size := by omega
  have o8_5 := fun j => c8 (w5.heap.size) j (by omega)
  have f8_5 := fun j => d8 (w5.heap.size) j (by omega)
  have s8_6 : w6.heap.size < w8.heap.size := by omega
  have o8_6 := fun j => c8 (w6.heap.size) j (by omega)
  have f8_6 := fun j => d8 (w6.heap.size) j (by omega)
  have s8_7 : w7.heap.size < w8.heap.size := by omega
  have o8_7 := fun j => c8 (w7.heap.size) j (by omega)
  have f8_7 := fun j => d8 (w7.heap.size) j (by omega)
  clear c8 d8 hz8 hW8
  rw [frN]
  go_wp2_with fail
  refine call_bel (w := w) (by repeat' (first | (with_reducible exact Below.refl _ _) | (with_reducible assumption) | (with_reducible refine bdn ?_) | (with_reducible refine Below.alloc ?_ ?_ _) | (with_reducible refine Below.drew ?_) | (with_reducible refine Below.setCell ?_ ?_ _) | omega | (simp <;> omega))) (fun HB => rdo_div a b _ _ ⟨ia1, ia2⟩ ⟨ib1, ib2⟩ rfl) ?_
  intro w9 hb9 hz9 c9 d9 hW9
  have t9 := hb9.size
  have e9_2 : Below w2.heap.size w2 w9 := below_via (by repeat' (first | (with_reducible exact Below.refl _ _) | (with_reducible assumption) | (with_reducible refine bdn ?_) | (with_reducible refine Below.alloc ?_ ?_ _) | (with_reducible refine Below.drew ?_) | (with_reducible refine Below.setCell ?_ ?_ _) | omega | (simp <;> omega))) hW9
  have te9_2 := e9_2.size
  have e9_3 : Below w3.heap.size w3 w9 := below_via (by repeat' (first | (with_reducible exact Below.refl _ _) | (with_reducible assumption) | (with_reducible refine bdn ?_) | (with_reducible refine Below.alloc ?_ ?_ _) | (with_reducible refine Below.drew ?_) | (with_reducible refine Below.setCell ?_ ?_ _) | omega | (simp <;> omega))) hW9
  have te9_3 := e9_3.size
  have e9_4 : Below w4.heap.size w4 w9 := below_via (by repeat' (first | (with_reducible exact Below.refl _ _) | (with_reducible assumption) | (with_reducible refine bdn ?_) | (with_reducible refine Below.alloc ?_ ?_ _) | (with_reducible refine Below.drew ?_) | (with_reducible refine Below.setCell ?_ ?_ _) | omega | (simp <;> omega))) hW9
  have te9_4 := e9_4.size
  have e9_5 : Below w5.heap.size w5 w9 := below_via (by repeat' (first | (with_reducible exact Below.refl _ _) | (with_reducible assumption) | (with_reducible refine bdn ?_) | (with_reducible refine Below.alloc ?_ ?_ _) | (with_reducible refine Below.drew ?_) | (with_reducible refine Below.setCell ?_ ?_ _) | omega | (simp <;> omega))) hW9
  have te9_5 := e9_5.size
  have e9_6 : Below w6.heap.size w6 w9 := below_via (by repeat' (first | (with_reducible exact Below.refl _ _) | (with_reducible assumption) | (with_reducible refine bdn ?_) | (with_reducible refine Below.alloc ?_ ?_ _) | (with_reducible refine Below.drew ?_) | (with_reducible refine Below.setCell ?_ ?_ _) | omega | (simp <;> omega))) hW9
  have te9_6 := e9_6.size
  have e9_7 : Below w7.heap.size w7 w9 := below_via (by repeat' (first | (with_reducible exact Below.refl _ _) | (with_reducible assumption) | (with_reducible refine bdn ?_) | (with_reducible refine Below.alloc ?_ ?_ _) | (with_reducible refine Below.drew ?_) | (with_reducible refine Below.setCell ?_ ?_ _) | omega | (simp <;> omega))) hW9
  have te9_7 := e9_7.size
  have e9_8 : Below w8.heap.size w8 w9 := below_via (by repeat' (first | (with_reducible exact Below.refl _ _) | (with_reducible assumption) | (with_reducible refine bdn ?_) | (with_reducible refine Below.alloc ?_ ?_ _) | (with_reducible refine Below.drew ?_) | (with_reducible refine Below.setCell ?_ ?_ _) | omega | (simp <;> omega))) hW9
  have te9_8 := e9_8.size
  try simp only [World.size_alloc] at hz9 c9 d9
  try simp only [World.size_drew] at hz9 c9 d9
  try simp only [World.size_setCell] at hz9 c9 d9
  try simp only [World.heap_drewN] at hz9 c9 d9
  have s9_0 : w.heap.size < w9.heap.size := by omega
  have o9_0 := fun j => c9 (w.heap.size) j (by omega)
  have f9_0 := fun j => d9 (w.heap.size) j (by omega)
  have s9_1 : w.heap.size + 1 < w9.heap.size := by omega
  have o9_1 := fun j => c9 (w.heap.size + 1) j (by omega)
  have f9_1 := fun j => d9 (w.heap.size + 1) j (by omega)
  have s9_2 : w2.heap.size < w9.heap.size := by omega
  have o9_2 := fun j => c9 (w2.heap.size) j (by omega)
  have f9_2 := fun j => d9 (w2.heap.size) j (by omega)
  have s9_3 : w3.heap.size < w9.heap.size := by omega
  have o9_3 := fun j => c9 (w3.heap.size) j (by omega)
  have f9_3 := fun j => d9 (w3.heap.size) j (by omega)
  have s9_4 : w4.heap.size < w9.heap.size := by omega
  have o9_4 := fun j => c9 (w4.heap.size) j (by omega)
  have f9_4 := fun j => d9 (w4.heap.size) j (by omega)
  have s9_5 : w5.heap.size < w9.heap.size := by omega
  have o9_5 := fun j => c9 (w5.heap.size) j (by omega)
  have f9_5 := fun j => d9 (w5.heap.size) j (by omega)
  have s9_6 : w6.heap.size < w9.heap.size := by omega
  have o9_6 := fun j => c9 (w6.heap.size) j (by omega)
  have f9_6 := fun j => d9 (w6.heap.size) j (by omega)
  have s9_7 : w7.heap.size < w9.heap.size := by omega
  have o9_7 := fun j => c9 (w7.heap.size) j (by omega)
  have f9_7 := fun j => d9 (w7.heap.size) j (by omega)
  have s9_8 : w8.heap.size < w9.heap.size := by omega
  have o9_8 := fun j => c9 (w8.heap.size) j (by omega)
  have f9_8 := fun j => d9 (w8.heap.size) j (by omega)
  clear c9 d9 hz9 hW9
  rw [frN]
  go_wp2_with fail
  refine call_bel (w := w) (by repeat' (first | (with_reducible exact Below.refl _ _) | (with_reducible assumption) | (with_reducible refine bdn ?_) | (with_reducible refine Below.alloc ?_ ?_ _) | (with_reducible refine Below.drew ?_) | (with_reducible refine Below.setCell ?_ ?_ _) | omega | (simp <;> omega))) (fun HB => coded1_t ea (a.addK b) _ (addK_le a b) (H_hS.out.keep HB rfl)) ?_
  intro w10 hb10 hz10 c10 d10 hW10
  have t10 := hb10.size
  have e10_2 : Below w2.heap.size w2 w10 := below_via (by repeat' (first | (with_reducible exact Below.refl _ _) | (with_reducible assumption) | (with_reducible refine bdn ?_) | (with_reducible refine Below.alloc ?_ ?_ _) | (with_reducible refine Below.drew ?_) | (with_reducible refine Below.setCell ?_ ?_ _) | omega | (simp <;> omega))) hW10
  have te10_2 := e10_2.size
  have e10_3 : Below w3.heap.size w3 w10 := below_via (by repeat' (first | (with_reducible exact Below.refl _ _) | (with_reducible assumption) | (with_reducible refine bdn ?_) | (with_reducible refine Below.alloc ?_ ?_ _) | (with_reducible refine Below.drew ?_) | (with_reducible refine Below.setCell ?_ ?_ _) | omega | (simp <;> omega))) hW10
  have te10_3 := e10_3.size
  have e10_4 : Below w4.heap.size w4 w10 := below_via (by repeat' (first | (with_reducible exact Below.refl _ _) | (with_reducible assumption) | (with_reducible refine bdn ?_) | (with_reducible refine Below.alloc ?_ ?_ _) | (with_reducible refine Below.drew ?_) | (with_reducible refine Below.setCell ?_ ?_ _) | omega | (simp <;> omega))) hW10
  have te10_4 := e10_4.size
  have e10_5 : Below w5.heap.size w5 w10 := below_via (by repeat' (first | (with_reducible exact Below.refl _ _) | (with_reducible assumption) | (with_reducible refine bdn ?_) | (with_reducible refine Below.alloc ?_ ?_ _) | (with_reducible refine Below.drew ?_) | (with_reducible refine Below.setCell ?_ ?_ _) | omega | (simp <;> omega))) hW10
  have te10_5 := e10_5.size
  have e10_6 : Below w6.heap.size w6 w10 := below_via (by repeat' (first | (with_reducible exact Below.refl _ _) | (with_reducible assumption) | (with_reducible refine bdn ?_) | (with_reducible refine Below.alloc ?_ ?_ _) | (with_reducible refine Below.drew ?_) | (with_reducible refine Below.setCell ?_ ?_ _) | omega | (simp <;> omega))) hW10
  have te10_6 := e10_6.size
  have e10_7 : Below w7.heap.size w7 w10 := below_via (by repeat' (first | (with_reducible exact Below.refl _ _) | (with_reducible assumption) | (with_reducible refine bdn ?_) | (with_reducible refine Below.alloc ?_ ?_ _) | (with_reducible refine Below.drew ?_) | (with_reducible refine Below.setCell ?_ ?_ _) | omega | (simp <;> omega))) hW10
  have te10_7 := e10_7.size
  have e10_8 : Below w8.heap.size w8 w10 := below_via (by repeat' (first | (with_reducible exact Below.refl _ _) | (with_reducible assumption) | (with_reducible refine bdn ?_) | (with_reducible refine Below.alloc ?_ ?_ _) | (with_reducible refine Below.drew ?_) | (with_reducible refine Below.setCell ?_ ?_ _) | omega | (simp <;> omega))) hW10
  have te10_8 := e10_8.size
  have e10_9 : Below w9.heap.size w9 w10 := below_via (by repeat' (first | (with_reducible exact Below.refl _ _) | (with_reducible assumption) | (with_reducible refine bdn ?_) | (with_reducible refine Below.alloc ?_ ?_ _) | (with_reducible refine Below.drew ?_) | (with_reducible refine Below.setCell ?_ ?_ _) | omega | (simp <;> omega))) hW10
  have te10_9 := e10_9.size
  try simp only [World.size_alloc] at hz10 c10 d10
  try simp only [World.size_drew] at hz10 c10 d10
  try simp only [World.size_setCell] at hz10 c10 d10
  try simp only [World.heap_drewN] at hz10 c10 d10
  have s10_0 : w.heap.size < w10.heap.size := by omega
  have o10_0 := fun j => c10 (w.heap.size) j (by omega)
  have f10_0 := fun j => d10 (w.heap.size) j (by omega)
  have s10_1 : w.heap.size + 1 < w10.heap.size := by omega
  have o10_1 := fun j => c10 (w.heap.size + 1) j (by omega)
  have f10_1 := fun j => d10 (w.heap.size + 1) j (by omega)
  have s10_2 : w2.heap.size < w10.heap.size := by omega
  have o10_2 := fun j => c10 (w2.heap.size) j (by omega)
  have f10_2 := fun j => d10 (w2.heap.size) j (by omega)
  have s10_3 : w3.heap.size < w10.heap.size := by omega
  have o10_3 := fun j => c10 (w3.heap.size) j (by omega)
  have f10_3 := fun j => d10 (w3.heap.size) j (by omega)
  have s10_4 : w4.heap.size < w10.heap.size := by omega
  have o10_4 := fun j => c10 (w4.heap.size) j (by omega)
  have f10_4 := fun j => d10 (w4.heap.size) j (by omega)
  have s10_5 : w5.heap.size < w10.heap.size := by omega
  have o10_5 := fun j => c10 (w5.heap.size) j (by omega)
  have f10_5 := fun j => d10 (w5.heap.size) j (by omega)
  have s10_6 : w6.heap.size < w10.heap.size := by omega
  have o10_6 := fun j => c10 (w6.heap.size) j (by omega)
  have f10_6 := fun j => d10 (w6.heap.size) j (by omega)
  have s10_7 : w7.heap.size < w10.heap.size := by omega
  have o10_7 := fun j => c10 (w7.heap.size) j (by omega)
  have f10_7 := fun j => d10 (w7.heap.size) j (by omega)
  have s10_8 : w8.heap.size < w10.heap.size := by omega
  have o10_8 := fun j => c10 (w8.heap.size) j (by omega)
  have f10_8 := fun j => d10 (w8.heap.size) j (by omega)
  have s10_9 : w9.heap.size < w10.heap.size := by omega
  have o10_9 := fun j => c10 (w9.heap.size) j (by omega)
  have f10_9 := fun j => d10 (w9.heap.size) j (by omega)
  clear c10 d10 hz10 hW10
  go_wp2_with fail
  refine call_bel (w := w) (by repeat' (first | (with_reducible exact Below.refl _ _) | (with_reducible assumption) | (with_reducible refine bdn ?_) | (with_reducible refine Below.alloc ?_ ?_ _) | (with_reducible refine Below.drew ?_) | (with_reducible refine Below.setCell ?_ ?_ _) | omega | (simp <;> omega))) (fun HB => coded1_t ea (a.subK b) _ (subK_le a b) (H_hS.out.keep HB rfl)) ?_
  intro w11 hb11 hz11 c11 d11 hW11
  have t11 := hb11.size
  have e11_2 : Below w2.heap.size w2 w11 := below_via (by repeat' (first | (with_reducible exact Below.refl _ _) | (with_reducible assumption) | (with_reducible refine bdn ?_) | (with_reducible refine Below.alloc ?_ ?_ _) | (with_reducible refine Below.drew ?_) | (with_reducible refine Below.setCell ?_ ?_ _) | omega | (simp <;> omega))) hW11
  have te11_2 := e11_2.size
  have e11_3 : Below w3.heap.size w3 w11 := below_via (by repeat' (first | (with_reducible exact Below.refl _ _) | (with_reducible assumption) | (with_reducible refine bdn ?_) | (with_reducible refine Below.alloc ?_ ?_ _) | (with_reducible refine Below.drew ?_) | (with_reducible refine Below.setCell ?_ ?_ _) | omega | (simp <;> omega))) hW11
  have te11_3 := e11_3.size
  have e11_4 : Below w4.heap.size w4 w11 := below_via (by repeat' (first | (with_reducible exact Below.refl _ _) | (with_reducible assumption) | (with_reducible refine bdn ?_) | (with_reducible refine Below.alloc ?_ ?_ _) | (with_reducible refine Below.drew ?_) | (with_reducible refine Below.setCell ?_ ?_ _) | omega | (simp <;> omega))) hW11
  have te11_4 := e11_4.size
  have e11_5 : Below w5.heap.size w5 w11 := below_via (by repeat' (first | (with_reducible exact Below.refl _ _) | (with_reducible assumption) | (with_reducible refine bdn ?_) | (with_reducible refine Below.alloc ?_ ?_ _) | (with_reducible refine Below.drew ?_) | (with_reducible refine Below.setCell ?_ ?_ _) | omega | (simp <;> omega))) hW11
  have te11_5 := e11_5.size
  have e11_6 : Below w6.heap.size w6 w11 := below_via (by repeat' (first | (with_reducible exact Below.refl _ _) | (with_reducible assumption) | (with_reducible refine bdn ?_) | (with_reducible refine Below.alloc ?_ ?_ _) | (with_reducible refine Below.drew ?_) | (with_reducible refine Below.setCell ?_ ?_ _) | omega | (simp <;> omega))) hW11
  have te11_6 := e11_6.size
  have e11_7 : Below w7.heap.size w7 w11 := below_via (by repeat' (first | (with_reducible exact Below.refl _ _) | (with_reducible assumption) | (with_reducible refine bdn ?_) | (with_reducible refine Below.alloc ?_ ?_ _) | (with_reducible refine Below.drew ?_) | (with_reducible refine Below.setCell ?_ ?_ _) | omega | (simp <;> omega))) hW11
  have te11_7 := e11_7.size
  have e11_8 : Below w8.heap.size w8 w11 := below_via (by repeat' (first | (with_reducible exact Below.refl _ _) | (with_reducible assumption) | (with_reducible refine bdn ?_) | (with_reducible refine Below.alloc ?_ ?_ _) | (with_reducible refine Below.drew ?_) | (with_reducible refine Below.setCell ?_ ?_ _) | omega | (simp <;> omega))) hW11
  have te11_8 := e11_8.size
  have e11_9 : Below w9.heap.size w9 w11 := below_via (by repeat' (first | (with_reducible exact Below.refl _ _) | (with_reducible assumption) | (with_reducible refine bdn ?_) | (with_reducible refine Below.alloc ?_ ?_ _) | (with_reducible refine Below.drew ?_) | (with_reducible refine Below.setCell ?_ ?_ _) | omega | (simp <;> omega))) hW11
  have te11_9 := e11_9.size
  try simp only [World.size_alloc] at hz11 c11 d11
  try simp only [World.size_drew] at hz11 c11 d11
  try simp only [World.size_setCell] at hz11 c11 d11
  try simp only [World.heap_drewN] at hz11 c11 d11
  have s11_0 : w.heap.size < w11.heap.size := by omega
  have o11_0 := fun j => c11 (w.heap.size) j (by omega)
  have f11_0 := fun j => d11 (w.heap.size) j (by omega)
  have s11_1 : w.heap.size + 1 < w11.heap.size := by omega
  have o11_1 := fun j => c11 (w.heap.size + 1) j (by omega)
  have f11_1 := fun j => d11 (w.heap.size + 1) j (by omega)
  have s11_2 : w2.heap.size < w11.heap.size := by omega
  have o11_2 := fun j => c11 (w2.heap.size) j (by omega)
  have f11_2 := fun j => d11 (w2.heap.size) j (by omega)
  have s11_3 : w3.heap.size < w11.heap.size := by omega
  have o11_3 := fun j => c11 (w3.heap.size) j (by omega)
  have f11_3 := fun j => d11 (w3.heap.size) j (by omega)
  have s11_4 : w4.heap.size < w11.heap.size := by omega
  have o11_4 := fun j => c11 (w4.heap.size) j (by omega)
  have f11_4 := fun j => d11 (w4.heap.size) j (by omega)
  have s11_5 : w5.heap.size < w11.heap.size := by omega
  have o11_5 := fun j => c11 (w5.heap.size) j (by omega)
  have f11_5 := fun j => d11 (w5.heap.size) j (by omega)
  have s11_6 : w6.heap.size < w11.heap.size := by omega
  have o11_6 := fun j => c11 (w6.heap.size) j (by omega)
  have f11_6 := fun j => d11 (w6.heap.size) j (by omega)
  have s11_7 : w7.heap.size < w11.heap.size := by omega
  have o11_7 := fun j => c11 (w7.heap.size) j (by omega)
  have f11_7 := fun j => d11 (w7.heap.size) j (by omega)
  have s11_8 : w8.heap.size < w11.heap.size := by omega
  have o11_8 := fun j => c11 (w8.heap.size) j (by omega)
  have f11_8 := fun j => d11 (w8.heap.size) j (by omega)
  have s11_9 : w9.heap.size < w11.heap.size := by omega
  have o11_9 := fun j => c11 (w9.heap.size) j (by omega)
  have f11_9 := fun j => d11 (w9.heap.size) j (by omega)
  clear c11 d11 hz11 hW11
  go_wp2_with fail
  refine call_bel (w := w) (by repeat' (first | (with_reducible exact Below.refl _ _) | (with_reducible assumption) | (with_reducible refine bdn ?_) | (with_reducible refine Below.alloc ?_ ?_ _) | (with_reducible refine Below.drew ?_) | (with_reducible refine Below.setCell ?_ ?_ _) | omega | (simp <;> omega))) (fun HB => coded1_t ea (a.mulK b) _ (mulK_le a b) (H_hS.out.keep HB rfl)) ?_
  intro w12 hb12 hz12 c12 d12 hW12
  have t12 := hb12.size
  have e12_2 : Below w2.heap.size w2 w12 := below_via (by repeat' (first | (with_reducible exact Below.refl _ _) | (with_reducible assumption) | (with_reducible refine bdn ?_) | (with_reducible refine Below.alloc ?_ ?_ _) | (with_reducible refine Below.drew ?_) | (with_reducible refine Below.setCell ?_ ?_ _) | omega | (simp <;> omega))) hW12
  have te12_2 := e12_2.size
  have e12_3 : Below w3.heap.size w3 w12 := below_via (by repeat' (first | (with_reducible exact Below.refl _ _) | (with_reducible assumption) | (with_reducible refine bdn ?_) | (with_reducible refine Below.alloc ?_ ?_ _) | (with_reducible refine Below.drew ?_) | (with_reducible refine Below.setCell ?_ ?_ _) | omega | (simp <;> omega))) hW12
  have te12_3 := e12_3.size
  have e12_4 : Below w4.heap.size w4 w12 := below_via (by repeat' (first | (with_reducible exact Below.refl _ _) | (with_reducible assumption) | (with_reducible refine bdn ?_) | (with_reducible refine Below.alloc ?_ ?_ _) | (with_reducible refine Below.drew ?_) | (with_reducible refine Below.setCell ?_ ?_ _) | omega | (simp <;> omega))) hW12
  have te12_4 := e12_4.size
  have e12_5 : Below w5.heap.size w5 w12 := below_via (by repeat' (first | (with_reducible exact Below.refl _ _) | (with_reducible assumption) | (with_reducible refine bdn ?_) | (with_reducible refine Below.alloc ?_ ?_ _) | (with_reducible refine Below.drew ?_) | (with_reducible refine Below.setCell ?_ ?_ _) | omega | (simp <;> omega))) hW12
  have te12_5 := e12_5.size
  have e12_6 : Below w6.heap.size w6 w12 := below_via (by repeat' (first | (with_reducible exact Below.refl _ _) | (with_reducible assumption) | (with_reducible refine bdn ?_) | (with_reducible refine Below.alloc ?_ ?_ _) | (with_reducible refine Below.drew ?_) | (with_reducible refine Below.setCell ?_ ?_ _) | omega | (simp <;> omega))) hW12
  have te12_6 := e12_6.size
  have e12_7 : Below w7.heap.size w7 w12 := below_via (by repeat' (first | (with_reducible exact Below.refl _ _) | (with_reducible assumption) | (with_reducible refine bdn ?_) | (with_reducible refine Below.alloc ?_ ?_ _) | (with_reducible refine Below.drew ?_) | (with_reducible refine Below.setCell ?_ ?_ _) | omega | (simp <;> omega))) hW12
  have te12_7 := e12_7.size
  have e12_8 : Below w8.heap.size w8 w12 := below_via (by repeat' (first | (with_reducible exact Below.refl _ _) | (with_reducible assumption) | (with_reducible refine bdn ?_) | (with_reducible refine Below.alloc ?_ ?_ _) | (with_reducible refine Below.drew ?_) | (with_reducible refine Below.setCell ?_ ?_ _) | omega | (simp <;> omega))) hW12
  have te12_8 := e12_8.size
  have e12_9 : Below w9.heap.size w9 w12 := below_via (by repeat' (first | (with_reducible exact Below.refl _ _) | (with_reducible assumption) | (with_reducible refine bdn ?_) | (with_reducible refine Below.alloc ?_ ?_ _) | (with_reducible refine Below.drew ?_) | (with_reducible refine Below.setCell ?_ ?_ _) | omega | (simp <;> omega))) hW12
  have te12_9 := e12_9.size
  try simp only [World.size_alloc] at hz12 c12 d12
  try simp only [World.size_drew] at hz12 c12 d12
  try simp only [World.size_setCell] at hz12 c12 d12
  try simp only [World.heap_drewN] at hz12 c12 d12
  have s12_0 : w.heap.size < w12.heap.size := by omega
  have o12_0 := fun j => c12 (w.heap.size) j (by omega)
  have f12_0 := fun j => d12 (w.heap.size) j (by omega)
  have s12_1 : w.heap.size + 1 < w12.heap.size := by omega
  have o12_1 := fun j => c12 (w.heap.size + 1) j (by omega)
  have f12_1 := fun j => d12 (w.heap.size + 1) j (by omega)
  have s12_2 : w2.heap.size < w12.heap.size := by omega
  have o12_2 := fun j => c12 (w2.heap.size) j (by omega)
  have f12_2 := fun j => d12 (w2.heap.size) j (by omega)
  have s12_3 : w3.heap.size < w12.heap.size := by omega
  have o12_3 := fun j => c12 (w3.heap.size) j (by omega)
  have f12_3 := fun j => d12 (w3.heap.size) j (by omega)
  have s12_4 : w4.heap.size < w12.heap.size := by omega
  have o12_4 := fun j => c12 (w4.heap.size) j (by omega)
  have f12_4 := fun j => d12 (w4.heap.size) j (by omega)
  have s12_5 : w5.heap.size < w12.heap.size := by omega
  have o12_5 := fun j => c12 (w5.heap.size) j (by omega)
  have f12_5 := fun j => d12 (w5.heap.size) j (by omega)
  have s12_6 : w6.heap.size < w12.heap.size := by omega
  have o12_6 := fun j => c12 (w6.heap.size) j (by omega)
  have f12_6 := fun j => d12 (w6.heap.size) j (by omega)
  have s12_7 : w7.heap.size < w12.heap.size := by omega
  have o12_7 := fun j => c12 (w7.heap.size) j (by omega)
  have f12_7 := fun j => d12 (w7.heap.size) j (by omega)
  have s12_8 : w8.heap.size < w12.heap.size := by omega
  have o12_8 := fun j => c12 (w8.heap.size) j (by omega)
  have f12_8 := fun j => d12 (w8.heap.size) j (by omega)
  have s12_9 : w9.heap.size < w12.heap.size := by omega
  have o12_9 := fun j => c12 (w9.heap.size) j (by omega)
  have f12_9 := fun j => d12 (w9.heap.size) j (by omega)
  clear c12 d12 hz12 hW12
  go_wp2_with fail
  refine call_bel (w := w) (by repeat' (first | (with_reducible exact Below.refl _ _) | (with_reducible assumption) | (with_reducible refine bdn ?_) | (with_reducible refine Below.alloc ?_ ?_ _) | (with_reducible refine Below.drew ?_) | (with_reducible refine Below.setCell ?_ ?_ _) | omega | (simp <;> omega))) (fun HB => coded1_t ea (a.divK b) _ (divK_le a b) (H_hS.out.keep HB rfl)) ?_
  intro w13 hb13 hz13 c13 d13 hW13
  have t13 := hb13.size
  have e13_2 : Below w2.heap.size w2 w13 := below_via (by repeat' (first | (with_reducible exact Below.refl _ _) | (with_reducible assumption) | (with_reducible refine bdn ?_) | (with_reducible refine Below.alloc ?_ ?_ _) | (with_reducible refine Below.drew ?_) | (with_reducible refine Below.setCell ?_ ?_ _) | omega | (simp <;> omega))) hW13
  have te13_2 := e13_2.size
  have e13_3 : Below w3.heap.size w3 w13 := below_via (by repeat' (first | (with_reducible exact Below.refl _ _) | (with_reducible assumption) | (with_reducible refine bdn ?_) | (with_reducible refine Below.alloc ?_ ?_ _) | (with_reducible refine Below.drew ?_) | (with_reducible refine Below.setCell ?_ ?_ _) | omega | (simp <;> omega))) hW13
  have te13_3 := e13_3.size
  have e13_4 : Below w4.heap.size w4 w13 := below_via (by repeat' (first | (with_reducible exact Below.refl _ _) | (with_reducible assumption) | (with_reducible refine bdn ?_) | (with_reducible refine Below.alloc ?_ ?_ _) | (with_reducible refine Below.drew ?_) | (with_reducible refine Below.setCell ?_ ?_ _) | omega | (simp <;> omega))) hW13
  have te13_4 := e13_4.size
  have e13_5 : Below w5.heap.size w5 w13 := below_via (by repeat' (first | (with_reducible exact Below.refl _ _) | (with_reducible assumption) | (with_reducible refine bdn ?_) | (with_reducible refine Below.alloc ?_ ?_ _) | (with_reducible refine Below.drew ?_) | (with_reducible refine Below.setCell ?_ ?_ _) | omega | (simp <;> omega))) hW13
  have te13_5 := e13_5.size
  have e13_6 : Below w6.heap.size w6 w13 := below_via (by repeat' (first | (with_reducible exact Below.refl _ _) | (with_reducible assumption) | (with_reducible refine bdn ?_) | (with_reducible refine Below.alloc ?_ ?_ _) | (with_reducible refine Below.drew ?_) | (with_reducible refine Below.setCell ?_ ?_ _) | omega | (simp <;> omega))) hW13
  have te13_6 := e13_6.size
  have e13_7 : Below w7.heap.size w7 w13 := below_via (by repeat' (first | (with_reducible exact Below.refl _ _) | (with_reducible assumption) | (with_reducible refine bdn ?_) | (with_reducible refine Below.alloc ?_ ?_ _) | (with_reducible refine Below.drew ?_) | (with_reducible refine Below.setCell ?_ ?_ _) | omega | (simp <;> omega))) hW13
  have te13_7 := e13_7.size
  have e13_8 : Below w8.heap.size w8 w13 := below_via (by repeat' (first | (with_reducible exact Below.refl _ _) | (with_reducible assumption) | (with_reducible refine bdn ?_) | (with_reducible refine Below.alloc ?_ ?_ _) | (with_reducible refine Below.drew ?_) | (with_reducible refine Below.setCell ?_ ?_ _) | omega | (simp <;> omega))) hW13
  have te13_8 := e13_8.size
  have e13_9 : Below w9.heap.size w9 w13 := below_via (by repeat' (first | (with_reducible exact Below.refl _ _) | (with_reducible assumption) | (with_reducible refine bdn ?_) | (with_reducible refine Below.alloc ?_ ?_ _) | (with_reducible refine Below.drew ?_) | (with_reducible refine Below.setCell ?_ ?_ _) | omega | (simp <;> omega))) hW13
  have te13_9 := e13_9.size
  try simp only [World.size_alloc] at hz13 c13 d13
  try simp only [World.size_drew] at hz13 c13 d13
  try simp only [World.size_setCell] at hz13 c13 d13
  try simp only [World.heap_drewN] at hz13 c13 d13
  have s13_0 : w.heap.size < w13.heap.size := by omega
  have o13_0 := fun j => c13 (w.heap.size) j (by omega)
  have f13_0 := fun j => d13 (w.heap.size) j (by omega)
  have s13_1 : w.heap.size + 1 < w13.heap.size := by omega
  have o13_1 := fun j => c13 (w.heap.size + 1) j (by omega)
  have f13_1 := fun j => d13 (w.heap.size + 1) j (by omega)
  have s13_2 : w2.heap.size < w13.heap.size := by omega
  have o13_2 := fun j => c13 (w2.heap.size) j (by omega)
  have f13_2 := fun j => d13 (w2.heap.size) j (by omega)
  have s13_3 : w3.heap.size < w13.heap.size := by omega
  have o13_3 := fun j => c13 (w3.heap.size) j (by omega)
  have f13_3 := fun j => d13 (w3.heap.size) j (by omega)
  have s13_4 : w4.heap.size < w13.heap.size := by omega
  have o13_4 := fun j => c13 (w4.heap.size) j (by omega)
  have f13_4 := fun j => d13 (w4.heap.size) j (by omega)
  have s13_5 : w5.heap.size < w13.heap.size := by omega
  have o13_5 := fun j => c13 (w5.heap.size) j (by omega)
  have f13_5 := fun j => d13 (w5.heap.size) j (by omega)
  have s13_6 : w6.heap.size < w13.heap.size := by omega
  have o13_6 := fun j => c13 (w6.heap.size) j (by omega)
  have f13_6 := fun j => d13 (w6.heap.size) j (by omega)
  have s13_7 : w7.heap.size < w13.heap.size := by omega
  have o13_7 := fun j => c13 (w7.heap.size) j (by omega)
  have f13_7 := fun j => d13 (w7.heap.size) j (by omega)
  have s13_8 : w8.heap.size < w13.heap.size := by omega
  have o13_8 := fun j => c13 (w8.heap.size) j (by omega)
  have f13_8 := fun j => d13 (w8.heap.size) j (by omega)
  have s13_9 : w9.heap.size < w13.heap.size := by omega
  have o13_9 := fun j => c13 (w9.heap.size) j (by omega)
  have f13_9 := fun j => d13 (w9.heap.size) j (by omega)
  clear c13 d13 hz13 hW13

  go_wp2_with fail
  go_returns
  exact ⟨rfl, by repeat' (first | (with_reducible exact Below.refl _ _) | (with_reducible assumption) | (with_reducible refine bdn ?_) | (with_reducible refine Below.alloc ?_ ?_ _) | (with_reducible refine Below.drew ?_) | (with_reducible refine Below.setCell ?_ ?_ _) | omega | (simp <;> omega))⟩
end Go.Proofs.YthpicnajemnfdaaDoor
