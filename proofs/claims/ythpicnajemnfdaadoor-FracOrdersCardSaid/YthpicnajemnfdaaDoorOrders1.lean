/-
  The walk over the statement FracOrders.
-/
import Derived.Test.YthpicnajemnfdaaDoorFrac7
namespace Lead
open Go Go.RowKit
theorem call_frx {P : Program} {f : FuncId} {args : Array Value} {w W : World} {R : Ending → World → Prop} {T : Nat} {ea : Nat → Addr} {c : Nat} {q r : Int} (hB : Below w.heap.size w W)
    (h : Below w.heap.size w W → Calls P f args W fun e w' => e = .returned (frV T ea c q r) ∧ Below W.heap.size W w')
    (k : ∀ q' r' x w1, Below w.heap.size w w1 → W.heap.size ≤ w1.heap.size → (∀ b o, b < W.heap.size → w1.cell? ⟨b, o, none⟩ = W.cell? ⟨b, o, none⟩) →
      (∀ b o, b < W.heap.size → w1.frozen? ⟨b, o, none⟩ = W.frozen? ⟨b, o, none⟩) → Below W.heap.size W w1 → R (.returned (.tuple #[.agg #[.int .i64 q', .int .i64 r'], x])) w1) : Calls P f args W R :=
  (h hB).mono fun en w1 ⟨he, hb⟩ => by
    subst he
    unfold frV
    split <;> exact k _ _ _ w1 (hB.trans (hb.mono hB.size)) hb.size (bcell hb).1 (bcell hb).2 hb
/-- Add's error. -/
def Fr.addK (a b : Fr) : Nat := opC a.n a.d b.n b.d (addN a b) (addD a b)
theorem addK_0 {a b : Fr} (h : a.addK b = 0) : a.R ∧ b.R ∧ a.addC b = 0 := by
  rcases opC_cases a.n a.d b.n b.d (addN a b) (addD a b) with ⟨h1, h2⟩ | ⟨h1, h2⟩
  · exact absurd (h2.symm.trans h) h1
  · exact ⟨(bothC_0 h1).1, (bothC_0 h1).2, h2.symm.trans h⟩
theorem addK_sum {a b : Fr} (h : a.addK b = 0) : (a.add b).R := by
  obtain ⟨h1, h2, h3⟩ := addK_0 h
  exact add_right h1.d0 h2.d0 h3
theorem both_R {a b : Fr} (h1 : a.R) (h2 : b.R) : bothC a.n a.d b.n b.d = 0 := (if_pos (chk_right h1)).trans (chk_right h2)
theorem Fr.R.i {a : Fr} (h : a.R) : a.I := ⟨Right.ni h, Right.di h⟩
end Lead
namespace Go.Proofs.YthpicnajemnfdaaDoor
open Go.RowKit Lead

theorem fadd_f (ea : Nat → Addr) (a b x : Fr) (w : World) (ia : a.I) (ib : b.I) (hShape : w.cell? ⟨2, 0, none⟩ = some (.iface 87 (.pointer (some (ea 3))))) (hBound : w.cell? ⟨1, 0, none⟩ = some (.iface 87 (.pointer (some (ea 2))))) (hx : a.add b = x) :
    Calls Tryd.prog 30 #[.agg #[.int .i64 a.n, .int .i64 a.d], .agg #[.int .i64 b.n, .int .i64 b.d]] w fun e w' =>
      e = .returned (frV 87 ea (a.addK b) x.n x.d) ∧ Below w.heap.size w w' := by
  subst hx
  exact fadd_any ea a.n a.d b.n b.d (addN a b) (addD a b) w ia.n ia.d ib.n ib.d hShape hBound rfl rfl

set_option maxHeartbeats 4000000 in
theorem orders_e (ea : Nat → Addr) (a b c : Fr) (w : World) (ia : a.I) (ib : b.I) (ic : c.I) (hShape : w.cell? ⟨2, 0, none⟩ = some (.iface 87 (.pointer (some (ea 3))))) (hBound : w.cell? ⟨1, 0, none⟩ = some (.iface 87 (.pointer (some (ea 2))))) (hZero : w.cell? ⟨10, 0, none⟩ = some (.iface 87 (.pointer (some (ea 11))))) (htab : Lib.TabIs Tryd.prog w "internal/strconv.uint64pow10" .u64 Lib.pow10Tab) (h1 : bothC a.n a.d b.n b.d ≠ 0) (h2 : bothC b.n b.d a.n a.d ≠ 0) :
    Calls Tryd.prog 7 #[.agg #[.int .i64 a.n, .int .i64 a.d], .agg #[.int .i64 b.n, .int .i64 b.d], .agg #[.int .i64 c.n, .int .i64 c.d]] w fun e w' => e = .returned (.bool true) ∧ Below w.heap.size w w' := by
  have zhShape := zlt hShape
  have xhShape := zlts hShape
  have yhShape := zne hShape
  have zhBound := zlt hBound
  have xhBound := zlts hBound
  have yhBound := zne hBound
  have zhZero := zlt hZero
  have xhZero := zlts hZero
  have yhZero := zne hZero
  obtain ⟨ia1, ia2⟩ := ia
  obtain ⟨ib1, ib2⟩ := ib
  obtain ⟨ic1, ic2⟩ := ic
  have H_h1 := Lib.hid h1
  clear h1
  have H_h2 := Lib.hid h2
  clear h2
  go_enter Tryd.func7, Tryd.ntmps7
  go_wp2_with fail
  refine call_bel (w := w) (by repeat' (first | (with_reducible exact Below.refl _ _) | (with_reducible assumption) | (with_reducible refine bdn ?_) | (with_reducible refine Below.alloc ?_ ?_ _) | (with_reducible refine Below.drew ?_) | (with_reducible refine Below.setCell ?_ ?_ _) | omega | (simp <;> omega))) (fun HB => halved_any ea _ (gkeep HB hBound rfl) (gkeep HB hZero rfl) (tab_keep htab HB rfl)) ?_
  intro w1 hb1 hz1 c1 d1 hW1
  have t1 := hb1.size
  try simp only [World.size_alloc] at hz1 c1 d1
  try simp only [World.size_drew] at hz1 c1 d1
  try simp only [World.size_setCell] at hz1 c1 d1
  try simp only [World.heap_drewN] at hz1 c1 d1
  have s1_0 : w.heap.size < w1.heap.size := by omega
  have o1_0 := fun j => c1 (w.heap.size) j (by omega)
  have f1_0 := fun j => d1 (w.heap.size) j (by omega)
  have s1_1 : w.heap.size + 1 < w1.heap.size := by omega
  have o1_1 := fun j => c1 (w.heap.size + 1) j (by omega)
  have f1_1 := fun j => d1 (w.heap.size + 1) j (by omega)
  have s1_2 : w.heap.size + 1 + 1 < w1.heap.size := by omega
  have o1_2 := fun j => c1 (w.heap.size + 1 + 1) j (by omega)
  have f1_2 := fun j => d1 (w.heap.size + 1 + 1) j (by omega)
  clear c1 d1 hz1 hW1
  go_wp2_with fail
  refine call_bel (w := w) (by repeat' (first | (with_reducible exact Below.refl _ _) | (with_reducible assumption) | (with_reducible refine bdn ?_) | (with_reducible refine Below.alloc ?_ ?_ _) | (with_reducible refine Below.drew ?_) | (with_reducible refine Below.setCell ?_ ?_ _) | omega | (simp <;> omega))) (fun HB => fcmp_n ea a.n a.d b.n b.d _ ia1 ia2 ib1 ib2 (gkeep HB hShape rfl) (gkeep HB hBound rfl) H_h1.out) ?_
  intro w2 hb2 hz2 c2 d2 hW2
  have t2 := hb2.size
  try simp only [World.size_alloc] at hz2 c2 d2
  try simp only [World.size_drew] at hz2 c2 d2
  try simp only [World.size_setCell] at hz2 c2 d2
  try simp only [World.heap_drewN] at hz2 c2 d2
  have s2_0 : w.heap.size < w2.heap.size := by omega
  have o2_0 := fun j => c2 (w.heap.size) j (by omega)
  have f2_0 := fun j => d2 (w.heap.size) j (by omega)
  have s2_1 : w.heap.size + 1 < w2.heap.size := by omega
  have o2_1 := fun j => c2 (w.heap.size + 1) j (by omega)
  have f2_1 := fun j => d2 (w.heap.size + 1) j (by omega)
  have s2_2 : w.heap.size + 1 + 1 < w2.heap.size := by omega
  have o2_2 := fun j => c2 (w.heap.size + 1 + 1) j (by omega)
  have f2_2 := fun j => d2 (w.heap.size + 1 + 1) j (by omega)
  clear c2 d2 hz2 hW2
  go_wp2_with fail
  refine call_bel (w := w) (by repeat' (first | (with_reducible exact Below.refl _ _) | (with_reducible assumption) | (with_reducible refine bdn ?_) | (with_reducible refine Below.alloc ?_ ?_ _) | (with_reducible refine Below.drew ?_) | (with_reducible refine Below.setCell ?_ ?_ _) | omega | (simp <;> omega))) (fun HB => fcmp_n ea b.n b.d a.n a.d _ ib1 ib2 ia1 ia2 (gkeep HB hShape rfl) (gkeep HB hBound rfl) H_h2.out) ?_
  intro w3 hb3 hz3 c3 d3 hW3
  have t3 := hb3.size
  try simp only [World.size_alloc] at hz3 c3 d3
  try simp only [World.size_drew] at hz3 c3 d3
  try simp only [World.size_setCell] at hz3 c3 d3
  try simp only [World.heap_drewN] at hz3 c3 d3
  have s3_0 : w.heap.size < w3.heap.size := by omega
  have o3_0 := fun j => c3 (w.heap.size) j (by omega)
  have f3_0 := fun j => d3 (w.heap.size) j (by omega)
  have s3_1 : w.heap.size + 1 < w3.heap.size := by omega
  have o3_1 := fun j => c3 (w.heap.size + 1) j (by omega)
  have f3_1 := fun j => d3 (w.heap.size + 1) j (by omega)
  have s3_2 : w.heap.size + 1 + 1 < w3.heap.size := by omega
  have o3_2 := fun j => c3 (w.heap.size + 1 + 1) j (by omega)
  have f3_2 := fun j => d3 (w.heap.size + 1 + 1) j (by omega)
  clear c3 d3 hz3 hW3
  go_wp2_with fail
  go_returns
  exact ⟨rfl, by repeat' (first | (with_reducible exact Below.refl _ _) | (with_reducible assumption) | (with_reducible refine bdn ?_) | (with_reducible refine Below.alloc ?_ ?_ _) | (with_reducible refine Below.drew ?_) | (with_reducible refine Below.setCell ?_ ?_ _) | omega | (simp <;> omega))⟩
set_option maxHeartbeats 4000000 in
theorem orders_1 (ea : Nat → Addr) (a b c : Fr) (w : World) (ia : a.I) (ib : b.I) (ic : c.I) (hShape : w.cell? ⟨2, 0, none⟩ = some (.iface 87 (.pointer (some (ea 3))))) (hBound : w.cell? ⟨1, 0, none⟩ = some (.iface 87 (.pointer (some (ea 2))))) (hZero : w.cell? ⟨10, 0, none⟩ = some (.iface 87 (.pointer (some (ea 11))))) (htab : Lib.TabIs Tryd.prog w "internal/strconv.uint64pow10" .u64 Lib.pow10Tab) (h1 : bothC a.n a.d b.n b.d = 0) (h2 : bothC b.n b.d a.n a.d = 0) (n m : Int) (hn : cmpI (a.n * b.d) (b.n * a.d) = n) (hm : cmpI (b.n * a.d) (a.n * b.d) = m) (hnm : wrap64 (-m) = n) (hz : (n == 0) = false) (hne : ¬ a.n = b.n) :
    Calls Tryd.prog 7 #[.agg #[.int .i64 a.n, .int .i64 a.d], .agg #[.int .i64 b.n, .int .i64 b.d], .agg #[.int .i64 c.n, .int .i64 c.d]] w fun e w' => e = .returned (.bool true) ∧ Below w.heap.size w w' := by
  have zhShape := zlt hShape
  have xhShape := zlts hShape
  have yhShape := zne hShape
  have zhBound := zlt hBound
  have xhBound := zlts hBound
  have yhBound := zne hBound
  have zhZero := zlt hZero
  have xhZero := zlts hZero
  have yhZero := zne hZero
  obtain ⟨ia1, ia2⟩ := ia
  obtain ⟨ib1, ib2⟩ := ib
  obtain ⟨ic1, ic2⟩ := ic
  have H_h1 := Lib.hid h1
  clear h1
  have H_h2 := Lib.hid h2
  clear h2
  have H_hn := Lib.hid hn
  clear hn
  have H_hm := Lib.hid hm
  clear hm
  go_enter Tryd.func7, Tryd.ntmps7
  go_wp2_with fail
  refine call_bel (w := w) (by repeat' (first | (with_reducible exact Below.refl _ _) | (with_reducible assumption) | (with_reducible refine bdn ?_) | (with_reducible refine Below.alloc ?_ ?_ _) | (with_reducible refine Below.drew ?_) | (with_reducible refine Below.setCell ?_ ?_ _) | omega | (simp <;> omega))) (fun HB => halved_any ea _ (gkeep HB hBound rfl) (gkeep HB hZero rfl) (tab_keep htab HB rfl)) ?_
  intro w1 hb1 hz1 c1 d1 hW1
  have t1 := hb1.size
  try simp only [World.size_alloc] at hz1 c1 d1
  try simp only [World.size_drew] at hz1 c1 d1
  try simp only [World.size_setCell] at hz1 c1 d1
  try simp only [World.heap_drewN] at hz1 c1 d1
  have s1_0 : w.heap.size < w1.heap.size := by omega
  have o1_0 := fun j => c1 (w.heap.size) j (by omega)
  have f1_0 := fun j => d1 (w.heap.size) j (by omega)
  have s1_1 : w.heap.size + 1 < w1.heap.size := by omega
  have o1_1 := fun j => c1 (w.heap.size + 1) j (by omega)
  have f1_1 := fun j => d1 (w.heap.size + 1) j (by omega)
  have s1_2 : w.heap.size + 1 + 1 < w1.heap.size := by omega
  have o1_2 := fun j => c1 (w.heap.size + 1 + 1) j (by omega)
  have f1_2 := fun j => d1 (w.heap.size + 1 + 1) j (by omega)
  clear c1 d1 hz1 hW1
  go_wp2_with fail
  refine call_bel (w := w) (by repeat' (first | (with_reducible exact Below.refl _ _) | (with_reducible assumption) | (with_reducible refine bdn ?_) | (with_reducible refine Below.alloc ?_ ?_ _) | (with_reducible refine Below.drew ?_) | (with_reducible refine Below.setCell ?_ ?_ _) | omega | (simp <;> omega))) (fun HB => fcmp_0 ea a.n a.d b.n b.d n _ ia1 ia2 ib1 ib2 (gkeep HB hShape rfl) (gkeep HB hBound rfl) H_h1.out H_hn.out) ?_
  intro w2 hb2 hz2 c2 d2 hW2
  have t2 := hb2.size
  try simp only [World.size_alloc] at hz2 c2 d2
  try simp only [World.size_drew] at hz2 c2 d2
  try simp only [World.size_setCell] at hz2 c2 d2
  try simp only [World.heap_drewN] at hz2 c2 d2
  have s2_0 : w.heap.size < w2.heap.size := by omega
  have o2_0 := fun j => c2 (w.heap.size) j (by omega)
  have f2_0 := fun j => d2 (w.heap.size) j (by omega)
  have s2_1 : w.heap.size + 1 < w2.heap.size := by omega
  have o2_1 := fun j => c2 (w.heap.size + 1) j (by omega)
  have f2_1 := fun j => d2 (w.heap.size + 1) j (by omega)
  have s2_2 : w.heap.size + 1 + 1 < w2.heap.size := by omega
  have o2_2 := fun j => c2 (w.heap.size + 1 + 1) j (by omega)
  have f2_2 := fun j => d2 (w.heap.size + 1 + 1) j (by omega)
  clear c2 d2 hz2 hW2
  go_wp2_with fail
  refine call_bel (w := w) (by repeat' (first | (with_reducible exact Below.refl _ _) | (with_reducible assumption) | (with_reducible refine bdn ?_) | (with_reducible refine Below.alloc ?_ ?_ _) | (with_reducible refine Below.drew ?_) | (with_reducible refine Below.setCell ?_ ?_ _) | omega | (simp <;> omega))) (fun HB => fcmp_0 ea b.n b.d a.n a.d m _ ib1 ib2 ia1 ia2 (gkeep HB hShape rfl) (gkeep HB hBound rfl) H_h2.out H_hm.out) ?_
  intro w3 hb3 hz3 c3 d3 hW3
  have t3 := hb3.size
  try simp only [World.size_alloc] at hz3 c3 d3
  try simp only [World.size_drew] at hz3 c3 d3
  try simp only [World.size_setCell] at hz3 c3 d3
  try simp only [World.heap_drewN] at hz3 c3 d3
  have s3_0 : w.heap.size < w3.heap.size := by omega
  have o3_0 := fun j => c3 (w.heap.size) j (by omega)
  have f3_0 := fun j => d3 (w.heap.size) j (by omega)
  have s3_1 : w.heap.size + 1 < w3.heap.size := by omega
  have o3_1 := fun j => c3 (w.heap.size + 1) j (by omega)
  have f3_1 := fun j => d3 (w.heap.size + 1) j (by omega)
  have s3_2 : w.heap.size + 1 + 1 < w3.heap.size := by omega
  have o3_2 := fun j => c3 (w.heap.size + 1 + 1) j (by omega)
  have f3_2 := fun j => d3 (w.heap.size + 1 + 1) j (by omega)
  clear c3 d3 hz3 hW3
  obtain ⟨x, hx⟩ : ∃ x, a.add c = x := ⟨_, rfl⟩
  obtain ⟨y, hy⟩ : ∃ y, b.add c = y := ⟨_, rfl⟩
  obtain ⟨p, hp⟩ : ∃ p, x.add b = p := ⟨_, rfl⟩
  obtain ⟨q, hq⟩ : ∃ q, a.add y = q := ⟨_, rfl⟩
  have H_hx := Lib.hid hx
  clear hx
  have H_hy := Lib.hid hy
  clear hy
  have H_hp := Lib.hid hp
  clear hp
  have H_hq := Lib.hid hq
  clear hq
  by_cases h3 : a.addK c = 0
  · have H_h3 := Lib.hid h3
    clear h3
    go_wp2_with fail
    refine call_fr0 (w := w) (by repeat' (first | (with_reducible exact Below.refl _ _) | (with_reducible assumption) | (with_reducible refine bdn ?_) | (with_reducible refine Below.alloc ?_ ?_ _) | (with_reducible refine Below.drew ?_) | (with_reducible refine Below.setCell ?_ ?_ _) | omega | (simp <;> omega))) (fun HB => fadd_f ea a c x _ ⟨ia1, ia2⟩ ⟨ic1, ic2⟩ (gkeep HB hShape rfl) (gkeep HB hBound rfl) H_hx.out) (H_h3.out) ?_
    intro w4 hb4 hz4 c4 d4 hW4
    have t4 := hb4.size
    try simp only [World.size_alloc] at hz4 c4 d4
    try simp only [World.size_drew] at hz4 c4 d4
    try simp only [World.size_setCell] at hz4 c4 d4
    try simp only [World.heap_drewN] at hz4 c4 d4
    have s4_0 : w.heap.size < w4.heap.size := by omega
    have o4_0 := fun j => c4 (w.heap.size) j (by omega)
    have f4_0 := fun j => d4 (w.heap.size) j (by omega)
    have s4_1 : w.heap.size + 1 < w4.heap.size := by omega
    have o4_1 := fun j => c4 (w.heap.size + 1) j (by omega)
    have f4_1 := fun j => d4 (w.heap.size + 1) j (by omega)
    have s4_2 : w.heap.size + 1 + 1 < w4.heap.size := by omega
    have o4_2 := fun j => c4 (w.heap.size + 1 + 1) j (by omega)
    have f4_2 := fun j => d4 (w.heap.size + 1 + 1) j (by omega)
    clear c4 d4 hz4 hW4
    by_cases h4 : b.addK c = 0
    · have rx : x.R := by rw [← H_hx.out]; exact addK_sum H_h3.out
      have ry : y.R := by rw [← H_hy.out]; exact addK_sum h4
      have rxi := rx.i
      have ryi := ry.i
      have hB6 := both_R rx ry
      have hc6 : cmpI (x.n * y.d) (y.n * x.d) = n := by
        rw [← H_hx.out, ← H_hy.out, ← H_hn.out]
        exact add_cmp (a := a) (b := b) (c := c) (addK_0 H_h3.out).1.d0 (addK_0 h4).1.d0 (addK_0 h4).2.1.d0
      have hpq : p = q := by
        rw [← H_hp.out, ← H_hq.out, ← H_hx.out, ← H_hy.out]
        exact add_assoc3 (a := a) (b := b) (c := c) (addK_0 H_h3.out).1.d0 (addK_0 h4).1.d0 (addK_0 h4).2.1.d0
      subst hpq
      have H_h4 := Lib.hid h4
      clear h4
      have H_rx := Lib.hid rx
      clear rx
      have H_ry := Lib.hid ry
      clear ry
      have H_hB6 := Lib.hid hB6
      clear hB6
      have H_hc6 := Lib.hid hc6
      clear hc6
      have H_rxi := Lib.hid rxi
      clear rxi
      have H_ryi := Lib.hid ryi
      clear ryi
      go_wp2_with fail
      refine call_fr0 (w := w) (by repeat' (first | (with_reducible exact Below.refl _ _) | (with_reducible assumption) | (with_reducible refine bdn ?_) | (with_reducible refine Below.alloc ?_ ?_ _) | (with_reducible refine Below.drew ?_) | (with_reducible refine Below.setCell ?_ ?_ _) | omega | (simp <;> omega))) (fun HB => fadd_f ea b c y _ ⟨ib1, ib2⟩ ⟨ic1, ic2⟩ (gkeep HB hShape rfl) (gkeep HB hBound rfl) H_hy.out) (H_h4.out) ?_
      intro w5 hb5 hz5 c5 d5 hW5
      have t5 := hb5.size
      try simp only [World.size_alloc] at hz5 c5 d5
      try simp only [World.size_drew] at hz5 c5 d5
      try simp only [World.size_setCell] at hz5 c5 d5
      try simp only [World.heap_drewN] at hz5 c5 d5
      have s5_0 : w.heap.size < w5.heap.size := by omega
      have o5_0 := fun j => c5 (w.heap.size) j (by omega)
      have f5_0 := fun j => d5 (w.heap.size) j (by omega)
      have s5_1 : w.heap.size + 1 < w5.heap.size := by omega
      have o5_1 := fun j => c5 (w.heap.size + 1) j (by omega)
      have f5_1 := fun j => d5 (w.heap.size + 1) j (by omega)
      have s5_2 : w.heap.size + 1 + 1 < w5.heap.size := by omega
      have o5_2 := fun j => c5 (w.heap.size + 1 + 1) j (by omega)
      have f5_2 := fun j => d5 (w.heap.size + 1 + 1) j (by omega)
      have s5_3 : w4.heap.size < w5.heap.size := by omega
      have o5_3 := fun j => c5 (w4.heap.size) j (by omega)
      have f5_3 := fun j => d5 (w4.heap.size) j (by omega)
      clear c5 d5 hz5 hW5
      go_wp2_with fail
      refine call_bel (w := w) (by repeat' (first | (with_reducible exact Below.refl _ _) | (with_reducible assumption) | (with_reducible refine bdn ?_) | (with_reducible refine Below.alloc ?_ ?_ _) | (with_reducible refine Below.drew ?_) | (with_reducible refine Below.setCell ?_ ?_ _) | omega | (simp <;> omega))) (fun HB => fcmp_0 ea x.n x.d y.n y.d n _ H_rxi.out.n H_rxi.out.d H_ryi.out.n H_ryi.out.d (gkeep HB hShape rfl) (gkeep HB hBound rfl) H_hB6.out H_hc6.out) ?_
      intro w6 hb6 hz6 c6 d6 hW6
      have t6 := hb6.size
      try simp only [World.size_alloc] at hz6 c6 d6
      try simp only [World.size_drew] at hz6 c6 d6
      try simp only [World.size_setCell] at hz6 c6 d6
      try simp only [World.heap_drewN] at hz6 c6 d6
      have s6_0 : w.heap.size < w6.heap.size := by omega
      have o6_0 := fun j => c6 (w.heap.size) j (by omega)
      have f6_0 := fun j => d6 (w.heap.size) j (by omega)
      have s6_1 : w.heap.size + 1 < w6.heap.size := by omega
      have o6_1 := fun j => c6 (w.heap.size + 1) j (by omega)
      have f6_1 := fun j => d6 (w.heap.size + 1) j (by omega)
      have s6_2 : w.heap.size + 1 + 1 < w6.heap.size := by omega
      have o6_2 := fun j => c6 (w.heap.size + 1 + 1) j (by omega)
      have f6_2 := fun j => d6 (w.heap.size + 1 + 1) j (by omega)
      have s6_3 : w4.heap.size < w6.heap.size := by omega
      have o6_3 := fun j => c6 (w4.heap.size) j (by omega)
      have f6_3 := fun j => d6 (w4.heap.size) j (by omega)
      have s6_4 : w5.heap.size < w6.heap.size := by omega
      have o6_4 := fun j => c6 (w5.heap.size) j (by omega)
      have f6_4 := fun j => d6 (w5.heap.size) j (by omega)
      clear c6 d6 hz6 hW6
      by_cases h7 : x.addK b = 0
      · have H_h7 := Lib.hid h7
        clear h7
        go_wp2_with fail
        refine call_fr0 (w := w) (by repeat' (first | (with_reducible exact Below.refl _ _) | (with_reducible assumption) | (with_reducible refine bdn ?_) | (with_reducible refine Below.alloc ?_ ?_ _) | (with_reducible refine Below.drew ?_) | (with_reducible refine Below.setCell ?_ ?_ _) | omega | (simp <;> omega))) (fun HB => fadd_f ea x b p _ H_rxi.out ⟨ib1, ib2⟩ (gkeep HB hShape rfl) (gkeep HB hBound rfl) H_hp.out) (H_h7.out) ?_
        intro w7 hb7 hz7 c7 d7 hW7
        have t7 := hb7.size
        try simp only [World.size_alloc] at hz7 c7 d7
        try simp only [World.size_drew] at hz7 c7 d7
        try simp only [World.size_setCell] at hz7 c7 d7
        try simp only [World.heap_drewN] at hz7 c7 d7
        have s7_0 : w.heap.size < w7.heap.size := by omega
        have o7_0 := fun j => c7 (w.heap.size) j (by omega)
        have f7_0 := fun j => d7 (w.heap.size) j (by omega)
        have s7_1 : w.heap.size + 1 < w7.heap.size := by omega
        have o7_1 := fun j => c7 (w.heap.size + 1) j (by omega)
        have f7_1 := fun j => d7 (w.heap.size + 1) j (by omega)
        have s7_2 : w.heap.size + 1 + 1 < w7.heap.size := by omega
        have o7_2 := fun j => c7 (w.heap.size + 1 + 1) j (by omega)
        have f7_2 := fun j => d7 (w.heap.size + 1 + 1) j (by omega)
        have s7_3 : w4.heap.size < w7.heap.size := by omega
        have o7_3 := fun j => c7 (w4.heap.size) j (by omega)
        have f7_3 := fun j => d7 (w4.heap.size) j (by omega)
        have s7_4 : w5.heap.size < w7.heap.size := by omega
        have o7_4 := fun j => c7 (w5.heap.size) j (by omega)
        have f7_4 := fun j => d7 (w5.heap.size) j (by omega)
        clear c7 d7 hz7 hW7
        by_cases h8 : a.addK y = 0
        · have H_h8 := Lib.hid h8
          clear h8
          go_wp2_with fail
          refine call_fr0 (w := w) (by repeat' (first | (with_reducible exact Below.refl _ _) | (with_reducible assumption) | (with_reducible refine bdn ?_) | (with_reducible refine Below.alloc ?_ ?_ _) | (with_reducible refine Below.drew ?_) | (with_reducible refine Below.setCell ?_ ?_ _) | omega | (simp <;> omega))) (fun HB => fadd_f ea a y p _ ⟨ia1, ia2⟩ H_ryi.out (gkeep HB hShape rfl) (gkeep HB hBound rfl) H_hq.out) (H_h8.out) ?_
          intro w8 hb8 hz8 c8 d8 hW8
          have t8 := hb8.size
          try simp only [World.size_alloc] at hz8 c8 d8
          try simp only [World.size_drew] at hz8 c8 d8
          try simp only [World.size_setCell] at hz8 c8 d8
          try simp only [World.heap_drewN] at hz8 c8 d8
          have s8_0 : w.heap.size < w8.heap.size := by omega
          have o8_0 := fun j => c8 (w.heap.size) j (by omega)
          have f8_0 := fun j => d8 (w.heap.size) j (by omega)
          have s8_1 : w.heap.size + 1 < w8.heap.size := by omega
          have o8_1 := fun j => c8 (w.heap.size + 1) j (by omega)
          have f8_1 := fun j => d8 (w.heap.size + 1) j (by omega)
          have s8_2 : w.heap.size + 1 + 1 < w8.heap.size := by omega
          have o8_2 := fun j => c8 (w.heap.size + 1 + 1) j (by omega)
          have f8_2 := fun j => d8 (w.heap.size + 1 + 1) j (by omega)
          have s8_3 : w7.heap.size < w8.heap.size := by omega
          have o8_3 := fun j => c8 (w7.heap.size) j (by omega)
          have f8_3 := fun j => d8 (w7.heap.size) j (by omega)
          clear c8 d8 hz8 hW8
          go_wp2_with fail
          go_returns
          exact ⟨rfl, by repeat' (first | (with_reducible exact Below.refl _ _) | (with_reducible assumption) | (with_reducible refine bdn ?_) | (with_reducible refine Below.alloc ?_ ?_ _) | (with_reducible refine Below.drew ?_) | (with_reducible refine Below.setCell ?_ ?_ _) | omega | (simp <;> omega))⟩
        · have H_h8 := Lib.hid h8
          clear h8
          go_wp2_with fail
          refine call_frn (w := w) (by repeat' (first | (with_reducible exact Below.refl _ _) | (with_reducible assumption) | (with_reducible refine bdn ?_) | (with_reducible refine Below.alloc ?_ ?_ _) | (with_reducible refine Below.drew ?_) | (with_reducible refine Below.setCell ?_ ?_ _) | omega | (simp <;> omega))) (fun HB => fadd_f ea a y p _ ⟨ia1, ia2⟩ H_ryi.out (gkeep HB hShape rfl) (gkeep HB hBound rfl) H_hq.out) (H_h8.out) ?_
          intro w8 hb8 hz8 c8 d8 hW8
          have t8 := hb8.size
          try simp only [World.size_alloc] at hz8 c8 d8
          try simp only [World.size_drew] at hz8 c8 d8
          try simp only [World.size_setCell] at hz8 c8 d8
          try simp only [World.heap_drewN] at hz8 c8 d8
          have s8_0 : w.heap.size < w8.heap.size := by omega
          have o8_0 := fun j => c8 (w.heap.size) j (by omega)
          have f8_0 := fun j => d8 (w.heap.size) j (by omega)
          have s8_1 : w.heap.size + 1 < w8.heap.size := by omega
          have o8_1 := fun j => c8 (w.heap.size + 1) j (by omega)
          have f8_1 := fun j => d8 (w.heap.size + 1) j (by omega)
          have s8_2 : w.heap.size + 1 + 1 < w8.heap.size := by omega
          have o8_2 := fun j => c8 (w.heap.size + 1 + 1) j (by omega)
          have f8_2 := fun j => d8 (w.heap.size + 1 + 1) j (by omega)
          have s8_3 : w7.heap.size < w8.heap.size := by omega
          have o8_3 := fun j => c8 (w7.heap.size) j (by omega)
          have f8_3 := fun j => d8 (w7.heap.size) j (by omega)
          clear c8 d8 hz8 hW8
          go_wp2_with fail
          go_returns
          exact ⟨rfl, by repeat' (first | (with_reducible exact Below.refl _ _) | (with_reducible assumption) | (with_reducible refine bdn ?_) | (with_reducible refine Below.alloc ?_ ?_ _) | (with_reducible refine Below.drew ?_) | (with_reducible refine Below.setCell ?_ ?_ _) | omega | (simp <;> omega))⟩
      · have H_h7 := Lib.hid h7
        clear h7
        go_wp2_with fail
        refine call_frn (w := w) (by repeat' (first | (with_reducible exact Below.refl _ _) | (with_reducible assumption) | (with_reducible refine bdn ?_) | (with_reducible refine Below.alloc ?_ ?_ _) | (with_reducible refine Below.drew ?_) | (with_reducible refine Below.setCell ?_ ?_ _) | omega | (simp <;> omega))) (fun HB => fadd_f ea x b p _ H_rxi.out ⟨ib1, ib2⟩ (gkeep HB hShape rfl) (gkeep HB hBound rfl) H_hp.out) (H_h7.out) ?_
        intro w7 hb7 hz7 c7 d7 hW7
        have t7 := hb7.size
        try simp only [World.size_alloc] at hz7 c7 d7
        try simp only [World.size_drew] at hz7 c7 d7
        try simp only [World.size_setCell] at hz7 c7 d7
        try simp only [World.heap_drewN] at hz7 c7 d7
        have s7_0 : w.heap.size < w7.heap.size := by omega
        have o7_0 := fun j => c7 (w.heap.size) j (by omega)
        have f7_0 := fun j => d7 (w.heap.size) j (by omega)
        have s7_1 : w.heap.size + 1 < w7.heap.size := by omega
        have o7_1 := fun j => c7 (w.heap.size + 1) j (by omega)
        have f7_1 := fun j => d7 (w.heap.size + 1) j (by omega)
        have s7_2 : w.heap.size + 1 + 1 < w7.heap.size := by omega
        have o7_2 := fun j => c7 (w.heap.size + 1 + 1) j (by omega)
        have f7_2 := fun j => d7 (w.heap.size + 1 + 1) j (by omega)
        have s7_3 : w4.heap.size < w7.heap.size := by omega
        have o7_3 := fun j => c7 (w4.heap.size) j (by omega)
        have f7_3 := fun j => d7 (w4.heap.size) j (by omega)
        have s7_4 : w5.heap.size < w7.heap.size := by omega
        have o7_4 := fun j => c7 (w5.heap.size) j (by omega)
        have f7_4 := fun j => d7 (w5.heap.size) j (by omega)
        clear c7 d7 hz7 hW7
        go_wp2_with fail
        refine call_frx (w := w) (by repeat' (first | (with_reducible exact Below.refl _ _) | (with_reducible assumption) | (with_reducible refine bdn ?_) | (with_reducible refine Below.alloc ?_ ?_ _) | (with_reducible refine Below.drew ?_) | (with_reducible refine Below.setCell ?_ ?_ _) | omega | (simp <;> omega))) (fun HB => fadd_f ea a y p _ ⟨ia1, ia2⟩ H_ryi.out (gkeep HB hShape rfl) (gkeep HB hBound rfl) H_hq.out) ?_
        intro q8 r8 x8 w8 hb8 hz8 c8 d8 hW8
        have t8 := hb8.size
        try simp only [World.size_alloc] at hz8 c8 d8
        try simp only [World.size_drew] at hz8 c8 d8
        try simp only [World.size_setCell] at hz8 c8 d8
        try simp only [World.heap_drewN] at hz8 c8 d8
        have s8_0 : w.heap.size < w8.heap.size := by omega
        have o8_0 := fun j => c8 (w.heap.size) j (by omega)
        have f8_0 := fun j => d8 (w.heap.size) j (by omega)
        have s8_1 : w.heap.size + 1 < w8.heap.size := by omega
        have o8_1 := fun j => c8 (w.heap.size + 1) j (by omega)
        have f8_1 := fun j => d8 (w.heap.size + 1) j (by omega)
        have s8_2 : w.heap.size + 1 + 1 < w8.heap.size := by omega
        have o8_2 := fun j => c8 (w.heap.size + 1 + 1) j (by omega)
        have f8_2 := fun j => d8 (w.heap.size + 1 + 1) j (by omega)
        have s8_3 : w7.heap.size < w8.heap.size := by omega
        have o8_3 := fun j => c8 (w7.heap.size) j (by omega)
        have f8_3 := fun j => d8 (w7.heap.size) j (by omega)
        clear c8 d8 hz8 hW8
        go_wp2_with fail
        go_returns
        exact ⟨rfl, by repeat' (first | (with_reducible exact Below.refl _ _) | (with_reducible assumption) | (with_reducible refine bdn ?_) | (with_reducible refine Below.alloc ?_ ?_ _) | (with_reducible refine Below.drew ?_) | (with_reducible refine Below.setCell ?_ ?_ _) | omega | (simp <;> omega))⟩
    · have H_h4 := Lib.hid h4
      clear h4
      go_wp2_with fail
      refine call_frn (w := w) (by repeat' (first | (with_reducible exact Below.refl _ _) | (with_reducible assumption) | (with_reducible refine bdn ?_) | (with_reducible refine Below.alloc ?_ ?_ _) | (with_reducible refine Below.drew ?_) | (with_reducible refine Below.setCell ?_ ?_ _) | omega | (simp <;> omega))) (fun HB => fadd_f ea b c y _ ⟨ib1, ib2⟩ ⟨ic1, ic2⟩ (gkeep HB hShape rfl) (gkeep HB hBound rfl) H_hy.out) (H_h4.out) ?_
      intro w5 hb5 hz5 c5 d5 hW5
      have t5 := hb5.size
      try simp only [World.size_alloc] at hz5 c5 d5
      try simp only [World.size_drew] at hz5 c5 d5
      try simp only [World.size_setCell] at hz5 c5 d5
      try simp only [World.heap_drewN] at hz5 c5 d5
      have s5_0 : w.heap.size < w5.heap.size := by omega
      have o5_0 := fun j => c5 (w.heap.size) j (by omega)
      have f5_0 := fun j => d5 (w.heap.size) j (by omega)
      have s5_1 : w.heap.size + 1 < w5.heap.size := by omega
      have o5_1 := fun j => c5 (w.heap.size + 1) j (by omega)
      have f5_1 := fun j => d5 (w.heap.size + 1) j (by omega)
      have s5_2 : w.heap.size + 1 + 1 < w5.heap.size := by omega
      have o5_2 := fun j => c5 (w.heap.size + 1 + 1) j (by omega)
      have f5_2 := fun j => d5 (w.heap.size + 1 + 1) j (by omega)
      have s5_3 : w4.heap.size < w5.heap.size := by omega
      have o5_3 := fun j => c5 (w4.heap.size) j (by omega)
      have f5_3 := fun j => d5 (w4.heap.size) j (by omega)
      clear c5 d5 hz5 hW5
      go_wp2_with fail
      go_returns
      exact ⟨rfl, by repeat' (first | (with_reducible exact Below.refl _ _) | (with_reducible assumption) | (with_reducible refine bdn ?_) | (with_reducible refine Below.alloc ?_ ?_ _) | (with_reducible refine Below.drew ?_) | (with_reducible refine Below.setCell ?_ ?_ _) | omega | (simp <;> omega))⟩
  · have H_h3 := Lib.hid h3
    clear h3
    go_wp2_with fail
    refine call_frn (w := w) (by repeat' (first | (with_reducible exact Below.refl _ _) | (with_reducible assumption) | (with_reducible refine bdn ?_) | (with_reducible refine Below.alloc ?_ ?_ _) | (with_reducible refine Below.drew ?_) | (with_reducible refine Below.setCell ?_ ?_ _) | omega | (simp <;> omega))) (fun HB => fadd_f ea a c x _ ⟨ia1, ia2⟩ ⟨ic1, ic2⟩ (gkeep HB hShape rfl) (gkeep HB hBound rfl) H_hx.out) (H_h3.out) ?_
    intro w4 hb4 hz4 c4 d4 hW4
    have t4 := hb4.size
    try simp only [World.size_alloc] at hz4 c4 d4
    try simp only [World.size_drew] at hz4 c4 d4
    try simp only [World.size_setCell] at hz4 c4 d4
    try simp only [World.heap_drewN] at hz4 c4 d4
    have s4_0 : w.heap.size < w4.heap.size := by omega
    have o4_0 := fun j => c4 (w.heap.size) j (by omega)
    have f4_0 := fun j => d4 (w.heap.size) j (by omega)
    have s4_1 : w.heap.size + 1 < w4.heap.size := by omega
    have o4_1 := fun j => c4 (w.heap.size + 1) j (by omega)
    have f4_1 := fun j => d4 (w.heap.size + 1) j (by omega)
    have s4_2 : w.heap.size + 1 + 1 < w4.heap.size := by omega
    have o4_2 := fun j => c4 (w.heap.size + 1 + 1) j (by omega)
    have f4_2 := fun j => d4 (w.heap.size + 1 + 1) j (by omega)
    clear c4 d4 hz4 hW4
    go_wp2_with fail
    refine call_frx (w := w) (by repeat' (first | (with_reducible exact Below.refl _ _) | (with_reducible assumption) | (with_reducible refine bdn ?_) | (with_reducible refine Below.alloc ?_ ?_ _) | (with_reducible refine Below.drew ?_) | (with_reducible refine Below.setCell ?_ ?_ _) | omega | (simp <;> omega))) (fun HB => fadd_f ea b c y _ ⟨ib1, ib2⟩ ⟨ic1, ic2⟩ (gkeep HB hShape rfl) (gkeep HB hBound rfl) H_hy.out) ?_
    intro q5 r5 x5 w5 hb5 hz5 c5 d5 hW5
    have t5 := hb5.size
    try simp only [World.size_alloc] at hz5 c5 d5
    try simp only [World.size_drew] at hz5 c5 d5
    try simp only [World.size_setCell] at hz5 c5 d5
    try simp only [World.heap_drewN] at hz5 c5 d5
    have s5_0 : w.heap.size < w5.heap.size := by omega
    have o5_0 := fun j => c5 (w.heap.size) j (by omega)
    have f5_0 := fun j => d5 (w.heap.size) j (by omega)
    have s5_1 : w.heap.size + 1 < w5.heap.size := by omega
    have o5_1 := fun j => c5 (w.heap.size + 1) j (by omega)
    have f5_1 := fun j => d5 (w.heap.size + 1) j (by omega)
    have s5_2 : w.heap.size + 1 + 1 < w5.heap.size := by omega
    have o5_2 := fun j => c5 (w.heap.size + 1 + 1) j (by omega)
    have f5_2 := fun j => d5 (w.heap.size + 1 + 1) j (by omega)
    clear c5 d5 hz5 hW5
    go_wp2_with fail
    go_returns
    exact ⟨rfl, by repeat' (first | (with_reducible exact Below.refl _ _) | (with_reducible assumption) | (with_reducible refine bdn ?_) | (with_reducible refine Below.alloc ?_ ?_ _) | (with_reducible refine Below.drew ?_) | (with_reducible refine Below.setCell ?_ ?_ _) | omega | (simp <;> omega))⟩
set_option maxHeartbeats 4000000 in
theorem orders_2 (ea : Nat → Addr) (a b c : Fr) (w : World) (ia : a.I) (ib : b.I) (ic : c.I) (hShape : w.cell? ⟨2, 0, none⟩ = some (.iface 87 (.pointer (some (ea 3))))) (hBound : w.cell? ⟨1, 0, none⟩ = some (.iface 87 (.pointer (some (ea 2))))) (hZero : w.cell? ⟨10, 0, none⟩ = some (.iface 87 (.pointer (some (ea 11))))) (htab : Lib.TabIs Tryd.prog w "internal/strconv.uint64pow10" .u64 Lib.pow10Tab) (h1 : bothC a.n a.d b.n b.d = 0) (h2 : bothC b.n b.d a.n a.d = 0) (n m : Int) (hn : cmpI (a.n * b.d) (b.n * a.d) = n) (hm : cmpI (b.n * a.d) (a.n * b.d) = m) (hnm : wrap64 (-m) = n) (hz : (n == 0) = false) (hne : ¬ a.d = b.d) :
    Calls Tryd.prog 7 #[.agg #[.int .i64 a.n, .int .i64 a.d], .agg #[.int .i64 b.n, .int .i64 b.d], .agg #[.int .i64 c.n, .int .i64 c.d]] w fun e w' => e = .returned (.bool true) ∧ Below w.heap.size w w' := by
  have zhShape := zlt hShape
  have xhShape := zlts hShape
  have yhShape := zne hShape
  have zhBound := zlt hBound
  have xhBound := zlts hBound
  have yhBound := zne hBound
  have zhZero := zlt hZero
  have xhZero := zlts hZero
  have yhZero := zne hZero
  obtain ⟨ia1, ia2⟩ := ia
  obtain ⟨ib1, ib2⟩ := ib
  obtain ⟨ic1, ic2⟩ := ic
  have H_h1 := Lib.hid h1
  clear h1
  have H_h2 := Lib.hid h2
  clear h2
  have H_hn := Lib.hid hn
  clear hn
  have H_hm := Lib.hid hm
  clear hm
  go_enter Tryd.func7, Tryd.ntmps7
  go_wp2_with fail
  refine call_bel (w := w) (by repeat' (first | (with_reducible exact Below.refl _ _) | (with_reducible assumption) | (with_reducible refine bdn ?_) | (with_reducible refine Below.alloc ?_ ?_ _) | (with_reducible refine Below.drew ?_) | (with_reducible refine Below.setCell ?_ ?_ _) | omega | (simp <;> omega))) (fun HB => halved_any ea _ (gkeep HB hBound rfl) (gkeep HB hZero rfl) (tab_keep htab HB rfl)) ?_
  intro w1 hb1 hz1 c1 d1 hW1
  have t1 := hb1.size
  try simp only [World.size_alloc] at hz1 c1 d1
  try simp only [World.size_drew] at hz1 c1 d1
  try simp only [World.size_setCell] at hz1 c1 d1
  try simp only [World.heap_drewN] at hz1 c1 d1
  have s1_0 : w.heap.size < w1.heap.size := by omega
  have o1_0 := fun j => c1 (w.heap.size) j (by omega)
  have f1_0 := fun j => d1 (w.heap.size) j (by omega)
  have s1_1 : w.heap.size + 1 < w1.heap.size := by omega
  have o1_1 := fun j => c1 (w.heap.size + 1) j (by omega)
  have f1_1 := fun j => d1 (w.heap.size + 1) j (by omega)
  have s1_2 : w.heap.size + 1 + 1 < w1.heap.size := by omega
  have o1_2 := fun j => c1 (w.heap.size + 1 + 1) j (by omega)
  have f1_2 := fun j => d1 (w.heap.size + 1 + 1) j (by omega)
  clear c1 d1 hz1 hW1
  go_wp2_with fail
  refine call_bel (w := w) (by repeat' (first | (with_reducible exact Below.refl _ _) | (with_reducible assumption) | (with_reducible refine bdn ?_) | (with_reducible refine Below.alloc ?_ ?_ _) | (with_reducible refine Below.drew ?_) | (with_reducible refine Below.setCell ?_ ?_ _) | omega | (simp <;> omega))) (fun HB => fcmp_0 ea a.n a.d b.n b.d n _ ia1 ia2 ib1 ib2 (gkeep HB hShape rfl) (gkeep HB hBound rfl) H_h1.out H_hn.out) ?_
  intro w2 hb2 hz2 c2 d2 hW2
  have t2 := hb2.size
  try simp only [World.size_alloc] at hz2 c2 d2
  try simp only [World.size_drew] at hz2 c2 d2
  try simp only [World.size_setCell] at hz2 c2 d2
  try simp only [World.heap_drewN] at hz2 c2 d2
  have s2_0 : w.heap.size < w2.heap.size := by omega
  have o2_0 := fun j => c2 (w.heap.size) j (by omega)
  have f2_0 := fun j => d2 (w.heap.size) j (by omega)
  have s2_1 : w.heap.size + 1 < w2.heap.size := by omega
  have o2_1 := fun j => c2 (w.heap.size + 1) j (by omega)
  have f2_1 := fun j => d2 (w.heap.size + 1) j (by omega)
  have s2_2 : w.heap.size + 1 + 1 < w2.heap.size := by omega
  have o2_2 := fun j => c2 (w.heap.size + 1 + 1) j (by omega)
  have f2_2 := fun j => d2 (w.heap.size + 1 + 1) j (by omega)
  clear c2 d2 hz2 hW2
  go_wp2_with fail
  refine call_bel (w := w) (by repeat' (first | (with_reducible exact Below.refl _ _) | (with_reducible assumption) | (with_reducible refine bdn ?_) | (with_reducible refine Below.alloc ?_ ?_ _) | (with_reducible refine Below.drew ?_) | (with_reducible refine Below.setCell ?_ ?_ _) | omega | (simp <;> omega))) (fun HB => fcmp_0 ea b.n b.d a.n a.d m _ ib1 ib2 ia1 ia2 (gkeep HB hShape rfl) (gkeep HB hBound rfl) H_h2.out H_hm.out) ?_
  intro w3 hb3 hz3 c3 d3 hW3
  have t3 := hb3.size
  try simp only [World.size_alloc] at hz3 c3 d3
  try simp only [World.size_drew] at hz3 c3 d3
  try simp only [World.size_setCell] at hz3 c3 d3
  try simp only [World.heap_drewN] at hz3 c3 d3
  have s3_0 : w.heap.size < w3.heap.size := by omega
  have o3_0 := fun j => c3 (w.heap.size) j (by omega)
  have f3_0 := fun j => d3 (w.heap.size) j (by omega)
  have s3_1 : w.heap.size + 1 < w3.heap.size := by omega
  have o3_1 := fun j => c3 (w.heap.size + 1) j (by omega)
  have f3_1 := fun j => d3 (w.heap.size + 1) j (by omega)
  have s3_2 : w.heap.size + 1 + 1 < w3.heap.size := by omega
  have o3_2 := fun j => c3 (w.heap.size + 1 + 1) j (by omega)
  have f3_2 := fun j => d3 (w.heap.size + 1 + 1) j (by omega)
  clear c3 d3 hz3 hW3
  obtain ⟨x, hx⟩ : ∃ x, a.add c = x := ⟨_, rfl⟩
  obtain ⟨y, hy⟩ : ∃ y, b.add c = y := ⟨_, rfl⟩
  obtain ⟨p, hp⟩ : ∃ p, x.add b = p := ⟨_, rfl⟩
  obtain ⟨q, hq⟩ : ∃ q, a.add y = q := ⟨_, rfl⟩
  have H_hx := Lib.hid hx
  clear hx
  have H_hy := Lib.hid hy
  clear hy
  have H_hp := Lib.hid hp
  clear hp
  have H_hq := Lib.hid hq
  clear hq
  by_cases h3 : a.addK c = 0
  · have H_h3 := Lib.hid h3
    clear h3
    go_wp2_with fail
    refine call_fr0 (w := w) (by repeat' (first | (with_reducible exact Below.refl _ _) | (with_reducible assumption) | (with_reducible refine bdn ?_) | (with_reducible refine Below.alloc ?_ ?_ _) | (with_reducible refine Below.drew ?_) | (with_reducible refine Below.setCell ?_ ?_ _) | omega | (simp <;> omega))) (fun HB => fadd_f ea a c x _ ⟨ia1, ia2⟩ ⟨ic1, ic2⟩ (gkeep HB hShape rfl) (gkeep HB hBound rfl) H_hx.out) (H_h3.out) ?_
    intro w4 hb4 hz4 c4 d4 hW4
    have t4 := hb4.size
    try simp only [World.size_alloc] at hz4 c4 d4
    try simp only [World.size_drew] at hz4 c4 d4
    try simp only [World.size_setCell] at hz4 c4 d4
    try simp only [World.heap_drewN] at hz4 c4 d4
    have s4_0 : w.heap.size < w4.heap.size := by omega
    have o4_0 := fun j => c4 (w.heap.size) j (by omega)
    have f4_0 := fun j => d4 (w.heap.size) j (by omega)
    have s4_1 : w.heap.size + 1 < w4.heap.size := by omega
    have o4_1 := fun j => c4 (w.heap.size + 1) j (by omega)
    have f4_1 := fun j => d4 (w.heap.size + 1) j (by omega)
    have s4_2 : w.heap.size + 1 + 1 < w4.heap.size := by omega
    have o4_2 := fun j => c4 (w.heap.size + 1 + 1) j (by omega)
    have f4_2 := fun j => d4 (w.heap.size + 1 + 1) j (by omega)
    clear c4 d4 hz4 hW4
    by_cases h4 : b.addK c = 0
    · have rx : x.R := by rw [← H_hx.out]; exact addK_sum H_h3.out
      have ry : y.R := by rw [← H_hy.out]; exact addK_sum h4
      have rxi := rx.i
      have ryi := ry.i
      have hB6 := both_R rx ry
      have hc6 : cmpI (x.n * y.d) (y.n * x.d) = n := by
        rw [← H_hx.out, ← H_hy.out, ← H_hn.out]
        exact add_cmp (a := a) (b := b) (c := c) (addK_0 H_h3.out).1.d0 (addK_0 h4).1.d0 (addK_0 h4).2.1.d0
      have hpq : p = q := by
        rw [← H_hp.out, ← H_hq.out, ← H_hx.out, ← H_hy.out]
        exact add_assoc3 (a := a) (b := b) (c := c) (addK_0 H_h3.out).1.d0 (addK_0 h4).1.d0 (addK_0 h4).2.1.d0
      subst hpq
      have H_h4 := Lib.hid h4
      clear h4
      have H_rx := Lib.hid rx
      clear rx
      have H_ry := Lib.hid ry
      clear ry
      have H_hB6 := Lib.hid hB6
      clear hB6
      have H_hc6 := Lib.hid hc6
      clear hc6
      have H_rxi := Lib.hid rxi
      clear rxi
      have H_ryi := Lib.hid ryi
      clear ryi
      go_wp2_with fail
      refine call_fr0 (w := w) (by repeat' (first | (with_reducible exact Below.refl _ _) | (with_reducible assumption) | (with_reducible refine bdn ?_) | (with_reducible refine Below.alloc ?_ ?_ _) | (with_reducible refine Below.drew ?_) | (with_reducible refine Below.setCell ?_ ?_ _) | omega | (simp <;> omega))) (fun HB => fadd_f ea b c y _ ⟨ib1, ib2⟩ ⟨ic1, ic2⟩ (gkeep HB hShape rfl) (gkeep HB hBound rfl) H_hy.out) (H_h4.out) ?_
      intro w5 hb5 hz5 c5 d5 hW5
      have t5 := hb5.size
      try simp only [World.size_alloc] at hz5 c5 d5
      try simp only [World.size_drew] at hz5 c5 d5
      try simp only [World.size_setCell] at hz5 c5 d5
      try simp only [World.heap_drewN] at hz5 c5 d5
      have s5_0 : w.heap.size < w5.heap.size := by omega
      have o5_0 := fun j => c5 (w.heap.size) j (by omega)
      have f5_0 := fun j => d5 (w.heap.size) j (by omega)
      have s5_1 : w.heap.size + 1 < w5.heap.size := by omega
      have o5_1 := fun j => c5 (w.heap.size + 1) j (by omega)
      have f5_1 := fun j => d5 (w.heap.size + 1) j (by omega)
      have s5_2 : w.heap.size + 1 + 1 < w5.heap.size := by omega
      have o5_2 := fun j => c5 (w.heap.size + 1 + 1) j (by omega)
      have f5_2 := fun j => d5 (w.heap.size + 1 + 1) j (by omega)
      have s5_3 : w4.heap.size < w5.heap.size := by omega
      have o5_3 := fun j => c5 (w4.heap.size) j (by omega)
      have f5_3 := fun j => d5 (w4.heap.size) j (by omega)
      clear c5 d5 hz5 hW5
      go_wp2_with fail
      refine call_bel (w := w) (by repeat' (first | (with_reducible exact Below.refl _ _) | (with_reducible assumption) | (with_reducible refine bdn ?_) | (with_reducible refine Below.alloc ?_ ?_ _) | (with_reducible refine Below.drew ?_) | (with_reducible refine Below.setCell ?_ ?_ _) | omega | (simp <;> omega))) (fun HB => fcmp_0 ea x.n x.d y.n y.d n _ H_rxi.out.n H_rxi.out.d H_ryi.out.n H_ryi.out.d (gkeep HB hShape rfl) (gkeep HB hBound rfl) H_hB6.out H_hc6.out) ?_
      intro w6 hb6 hz6 c6 d6 hW6
      have t6 := hb6.size
      try simp only [World.size_alloc] at hz6 c6 d6
      try simp only [World.size_drew] at hz6 c6 d6
      try simp only [World.size_setCell] at hz6 c6 d6
      try simp only [World.heap_drewN] at hz6 c6 d6
      have s6_0 : w.heap.size < w6.heap.size := by omega
      have o6_0 := fun j => c6 (w.heap.size) j (by omega)
      have f6_0 := fun j => d6 (w.heap.size) j (by omega)
      have s6_1 : w.heap.size + 1 < w6.heap.size := by omega
      have o6_1 := fun j => c6 (w.heap.size + 1) j (by omega)
      have f6_1 := fun j => d6 (w.heap.size + 1) j (by omega)
      have s6_2 : w.heap.size + 1 + 1 < w6.heap.size := by omega
      have o6_2 := fun j => c6 (w.heap.size + 1 + 1) j (by omega)
      have f6_2 := fun j => d6 (w.heap.size + 1 + 1) j (by omega)
      have s6_3 : w4.heap.size < w6.heap.size := by omega
      have o6_3 := fun j => c6 (w4.heap.size) j (by omega)
      have f6_3 := fun j => d6 (w4.heap.size) j (by omega)
      have s6_4 : w5.heap.size < w6.heap.size := by omega
      have o6_4 := fun j => c6 (w5.heap.size) j (by omega)
      have f6_4 := fun j => d6 (w5.heap.size) j (by omega)
      clear c6 d6 hz6 hW6
      by_cases h7 : x.addK b = 0
      · have H_h7 := Lib.hid h7
        clear h7
        go_wp2_with fail
        refine call_fr0 (w := w) (by repeat' (first | (with_reducible exact Below.refl _ _) | (with_reducible assumption) | (with_reducible refine bdn ?_) | (with_reducible refine Below.alloc ?_ ?_ _) | (with_reducible refine Below.drew ?_) | (with_reducible refine Below.setCell ?_ ?_ _) | omega | (simp <;> omega))) (fun HB => fadd_f ea x b p _ H_rxi.out ⟨ib1, ib2⟩ (gkeep HB hShape rfl) (gkeep HB hBound rfl) H_hp.out) (H_h7.out) ?_
        intro w7 hb7 hz7 c7 d7 hW7
        have t7 := hb7.size
        try simp only [World.size_alloc] at hz7 c7 d7
        try simp only [World.size_drew] at hz7 c7 d7
        try simp only [World.size_setCell] at hz7 c7 d7
        try simp only [World.heap_drewN] at hz7 c7 d7
        have s7_0 : w.heap.size < w7.heap.size := by omega
        have o7_0 := fun j => c7 (w.heap.size) j (by omega)
        have f7_0 := fun j => d7 (w.heap.size) j (by omega)
        have s7_1 : w.heap.size + 1 < w7.heap.size := by omega
        have o7_1 := fun j => c7 (w.heap.size + 1) j (by omega)
        have f7_1 := fun j => d7 (w.heap.size + 1) j (by omega)
        have s7_2 : w.heap.size + 1 + 1 < w7.heap.size := by omega
        have o7_2 := fun j => c7 (w.heap.size + 1 + 1) j (by omega)
        have f7_2 := fun j => d7 (w.heap.size + 1 + 1) j (by omega)
        have s7_3 : w4.heap.size < w7.heap.size := by omega
        have o7_3 := fun j => c7 (w4.heap.size) j (by omega)
        have f7_3 := fun j => d7 (w4.heap.size) j (by omega)
        have s7_4 : w5.heap.size < w7.heap.size := by omega
        have o7_4 := fun j => c7 (w5.heap.size) j (by omega)
        have f7_4 := fun j => d7 (w5.heap.size) j (by omega)
        clear c7 d7 hz7 hW7
        by_cases h8 : a.addK y = 0
        · have H_h8 := Lib.hid h8
          clear h8
          go_wp2_with fail
          refine call_fr0 (w := w) (by repeat' (first | (with_reducible exact Below.refl _ _) | (with_reducible assumption) | (with_reducible refine bdn ?_) | (with_reducible refine Below.alloc ?_ ?_ _) | (with_reducible refine Below.drew ?_) | (with_reducible refine Below.setCell ?_ ?_ _) | omega | (simp <;> omega))) (fun HB => fadd_f ea a y p _ ⟨ia1, ia2⟩ H_ryi.out (gkeep HB hShape rfl) (gkeep HB hBound rfl) H_hq.out) (H_h8.out) ?_
          intro w8 hb8 hz8 c8 d8 hW8
          have t8 := hb8.size
          try simp only [World.size_alloc] at hz8 c8 d8
          try simp only [World.size_drew] at hz8 c8 d8
          try simp only [World.size_setCell] at hz8 c8 d8
          try simp only [World.heap_drewN] at hz8 c8 d8
          have s8_0 : w.heap.size < w8.heap.size := by omega
          have o8_0 := fun j => c8 (w.heap.size) j (by omega)
          have f8_0 := fun j => d8 (w.heap.size) j (by omega)
          have s8_1 : w.heap.size + 1 < w8.heap.size := by omega
          have o8_1 := fun j => c8 (w.heap.size + 1) j (by omega)
          have f8_1 := fun j => d8 (w.heap.size + 1) j (by omega)
          have s8_2 : w.heap.size + 1 + 1 < w8.heap.size := by omega
          have o8_2 := fun j => c8 (w.heap.size + 1 + 1) j (by omega)
          have f8_2 := fun j => d8 (w.heap.size + 1 + 1) j (by omega)
          have s8_3 : w7.heap.size < w8.heap.size := by omega
          have o8_3 := fun j => c8 (w7.heap.size) j (by omega)
          have f8_3 := fun j => d8 (w7.heap.size) j (by omega)
          clear c8 d8 hz8 hW8
          go_wp2_with fail
          go_returns
          exact ⟨rfl, by repeat' (first | (with_reducible exact Below.refl _ _) | (with_reducible assumption) | (with_reducible refine bdn ?_) | (with_reducible refine Below.alloc ?_ ?_ _) | (with_reducible refine Below.drew ?_) | (with_reducible refine Below.setCell ?_ ?_ _) | omega | (simp <;> omega))⟩
        · have H_h8 := Lib.hid h8
          clear h8
          go_wp2_with fail
          refine call_frn (w := w) (by repeat' (first | (with_reducible exact Below.refl _ _) | (with_reducible assumption) | (with_reducible refine bdn ?_) | (with_reducible refine Below.alloc ?_ ?_ _) | (with_reducible refine Below.drew ?_) | (with_reducible refine Below.setCell ?_ ?_ _) | omega | (simp <;> omega))) (fun HB => fadd_f ea a y p _ ⟨ia1, ia2⟩ H_ryi.out (gkeep HB hShape rfl) (gkeep HB hBound rfl) H_hq.out) (H_h8.out) ?_
          intro w8 hb8 hz8 c8 d8 hW8
          have t8 := hb8.size
          try simp only [World.size_alloc] at hz8 c8 d8
          try simp only [World.size_drew] at hz8 c8 d8
          try simp only [World.size_setCell] at hz8 c8 d8
          try simp only [World.heap_drewN] at hz8 c8 d8
          have s8_0 : w.heap.size < w8.heap.size := by omega
          have o8_0 := fun j => c8 (w.heap.size) j (by omega)
          have f8_0 := fun j => d8 (w.heap.size) j (by omega)
          have s8_1 : w.heap.size + 1 < w8.heap.size := by omega
          have o8_1 := fun j => c8 (w.heap.size + 1) j (by omega)
          have f8_1 := fun j => d8 (w.heap.size + 1) j (by omega)
          have s8_2 : w.heap.size + 1 + 1 < w8.heap.size := by omega
          have o8_2 := fun j => c8 (w.heap.size + 1 + 1) j (by omega)
          have f8_2 := fun j => d8 (w.heap.size + 1 + 1) j (by omega)
          have s8_3 : w7.heap.size < w8.heap.size := by omega
          have o8_3 := fun j => c8 (w7.heap.size) j (by omega)
          have f8_3 := fun j => d8 (w7.heap.size) j (by omega)
          clear c8 d8 hz8 hW8
          go_wp2_with fail
          go_returns
          exact ⟨rfl, by repeat' (first | (with_reducible exact Below.refl _ _) | (with_reducible assumption) | (with_reducible refine bdn ?_) | (with_reducible refine Below.alloc ?_ ?_ _) | (with_reducible refine Below.drew ?_) | (with_reducible refine Below.setCell ?_ ?_ _) | omega | (simp <;> omega))⟩
      · have H_h7 := Lib.hid h7
        clear h7
        go_wp2_with fail
        refine call_frn (w := w) (by repeat' (first | (with_reducible exact Below.refl _ _) | (with_reducible assumption) | (with_reducible refine bdn ?_) | (with_reducible refine Below.alloc ?_ ?_ _) | (with_reducible refine Below.drew ?_) | (with_reducible refine Below.setCell ?_ ?_ _) | omega | (simp <;> omega))) (fun HB => fadd_f ea x b p _ H_rxi.out ⟨ib1, ib2⟩ (gkeep HB hShape rfl) (gkeep HB hBound rfl) H_hp.out) (H_h7.out) ?_
        intro w7 hb7 hz7 c7 d7 hW7
        have t7 := hb7.size
        try simp only [World.size_alloc] at hz7 c7 d7
        try simp only [World.size_drew] at hz7 c7 d7
        try simp only [World.size_setCell] at hz7 c7 d7
        try simp only [World.heap_drewN] at hz7 c7 d7
        have s7_0 : w.heap.size < w7.heap.size := by omega
        have o7_0 := fun j => c7 (w.heap.size) j (by omega)
        have f7_0 := fun j => d7 (w.heap.size) j (by omega)
        have s7_1 : w.heap.size + 1 < w7.heap.size := by omega
        have o7_1 := fun j => c7 (w.heap.size + 1) j (by omega)
        have f7_1 := fun j => d7 (w.heap.size + 1) j (by omega)
        have s7_2 : w.heap.size + 1 + 1 < w7.heap.size := by omega
        have o7_2 := fun j => c7 (w.heap.size + 1 + 1) j (by omega)
        have f7_2 := fun j => d7 (w.heap.size + 1 + 1) j (by omega)
        have s7_3 : w4.heap.size < w7.heap.size := by omega
        have o7_3 := fun j => c7 (w4.heap.size) j (by omega)
        have f7_3 := fun j => d7 (w4.heap.size) j (by omega)
        have s7_4 : w5.heap.size < w7.heap.size := by omega
        have o7_4 := fun j => c7 (w5.heap.size) j (by omega)
        have f7_4 := fun j => d7 (w5.heap.size) j (by omega)
        clear c7 d7 hz7 hW7
        go_wp2_with fail
        refine call_frx (w := w) (by repeat' (first | (with_reducible exact Below.refl _ _) | (with_reducible assumption) | (with_reducible refine bdn ?_) | (with_reducible refine Below.alloc ?_ ?_ _) | (with_reducible refine Below.drew ?_) | (with_reducible refine Below.setCell ?_ ?_ _) | omega | (simp <;> omega))) (fun HB => fadd_f ea a y p _ ⟨ia1, ia2⟩ H_ryi.out (gkeep HB hShape rfl) (gkeep HB hBound rfl) H_hq.out) ?_
        intro q8 r8 x8 w8 hb8 hz8 c8 d8 hW8
        have t8 := hb8.size
        try simp only [World.size_alloc] at hz8 c8 d8
        try simp only [World.size_drew] at hz8 c8 d8
        try simp only [World.size_setCell] at hz8 c8 d8
        try simp only [World.heap_drewN] at hz8 c8 d8
        have s8_0 : w.heap.size < w8.heap.size := by omega
        have o8_0 := fun j => c8 (w.heap.size) j (by omega)
        have f8_0 := fun j => d8 (w.heap.size) j (by omega)
        have s8_1 : w.heap.size + 1 < w8.heap.size := by omega
        have o8_1 := fun j => c8 (w.heap.size + 1) j (by omega)
        have f8_1 := fun j => d8 (w.heap.size + 1) j (by omega)
        have s8_2 : w.heap.size + 1 + 1 < w8.heap.size := by omega
        have o8_2 := fun j => c8 (w.heap.size + 1 + 1) j (by omega)
        have f8_2 := fun j => d8 (w.heap.size + 1 + 1) j (by omega)
        have s8_3 : w7.heap.size < w8.heap.size := by omega
        have o8_3 := fun j => c8 (w7.heap.size) j (by omega)
        have f8_3 := fun j => d8 (w7.heap.size) j (by omega)
        clear c8 d8 hz8 hW8
        go_wp2_with fail
        go_returns
        exact ⟨rfl, by repeat' (first | (with_reducible exact Below.refl _ _) | (with_reducible assumption) | (with_reducible refine bdn ?_) | (with_reducible refine Below.alloc ?_ ?_ _) | (with_reducible refine Below.drew ?_) | (with_reducible refine Below.setCell ?_ ?_ _) | omega | (simp <;> omega))⟩
    · have H_h4 := Lib.hid h4
      clear h4
      go_wp2_with fail
      refine call_frn (w := w) (by repeat' (first | (with_reducible exact Below.refl _ _) | (with_reducible assumption) | (with_reducible refine bdn ?_) | (with_reducible refine Below.alloc ?_ ?_ _) | (with_reducible refine Below.drew ?_) | (with_reducible refine Below.setCell ?_ ?_ _) | omega | (simp <;> omega))) (fun HB => fadd_f ea b c y _ ⟨ib1, ib2⟩ ⟨ic1, ic2⟩ (gkeep HB hShape rfl) (gkeep HB hBound rfl) H_hy.out) (H_h4.out) ?_
      intro w5 hb5 hz5 c5 d5 hW5
      have t5 := hb5.size
      try simp only [World.size_alloc] at hz5 c5 d5
      try simp only [World.size_drew] at hz5 c5 d5
      try simp only [World.size_setCell] at hz5 c5 d5
      try simp only [World.heap_drewN] at hz5 c5 d5
      have s5_0 : w.heap.size < w5.heap.size := by omega
      have o5_0 := fun j => c5 (w.heap.size) j (by omega)
      have f5_0 := fun j => d5 (w.heap.size) j (by omega)
      have s5_1 : w.heap.size + 1 < w5.heap.size := by omega
      have o5_1 := fun j => c5 (w.heap.size + 1) j (by omega)
      have f5_1 := fun j => d5 (w.heap.size + 1) j (by omega)
      have s5_2 : w.heap.size + 1 + 1 < w5.heap.size := by omega
      have o5_2 := fun j => c5 (w.heap.size + 1 + 1) j (by omega)
      have f5_2 := fun j => d5 (w.heap.size + 1 + 1) j (by omega)
      have s5_3 : w4.heap.size < w5.heap.size := by omega
      have o5_3 := fun j => c5 (w4.heap.size) j (by omega)
      have f5_3 := fun j => d5 (w4.heap.size) j (by omega)
      clear c5 d5 hz5 hW5
      go_wp2_with fail
      go_returns
      exact ⟨rfl, by repeat' (first | (with_reducible exact Below.refl _ _) | (with_reducible assumption) | (with_reducible refine bdn ?_) | (with_reducible refine Below.alloc ?_ ?_ _) | (with_reducible refine Below.drew ?_) | (with_reducible refine Below.setCell ?_ ?_ _) | omega | (simp <;> omega))⟩
  · have H_h3 := Lib.hid h3
    clear h3
    go_wp2_with fail
    refine call_frn (w := w) (by repeat' (first | (with_reducible exact Below.refl _ _) | (with_reducible assumption) | (with_reducible refine bdn ?_) | (with_reducible refine Below.alloc ?_ ?_ _) | (with_reducible refine Below.drew ?_) | (with_reducible refine Below.setCell ?_ ?_ _) | omega | (simp <;> omega))) (fun HB => fadd_f ea a c x _ ⟨ia1, ia2⟩ ⟨ic1, ic2⟩ (gkeep HB hShape rfl) (gkeep HB hBound rfl) H_hx.out) (H_h3.out) ?_
    intro w4 hb4 hz4 c4 d4 hW4
    have t4 := hb4.size
    try simp only [World.size_alloc] at hz4 c4 d4
    try simp only [World.size_drew] at hz4 c4 d4
    try simp only [World.size_setCell] at hz4 c4 d4
    try simp only [World.heap_drewN] at hz4 c4 d4
    have s4_0 : w.heap.size < w4.heap.size := by omega
    have o4_0 := fun j => c4 (w.heap.size) j (by omega)
    have f4_0 := fun j => d4 (w.heap.size) j (by omega)
    have s4_1 : w.heap.size + 1 < w4.heap.size := by omega
    have o4_1 := fun j => c4 (w.heap.size + 1) j (by omega)
    have f4_1 := fun j => d4 (w.heap.size + 1) j (by omega)
    have s4_2 : w.heap.size + 1 + 1 < w4.heap.size := by omega
    have o4_2 := fun j => c4 (w.heap.size + 1 + 1) j (by omega)
    have f4_2 := fun j => d4 (w.heap.size + 1 + 1) j (by omega)
    clear c4 d4 hz4 hW4
    go_wp2_with fail
    refine call_frx (w := w) (by repeat' (first | (with_reducible exact Below.refl _ _) | (with_reducible assumption) | (with_reducible refine bdn ?_) | (with_reducible refine Below.alloc ?_ ?_ _) | (with_reducible refine Below.drew ?_) | (with_reducible refine Below.setCell ?_ ?_ _) | omega | (simp <;> omega))) (fun HB => fadd_f ea b c y _ ⟨ib1, ib2⟩ ⟨ic1, ic2⟩ (gkeep HB hShape rfl) (gkeep HB hBound rfl) H_hy.out) ?_
    intro q5 r5 x5 w5 hb5 hz5 c5 d5 hW5
    have t5 := hb5.size
    try simp only [World.size_alloc] at hz5 c5 d5
    try simp only [World.size_drew] at hz5 c5 d5
    try simp only [World.size_setCell] at hz5 c5 d5
    try simp only [World.heap_drewN] at hz5 c5 d5
    have s5_0 : w.heap.size < w5.heap.size := by omega
    have o5_0 := fun j => c5 (w.heap.size) j (by omega)
    have f5_0 := fun j => d5 (w.heap.size) j (by omega)
    have s5_1 : w.heap.size + 1 < w5.heap.size := by omega
    have o5_1 := fun j => c5 (w.heap.size + 1) j (by omega)
    have f5_1 := fun j => d5 (w.heap.size + 1) j (by omega)
    have s5_2 : w.heap.size + 1 + 1 < w5.heap.size := by omega
    have o5_2 := fun j => c5 (w.heap.size + 1 + 1) j (by omega)
    have f5_2 := fun j => d5 (w.heap.size + 1 + 1) j (by omega)
    clear c5 d5 hz5 hW5
    go_wp2_with fail
    go_returns
    exact ⟨rfl, by repeat' (first | (with_reducible exact Below.refl _ _) | (with_reducible assumption) | (with_reducible refine bdn ?_) | (with_reducible refine Below.alloc ?_ ?_ _) | (with_reducible refine Below.drew ?_) | (with_reducible refine Below.setCell ?_ ?_ _) | omega | (simp <;> omega))⟩

set_option maxHeartbeats 4000000 in
theorem orders_0 (ea : Nat → Addr) (a c : Fr) (w : World) (ia : a.I) (ic : c.I) (hShape : w.cell? ⟨2, 0, none⟩ = some (.iface 87 (.pointer (some (ea 3))))) (hBound : w.cell? ⟨1, 0, none⟩ = some (.iface 87 (.pointer (some (ea 2))))) (hZero : w.cell? ⟨10, 0, none⟩ = some (.iface 87 (.pointer (some (ea 11))))) (htab : Lib.TabIs Tryd.prog w "internal/strconv.uint64pow10" .u64 Lib.pow10Tab) (h1 : bothC a.n a.d a.n a.d = 0) (hn : cmpI (a.n * a.d) (a.n * a.d) = 0) :
    Calls Tryd.prog 7 #[.agg #[.int .i64 a.n, .int .i64 a.d], .agg #[.int .i64 a.n, .int .i64 a.d], .agg #[.int .i64 c.n, .int .i64 c.d]] w fun e w' => e = .returned (.bool true) ∧ Below w.heap.size w w' := by
  have zhShape := zlt hShape
  have xhShape := zlts hShape
  have yhShape := zne hShape
  have zhBound := zlt hBound
  have xhBound := zlts hBound
  have yhBound := zne hBound
  have zhZero := zlt hZero
  have xhZero := zlts hZero
  have yhZero := zne hZero
  obtain ⟨ia1, ia2⟩ := ia
  obtain ⟨ic1, ic2⟩ := ic
  have h2 := h1
  have hm := hn
  have H_h1 := Lib.hid h1
  clear h1
  have H_h2 := Lib.hid h2
  clear h2
  have H_hn := Lib.hid hn
  clear hn
  have H_hm := Lib.hid hm
  clear hm
  go_enter Tryd.func7, Tryd.ntmps7
  go_wp2_with fail
  refine call_bel (w := w) (by repeat' (first | (with_reducible exact Below.refl _ _) | (with_reducible assumption) | (with_reducible refine bdn ?_) | (with_reducible refine Below.alloc ?_ ?_ _) | (with_reducible refine Below.drew ?_) | (with_reducible refine Below.setCell ?_ ?_ _) | omega | (simp <;> omega))) (fun HB => halved_any ea _ (gkeep HB hBound rfl) (gkeep HB hZero rfl) (tab_keep htab HB rfl)) ?_
  intro w1 hb1 hz1 c1 d1 hW1
  have t1 := hb1.size
  try simp only [World.size_alloc] at hz1 c1 d1
  try simp only [World.size_drew] at hz1 c1 d1
  try simp only [World.size_setCell] at hz1 c1 d1
  try simp only [World.heap_drewN] at hz1 c1 d1
  have s1_0 : w.heap.size < w1.heap.size := by omega
  have o1_0 := fun j => c1 (w.heap.size) j (by omega)
  have f1_0 := fun j => d1 (w.heap.size) j (by omega)
  have s1_1 : w.heap.size + 1 < w1.heap.size := by omega
  have o1_1 := fun j => c1 (w.heap.size + 1) j (by omega)
  have f1_1 := fun j => d1 (w.heap.size + 1) j (by omega)
  have s1_2 : w.heap.size + 1 + 1 < w1.heap.size := by omega
  have o1_2 := fun j => c1 (w.heap.size + 1 + 1) j (by omega)
  have f1_2 := fun j => d1 (w.heap.size + 1 + 1) j (by omega)
  clear c1 d1 hz1 hW1
  go_wp2_with fail
  refine call_bel (w := w) (by repeat' (first | (with_reducible exact Below.refl _ _) | (with_reducible assumption) | (with_reducible refine bdn ?_) | (with_reducible refine Below.alloc ?_ ?_ _) | (with_reducible refine Below.drew ?_) | (with_reducible refine Below.setCell ?_ ?_ _) | omega | (simp <;> omega))) (fun HB => fcmp_0 ea a.n a.d a.n a.d 0 _ ia1 ia2 ia1 ia2 (gkeep HB hShape rfl) (gkeep HB hBound rfl) H_h1.out H_hn.out) ?_
  intro w2 hb2 hz2 c2 d2 hW2
  have t2 := hb2.size
  try simp only [World.size_alloc] at hz2 c2 d2
  try simp only [World.size_drew] at hz2 c2 d2
  try simp only [World.size_setCell] at hz2 c2 d2
  try simp only [World.heap_drewN] at hz2 c2 d2
  have s2_0 : w.heap.size < w2.heap.size := by omega
  have o2_0 := fun j => c2 (w.heap.size) j (by omega)
  have f2_0 := fun j => d2 (w.heap.size) j (by omega)
  have s2_1 : w.heap.size + 1 < w2.heap.size := by omega
  have o2_1 := fun j => c2 (w.heap.size + 1) j (by omega)
  have f2_1 := fun j => d2 (w.heap.size + 1) j (by omega)
  have s2_2 : w.heap.size + 1 + 1 < w2.heap.size := by omega
  have o2_2 := fun j => c2 (w.heap.size + 1 + 1) j (by omega)
  have f2_2 := fun j => d2 (w.heap.size + 1 + 1) j (by omega)
  clear c2 d2 hz2 hW2
  go_wp2_with fail
  refine call_bel (w := w) (by repeat' (first | (with_reducible exact Below.refl _ _) | (with_reducible assumption) | (with_reducible refine bdn ?_) | (with_reducible refine Below.alloc ?_ ?_ _) | (with_reducible refine Below.drew ?_) | (with_reducible refine Below.setCell ?_ ?_ _) | omega | (simp <;> omega))) (fun HB => fcmp_0 ea a.n a.d a.n a.d 0 _ ia1 ia2 ia1 ia2 (gkeep HB hShape rfl) (gkeep HB hBound rfl) H_h2.out H_hm.out) ?_
  intro w3 hb3 hz3 c3 d3 hW3
  have t3 := hb3.size
  try simp only [World.size_alloc] at hz3 c3 d3
  try simp only [World.size_drew] at hz3 c3 d3
  try simp only [World.size_setCell] at hz3 c3 d3
  try simp only [World.heap_drewN] at hz3 c3 d3
  have s3_0 : w.heap.size < w3.heap.size := by omega
  have o3_0 := fun j => c3 (w.heap.size) j (by omega)
  have f3_0 := fun j => d3 (w.heap.size) j (by omega)
  have s3_1 : w.heap.size + 1 < w3.heap.size := by omega
  have o3_1 := fun j => c3 (w.heap.size + 1) j (by omega)
  have f3_1 := fun j => d3 (w.heap.size + 1) j (by omega)
  have s3_2 : w.heap.size + 1 + 1 < w3.heap.size := by omega
  have o3_2 := fun j => c3 (w.heap.size + 1 + 1) j (by omega)
  have f3_2 := fun j => d3 (w.heap.size + 1 + 1) j (by omega)
  clear c3 d3 hz3 hW3
  obtain ⟨x, hx⟩ : ∃ x, a.add c = x := ⟨_, rfl⟩
  obtain ⟨y, hy⟩ : ∃ y, a.add c = y := ⟨_, rfl⟩
  obtain ⟨p, hp⟩ : ∃ p, x.add a = p := ⟨_, rfl⟩
  obtain ⟨q, hq⟩ : ∃ q, a.add y = q := ⟨_, rfl⟩
  have H_hx := Lib.hid hx
  clear hx
  have H_hy := Lib.hid hy
  clear hy
  have H_hp := Lib.hid hp
  clear hp
  have H_hq := Lib.hid hq
  clear hq
  by_cases h3 : a.addK c = 0
  · have H_h3 := Lib.hid h3
    clear h3
    go_wp2_with fail
    refine call_fr0 (w := w) (by repeat' (first | (with_reducible exact Below.refl _ _) | (with_reducible assumption) | (with_reducible refine bdn ?_) | (with_reducible refine Below.alloc ?_ ?_ _) | (with_reducible refine Below.drew ?_) | (with_reducible refine Below.setCell ?_ ?_ _) | omega | (simp <;> omega))) (fun HB => fadd_f ea a c x _ ⟨ia1, ia2⟩ ⟨ic1, ic2⟩ (gkeep HB hShape rfl) (gkeep HB hBound rfl) H_hx.out) (H_h3.out) ?_
    intro w4 hb4 hz4 c4 d4 hW4
    have t4 := hb4.size
    try simp only [World.size_alloc] at hz4 c4 d4
    try simp only [World.size_drew] at hz4 c4 d4
    try simp only [World.size_setCell] at hz4 c4 d4
    try simp only [World.heap_drewN] at hz4 c4 d4
    have s4_0 : w.heap.size < w4.heap.size := by omega
    have o4_0 := fun j => c4 (w.heap.size) j (by omega)
    have f4_0 := fun j => d4 (w.heap.size) j (by omega)
    have s4_1 : w.heap.size + 1 < w4.heap.size := by omega
    have o4_1 := fun j => c4 (w.heap.size + 1) j (by omega)
    have f4_1 := fun j => d4 (w.heap.size + 1) j (by omega)
    have s4_2 : w.heap.size + 1 + 1 < w4.heap.size := by omega
    have o4_2 := fun j => c4 (w.heap.size + 1 + 1) j (by omega)
    have f4_2 := fun j => d4 (w.heap.size + 1 + 1) j (by omega)
    clear c4 d4 hz4 hW4
    by_cases h4 : a.addK c = 0
    · have rx : x.R := by rw [← H_hx.out]; exact addK_sum H_h3.out
      have ry : y.R := by rw [← H_hy.out]; exact addK_sum h4
      have rxi := rx.i
      have ryi := ry.i
      have hB6 := both_R rx ry
      have hc6 : cmpI (x.n * y.d) (y.n * x.d) = 0 := by
        rw [← H_hx.out, ← H_hy.out, ← H_hn.out]
        exact add_cmp (a := a) (b := a) (c := c) (addK_0 H_h3.out).1.d0 (addK_0 h4).1.d0 (addK_0 h4).2.1.d0
      have hpq : p = q := by
        rw [← H_hp.out, ← H_hq.out, ← H_hx.out, ← H_hy.out]
        exact add_assoc3 (a := a) (b := a) (c := c) (addK_0 H_h3.out).1.d0 (addK_0 h4).1.d0 (addK_0 h4).2.1.d0
      subst hpq
      have H_h4 := Lib.hid h4
      clear h4
      have H_rx := Lib.hid rx
      clear rx
      have H_ry := Lib.hid ry
      clear ry
      have H_hB6 := Lib.hid hB6
      clear hB6
      have H_hc6 := Lib.hid hc6
      clear hc6
      have H_rxi := Lib.hid rxi
      clear rxi
      have H_ryi := Lib.hid ryi
      clear ryi
      go_wp2_with fail
      refine call_fr0 (w := w) (by repeat' (first | (with_reducible exact Below.refl _ _) | (with_reducible assumption) | (with_reducible refine bdn ?_) | (with_reducible refine Below.alloc ?_ ?_ _) | (with_reducible refine Below.drew ?_) | (with_reducible refine Below.setCell ?_ ?_ _) | omega | (simp <;> omega))) (fun HB => fadd_f ea a c y _ ⟨ia1, ia2⟩ ⟨ic1, ic2⟩ (gkeep HB hShape rfl) (gkeep HB hBound rfl) H_hy.out) (H_h4.out) ?_
      intro w5 hb5 hz5 c5 d5 hW5
      have t5 := hb5.size
      try simp only [World.size_alloc] at hz5 c5 d5
      try simp only [World.size_drew] at hz5 c5 d5
      try simp only [World.size_setCell] at hz5 c5 d5
      try simp only [World.heap_drewN] at hz5 c5 d5
      have s5_0 : w.heap.size < w5.heap.size := by omega
      have o5_0 := fun j => c5 (w.heap.size) j (by omega)
      have f5_0 := fun j => d5 (w.heap.size) j (by omega)
      have s5_1 : w.heap.size + 1 < w5.heap.size := by omega
      have o5_1 := fun j => c5 (w.heap.size + 1) j (by omega)
      have f5_1 := fun j => d5 (w.heap.size + 1) j (by omega)
      have s5_2 : w.heap.size + 1 + 1 < w5.heap.size := by omega
      have o5_2 := fun j => c5 (w.heap.size + 1 + 1) j (by omega)
      have f5_2 := fun j => d5 (w.heap.size + 1 + 1) j (by omega)
      have s5_3 : w4.heap.size < w5.heap.size := by omega
      have o5_3 := fun j => c5 (w4.heap.size) j (by omega)
      have f5_3 := fun j => d5 (w4.heap.size) j (by omega)
      clear c5 d5 hz5 hW5
      go_wp2_with fail
      refine call_bel (w := w) (by repeat' (first | (with_reducible exact Below.refl _ _) | (with_reducible assumption) | (with_reducible refine bdn ?_) | (with_reducible refine Below.alloc ?_ ?_ _) | (with_reducible refine Below.drew ?_) | (with_reducible refine Below.setCell ?_ ?_ _) | omega | (simp <;> omega))) (fun HB => fcmp_0 ea x.n x.d y.n y.d 0 _ H_rxi.out.n H_rxi.out.d H_ryi.out.n H_ryi.out.d (gkeep HB hShape rfl) (gkeep HB hBound rfl) H_hB6.out H_hc6.out) ?_
      intro w6 hb6 hz6 c6 d6 hW6
      have t6 := hb6.size
      try simp only [World.size_alloc] at hz6 c6 d6
      try simp only [World.size_drew] at hz6 c6 d6
      try simp only [World.size_setCell] at hz6 c6 d6
      try simp only [World.heap_drewN] at hz6 c6 d6
      have s6_0 : w.heap.size < w6.heap.size := by omega
      have o6_0 := fun j => c6 (w.heap.size) j (by omega)
      have f6_0 := fun j => d6 (w.heap.size) j (by omega)
      have s6_1 : w.heap.size + 1 < w6.heap.size := by omega
      have o6_1 := fun j => c6 (w.heap.size + 1) j (by omega)
      have f6_1 := fun j => d6 (w.heap.size + 1) j (by omega)
      have s6_2 : w.heap.size + 1 + 1 < w6.heap.size := by omega
      have o6_2 := fun j => c6 (w.heap.size + 1 + 1) j (by omega)
      have f6_2 := fun j => d6 (w.heap.size + 1 + 1) j (by omega)
      have s6_3 : w4.heap.size < w6.heap.size := by omega
      have o6_3 := fun j => c6 (w4.heap.size) j (by omega)
      have f6_3 := fun j => d6 (w4.heap.size) j (by omega)
      have s6_4 : w5.heap.size < w6.heap.size := by omega
      have o6_4 := fun j => c6 (w5.heap.size) j (by omega)
      have f6_4 := fun j => d6 (w5.heap.size) j (by omega)
      clear c6 d6 hz6 hW6
      by_cases h7 : x.addK a = 0
      · have H_h7 := Lib.hid h7
        clear h7
        go_wp2_with fail
        refine call_fr0 (w := w) (by repeat' (first | (with_reducible exact Below.refl _ _) | (with_reducible assumption) | (with_reducible refine bdn ?_) | (with_reducible refine Below.alloc ?_ ?_ _) | (with_reducible refine Below.drew ?_) | (with_reducible refine Below.setCell ?_ ?_ _) | omega | (simp <;> omega))) (fun HB => fadd_f ea x a p _ H_rxi.out ⟨ia1, ia2⟩ (gkeep HB hShape rfl) (gkeep HB hBound rfl) H_hp.out) (H_h7.out) ?_
        intro w7 hb7 hz7 c7 d7 hW7
        have t7 := hb7.size
        try simp only [World.size_alloc] at hz7 c7 d7
        try simp only [World.size_drew] at hz7 c7 d7
        try simp only [World.size_setCell] at hz7 c7 d7
        try simp only [World.heap_drewN] at hz7 c7 d7
        have s7_0 : w.heap.size < w7.heap.size := by omega
        have o7_0 := fun j => c7 (w.heap.size) j (by omega)
        have f7_0 := fun j => d7 (w.heap.size) j (by omega)
        have s7_1 : w.heap.size + 1 < w7.heap.size := by omega
        have o7_1 := fun j => c7 (w.heap.size + 1) j (by omega)
        have f7_1 := fun j => d7 (w.heap.size + 1) j (by omega)
        have s7_2 : w.heap.size + 1 + 1 < w7.heap.size := by omega
        have o7_2 := fun j => c7 (w.heap.size + 1 + 1) j (by omega)
        have f7_2 := fun j => d7 (w.heap.size + 1 + 1) j (by omega)
        have s7_3 : w4.heap.size < w7.heap.size := by omega
        have o7_3 := fun j => c7 (w4.heap.size) j (by omega)
        have f7_3 := fun j => d7 (w4.heap.size) j (by omega)
        have s7_4 : w5.heap.size < w7.heap.size := by omega
        have o7_4 := fun j => c7 (w5.heap.size) j (by omega)
        have f7_4 := fun j => d7 (w5.heap.size) j (by omega)
        clear c7 d7 hz7 hW7
        by_cases h8 : a.addK y = 0
        · have H_h8 := Lib.hid h8
          clear h8
          go_wp2_with fail
          refine call_fr0 (w := w) (by repeat' (first | (with_reducible exact Below.refl _ _) | (with_reducible assumption) | (with_reducible refine bdn ?_) | (with_reducible refine Below.alloc ?_ ?_ _) | (with_reducible refine Below.drew ?_) | (with_reducible refine Below.setCell ?_ ?_ _) | omega | (simp <;> omega))) (fun HB => fadd_f ea a y p _ ⟨ia1, ia2⟩ H_ryi.out (gkeep HB hShape rfl) (gkeep HB hBound rfl) H_hq.out) (H_h8.out) ?_
          intro w8 hb8 hz8 c8 d8 hW8
          have t8 := hb8.size
          try simp only [World.size_alloc] at hz8 c8 d8
          try simp only [World.size_drew] at hz8 c8 d8
          try simp only [World.size_setCell] at hz8 c8 d8
          try simp only [World.heap_drewN] at hz8 c8 d8
          have s8_0 : w.heap.size < w8.heap.size := by omega
          have o8_0 := fun j => c8 (w.heap.size) j (by omega)
          have f8_0 := fun j => d8 (w.heap.size) j (by omega)
          have s8_1 : w.heap.size + 1 < w8.heap.size := by omega
          have o8_1 := fun j => c8 (w.heap.size + 1) j (by omega)
          have f8_1 := fun j => d8 (w.heap.size + 1) j (by omega)
          have s8_2 : w.heap.size + 1 + 1 < w8.heap.size := by omega
          have o8_2 := fun j => c8 (w.heap.size + 1 + 1) j (by omega)
          have f8_2 := fun j => d8 (w.heap.size + 1 + 1) j (by omega)
          have s8_3 : w7.heap.size < w8.heap.size := by omega
          have o8_3 := fun j => c8 (w7.heap.size) j (by omega)
          have f8_3 := fun j => d8 (w7.heap.size) j (by omega)
          clear c8 d8 hz8 hW8
          go_wp2_with fail
          go_returns
          exact ⟨rfl, by repeat' (first | (with_reducible exact Below.refl _ _) | (with_reducible assumption) | (with_reducible refine bdn ?_) | (with_reducible refine Below.alloc ?_ ?_ _) | (with_reducible refine Below.drew ?_) | (with_reducible refine Below.setCell ?_ ?_ _) | omega | (simp <;> omega))⟩
        · have H_h8 := Lib.hid h8
          clear h8
          go_wp2_with fail
          refine call_frn (w := w) (by repeat' (first | (with_reducible exact Below.refl _ _) | (with_reducible assumption) | (with_reducible refine bdn ?_) | (with_reducible refine Below.alloc ?_ ?_ _) | (with_reducible refine Below.drew ?_) | (with_reducible refine Below.setCell ?_ ?_ _) | omega | (simp <;> omega))) (fun HB => fadd_f ea a y p _ ⟨ia1, ia2⟩ H_ryi.out (gkeep HB hShape rfl) (gkeep HB hBound rfl) H_hq.out) (H_h8.out) ?_
          intro w8 hb8 hz8 c8 d8 hW8
          have t8 := hb8.size
          try simp only [World.size_alloc] at hz8 c8 d8
          try simp only [World.size_drew] at hz8 c8 d8
          try simp only [World.size_setCell] at hz8 c8 d8
          try simp only [World.heap_drewN] at hz8 c8 d8
          have s8_0 : w.heap.size < w8.heap.size := by omega
          have o8_0 := fun j => c8 (w.heap.size) j (by omega)
          have f8_0 := fun j => d8 (w.heap.size) j (by omega)
          have s8_1 : w.heap.size + 1 < w8.heap.size := by omega
          have o8_1 := fun j => c8 (w.heap.size + 1) j (by omega)
          have f8_1 := fun j => d8 (w.heap.size + 1) j (by omega)
          have s8_2 : w.heap.size + 1 + 1 < w8.heap.size := by omega
          have o8_2 := fun j => c8 (w.heap.size + 1 + 1) j (by omega)
          have f8_2 := fun j => d8 (w.heap.size + 1 + 1) j (by omega)
          have s8_3 : w7.heap.size < w8.heap.size := by omega
          have o8_3 := fun j => c8 (w7.heap.size) j (by omega)
          have f8_3 := fun j => d8 (w7.heap.size) j (by omega)
          clear c8 d8 hz8 hW8
          go_wp2_with fail
          go_returns
          exact ⟨rfl, by repeat' (first | (with_reducible exact Below.refl _ _) | (with_reducible assumption) | (with_reducible refine bdn ?_) | (with_reducible refine Below.alloc ?_ ?_ _) | (with_reducible refine Below.drew ?_) | (with_reducible refine Below.setCell ?_ ?_ _) | omega | (simp <;> omega))⟩
      · have H_h7 := Lib.hid h7
        clear h7
        go_wp2_with fail
        refine call_frn (w := w) (by repeat' (first | (with_reducible exact Below.refl _ _) | (with_reducible assumption) | (with_reducible refine bdn ?_) | (with_reducible refine Below.alloc ?_ ?_ _) | (with_reducible refine Below.drew ?_) | (with_reducible refine Below.setCell ?_ ?_ _) | omega | (simp <;> omega))) (fun HB => fadd_f ea x a p _ H_rxi.out ⟨ia1, ia2⟩ (gkeep HB hShape rfl) (gkeep HB hBound rfl) H_hp.out) (H_h7.out) ?_
        intro w7 hb7 hz7 c7 d7 hW7
        have t7 := hb7.size
        try simp only [World.size_alloc] at hz7 c7 d7
        try simp only [World.size_drew] at hz7 c7 d7
        try simp only [World.size_setCell] at hz7 c7 d7
        try simp only [World.heap_drewN] at hz7 c7 d7
        have s7_0 : w.heap.size < w7.heap.size := by omega
        have o7_0 := fun j => c7 (w.heap.size) j (by omega)
        have f7_0 := fun j => d7 (w.heap.size) j (by omega)
        have s7_1 : w.heap.size + 1 < w7.heap.size := by omega
        have o7_1 := fun j => c7 (w.heap.size + 1) j (by omega)
        have f7_1 := fun j => d7 (w.heap.size + 1) j (by omega)
        have s7_2 : w.heap.size + 1 + 1 < w7.heap.size := by omega
        have o7_2 := fun j => c7 (w.heap.size + 1 + 1) j (by omega)
        have f7_2 := fun j => d7 (w.heap.size + 1 + 1) j (by omega)
        have s7_3 : w4.heap.size < w7.heap.size := by omega
        have o7_3 := fun j => c7 (w4.heap.size) j (by omega)
        have f7_3 := fun j => d7 (w4.heap.size) j (by omega)
        have s7_4 : w5.heap.size < w7.heap.size := by omega
        have o7_4 := fun j => c7 (w5.heap.size) j (by omega)
        have f7_4 := fun j => d7 (w5.heap.size) j (by omega)
        clear c7 d7 hz7 hW7
        go_wp2_with fail
        refine call_frx (w := w) (by repeat' (first | (with_reducible exact Below.refl _ _) | (with_reducible assumption) | (with_reducible refine bdn ?_) | (with_reducible refine Below.alloc ?_ ?_ _) | (with_reducible refine Below.drew ?_) | (with_reducible refine Below.setCell ?_ ?_ _) | omega | (simp <;> omega))) (fun HB => fadd_f ea a y p _ ⟨ia1, ia2⟩ H_ryi.out (gkeep HB hShape rfl) (gkeep HB hBound rfl) H_hq.out) ?_
        intro q8 r8 x8 w8 hb8 hz8 c8 d8 hW8
        have t8 := hb8.size
        try simp only [World.size_alloc] at hz8 c8 d8
        try simp only [World.size_drew] at hz8 c8 d8
        try simp only [World.size_setCell] at hz8 c8 d8
        try simp only [World.heap_drewN] at hz8 c8 d8
        have s8_0 : w.heap.size < w8.heap.size := by omega
        have o8_0 := fun j => c8 (w.heap.size) j (by omega)
        have f8_0 := fun j => d8 (w.heap.size) j (by omega)
        have s8_1 : w.heap.size + 1 < w8.heap.size := by omega
        have o8_1 := fun j => c8 (w.heap.size + 1) j (by omega)
        have f8_1 := fun j => d8 (w.heap.size + 1) j (by omega)
        have s8_2 : w.heap.size + 1 + 1 < w8.heap.size := by omega
        have o8_2 := fun j => c8 (w.heap.size + 1 + 1) j (by omega)
        have f8_2 := fun j => d8 (w.heap.size + 1 + 1) j (by omega)
        have s8_3 : w7.heap.size < w8.heap.size := by omega
        have o8_3 := fun j => c8 (w7.heap.size) j (by omega)
        have f8_3 := fun j => d8 (w7.heap.size) j (by omega)
        clear c8 d8 hz8 hW8
        go_wp2_with fail
        go_returns
        exact ⟨rfl, by repeat' (first | (with_reducible exact Below.refl _ _) | (with_reducible assumption) | (with_reducible refine bdn ?_) | (with_reducible refine Below.alloc ?_ ?_ _) | (with_reducible refine Below.drew ?_) | (with_reducible refine Below.setCell ?_ ?_ _) | omega | (simp <;> omega))⟩
    · have H_h4 := Lib.hid h4
      clear h4
      go_wp2_with fail
      refine call_frn (w := w) (by repeat' (first | (with_reducible exact Below.refl _ _) | (with_reducible assumption) | (with_reducible refine bdn ?_) | (with_reducible refine Below.alloc ?_ ?_ _) | (with_reducible refine Below.drew ?_) | (with_reducible refine Below.setCell ?_ ?_ _) | omega | (simp <;> omega))) (fun HB => fadd_f ea a c y _ ⟨ia1, ia2⟩ ⟨ic1, ic2⟩ (gkeep HB hShape rfl) (gkeep HB hBound rfl) H_hy.out) (H_h4.out) ?_
      intro w5 hb5 hz5 c5 d5 hW5
      have t5 := hb5.size
      try simp only [World.size_alloc] at hz5 c5 d5
      try simp only [World.size_drew] at hz5 c5 d5
      try simp only [World.size_setCell] at hz5 c5 d5
      try simp only [World.heap_drewN] at hz5 c5 d5
      have s5_0 : w.heap.size < w5.heap.size := by omega
      have o5_0 := fun j => c5 (w.heap.size) j (by omega)
      have f5_0 := fun j => d5 (w.heap.size) j (by omega)
      have s5_1 : w.heap.size + 1 < w5.heap.size := by omega
      have o5_1 := fun j => c5 (w.heap.size + 1) j (by omega)
      have f5_1 := fun j => d5 (w.heap.size + 1) j (by omega)
      have s5_2 : w.heap.size + 1 + 1 < w5.heap.size := by omega
      have o5_2 := fun j => c5 (w.heap.size + 1 + 1) j (by omega)
      have f5_2 := fun j => d5 (w.heap.size + 1 + 1) j (by omega)
      have s5_3 : w4.heap.size < w5.heap.size := by omega
      have o5_3 := fun j => c5 (w4.heap.size) j (by omega)
      have f5_3 := fun j => d5 (w4.heap.size) j (by omega)
      clear c5 d5 hz5 hW5
      go_wp2_with fail
      go_returns
      exact ⟨rfl, by repeat' (first | (with_reducible exact Below.refl _ _) | (with_reducible assumption) | (with_reducible refine bdn ?_) | (with_reducible refine Below.alloc ?_ ?_ _) | (with_reducible refine Below.drew ?_) | (with_reducible refine Below.setCell ?_ ?_ _) | omega | (simp <;> omega))⟩
  · have H_h3 := Lib.hid h3
    clear h3
    go_wp2_with fail
    refine call_frn (w := w) (by repeat' (first | (with_reducible exact Below.refl _ _) | (with_reducible assumption) | (with_reducible refine bdn ?_) | (with_reducible refine Below.alloc ?_ ?_ _) | (with_reducible refine Below.drew ?_) | (with_reducible refine Below.setCell ?_ ?_ _) | omega | (simp <;> omega))) (fun HB => fadd_f ea a c x _ ⟨ia1, ia2⟩ ⟨ic1, ic2⟩ (gkeep HB hShape rfl) (gkeep HB hBound rfl) H_hx.out) (H_h3.out) ?_
    intro w4 hb4 hz4 c4 d4 hW4
    have t4 := hb4.size
    try simp only [World.size_alloc] at hz4 c4 d4
    try simp only [World.size_drew] at hz4 c4 d4
    try simp only [World.size_setCell] at hz4 c4 d4
    try simp only [World.heap_drewN] at hz4 c4 d4
    have s4_0 : w.heap.size < w4.heap.size := by omega
    have o4_0 := fun j => c4 (w.heap.size) j (by omega)
    have f4_0 := fun j => d4 (w.heap.size) j (by omega)
    have s4_1 : w.heap.size + 1 < w4.heap.size := by omega
    have o4_1 := fun j => c4 (w.heap.size + 1) j (by omega)
    have f4_1 := fun j => d4 (w.heap.size + 1) j (by omega)
    have s4_2 : w.heap.size + 1 + 1 < w4.heap.size := by omega
    have o4_2 := fun j => c4 (w.heap.size + 1 + 1) j (by omega)
    have f4_2 := fun j => d4 (w.heap.size + 1 + 1) j (by omega)
    clear c4 d4 hz4 hW4
    go_wp2_with fail
    refine call_frx (w := w) (by repeat' (first | (with_reducible exact Below.refl _ _) | (with_reducible assumption) | (with_reducible refine bdn ?_) | (with_reducible refine Below.alloc ?_ ?_ _) | (with_reducible refine Below.drew ?_) | (with_reducible refine Below.setCell ?_ ?_ _) | omega | (simp <;> omega))) (fun HB => fadd_f ea a c y _ ⟨ia1, ia2⟩ ⟨ic1, ic2⟩ (gkeep HB hShape rfl) (gkeep HB hBound rfl) H_hy.out) ?_
    intro q5 r5 x5 w5 hb5 hz5 c5 d5 hW5
    have t5 := hb5.size
    try simp only [World.size_alloc] at hz5 c5 d5
    try simp only [World.size_drew] at hz5 c5 d5
    try simp only [World.size_setCell] at hz5 c5 d5
    try simp only [World.heap_drewN] at hz5 c5 d5
    have s5_0 : w.heap.size < w5.heap.size := by omega
    have o5_0 := fun j => c5 (w.heap.size) j (by omega)
    have f5_0 := fun j => d5 (w.heap.size) j (by omega)
    have s5_1 : w.heap.size + 1 < w5.heap.size := by omega
    have o5_1 := fun j => c5 (w.heap.size + 1) j (by omega)
    have f5_1 := fun j => d5 (w.heap.size + 1) j (by omega)
    have s5_2 : w.heap.size + 1 + 1 < w5.heap.size := by omega
    have o5_2 := fun j => c5 (w.heap.size + 1 + 1) j (by omega)
    have f5_2 := fun j => d5 (w.heap.size + 1 + 1) j (by omega)
    clear c5 d5 hz5 hW5
    go_wp2_with fail
    go_returns
    exact ⟨rfl, by repeat' (first | (with_reducible exact Below.refl _ _) | (with_reducible assumption) | (with_reducible refine bdn ?_) | (with_reducible refine Below.alloc ?_ ?_ _) | (with_reducible refine Below.drew ?_) | (with_reducible refine Below.setCell ?_ ?_ _) | omega | (simp <;> omega))⟩

theorem orders_any (ea : Nat → Addr) (a b c : Fr) (w : World) (ia : a.I) (ib : b.I) (ic : c.I) (hShape : w.cell? ⟨2, 0, none⟩ = some (.iface 87 (.pointer (some (ea 3))))) (hBound : w.cell? ⟨1, 0, none⟩ = some (.iface 87 (.pointer (some (ea 2))))) (hZero : w.cell? ⟨10, 0, none⟩ = some (.iface 87 (.pointer (some (ea 11))))) (htab : Lib.TabIs Tryd.prog w "internal/strconv.uint64pow10" .u64 Lib.pow10Tab) :
    Calls Tryd.prog 7 #[.agg #[.int .i64 a.n, .int .i64 a.d], .agg #[.int .i64 b.n, .int .i64 b.d], .agg #[.int .i64 c.n, .int .i64 c.d]] w fun e w' => e = .returned (.bool true) ∧ Below w.heap.size w w' := by
  have hsw : bothC b.n b.d a.n a.d = 0 ↔ bothC a.n a.d b.n b.d = 0 := by
    constructor <;> intro h <;> exact both_R (bothC_0 h).2 (bothC_0 h).1
  by_cases h1 : bothC a.n a.d b.n b.d = 0
  · have h2 := hsw.2 h1
    obtain ⟨ra, rb⟩ := bothC_0 h1
    by_cases hab : a.n = b.n ∧ a.d = b.d
    · obtain ⟨an, ad⟩ := a
      obtain ⟨bn, bd⟩ := b
      obtain ⟨rfl, rfl⟩ := hab
      exact orders_0 ea ⟨an, ad⟩ c w ia ic hShape hBound hZero htab h1 (cmpI_0.2 rfl)
    · have hanti := cmpI_anti (a.n * b.d) (b.n * a.d)
      have hbd : -1 ≤ cmpI (a.n * b.d) (b.n * a.d) ∧ cmpI (a.n * b.d) (b.n * a.d) ≤ 1 := by
        rcases cmpI_cases (a.n * b.d) (b.n * a.d) with ⟨_, e⟩ | ⟨_, e⟩ | ⟨_, e⟩ <;> omega
      have hw : wrap64 (-cmpI (b.n * a.d) (a.n * b.d)) = cmpI (a.n * b.d) (b.n * a.d) := by
        rw [hanti, Int.neg_neg]; exact wrap_60 (by omega)
      have hz : (cmpI (a.n * b.d) (b.n * a.d) == 0) = false := by
        rw [beq_eq_false_iff_ne]
        intro h0
        exact hab ((fr_eq ra rb).1 h0)
      by_cases hnn : a.n = b.n
      · exact orders_2 ea a b c w ia ib ic hShape hBound hZero htab h1 h2 _ _ rfl rfl hw hz (fun h => hab ⟨hnn, h⟩)
      · exact orders_1 ea a b c w ia ib ic hShape hBound hZero htab h1 h2 _ _ rfl rfl hw hz hnn
  · exact orders_e ea a b c w ia ib ic hShape hBound hZero htab h1 (fun h => h1 (hsw.1 h))
end Go.Proofs.YthpicnajemnfdaaDoor
