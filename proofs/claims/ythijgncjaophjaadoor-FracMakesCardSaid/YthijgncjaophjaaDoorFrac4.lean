/-
  Walks over package frac: Add, Sub, Mul, Div, Cmp.
-/
import Derived.Test.YthijgncjaophjaaDoorFrac3
namespace Go.Proofs.YthijgncjaophjaaDoor
open Go.RowKit Lead

theorem fboth_0 (ea : Nat → Addr) (n d n' d' : Int) (w : World) (hn : I64 n) (hd : I64 d) (hn' : I64 n') (hd' : I64 d') (hShape : w.cell? ⟨5, 0, none⟩ = some (.iface 312 (.pointer (some (ea 3))))) (hBound : w.cell? ⟨1, 0, none⟩ = some (.iface 312 (.pointer (some (ea 2))))) (h : bothC n d n' d' = 0) :
    Calls Tryd.prog 97 #[.agg #[.int .i64 n, .int .i64 d], .agg #[.int .i64 n', .int .i64 d']] w fun e w' => e = .returned .nilIface ∧ Below w.heap.size w w' :=
  (fboth_any ea n d n' d' w hn hd hn' hd' hShape hBound).mono fun e w' ⟨h1, h2⟩ => ⟨by rw [h1]; exact congrArg Ending.returned (evl_0 h), h2⟩
theorem fboth_n (ea : Nat → Addr) (n d n' d' : Int) (w : World) (hn : I64 n) (hd : I64 d) (hn' : I64 n') (hd' : I64 d') (hShape : w.cell? ⟨5, 0, none⟩ = some (.iface 312 (.pointer (some (ea 3))))) (hBound : w.cell? ⟨1, 0, none⟩ = some (.iface 312 (.pointer (some (ea 2))))) (h : bothC n d n' d' ≠ 0) :
    Calls Tryd.prog 97 #[.agg #[.int .i64 n, .int .i64 d], .agg #[.int .i64 n', .int .i64 d']] w fun e w' => e = .returned (.iface 312 (.pointer (some (ea (bothC n d n' d'))))) ∧ Below w.heap.size w w' :=
  (fboth_any ea n d n' d' w hn hd hn' hd' hShape hBound).mono fun e w' ⟨h1, h2⟩ => ⟨by rw [h1]; exact congrArg Ending.returned (evl_n h), h2⟩

theorem flowest_0 (ea : Nat → Addr) (n d : Int) (w : World) (hn : B62 n) (hd : B62 d) (h0 : d ≠ 0) (hBound : w.cell? ⟨1, 0, none⟩ = some (.iface 312 (.pointer (some (ea 2))))) (h : lowC n d = 0) :
    Calls Tryd.prog 86 #[.int .i64 n, .int .i64 d] w fun e w' => e = .returned (.tuple #[.agg #[.int .i64 (lowN n d), .int .i64 (lowD n d)], .nilIface]) ∧ Below w.heap.size w w' :=
  (flowest_any ea n d w hn hd h0 hBound).mono fun e w' ⟨h1, h2⟩ => ⟨by rw [h1, frV_0 h], h2⟩
theorem flowest_n (ea : Nat → Addr) (n d : Int) (w : World) (hn : B62 n) (hd : B62 d) (h0 : d ≠ 0) (hBound : w.cell? ⟨1, 0, none⟩ = some (.iface 312 (.pointer (some (ea 2))))) (h : lowC n d = 2) :
    Calls Tryd.prog 86 #[.int .i64 n, .int .i64 d] w fun e w' => e = .returned (.tuple #[.agg #[.int .i64 0, .int .i64 0], .iface 312 (.pointer (some (ea 2)))]) ∧ Below w.heap.size w w' :=
  (flowest_any ea n d w hn hd h0 hBound).mono fun e w' ⟨h1, h2⟩ => ⟨by rw [h1, frV_n (by omega), h], h2⟩

set_option maxHeartbeats 400000 in
theorem fadd_any (ea : Nat → Addr) (n d n' d' x y : Int) (w : World) (hn : I64 n) (hd : I64 d) (hn' : I64 n') (hd' : I64 d') (hShape : w.cell? ⟨5, 0, none⟩ = some (.iface 312 (.pointer (some (ea 3))))) (hBound : w.cell? ⟨1, 0, none⟩ = some (.iface 312 (.pointer (some (ea 2))))) (hx : n * d' + n' * d = x) (hy : d * d' = y) :
    Calls Tryd.prog 135 #[.agg #[.int .i64 n, .int .i64 d], .agg #[.int .i64 n', .int .i64 d']] w fun e w' =>
      e = .returned (frV 312 ea (opC n d n' d' x y) (lowN x y) (lowD x y)) ∧ Below w.heap.size w w' := by
  have zhShape := zlt hShape
  have xhShape := zlts hShape
  have yhShape := zne hShape
  have zhBound := zlt hBound
  have xhBound := zlts hBound
  have yhBound := zne hBound
  rcases opC_cases n d n' d' x y with ⟨h1, hc⟩ | ⟨h1, hc⟩
  · have H_hc := Lib.hid hc
    clear hc
    have H_hx := Lib.hid hx
    clear hx
    have H_hy := Lib.hid hy
    clear hy
    go_enter Tryd.func135, Tryd.ntmps135
    go_wp2_with fail
    refine call_below (w := w) (by repeat' (first | (with_reducible exact Below.refl _ _) | (with_reducible assumption) | (with_reducible refine bdn ?_) | (with_reducible refine Below.alloc ?_ ?_ _) | (with_reducible refine Below.drew ?_) | (with_reducible refine Below.setCell ?_ ?_ _) | omega | (simp <;> omega))) (fun HB => fboth_n ea n d n' d' _ hn hd hn' hd' (gkeep HB hShape rfl) (gkeep HB hBound rfl) h1) ?_
    intro w1 hb1 hz1 c1 d1
    have t1 := hb1.size
    have hBound_1 := gkeep hb1 hBound rfl
    have zhBound_1 := zlt hBound_1
    have xhBound_1 := zlts hBound_1
    have yhBound_1 := zne hBound_1
    try simp only [World.size_alloc] at hz1 c1 d1
    try simp only [World.size_drew] at hz1 c1 d1
    try simp only [World.size_setCell] at hz1 c1 d1
    try simp only [World.heap_drewN] at hz1 c1 d1
    have s1_0 : w.heap.size + 1 + 1 < w1.heap.size := by omega
    have o1_0 := fun j => c1 (w.heap.size + 1 + 1) j (by omega)
    have f1_0 := fun j => d1 (w.heap.size + 1 + 1) j (by omega)
    clear c1 d1 hz1
    go_wp2_with fail
    refine bodyPost_ret (by simp [results, Tryd.results135, go_sem, *]; try rfl) rfl ?_
    exact ⟨by rw [H_hc.out, frV_n h1], by repeat' (first | (with_reducible exact Below.refl _ _) | (with_reducible assumption) | (with_reducible refine bdn ?_) | (with_reducible refine Below.alloc ?_ ?_ _) | (with_reducible refine Below.drew ?_) | (with_reducible refine Below.setCell ?_ ?_ _) | omega | (simp <;> omega))⟩
  · obtain ⟨s1, s2⟩ := bothC_0 h1
    obtain ⟨p1, p2, e1, e2, e3, e4, H1, H2, H3⟩ := add_facts s1 s2; replace e3 := e3.trans hx; replace e4 := e4.trans hy
    rw [hx] at H1
    rw [hy] at H2 H3
    have H_H3 := Lib.hid H3
    clear H3 s1 s2
    rcases lowC_cases x y with ⟨_, hl⟩ | ⟨_, _, hl⟩ | ⟨_, _, hl⟩
    · have H_h1 := Lib.hid h1
      clear h1
      have H_hc := Lib.hid hc
      clear hc
      have H_hx := Lib.hid hx
      clear hx
      have H_hy := Lib.hid hy
      clear hy
      have H_hl := Lib.hid hl
      clear hl
      go_enter Tryd.func135, Tryd.ntmps135
      go_wp2_with fail
      refine call_below (w := w) (by repeat' (first | (with_reducible exact Below.refl _ _) | (with_reducible assumption) | (with_reducible refine bdn ?_) | (with_reducible refine Below.alloc ?_ ?_ _) | (with_reducible refine Below.drew ?_) | (with_reducible refine Below.setCell ?_ ?_ _) | omega | (simp <;> omega))) (fun HB => fboth_0 ea n d n' d' _ hn hd hn' hd' (gkeep HB hShape rfl) (gkeep HB hBound rfl) H_h1.out) ?_
      intro w1 hb1 hz1 c1 d1
      have t1 := hb1.size
      have hBound_1 := gkeep hb1 hBound rfl
      have zhBound_1 := zlt hBound_1
      have xhBound_1 := zlts hBound_1
      have yhBound_1 := zne hBound_1
      try simp only [World.size_alloc] at hz1 c1 d1
      try simp only [World.size_drew] at hz1 c1 d1
      try simp only [World.size_setCell] at hz1 c1 d1
      try simp only [World.heap_drewN] at hz1 c1 d1
      have s1_0 : w.heap.size < w1.heap.size := by omega
      have o1_0 := fun j => c1 (w.heap.size) j (by omega)
      have f1_0 := fun j => d1 (w.heap.size) j (by omega)
      have s1_1 : w.heap.size + 1 < w1.heap.size := by omega
      have o1_1 := fun j => c1 (w.heap.size + 1) j (by omega)
      have f1_1 := fun j => d1 (w.heap.size + 1) j (by omega)
      have s1_2 : w.heap.size + 1 + 1 < w1.heap.size := by omega
      have o1_2 := fun j => c1 (w.heap.size + 1 + 1) j (by omega)
      have f1_2 := fun j => d1 (w.heap.size + 1 + 1) j (by omega)
      clear c1 d1 hz1
      go_wp2_with fail
      refine call_below (w := w) (by repeat' (first | (with_reducible exact Below.refl _ _) | (with_reducible assumption) | (with_reducible refine bdn ?_) | (with_reducible refine Below.alloc ?_ ?_ _) | (with_reducible refine Below.drew ?_) | (with_reducible refine Below.setCell ?_ ?_ _) | omega | (simp <;> omega))) (fun HB => flowest_n ea _ _ _ H1 H2 H_H3.out (gkeep HB hBound rfl) H_hl.out) ?_
      intro w2 hb2 hz2 c2 d2
      have t2 := hb2.size
      have hBound_2 := gkeep hb2 hBound rfl
      have zhBound_2 := zlt hBound_2
      have xhBound_2 := zlts hBound_2
      have yhBound_2 := zne hBound_2
      try simp only [World.size_alloc] at hz2 c2 d2
      try simp only [World.size_drew] at hz2 c2 d2
      try simp only [World.size_setCell] at hz2 c2 d2
      try simp only [World.heap_drewN] at hz2 c2 d2
      have s2_0 : w.heap.size + 1 + 1 < w2.heap.size := by omega
      have o2_0 := fun j => c2 (w.heap.size + 1 + 1) j (by omega)
      have f2_0 := fun j => d2 (w.heap.size + 1 + 1) j (by omega)
      clear c2 d2 hz2
      go_wp2_with fail
      refine bodyPost_ret (by simp [results, Tryd.results135, go_sem, *]; try rfl) rfl ?_
      exact ⟨by rw [H_hc.out, H_hl.out, frV_n (by decide)], by repeat' (first | (with_reducible exact Below.refl _ _) | (with_reducible assumption) | (with_reducible refine bdn ?_) | (with_reducible refine Below.alloc ?_ ?_ _) | (with_reducible refine Below.drew ?_) | (with_reducible refine Below.setCell ?_ ?_ _) | omega | (simp <;> omega))⟩
    · have H_h1 := Lib.hid h1
      clear h1
      have H_hc := Lib.hid hc
      clear hc
      have H_hx := Lib.hid hx
      clear hx
      have H_hy := Lib.hid hy
      clear hy
      have H_hl := Lib.hid hl
      clear hl
      go_enter Tryd.func135, Tryd.ntmps135
      go_wp2_with fail
      refine call_below (w := w) (by repeat' (first | (with_reducible exact Below.refl _ _) | (with_reducible assumption) | (with_reducible refine bdn ?_) | (with_reducible refine Below.alloc ?_ ?_ _) | (with_reducible refine Below.drew ?_) | (with_reducible refine Below.setCell ?_ ?_ _) | omega | (simp <;> omega))) (fun HB => fboth_0 ea n d n' d' _ hn hd hn' hd' (gkeep HB hShape rfl) (gkeep HB hBound rfl) H_h1.out) ?_
      intro w1 hb1 hz1 c1 d1
      have t1 := hb1.size
      have hBound_1 := gkeep hb1 hBound rfl
      have zhBound_1 := zlt hBound_1
      have xhBound_1 := zlts hBound_1
      have yhBound_1 := zne hBound_1
      try simp only [World.size_alloc] at hz1 c1 d1
      try simp only [World.size_drew] at hz1 c1 d1
      try simp only [World.size_setCell] at hz1 c1 d1
      try simp only [World.heap_drewN] at hz1 c1 d1
      have s1_0 : w.heap.size < w1.heap.size := by omega
      have o1_0 := fun j => c1 (w.heap.size) j (by omega)
      have f1_0 := fun j => d1 (w.heap.size) j (by omega)
      have s1_1 : w.heap.size + 1 < w1.heap.size := by omega
      have o1_1 := fun j => c1 (w.heap.size + 1) j (by omega)
      have f1_1 := fun j => d1 (w.heap.size + 1) j (by omega)
      have s1_2 : w.heap.size + 1 + 1 < w1.heap.size := by omega
      have o1_2 := fun j => c1 (w.heap.size + 1 + 1) j (by omega)
      have f1_2 := fun j => d1 (w.heap.size + 1 + 1) j (by omega)
      clear c1 d1 hz1
      go_wp2_with fail
      refine call_below (w := w) (by repeat' (first | (with_reducible exact Below.refl _ _) | (with_reducible assumption) | (with_reducible refine bdn ?_) | (with_reducible refine Below.alloc ?_ ?_ _) | (with_reducible refine Below.drew ?_) | (with_reducible refine Below.setCell ?_ ?_ _) | omega | (simp <;> omega))) (fun HB => flowest_n ea _ _ _ H1 H2 H_H3.out (gkeep HB hBound rfl) H_hl.out) ?_
      intro w2 hb2 hz2 c2 d2
      have t2 := hb2.size
      have hBound_2 := gkeep hb2 hBound rfl
      have zhBound_2 := zlt hBound_2
      have xhBound_2 := zlts hBound_2
      have yhBound_2 := zne hBound_2
      try simp only [World.size_alloc] at hz2 c2 d2
      try simp only [World.size_drew] at hz2 c2 d2
      try simp only [World.size_setCell] at hz2 c2 d2
      try simp only [World.heap_drewN] at hz2 c2 d2
      have s2_0 : w.heap.size + 1 + 1 < w2.heap.size := by omega
      have o2_0 := fun j => c2 (w.heap.size + 1 + 1) j (by omega)
      have f2_0 := fun j => d2 (w.heap.size + 1 + 1) j (by omega)
      clear c2 d2 hz2
      go_wp2_with fail
      refine bodyPost_ret (by simp [results, Tryd.results135, go_sem, *]; try rfl) rfl ?_
      exact ⟨by rw [H_hc.out, H_hl.out, frV_n (by decide)], by repeat' (first | (with_reducible exact Below.refl _ _) | (with_reducible assumption) | (with_reducible refine bdn ?_) | (with_reducible refine Below.alloc ?_ ?_ _) | (with_reducible refine Below.drew ?_) | (with_reducible refine Below.setCell ?_ ?_ _) | omega | (simp <;> omega))⟩
    · have H_h1 := Lib.hid h1
      clear h1
      have H_hc := Lib.hid hc
      clear hc
      have H_hx := Lib.hid hx
      clear hx
      have H_hy := Lib.hid hy
      clear hy
      have H_hl := Lib.hid hl
      clear hl
      go_enter Tryd.func135, Tryd.ntmps135
      go_wp2_with fail
      refine call_below (w := w) (by repeat' (first | (with_reducible exact Below.refl _ _) | (with_reducible assumption) | (with_reducible refine bdn ?_) | (with_reducible refine Below.alloc ?_ ?_ _) | (with_reducible refine Below.drew ?_) | (with_reducible refine Below.setCell ?_ ?_ _) | omega | (simp <;> omega))) (fun HB => fboth_0 ea n d n' d' _ hn hd hn' hd' (gkeep HB hShape rfl) (gkeep HB hBound rfl) H_h1.out) ?_
      intro w1 hb1 hz1 c1 d1
      have t1 := hb1.size
      have hBound_1 := gkeep hb1 hBound rfl
      have zhBound_1 := zlt hBound_1
      have xhBound_1 := zlts hBound_1
      have yhBound_1 := zne hBound_1
      try simp only [World.size_alloc] at hz1 c1 d1
      try simp only [World.size_drew] at hz1 c1 d1
      try simp only [World.size_setCell] at hz1 c1 d1
      try simp only [World.heap_drewN] at hz1 c1 d1
      have s1_0 : w.heap.size < w1.heap.size := by omega
      have o1_0 := fun j => c1 (w.heap.size) j (by omega)
      have f1_0 := fun j => d1 (w.heap.size) j (by omega)
      have s1_1 : w.heap.size + 1 < w1.heap.size := by omega
      have o1_1 := fun j => c1 (w.heap.size + 1) j (by omega)
      have f1_1 := fun j => d1 (w.heap.size + 1) j (by omega)
      have s1_2 : w.heap.size + 1 + 1 < w1.heap.size := by omega
      have o1_2 := fun j => c1 (w.heap.size + 1 + 1) j (by omega)
      have f1_2 := fun j => d1 (w.heap.size + 1 + 1) j (by omega)
      clear c1 d1 hz1
      go_wp2_with fail
      refine call_below (w := w) (by repeat' (first | (with_reducible exact Below.refl _ _) | (with_reducible assumption) | (with_reducible refine bdn ?_) | (with_reducible refine Below.alloc ?_ ?_ _) | (with_reducible refine Below.drew ?_) | (with_reducible refine Below.setCell ?_ ?_ _) | omega | (simp <;> omega))) (fun HB => flowest_0 ea _ _ _ H1 H2 H_H3.out (gkeep HB hBound rfl) H_hl.out) ?_
      intro w2 hb2 hz2 c2 d2
      have t2 := hb2.size
      have hBound_2 := gkeep hb2 hBound rfl
      have zhBound_2 := zlt hBound_2
      have xhBound_2 := zlts hBound_2
      have yhBound_2 := zne hBound_2
      try simp only [World.size_alloc] at hz2 c2 d2
      try simp only [World.size_drew] at hz2 c2 d2
      try simp only [World.size_setCell] at hz2 c2 d2
      try simp only [World.heap_drewN] at hz2 c2 d2
      have s2_0 : w.heap.size + 1 + 1 < w2.heap.size := by omega
      have o2_0 := fun j => c2 (w.heap.size + 1 + 1) j (by omega)
      have f2_0 := fun j => d2 (w.heap.size + 1 + 1) j (by omega)
      clear c2 d2 hz2
      go_wp2_with fail
      refine bodyPost_ret (by simp [results, Tryd.results135, go_sem, *]; try rfl) rfl ?_
      exact ⟨by rw [H_hc.out, H_hl.out, frV_0 rfl], by repeat' (first | (with_reducible exact Below.refl _ _) | (with_reducible assumption) | (with_reducible refine bdn ?_) | (with_reducible refine Below.alloc ?_ ?_ _) | (with_reducible refine Below.drew ?_) | (with_reducible refine Below.setCell ?_ ?_ _) | omega | (simp <;> omega))⟩
set_option maxHeartbeats 400000 in
theorem fmul_any (ea : Nat → Addr) (n d n' d' x y : Int) (w : World) (hn : I64 n) (hd : I64 d) (hn' : I64 n') (hd' : I64 d') (hShape : w.cell? ⟨5, 0, none⟩ = some (.iface 312 (.pointer (some (ea 3))))) (hBound : w.cell? ⟨1, 0, none⟩ = some (.iface 312 (.pointer (some (ea 2))))) (hx : n * n' = x) (hy : d * d' = y) :
    Calls Tryd.prog 134 #[.agg #[.int .i64 n, .int .i64 d], .agg #[.int .i64 n', .int .i64 d']] w fun e w' =>
      e = .returned (frV 312 ea (opC n d n' d' x y) (lowN x y) (lowD x y)) ∧ Below w.heap.size w w' := by
  have zhShape := zlt hShape
  have xhShape := zlts hShape
  have yhShape := zne hShape
  have zhBound := zlt hBound
  have xhBound := zlts hBound
  have yhBound := zne hBound
  rcases opC_cases n d n' d' x y with ⟨h1, hc⟩ | ⟨h1, hc⟩
  · have H_hc := Lib.hid hc
    clear hc
    have H_hx := Lib.hid hx
    clear hx
    have H_hy := Lib.hid hy
    clear hy
    go_enter Tryd.func134, Tryd.ntmps134
    go_wp2_with fail
    refine call_below (w := w) (by repeat' (first | (with_reducible exact Below.refl _ _) | (with_reducible assumption) | (with_reducible refine bdn ?_) | (with_reducible refine Below.alloc ?_ ?_ _) | (with_reducible refine Below.drew ?_) | (with_reducible refine Below.setCell ?_ ?_ _) | omega | (simp <;> omega))) (fun HB => fboth_n ea n d n' d' _ hn hd hn' hd' (gkeep HB hShape rfl) (gkeep HB hBound rfl) h1) ?_
    intro w1 hb1 hz1 c1 d1
    have t1 := hb1.size
    have hBound_1 := gkeep hb1 hBound rfl
    have zhBound_1 := zlt hBound_1
    have xhBound_1 := zlts hBound_1
    have yhBound_1 := zne hBound_1
    try simp only [World.size_alloc] at hz1 c1 d1
    try simp only [World.size_drew] at hz1 c1 d1
    try simp only [World.size_setCell] at hz1 c1 d1
    try simp only [World.heap_drewN] at hz1 c1 d1
    have s1_0 : w.heap.size + 1 + 1 < w1.heap.size := by omega
    have o1_0 := fun j => c1 (w.heap.size + 1 + 1) j (by omega)
    have f1_0 := fun j => d1 (w.heap.size + 1 + 1) j (by omega)
    clear c1 d1 hz1
    go_wp2_with fail
    refine bodyPost_ret (by simp [results, Tryd.results134, go_sem, *]; try rfl) rfl ?_
    exact ⟨by rw [H_hc.out, frV_n h1], by repeat' (first | (with_reducible exact Below.refl _ _) | (with_reducible assumption) | (with_reducible refine bdn ?_) | (with_reducible refine Below.alloc ?_ ?_ _) | (with_reducible refine Below.drew ?_) | (with_reducible refine Below.setCell ?_ ?_ _) | omega | (simp <;> omega))⟩
  · obtain ⟨s1, s2⟩ := bothC_0 h1
    obtain ⟨e3, e4, H1, H2, H3⟩ := mul_facts s1 s2; replace e3 := e3.trans hx; replace e4 := e4.trans hy
    rw [hx] at H1
    rw [hy] at H2 H3
    have H_H3 := Lib.hid H3
    clear H3 s1 s2
    rcases lowC_cases x y with ⟨_, hl⟩ | ⟨_, _, hl⟩ | ⟨_, _, hl⟩
    · have H_h1 := Lib.hid h1
      clear h1
      have H_hc := Lib.hid hc
      clear hc
      have H_hx := Lib.hid hx
      clear hx
      have H_hy := Lib.hid hy
      clear hy
      have H_hl := Lib.hid hl
      clear hl
      go_enter Tryd.func134, Tryd.ntmps134
      go_wp2_with fail
      refine call_below (w := w) (by repeat' (first | (with_reducible exact Below.refl _ _) | (with_reducible assumption) | (with_reducible refine bdn ?_) | (with_reducible refine Below.alloc ?_ ?_ _) | (with_reducible refine Below.drew ?_) | (with_reducible refine Below.setCell ?_ ?_ _) | omega | (simp <;> omega))) (fun HB => fboth_0 ea n d n' d' _ hn hd hn' hd' (gkeep HB hShape rfl) (gkeep HB hBound rfl) H_h1.out) ?_
      intro w1 hb1 hz1 c1 d1
      have t1 := hb1.size
      have hBound_1 := gkeep hb1 hBound rfl
      have zhBound_1 := zlt hBound_1
      have xhBound_1 := zlts hBound_1
      have yhBound_1 := zne hBound_1
      try simp only [World.size_alloc] at hz1 c1 d1
      try simp only [World.size_drew] at hz1 c1 d1
      try simp only [World.size_setCell] at hz1 c1 d1
      try simp only [World.heap_drewN] at hz1 c1 d1
      have s1_0 : w.heap.size < w1.heap.size := by omega
      have o1_0 := fun j => c1 (w.heap.size) j (by omega)
      have f1_0 := fun j => d1 (w.heap.size) j (by omega)
      have s1_1 : w.heap.size + 1 < w1.heap.size := by omega
      have o1_1 := fun j => c1 (w.heap.size + 1) j (by omega)
      have f1_1 := fun j => d1 (w.heap.size + 1) j (by omega)
      have s1_2 : w.heap.size + 1 + 1 < w1.heap.size := by omega
      have o1_2 := fun j => c1 (w.heap.size + 1 + 1) j (by omega)
      have f1_2 := fun j => d1 (w.heap.size + 1 + 1) j (by omega)
      clear c1 d1 hz1
      go_wp2_with fail
      refine call_below (w := w) (by repeat' (first | (with_reducible exact Below.refl _ _) | (with_reducible assumption) | (with_reducible refine bdn ?_) | (with_reducible refine Below.alloc ?_ ?_ _) | (with_reducible refine Below.drew ?_) | (with_reducible refine Below.setCell ?_ ?_ _) | omega | (simp <;> omega))) (fun HB => flowest_n ea _ _ _ H1 H2 H_H3.out (gkeep HB hBound rfl) H_hl.out) ?_
      intro w2 hb2 hz2 c2 d2
      have t2 := hb2.size
      have hBound_2 := gkeep hb2 hBound rfl
      have zhBound_2 := zlt hBound_2
      have xhBound_2 := zlts hBound_2
      have yhBound_2 := zne hBound_2
      try simp only [World.size_alloc] at hz2 c2 d2
      try simp only [World.size_drew] at hz2 c2 d2
      try simp only [World.size_setCell] at hz2 c2 d2
      try simp only [World.heap_drewN] at hz2 c2 d2
      have s2_0 : w.heap.size + 1 + 1 < w2.heap.size := by omega
      have o2_0 := fun j => c2 (w.heap.size + 1 + 1) j (by omega)
      have f2_0 := fun j => d2 (w.heap.size + 1 + 1) j (by omega)
      clear c2 d2 hz2
      go_wp2_with fail
      refine bodyPost_ret (by simp [results, Tryd.results134, go_sem, *]; try rfl) rfl ?_
      exact ⟨by rw [H_hc.out, H_hl.out, frV_n (by decide)], by repeat' (first | (with_reducible exact Below.refl _ _) | (with_reducible assumption) | (with_reducible refine bdn ?_) | (with_reducible refine Below.alloc ?_ ?_ _) | (with_reducible refine Below.drew ?_) | (with_reducible refine Below.setCell ?_ ?_ _) | omega | (simp <;> omega))⟩
    · have H_h1 := Lib.hid h1
      clear h1
      have H_hc := Lib.hid hc
      clear hc
      have H_hx := Lib.hid hx
      clear hx
      have H_hy := Lib.hid hy
      clear hy
      have H_hl := Lib.hid hl
      clear hl
      go_enter Tryd.func134, Tryd.ntmps134
      go_wp2_with fail
      refine call_below (w := w) (by repeat' (first | (with_reducible exact Below.refl _ _) | (with_reducible assumption) | (with_reducible refine bdn ?_) | (with_reducible refine Below.alloc ?_ ?_ _) | (with_reducible refine Below.drew ?_) | (with_reducible refine Below.setCell ?_ ?_ _) | omega | (simp <;> omega))) (fun HB => fboth_0 ea n d n' d' _ hn hd hn' hd' (gkeep HB hShape rfl) (gkeep HB hBound rfl) H_h1.out) ?_
      intro w1 hb1 hz1 c1 d1
      have t1 := hb1.size
      have hBound_1 := gkeep hb1 hBound rfl
      have zhBound_1 := zlt hBound_1
      have xhBound_1 := zlts hBound_1
      have yhBound_1 := zne hBound_1
      try simp only [World.size_alloc] at hz1 c1 d1
      try simp only [World.size_drew] at hz1 c1 d1
      try simp only [World.size_setCell] at hz1 c1 d1
      try simp only [World.heap_drewN] at hz1 c1 d1
      have s1_0 : w.heap.size < w1.heap.size := by omega
      have o1_0 := fun j => c1 (w.heap.size) j (by omega)
      have f1_0 := fun j => d1 (w.heap.size) j (by omega)
      have s1_1 : w.heap.size + 1 < w1.heap.size := by omega
      have o1_1 := fun j => c1 (w.heap.size + 1) j (by omega)
      have f1_1 := fun j => d1 (w.heap.size + 1) j (by omega)
      have s1_2 : w.heap.size + 1 + 1 < w1.heap.size := by omega
      have o1_2 := fun j => c1 (w.heap.size + 1 + 1) j (by omega)
      have f1_2 := fun j => d1 (w.heap.size + 1 + 1) j (by omega)
      clear c1 d1 hz1
      go_wp2_with fail
      refine call_below (w := w) (by repeat' (first | (with_reducible exact Below.refl _ _) | (with_reducible assumption) | (with_reducible refine bdn ?_) | (with_reducible refine Below.alloc ?_ ?_ _) | (with_reducible refine Below.drew ?_) | (with_reducible refine Below.setCell ?_ ?_ _) | omega | (simp <;> omega))) (fun HB => flowest_n ea _ _ _ H1 H2 H_H3.out (gkeep HB hBound rfl) H_hl.out) ?_
      intro w2 hb2 hz2 c2 d2
      have t2 := hb2.size
      have hBound_2 := gkeep hb2 hBound rfl
      have zhBound_2 := zlt hBound_2
      have xhBound_2 := zlts hBound_2
      have yhBound_2 := zne hBound_2
      try simp only [World.size_alloc] at hz2 c2 d2
      try simp only [World.size_drew] at hz2 c2 d2
      try simp only [World.size_setCell] at hz2 c2 d2
      try simp only [World.heap_drewN] at hz2 c2 d2
      have s2_0 : w.heap.size + 1 + 1 < w2.heap.size := by omega
      have o2_0 := fun j => c2 (w.heap.size + 1 + 1) j (by omega)
      have f2_0 := fun j => d2 (w.heap.size + 1 + 1) j (by omega)
      clear c2 d2 hz2
      go_wp2_with fail
      refine bodyPost_ret (by simp [results, Tryd.results134, go_sem, *]; try rfl) rfl ?_
      exact ⟨by rw [H_hc.out, H_hl.out, frV_n (by decide)], by repeat' (first | (with_reducible exact Below.refl _ _) | (with_reducible assumption) | (with_reducible refine bdn ?_) | (with_reducible refine Below.alloc ?_ ?_ _) | (with_reducible refine Below.drew ?_) | (with_reducible refine Below.setCell ?_ ?_ _) | omega | (simp <;> omega))⟩
    · have H_h1 := Lib.hid h1
      clear h1
      have H_hc := Lib.hid hc
      clear hc
      have H_hx := Lib.hid hx
      clear hx
      have H_hy := Lib.hid hy
      clear hy
      have H_hl := Lib.hid hl
      clear hl
      go_enter Tryd.func134, Tryd.ntmps134
      go_wp2_with fail
      refine call_below (w := w) (by repeat' (first | (with_reducible exact Below.refl _ _) | (with_reducible assumption) | (with_reducible refine bdn ?_) | (with_reducible refine Below.alloc ?_ ?_ _) | (with_reducible refine Below.drew ?_) | (with_reducible refine Below.setCell ?_ ?_ _) | omega | (simp <;> omega))) (fun HB => fboth_0 ea n d n' d' _ hn hd hn' hd' (gkeep HB hShape rfl) (gkeep HB hBound rfl) H_h1.out) ?_
      intro w1 hb1 hz1 c1 d1
      have t1 := hb1.size
      have hBound_1 := gkeep hb1 hBound rfl
      have zhBound_1 := zlt hBound_1
      have xhBound_1 := zlts hBound_1
      have yhBound_1 := zne hBound_1
      try simp only [World.size_alloc] at hz1 c1 d1
      try simp only [World.size_drew] at hz1 c1 d1
      try simp only [World.size_setCell] at hz1 c1 d1
      try simp only [World.heap_drewN] at hz1 c1 d1
      have s1_0 : w.heap.size < w1.heap.size := by omega
      have o1_0 := fun j => c1 (w.heap.size) j (by omega)
      have f1_0 := fun j => d1 (w.heap.size) j (by omega)
      have s1_1 : w.heap.size + 1 < w1.heap.size := by omega
      have o1_1 := fun j => c1 (w.heap.size + 1) j (by omega)
      have f1_1 := fun j => d1 (w.heap.size + 1) j (by omega)
      have s1_2 : w.heap.size + 1 + 1 < w1.heap.size := by omega
      have o1_2 := fun j => c1 (w.heap.size + 1 + 1) j (by omega)
      have f1_2 := fun j => d1 (w.heap.size + 1 + 1) j (by omega)
      clear c1 d1 hz1
      go_wp2_with fail
      refine call_below (w := w) (by repeat' (first | (with_reducible exact Below.refl _ _) | (with_reducible assumption) | (with_reducible refine bdn ?_) | (with_reducible refine Below.alloc ?_ ?_ _) | (with_reducible refine Below.drew ?_) | (with_reducible refine Below.setCell ?_ ?_ _) | omega | (simp <;> omega))) (fun HB => flowest_0 ea _ _ _ H1 H2 H_H3.out (gkeep HB hBound rfl) H_hl.out) ?_
      intro w2 hb2 hz2 c2 d2
      have t2 := hb2.size
      have hBound_2 := gkeep hb2 hBound rfl
      have zhBound_2 := zlt hBound_2
      have xhBound_2 := zlts hBound_2
      have yhBound_2 := zne hBound_2
      try simp only [World.size_alloc] at hz2 c2 d2
      try simp only [World.size_drew] at hz2 c2 d2
      try simp only [World.size_setCell] at hz2 c2 d2
      try simp only [World.heap_drewN] at hz2 c2 d2
      have s2_0 : w.heap.size + 1 + 1 < w2.heap.size := by omega
      have o2_0 := fun j => c2 (w.heap.size + 1 + 1) j (by omega)
      have f2_0 := fun j => d2 (w.heap.size + 1 + 1) j (by omega)
      clear c2 d2 hz2
      go_wp2_with fail
      refine bodyPost_ret (by simp [results, Tryd.results134, go_sem, *]; try rfl) rfl ?_
      exact ⟨by rw [H_hc.out, H_hl.out, frV_0 rfl], by repeat' (first | (with_reducible exact Below.refl _ _) | (with_reducible assumption) | (with_reducible refine bdn ?_) | (with_reducible refine Below.alloc ?_ ?_ _) | (with_reducible refine Below.drew ?_) | (with_reducible refine Below.setCell ?_ ?_ _) | omega | (simp <;> omega))⟩
end Go.Proofs.YthijgncjaophjaaDoor
