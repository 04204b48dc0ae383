/-
  Walks over package frac: Div, Cmp.
-/
import Derived.Test.YthijgncjaophjaaDoorFrac4
namespace Go.Proofs.YthijgncjaophjaaDoor
open Go.RowKit Lead

set_option maxHeartbeats 400000 in
theorem fcmp_any (ea : Nat → Addr) (n d n' d' x y : Int) (w : World) (hn : I64 n) (hd : I64 d) (hn' : I64 n') (hd' : I64 d') (hShape : w.cell? ⟨5, 0, none⟩ = some (.iface 312 (.pointer (some (ea 3))))) (hBound : w.cell? ⟨1, 0, none⟩ = some (.iface 312 (.pointer (some (ea 2))))) (hx : n * d' = x) (hy : n' * d = y) :
    Calls Tryd.prog 51 #[.agg #[.int .i64 n, .int .i64 d], .agg #[.int .i64 n', .int .i64 d']] w fun e w' =>
      e = .returned (cmV 312 ea (bothC n d n' d') (cmpI x y)) ∧ Below w.heap.size w w' := by
  have zhShape := zlt hShape
  have xhShape := zlts hShape
  have yhShape := zne hShape
  have zhBound := zlt hBound
  have xhBound := zlts hBound
  have yhBound := zne hBound
  by_cases h1 : bothC n d n' d' = 0
  · obtain ⟨s1, s2⟩ := bothC_0 h1
    obtain ⟨e1, e2⟩ := cmp_facts s1 s2
    rw [hx] at e1
    rw [hy] at e2
    replace e1 : wrap64 (n * d') = x := by rw [hx]; exact e1
    replace e2 : wrap64 (n' * d) = y := by rw [hy]; exact e2
    clear s1 s2
    rcases cmpI_cases x y with ⟨hq, hc⟩ | ⟨hq, hc⟩ | ⟨hq, hc⟩
    all_goals
      have H_h1 := Lib.hid h1
      clear h1
      have H_hc := Lib.hid hc
      clear hc
      have H_hx := Lib.hid hx
      clear hx
      have H_hy := Lib.hid hy
      clear hy
      go_enter Tryd.func51, Tryd.ntmps51
      go_wp2_with fail
      refine call_below (w := w) (by repeat' (first | (with_reducible exact Below.refl _ _) | (with_reducible assumption) | (with_reducible refine bdn ?_) | (with_reducible refine Below.alloc ?_ ?_ _) | (with_reducible refine Below.drew ?_) | (with_reducible refine Below.setCell ?_ ?_ _) | omega | (simp <;> omega))) (fun HB => fboth_0 ea n d n' d' _ hn hd hn' hd' (gkeep HB hShape rfl) (gkeep HB hBound rfl) H_h1.out) ?_
      intro w1 hb1 hz1 c1 d1
      have t1 := hb1.size
      have hBound_1 := gkeep hb1 hBound rfl
      have zhBound_1 := zlt hBound_1
      have xhBound_1 := zlts hBound_1
      have yhBound_1 := zne hBound_1
      try simp only [World.size_alloc] at hz1 c1 d1
      try simp only [World.size_drew] at hz1 c1 d1
      try simp only [World.size_setCell] at hz1 c1 d1
      try simp only [World.heap_drewN] at hz1 c1 d1
      have s1_0 : w.heap.size < w1.heap.size := by omega
      have o1_0 := fun j => c1 (w.heap.size) j (by omega)
      have f1_0 := fun j => d1 (w.heap.size) j (by omega)
      have s1_1 : w.heap.size + 1 < w1.heap.size := by omega
      have o1_1 := fun j => c1 (w.heap.size + 1) j (by omega)
      have f1_1 := fun j => d1 (w.heap.size + 1) j (by omega)
      clear c1 d1 hz1
      go_wp2_with fail
      go_region
      all_goals
        go_wp2_with fail
        go_returns
        exact ⟨by rw [H_hc.out, cmV_0 H_h1.out]; try rfl, by repeat' (first | (with_reducible exact Below.refl _ _) | (with_reducible assumption) | (with_reducible refine bdn ?_) | (with_reducible refine Below.alloc ?_ ?_ _) | (with_reducible refine Below.drew ?_) | (with_reducible refine Below.setCell ?_ ?_ _) | omega | (simp <;> omega))⟩
  · have H_hx := Lib.hid hx
    clear hx
    have H_hy := Lib.hid hy
    clear hy
    go_enter Tryd.func51, Tryd.ntmps51
    go_wp2_with fail
    refine call_below (w := w) (by repeat' (first | (with_reducible exact Below.refl _ _) | (with_reducible assumption) | (with_reducible refine bdn ?_) | (with_reducible refine Below.alloc ?_ ?_ _) | (with_reducible refine Below.drew ?_) | (with_reducible refine Below.setCell ?_ ?_ _) | omega | (simp <;> omega))) (fun HB => fboth_n ea n d n' d' _ hn hd hn' hd' (gkeep HB hShape rfl) (gkeep HB hBound rfl) h1) ?_
    intro w1 hb1 hz1 c1 d1
    have t1 := hb1.size
    have hBound_1 := gkeep hb1 hBound rfl
    have zhBound_1 := zlt hBound_1
    have xhBound_1 := zlts hBound_1
    have yhBound_1 := zne hBound_1
    clear c1 d1 hz1
    go_wp2_with fail
    go_returns
    exact ⟨by rw [cmV_n h1]; try rfl, by repeat' (first | (with_reducible exact Below.refl _ _) | (with_reducible assumption) | (with_reducible refine bdn ?_) | (with_reducible refine Below.alloc ?_ ?_ _) | (with_reducible refine Below.drew ?_) | (with_reducible refine Below.setCell ?_ ?_ _) | omega | (simp <;> omega))⟩
end Go.Proofs.YthijgncjaophjaaDoor
