/-
  Walks over the statements' helpers: coded, faulted.
-/
import Derived.Test.YtpdaenldmgpkjaaGreatDoorCd
import Derived.Test.YtpdaenldmgpkjaaGreatDoorPa
namespace Go.Proofs.YtpdaenldmgpkjaaGreatDoor
open Go.RowKit Lead

set_option maxHeartbeats 1000000 in
theorem faulted1_any (ea : Nat → Addr) (c : Nat × Option Nat) (n at' : Int) (x : Value) (lo : Nat) (w : World) (hx : ErrAt 308 119 ea lo w x c) (hS : Sents ea w) (h11 : c.1 ≤ 11) (hn : (c.1 : Int) = n) (ha : atI c.2 = at') :
    Calls Tryz.prog 12 #[x, .agg #[.int .i64 n, .int .i64 at']] w fun e w' => e = .returned (.bool true) ∧ Below w.heap.size w w' := by
  obtain ⟨c1, c2⟩ := c
  cases c2 with
  | none =>
    change x = evl _ ea c1 at hx
    change (c1 : Int) = n at hn
    change (-1 : Int) = at' at ha
    subst hn ha
    by_cases h0 : c1 = 0
    · subst h0
      rw [evl_0 rfl] at hx
      subst hx
      have H_hS := Lib.hid hS
      clear hS
      go_enter Tryz.func12, Tryz.ntmps12
      go_wp2_with fail
      refine call_bel (w := w) (by repeat' (first | (with_reducible first | exact bwR _ _ | assumption | refine bdn ?_ | refine bwA ?_ ?_ _ | refine bwD ?_ | refine bwS ?_ ?_ _) | omega | (simp <;> omega))) (fun HB => code_nil _) ?_
      intro w1 hb1 hz1 c1 d1 hW1
      have t1 := hb1.size
      try simp only [szA] at hz1 c1 d1
      try simp only [szD] at hz1 c1 d1
      try simp only [szS] at hz1 c1 d1
      try simp only [World.heap_drewN] at hz1 c1 d1
      try simp only [szA] at hz1 c1 d1
      try simp only [szD] at hz1 c1 d1
      try simp only [szS] at hz1 c1 d1
      have s1_0 : w.heap.size < w1.heap.size := by omega
      have o1_0 := fun j => c1 (w.heap.size) j (by omega)
      have f1_0 := fun j => d1 (w.heap.size) j (by omega)
      clear c1 d1 hz1 hW1
      go_wp2_with fail
      go_returns
      exact ⟨rfl, by repeat' (first | (with_reducible first | exact bwR _ _ | assumption | refine bdn ?_ | refine bwA ?_ ?_ _ | refine bwD ?_ | refine bwS ?_ ?_ _) | omega | (simp <;> omega))⟩
    · rw [evl_n h0] at hx
      subst hx
      have h1 : 1 ≤ c1 := by omega
      have h2 : c1 ≤ 11 := h11
      have h3 : ((c1 : Int) == 0) = false := by simp; omega
      have H_hS := Lib.hid hS
      clear hS
      have H_h0 := Lib.hid h0
      clear h0
      go_enter Tryz.func12, Tryz.ntmps12
      go_wp2_with fail
      refine call_bel (w := w) (by repeat' (first | (with_reducible first | exact bwR _ _ | assumption | refine bdn ?_ | refine bwA ?_ ?_ _ | refine bwD ?_ | refine bwS ?_ ?_ _) | omega | (simp <;> omega))) (fun HB => code_sent ea c1 _ h1 h2 (H_hS.out.keep HB rfl)) ?_
      intro w1 hb1 hz1 c1 d1 hW1
      have t1 := hb1.size
      try simp only [szA] at hz1 c1 d1
      try simp only [szD] at hz1 c1 d1
      try simp only [szS] at hz1 c1 d1
      try simp only [World.heap_drewN] at hz1 c1 d1
      try simp only [szA] at hz1 c1 d1
      try simp only [szD] at hz1 c1 d1
      try simp only [szS] at hz1 c1 d1
      have s1_0 : w.heap.size < w1.heap.size := by omega
      have o1_0 := fun j => c1 (w.heap.size) j (by omega)
      have f1_0 := fun j => d1 (w.heap.size) j (by omega)
      clear c1 d1 hz1 hW1
      go_wp2_with fail
      go_returns
      exact ⟨rfl, by repeat' (first | (with_reducible first | exact bwR _ _ | assumption | refine bdn ?_ | refine bwA ?_ ?_ _ | refine bwD ?_ | refine bwS ?_ ?_ _) | omega | (simp <;> omega))⟩
  | some i =>
    obtain ⟨h0, b, h1, rfl, h3, h4⟩ := hx
    change (c1 : Int) = n at hn
    change (i : Int) = at' at ha
    subst hn ha
    have h0' : 1 ≤ c1 := by have : c1 ≠ 0 := h0; omega
    have h2 : c1 ≤ 11 := h11
    have h5 : ((c1 : Int) == 0) = false := by simp; omega
    have H_hS := Lib.hid hS
    clear hS
    have H_h0 := Lib.hid h0
    clear h0
    go_enter Tryz.func12, Tryz.ntmps12
    go_wp2_with fail
    refine call_bel (w := w) (by repeat' (first | (with_reducible first | exact bwR _ _ | assumption | refine bdn ?_ | refine bwA ?_ ?_ _ | refine bwD ?_ | refine bwS ?_ ?_ _) | omega | (simp <;> omega))) (fun HB => code_fault ea c1 b i _ h0' h2 (H_hS.out.keep HB rfl) (gkeep HB h3 rfl) (gkeep HB h4 rfl)) ?_
    intro w1 hb1 hz1 c1 d1 hW1
    have t1 := hb1.size
    try simp only [szA] at hz1 c1 d1
    try simp only [szD] at hz1 c1 d1
    try simp only [szS] at hz1 c1 d1
    try simp only [World.heap_drewN] at hz1 c1 d1
    try simp only [szA] at hz1 c1 d1
    try simp only [szD] at hz1 c1 d1
    try simp only [szS] at hz1 c1 d1
    have s1_0 : w.heap.size < w1.heap.size := by omega
    have o1_0 := fun j => c1 (w.heap.size) j (by omega)
    have f1_0 := fun j => d1 (w.heap.size) j (by omega)
    clear c1 d1 hz1 hW1
    go_wp2_with fail
    go_returns
    exact ⟨rfl, by repeat' (first | (with_reducible first | exact bwR _ _ | assumption | refine bdn ?_ | refine bwA ?_ ?_ _ | refine bwD ?_ | refine bwS ?_ ?_ _) | omega | (simp <;> omega))⟩
set_option maxHeartbeats 1000000 in
theorem faulted2_any (ea : Nat → Addr) (c : Nat × Option Nat) (n at' : Int) (x : Value) (lo : Nat) (w : World) (hx : ErrAt 308 119 ea lo w x c) (hS : Sents ea w) (h11 : c.1 ≤ 11) (hn : (c.1 : Int) = n) (ha : atI c.2 = at') :
    Calls Tryz.prog 21 #[x, .agg #[.int .i64 n, .int .i64 at']] w fun e w' => e = .returned (.bool true) ∧ Below w.heap.size w w' := by
  obtain ⟨c1, c2⟩ := c
  cases c2 with
  | none =>
    change x = evl _ ea c1 at hx
    change (c1 : Int) = n at hn
    change (-1 : Int) = at' at ha
    subst hn ha
    by_cases h0 : c1 = 0
    · subst h0
      rw [evl_0 rfl] at hx
      subst hx
      have H_hS := Lib.hid hS
      clear hS
      go_enter Tryz.func21, Tryz.ntmps21
      go_wp2_with fail
      refine call_bel (w := w) (by repeat' (first | (with_reducible first | exact bwR _ _ | assumption | refine bdn ?_ | refine bwA ?_ ?_ _ | refine bwD ?_ | refine bwS ?_ ?_ _) | omega | (simp <;> omega))) (fun HB => code_nil _) ?_
      intro w1 hb1 hz1 c1 d1 hW1
      have t1 := hb1.size
      try simp only [szA] at hz1 c1 d1
      try simp only [szD] at hz1 c1 d1
      try simp only [szS] at hz1 c1 d1
      try simp only [World.heap_drewN] at hz1 c1 d1
      try simp only [szA] at hz1 c1 d1
      try simp only [szD] at hz1 c1 d1
      try simp only [szS] at hz1 c1 d1
      have s1_0 : w.heap.size < w1.heap.size := by omega
      have o1_0 := fun j => c1 (w.heap.size) j (by omega)
      have f1_0 := fun j => d1 (w.heap.size) j (by omega)
      clear c1 d1 hz1 hW1
      go_wp2_with fail
      go_returns
      exact ⟨rfl, by repeat' (first | (with_reducible first | exact bwR _ _ | assumption | refine bdn ?_ | refine bwA ?_ ?_ _ | refine bwD ?_ | refine bwS ?_ ?_ _) | omega | (simp <;> omega))⟩
    · rw [evl_n h0] at hx
      subst hx
      have h1 : 1 ≤ c1 := by omega
      have h2 : c1 ≤ 11 := h11
      have h3 : ((c1 : Int) == 0) = false := by simp; omega
      have H_hS := Lib.hid hS
      clear hS
      have H_h0 := Lib.hid h0
      clear h0
      go_enter Tryz.func21, Tryz.ntmps21
      go_wp2_with fail
      refine call_bel (w := w) (by repeat' (first | (with_reducible first | exact bwR _ _ | assumption | refine bdn ?_ | refine bwA ?_ ?_ _ | refine bwD ?_ | refine bwS ?_ ?_ _) | omega | (simp <;> omega))) (fun HB => code_sent ea c1 _ h1 h2 (H_hS.out.keep HB rfl)) ?_
      intro w1 hb1 hz1 c1 d1 hW1
      have t1 := hb1.size
      try simp only [szA] at hz1 c1 d1
      try simp only [szD] at hz1 c1 d1
      try simp only [szS] at hz1 c1 d1
      try simp only [World.heap_drewN] at hz1 c1 d1
      try simp only [szA] at hz1 c1 d1
      try simp only [szD] at hz1 c1 d1
      try simp only [szS] at hz1 c1 d1
      have s1_0 : w.heap.size < w1.heap.size := by omega
      have o1_0 := fun j => c1 (w.heap.size) j (by omega)
      have f1_0 := fun j => d1 (w.heap.size) j (by omega)
      clear c1 d1 hz1 hW1
      go_wp2_with fail
      go_returns
      exact ⟨rfl, by repeat' (first | (with_reducible first | exact bwR _ _ | assumption | refine bdn ?_ | refine bwA ?_ ?_ _ | refine bwD ?_ | refine bwS ?_ ?_ _) | omega | (simp <;> omega))⟩
  | some i =>
    obtain ⟨h0, b, h1, rfl, h3, h4⟩ := hx
    change (c1 : Int) = n at hn
    change (i : Int) = at' at ha
    subst hn ha
    have h0' : 1 ≤ c1 := by have : c1 ≠ 0 := h0; omega
    have h2 : c1 ≤ 11 := h11
    have h5 : ((c1 : Int) == 0) = false := by simp; omega
    have H_hS := Lib.hid hS
    clear hS
    have H_h0 := Lib.hid h0
    clear h0
    go_enter Tryz.func21, Tryz.ntmps21
    go_wp2_with fail
    refine call_bel (w := w) (by repeat' (first | (with_reducible first | exact bwR _ _ | assumption | refine bdn ?_ | refine bwA ?_ ?_ _ | refine bwD ?_ | refine bwS ?_ ?_ _) | omega | (simp <;> omega))) (fun HB => code_fault ea c1 b i _ h0' h2 (H_hS.out.keep HB rfl) (gkeep HB h3 rfl) (gkeep HB h4 rfl)) ?_
    intro w1 hb1 hz1 c1 d1 hW1
    have t1 := hb1.size
    try simp only [szA] at hz1 c1 d1
    try simp only [szD] at hz1 c1 d1
    try simp only [szS] at hz1 c1 d1
    try simp only [World.heap_drewN] at hz1 c1 d1
    try simp only [szA] at hz1 c1 d1
    try simp only [szD] at hz1 c1 d1
    try simp only [szS] at hz1 c1 d1
    have s1_0 : w.heap.size < w1.heap.size := by omega
    have o1_0 := fun j => c1 (w.heap.size) j (by omega)
    have f1_0 := fun j => d1 (w.heap.size) j (by omega)
    clear c1 d1 hz1 hW1
    go_wp2_with fail
    go_returns
    exact ⟨rfl, by repeat' (first | (with_reducible first | exact bwR _ _ | assumption | refine bdn ?_ | refine bwA ?_ ?_ _ | refine bwD ?_ | refine bwS ?_ ?_ _) | omega | (simp <;> omega))⟩
end Go.Proofs.YtpdaenldmgpkjaaGreatDoor
