/-
  Walks over package paint: Paint and Row where they tell an error: which.
-/
import Derived.Test.YtaidgecpglikpaaDoorPn9
namespace Lead
open Go Go.RowKit
theorem ErrAt.put {T F : Nat} {ea : Nat → Addr} {lo s j : Nat} {w : World} {v u : Value} {c : Nat × Option Nat} (h : ErrAt T F ea lo w v c) (hs : s < lo) : ErrAt T F ea lo (w.setCell ⟨s, j, none⟩ u) v c := by
  obtain ⟨c1, c2⟩ := c
  cases c2 with
  | none => exact h
  | some i =>
    obtain ⟨h0, b, h1, h2, h3, h4⟩ := h
    have hne : ∀ k, (⟨s, j, none⟩ : Addr) ≠ ⟨b, k, none⟩ := fun k e => by injection e; omega
    exact ⟨h0, b, h1, h2, by rw [World.cell?_setCell_other _ _ _ _ (hne 0)]; exact h3, by rw [World.cell?_setCell_other _ _ _ _ (hne 1)]; exact h4⟩
theorem ErrAt.lo {T F : Nat} {ea : Nat → Addr} {lo lo' : Nat} {w : World} {v : Value} {c : Nat × Option Nat} (h : ErrAt T F ea lo w v c) (hl : lo' ≤ lo) : ErrAt T F ea lo' w v c := h.keep (Below.refl _ _) rfl hl
end Lead
namespace Go.Proofs.YtaidgecpglikpaaDoor
open Go.RowKit Lead
set_option maxHeartbeats 1000000 in
theorem paint_errc (ea : Nat → Addr) (l : List Pc) (oa : Option Addr) (len cap : Nat) (zw zh : Int) (c : Nat × Option Nat) (w : World) (hs : SlPc w oa len cap l) (hP : PGs ea w)
    (hc : (¬ (1 ≤ zw ∧ zw ≤ 40 ∧ 1 ≤ zh ∧ zh ≤ 40) ∧ c = (2, none)) ∨ ((1 ≤ zw ∧ zw ≤ 40 ∧ 1 ≤ zh ∧ zh ≤ 40) ∧ c = chkP (l.map Pc.k) 0 ∧ c.1 ≠ 0)) :
    Calls Tryd.prog 7 #[.slice oa len cap, .int .i64 zw, .int .i64 zh] w fun e w' => ∃ x, e = .returned (.tuple #[.agg #[.int .i64 0, .int .i64 0, .slice none 0 0], x]) ∧ ErrAt 181 92 ea w.heap.size w' x c ∧ Below w.heap.size w w' := by
  have hBound := hP.c2
  have zhBound := zlt hBound
  have xhBound := zlts hBound
  have yhBound := zne hBound
  obtain ⟨sw, hsw⟩ : ∃ b, (decide (1 ≤ zw) && decide (zw ≤ 40)) = b := ⟨_, rfl⟩
  obtain ⟨sh, hsh⟩ : ∃ b, (decide (1 ≤ zh) && decide (zh ≤ 40)) = b := ⟨_, rfl⟩
  rcases hc with ⟨hno, rfl⟩ | ⟨hyes, hc, hc1⟩
  · have hboth : sw = true → sh = true → False := fun h1 h2 => by
      subst h1 h2
      simp at hsw hsh
      omega
    have SKB : ∀ W, Below w.heap.size w W → W.cell? ⟨0, 0, none⟩ = some (.iface 181 (.pointer (some (ea 2)))) := fun W h => gkeep h hBound rfl
    have H_hs := Lib.hid hs
    clear hs
    have H_hP := Lib.hid hP
    clear hP
    have H_hsw := Lib.hid hsw
    clear hsw
    have H_hsh := Lib.hid hsh
    clear hsh
    have H_SKB := Lib.hid SKB
    clear SKB
    go_enter Tryd.func7, Tryd.ntmps7
    cases sw with
    | false =>
      go_wp2_with fail
      refine call_bel (w := w) (by repeat' (first | (with_reducible first | exact bwR _ _ | assumption | refine bdn ?_ | refine bwA ?_ ?_ _ | refine bwD ?_ | refine bwS ?_ ?_ _) | omega | (simp <;> omega))) (fun HB => side_any zw false _ H_hsw.out) ?_
      intro w1 hb1 hz1 c1 d1 hW1
      have t1 := hb1.size
      have hBound_1 := gkeep hb1 hBound rfl
      have zhBound_1 := zlt hBound_1
      have xhBound_1 := zlts hBound_1
      have yhBound_1 := zne hBound_1
      try simp only [szA] at hz1 c1 d1
      try simp only [szD] at hz1 c1 d1
      try simp only [szS] at hz1 c1 d1
      try simp only [World.heap_drewN] at hz1 c1 d1
      try simp only [szA] at hz1 c1 d1
      try simp only [szD] at hz1 c1 d1
      try simp only [szS] at hz1 c1 d1
      have s1_0 : w.heap.size < w1.heap.size := by omega
      have o1_0 := fun j => c1 (w.heap.size) j (by omega)
      have f1_0 := fun j => d1 (w.heap.size) j (by omega)
      clear c1 d1 hz1 hW1
      go_wp2_with fail
      go_region_held3 (fun W => W.cell? ⟨0, 0, none⟩ = some (.iface 181 (.pointer (some (ea 2))))) (exact H_SKB.out _ (by repeat' (first | (with_reducible first | exact bwR _ _ | assumption | refine bdn ?_ | refine bwA ?_ ?_ _ | refine bwD ?_ | refine bwS ?_ ?_ _) | omega | (simp <;> omega)))) (fail)
      all_goals
        go_wp2_with fail
        refine bodyPost_ret (by simp [results, Tryd.results7, go_sem, *]; try rfl) rfl ?_
        exact ⟨_, rfl, rfl, by repeat' (first | (with_reducible first | exact bwR _ _ | assumption | refine bdn ?_ | refine bwA ?_ ?_ _ | refine bwD ?_ | refine bwS ?_ ?_ _) | omega | (simp <;> omega))⟩
    | true =>
      cases sh with
      | true => exact (hboth rfl rfl).elim
      | false =>
        go_wp2_with fail
        refine call_bel (w := w) (by repeat' (first | (with_reducible first | exact bwR _ _ | assumption | refine bdn ?_ | refine bwA ?_ ?_ _ | refine bwD ?_ | refine bwS ?_ ?_ _) | omega | (simp <;> omega))) (fun HB => side_any zw true _ H_hsw.out) ?_
        intro w1 hb1 hz1 c1 d1 hW1
        have t1 := hb1.size
        have hBound_1 := gkeep hb1 hBound rfl
        have zhBound_1 := zlt hBound_1
        have xhBound_1 := zlts hBound_1
        have yhBound_1 := zne hBound_1
        try simp only [szA] at hz1 c1 d1
        try simp only [szD] at hz1 c1 d1
        try simp only [szS] at hz1 c1 d1
        try simp only [World.heap_drewN] at hz1 c1 d1
        try simp only [szA] at hz1 c1 d1
        try simp only [szD] at hz1 c1 d1
        try simp only [szS] at hz1 c1 d1
        have s1_0 : w.heap.size < w1.heap.size := by omega
        have o1_0 := fun j => c1 (w.heap.size) j (by omega)
        have f1_0 := fun j => d1 (w.heap.size) j (by omega)
        clear c1 d1 hz1 hW1
        go_wp2_with fail
        refine call_bel (w := w) (by repeat' (first | (with_reducible first | exact bwR _ _ | assumption | refine bdn ?_ | refine bwA ?_ ?_ _ | refine bwD ?_ | refine bwS ?_ ?_ _) | omega | (simp <;> omega))) (fun HB => side_any zh false _ H_hsh.out) ?_
        intro w2 hb2 hz2 c2 d2 hW2
        have t2 := hb2.size
        have hBound_2 := gkeep hb2 hBound rfl
        have zhBound_2 := zlt hBound_2
        have xhBound_2 := zlts hBound_2
        have yhBound_2 := zne hBound_2
        try simp only [szA] at hz2 c2 d2
        try simp only [szD] at hz2 c2 d2
        try simp only [szS] at hz2 c2 d2
        try simp only [World.heap_drewN] at hz2 c2 d2
        try simp only [szA] at hz2 c2 d2
        try simp only [szD] at hz2 c2 d2
        try simp only [szS] at hz2 c2 d2
        have s2_0 : w.heap.size < w2.heap.size := by omega
        have o2_0 := fun j => c2 (w.heap.size) j (by omega)
        have f2_0 := fun j => d2 (w.heap.size) j (by omega)
        clear c2 d2 hz2 hW2
        go_wp2_with fail
        go_region_held3 (fun W => W.cell? ⟨0, 0, none⟩ = some (.iface 181 (.pointer (some (ea 2))))) (exact H_SKB.out _ (by repeat' (first | (with_reducible first | exact bwR _ _ | assumption | refine bdn ?_ | refine bwA ?_ ?_ _ | refine bwD ?_ | refine bwS ?_ ?_ _) | omega | (simp <;> omega)))) (fail)
        all_goals
          go_wp2_with fail
          refine bodyPost_ret (by simp [results, Tryd.results7, go_sem, *]; try rfl) rfl ?_
          exact ⟨_, rfl, rfl, by repeat' (first | (with_reducible first | exact bwR _ _ | assumption | refine bdn ?_ | refine bwA ?_ ?_ _ | refine bwD ?_ | refine bwS ?_ ?_ _) | omega | (simp <;> omega))⟩
  · obtain rfl : true = sw := by rw [← hsw]; simp; omega
    obtain rfl : true = sh := by rw [← hsh]; simp; omega
    have H_hs := Lib.hid hs
    clear hs
    have H_hP := Lib.hid hP
    clear hP
    have H_hsw := Lib.hid hsw
    clear hsw
    have H_hsh := Lib.hid hsh
    clear hsh
    have H_hc := Lib.hid hc
    clear hc
    go_enter Tryd.func7, Tryd.ntmps7
    go_wp2_with fail
    refine call_bel (w := w) (by repeat' (first | (with_reducible first | exact bwR _ _ | assumption | refine bdn ?_ | refine bwA ?_ ?_ _ | refine bwD ?_ | refine bwS ?_ ?_ _) | omega | (simp <;> omega))) (fun HB => side_any zw true _ H_hsw.out) ?_
    intro w1 hb1 hz1 c1 d1 hW1
    have t1 := hb1.size
    try simp only [szA] at hz1 c1 d1
    try simp only [szD] at hz1 c1 d1
    try simp only [szS] at hz1 c1 d1
    try simp only [World.heap_drewN] at hz1 c1 d1
    try simp only [szA] at hz1 c1 d1
    try simp only [szD] at hz1 c1 d1
    try simp only [szS] at hz1 c1 d1
    have s1_0 : w.heap.size < w1.heap.size := by omega
    have o1_0 := fun j => c1 (w.heap.size) j (by omega)
    have f1_0 := fun j => d1 (w.heap.size) j (by omega)
    clear c1 d1 hz1 hW1
    go_wp2_with fail
    refine call_bel (w := w) (by repeat' (first | (with_reducible first | exact bwR _ _ | assumption | refine bdn ?_ | refine bwA ?_ ?_ _ | refine bwD ?_ | refine bwS ?_ ?_ _) | omega | (simp <;> omega))) (fun HB => side_any zh true _ H_hsh.out) ?_
    intro w2 hb2 hz2 c2 d2 hW2
    have t2 := hb2.size
    try simp only [szA] at hz2 c2 d2
    try simp only [szD] at hz2 c2 d2
    try simp only [szS] at hz2 c2 d2
    try simp only [World.heap_drewN] at hz2 c2 d2
    try simp only [szA] at hz2 c2 d2
    try simp only [szD] at hz2 c2 d2
    try simp only [szS] at hz2 c2 d2
    have s2_0 : w.heap.size < w2.heap.size := by omega
    have o2_0 := fun j => c2 (w.heap.size) j (by omega)
    have f2_0 := fun j => d2 (w.heap.size) j (by omega)
    clear c2 d2 hz2 hW2
    go_wp2_with fail
    refine call_ew (w := w) (by repeat' (first | (with_reducible first | exact bwR _ _ | assumption | refine bdn ?_ | refine bwA ?_ ?_ _ | refine bwD ?_ | refine bwS ?_ ?_ _) | omega | (simp <;> omega))) (fun HB => check_any ea l oa len cap _ (H_hs.out.keep HB rfl) (H_hP.out.keep HB rfl)) ?_
    intro x3 w3 hx3 hb3 hz3 c3 d3 hW3
    have t3 := hb3.size
    try simp only [szA] at hz3 c3 d3
    try simp only [szD] at hz3 c3 d3
    try simp only [szS] at hz3 c3 d3
    try simp only [World.heap_drewN] at hz3 c3 d3
    try simp only [szA] at hz3 c3 d3
    try simp only [szD] at hz3 c3 d3
    try simp only [szS] at hz3 c3 d3
    have s3_0 : w.heap.size < w3.heap.size := by omega
    have o3_0 := fun j => c3 (w.heap.size) j (by omega)
    have f3_0 := fun j => d3 (w.heap.size) j (by omega)
    clear c3 d3 hz3 hW3
    rw [← H_hc.out] at hx3
    obtain ⟨t2', a2, rfl⟩ := hx3.some hc1
    have H_hx3 := Lib.hid hx3
    clear hx3
    go_wp2_with fail
    refine bodyPost_ret (by simp [results, Tryd.results7, go_sem, *]; try rfl) rfl ?_
    refine ⟨_, rfl, ErrAt.lo (lo := w2.heap.size) ?_ (by omega), by repeat' (first | (with_reducible first | exact bwR _ _ | assumption | refine bdn ?_ | refine bwA ?_ ?_ _ | refine bwD ?_ | refine bwS ?_ ?_ _) | omega | (simp <;> omega))⟩
    repeat' (first | exact H_hx3.out | refine ErrAt.put ?_ (by omega))
set_option maxHeartbeats 1000000 in
theorem rowf_errc (ea : Nat → Addr) (l : List Pc) (oa : Option Addr) (len cap : Nat) (zw zy : Int) (c : Nat × Option Nat) (w : World) (hs : SlPc w oa len cap l) (hP : PGs ea w)
    (hc : (¬ (1 ≤ zw ∧ zw ≤ 40 ∧ 0 ≤ zy ∧ zy < 40) ∧ c = (2, none)) ∨ ((1 ≤ zw ∧ zw ≤ 40 ∧ 0 ≤ zy ∧ zy < 40) ∧ c = chkP (l.map Pc.k) 0 ∧ c.1 ≠ 0)) :
    Calls Tryd.prog 16 #[.slice oa len cap, .int .i64 zw, .int .i64 zy] w fun e w' => ∃ x, e = .returned (.tuple #[.slice none 0 0, x]) ∧ ErrAt 181 92 ea w.heap.size w' x c ∧ Below w.heap.size w w' := by
  have hBound := hP.c2
  have zhBound := zlt hBound
  have xhBound := zlts hBound
  have yhBound := zne hBound
  obtain ⟨sw, hsw⟩ : ∃ b, (decide (1 ≤ zw) && decide (zw ≤ 40)) = b := ⟨_, rfl⟩
  have SKB : ∀ W, Below w.heap.size w W → W.cell? ⟨0, 0, none⟩ = some (.iface 181 (.pointer (some (ea 2)))) := fun W h => gkeep h hBound rfl
  have H_SKB := Lib.hid SKB
  clear SKB
  rcases hc with ⟨hno, rfl⟩ | ⟨hyes, hc, hc1⟩
  · cases sw with
    | false =>
      have H_hs := Lib.hid hs
      clear hs
      have H_hP := Lib.hid hP
      clear hP
      have H_hsw := Lib.hid hsw
      clear hsw
      go_enter Tryd.func16, Tryd.ntmps16
      go_wp2_with fail
      refine call_bel (w := w) (by repeat' (first | (with_reducible first | exact bwR _ _ | assumption | refine bdn ?_ | refine bwA ?_ ?_ _ | refine bwD ?_ | refine bwS ?_ ?_ _) | omega | (simp <;> omega))) (fun HB => side_any zw false _ H_hsw.out) ?_
      intro w1 hb1 hz1 c1 d1 hW1
      have t1 := hb1.size
      have hBound_1 := gkeep hb1 hBound rfl
      have zhBound_1 := zlt hBound_1
      have xhBound_1 := zlts hBound_1
      have yhBound_1 := zne hBound_1
      clear c1 d1 hz1 hW1
      go_wp2_with fail
      go_region_held3 (fun W => W.cell? ⟨0, 0, none⟩ = some (.iface 181 (.pointer (some (ea 2))))) (exact H_SKB.out _ (by repeat' (first | (with_reducible first | exact bwR _ _ | assumption | refine bdn ?_ | refine bwA ?_ ?_ _ | refine bwD ?_ | refine bwS ?_ ?_ _) | omega | (simp <;> omega)))) (fail)
      all_goals
        go_wp2_with fail
        go_returns
        exact ⟨_, rfl, rfl, by repeat' (first | (with_reducible first | exact bwR _ _ | assumption | refine bdn ?_ | refine bwA ?_ ?_ _ | refine bwD ?_ | refine bwS ?_ ?_ _) | omega | (simp <;> omega))⟩
    | true =>
      have hw : 1 ≤ zw ∧ zw ≤ 40 := by simp at hsw; omega
      by_cases hy : zy < 0
      · have H_hs := Lib.hid hs
        clear hs
        have H_hP := Lib.hid hP
        clear hP
        have H_hsw := Lib.hid hsw
        clear hsw
        go_enter Tryd.func16, Tryd.ntmps16
        go_wp2_with fail
        refine call_bel (w := w) (by repeat' (first | (with_reducible first | exact bwR _ _ | assumption | refine bdn ?_ | refine bwA ?_ ?_ _ | refine bwD ?_ | refine bwS ?_ ?_ _) | omega | (simp <;> omega))) (fun HB => side_any zw true _ H_hsw.out) ?_
        intro w1 hb1 hz1 c1 d1 hW1
        have t1 := hb1.size
        have hBound_1 := gkeep hb1 hBound rfl
        have zhBound_1 := zlt hBound_1
        have xhBound_1 := zlts hBound_1
        have yhBound_1 := zne hBound_1
        clear c1 d1 hz1 hW1
        go_wp2_with fail
        go_region_held3 (fun W => W.cell? ⟨0, 0, none⟩ = some (.iface 181 (.pointer (some (ea 2))))) (exact H_SKB.out _ (by repeat' (first | (with_reducible first | exact bwR _ _ | assumption | refine bdn ?_ | refine bwA ?_ ?_ _ | refine bwD ?_ | refine bwS ?_ ?_ _) | omega | (simp <;> omega)))) (fail)
        all_goals
          go_wp2_with fail
          go_returns
          exact ⟨_, rfl, rfl, by repeat' (first | (with_reducible first | exact bwR _ _ | assumption | refine bdn ?_ | refine bwA ?_ ?_ _ | refine bwD ?_ | refine bwS ?_ ?_ _) | omega | (simp <;> omega))⟩
      · have hy2 : 40 ≤ zy := by omega
        have H_hs := Lib.hid hs
        clear hs
        have H_hP := Lib.hid hP
        clear hP
        have H_hsw := Lib.hid hsw
        clear hsw
        go_enter Tryd.func16, Tryd.ntmps16
        go_wp2_with fail
        refine call_bel (w := w) (by repeat' (first | (with_reducible first | exact bwR _ _ | assumption | refine bdn ?_ | refine bwA ?_ ?_ _ | refine bwD ?_ | refine bwS ?_ ?_ _) | omega | (simp <;> omega))) (fun HB => side_any zw true _ H_hsw.out) ?_
        intro w1 hb1 hz1 c1 d1 hW1
        have t1 := hb1.size
        have hBound_1 := gkeep hb1 hBound rfl
        have zhBound_1 := zlt hBound_1
        have xhBound_1 := zlts hBound_1
        have yhBound_1 := zne hBound_1
        clear c1 d1 hz1 hW1
        go_wp2_with fail
        go_region_held3 (fun W => W.cell? ⟨0, 0, none⟩ = some (.iface 181 (.pointer (some (ea 2))))) (exact H_SKB.out _ (by repeat' (first | (with_reducible first | exact bwR _ _ | assumption | refine bdn ?_ | refine bwA ?_ ?_ _ | refine bwD ?_ | refine bwS ?_ ?_ _) | omega | (simp <;> omega)))) (fail)
        all_goals
          go_wp2_with fail
          go_returns
          exact ⟨_, rfl, rfl, by repeat' (first | (with_reducible first | exact bwR _ _ | assumption | refine bdn ?_ | refine bwA ?_ ?_ _ | refine bwD ?_ | refine bwS ?_ ?_ _) | omega | (simp <;> omega))⟩
  · obtain rfl : true = sw := by rw [← hsw]; simp; omega
    have g1 : ¬ zy < 0 := by omega
    have g2 : ¬ (40 : Int) ≤ zy := by omega
    have H_hs := Lib.hid hs
    clear hs
    have H_hP := Lib.hid hP
    clear hP
    have H_hsw := Lib.hid hsw
    clear hsw
    have H_hc := Lib.hid hc
    clear hc
    go_enter Tryd.func16, Tryd.ntmps16
    go_wp2_with fail
    refine call_bel (w := w) (by repeat' (first | (with_reducible first | exact bwR _ _ | assumption | refine bdn ?_ | refine bwA ?_ ?_ _ | refine bwD ?_ | refine bwS ?_ ?_ _) | omega | (simp <;> omega))) (fun HB => side_any zw true _ H_hsw.out) ?_
    intro w1 hb1 hz1 c1 d1 hW1
    have t1 := hb1.size
    clear c1 d1 hz1 hW1
    go_wp2_with fail
    refine call_ew (w := w) (by repeat' (first | (with_reducible first | exact bwR _ _ | assumption | refine bdn ?_ | refine bwA ?_ ?_ _ | refine bwD ?_ | refine bwS ?_ ?_ _) | omega | (simp <;> omega))) (fun HB => check_any ea l oa len cap _ (H_hs.out.keep HB rfl) (H_hP.out.keep HB rfl)) ?_
    intro x2 w2 hx2 hb2 hz2 c2 d2 hW2
    have t2 := hb2.size
    clear c2 d2 hz2 hW2
    rw [← H_hc.out] at hx2
    obtain ⟨t2', a2, rfl⟩ := hx2.some hc1
    have H_hx2 := Lib.hid hx2
    clear hx2
    go_wp2_with fail
    go_returns
    exact ⟨_, rfl, H_hx2.out.keep (B := w2.heap.size) (by repeat' (first | (with_reducible first | exact bwR _ _ | assumption | refine bdn ?_ | refine bwA ?_ ?_ _ | refine bwD ?_ | refine bwS ?_ ?_ _) | omega | (simp <;> omega))) rfl (by omega), by repeat' (first | (with_reducible first | exact bwR _ _ | assumption | refine bdn ?_ | refine bwA ?_ ?_ _ | refine bwD ?_ | refine bwS ?_ ?_ _) | omega | (simp <;> omega))⟩
end Go.Proofs.YtaidgecpglikpaaDoor
