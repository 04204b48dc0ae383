/-
  Walks over the document's answer: the error of a shape; beyond.
-/
import Derived.Test.YtpdaenldmgpkjaaGreatDoorRef2
import Derived.Test.YtpdaenldmgpkjaaGreatDoorCd
import Derived.Test.YtpdaenldmgpkjaaGreatDoorPa
namespace Go.Proofs.YtpdaenldmgpkjaaGreatDoor
open Go.RowKit Lead

set_option maxHeartbeats 400000 in
theorem rbare_any (c : Int) (w : World) : Calls Tryz.prog 41 #[.int .i64 c] w fun e w' => e = .returned (.agg #[.int .i64 c, .int .i64 (-1)]) ∧ Below w.heap.size w w' := by
  go_enter Tryz.func41, Tryz.ntmps41
  go_wp2_with fail
  refine bodyPost_ret (by simp [results, Tryz.results41, go_sem, *]; try rfl) rfl ?_
  exact ⟨rfl, by repeat' (first | (with_reducible first | exact bwR _ _ | assumption | refine bdn ?_ | refine bwA ?_ ?_ _ | refine bwD ?_ | refine bwS ?_ ?_ _) | omega | (simp <;> omega))⟩
set_option maxHeartbeats 400000 in
theorem rfine_any (w : World) : Calls Tryz.prog 36 #[] w fun e w' => e = .returned (.agg #[.int .i64 0, .int .i64 (-1)]) ∧ Below w.heap.size w w' := by
  go_enter Tryz.func36, Tryz.ntmps36
  go_wp2_with fail
  refine bodyPost_ret (by simp [results, Tryz.results36, go_sem, *]; try rfl) rfl ?_
  exact ⟨rfl, by repeat' (first | (with_reducible first | exact bwR _ _ | assumption | refine bdn ?_ | refine bwA ?_ ?_ _ | refine bwD ?_ | refine bwS ?_ ?_ _) | omega | (simp <;> omega))⟩
theorem rpoint_c (p : Pt) (c : Int) (w : World) (hI : p.I) (h : (p.c : Int) = c) :
    Calls Tryz.prog 61 #[.agg #[.int .i64 p.xn, .int .i64 p.xd, .int .i64 p.yn, .int .i64 p.yd]] w fun e w' => e = .returned (.int .i64 c) ∧ Below w.heap.size w w' :=
  (rpoint_any p w hI).mono fun e w' ⟨h1, h2⟩ => ⟨by rw [h1, h], h2⟩

set_option maxHeartbeats 1000000 in
theorem rshapefault_c (ps : List Pt) (oa : Option Addr) (len cap : Nat) (c at' : Int) (w : World) (hs : SlP w oa len cap ps) (hc1 : ((shC ps).1 : Int) = c) (hc2 : atI (shC ps).2 = at') :
    Calls Tryz.prog 28 #[.slice oa len cap] w fun e w' => e = .returned (.agg #[.int .i64 c, .int .i64 at']) ∧ Below w.heap.size w w' := by
  obtain ⟨hl, hlc, hm, hI, hcase⟩ := hs
  unfold maxLen at hm
  by_cases h30 : 30 < len
  · have hc : shC ps = (2, none) := by unfold shC; rw [if_pos (by omega)]
    rw [hc] at hc1 hc2
    change (2 : Int) = c at hc1
    change (-1 : Int) = at' at hc2
    subst hc1 hc2
    clear hcase
    have H_hc := Lib.hid hc
    clear hc
    have H_hl := Lib.hid hl
    clear hl
    have h30' : (30 : Int) < len := by omega
    go_enter Tryz.func28, Tryz.ntmps28
    go_wp2_with fail
    refine call_below (w := w) (by repeat' (first | (with_reducible first | exact bwR _ _ | assumption | refine bdn ?_ | refine bwA ?_ ?_ _ | refine bwD ?_ | refine bwS ?_ ?_ _) | omega | (simp <;> omega))) (fun HB => rbare_any 2 _) ?_
    intro w1 hb1 hz1 c1 d1
    have t1 := hb1.size
    try simp only [szA] at hz1 c1 d1
    try simp only [szD] at hz1 c1 d1
    try simp only [szS] at hz1 c1 d1
    try simp only [World.heap_drewN] at hz1 c1 d1
    try simp only [szA] at hz1 c1 d1
    try simp only [szD] at hz1 c1 d1
    try simp only [szS] at hz1 c1 d1
    have s1_0 : w.heap.size < w1.heap.size := by omega
    have o1_0 := fun j => c1 (w.heap.size) j (by omega)
    have f1_0 := fun j => d1 (w.heap.size) j (by omega)
    clear c1 d1 hz1
    go_wp2_with fail
    refine bodyPost_ret (by simp [results, Tryz.results28, go_sem, *]; try rfl) rfl ?_
    exact ⟨rfl, by repeat' (first | (with_reducible first | exact bwR _ _ | assumption | refine bdn ?_ | refine bwA ?_ ?_ _ | refine bwD ?_ | refine bwS ?_ ?_ _) | omega | (simp <;> omega))⟩
  have hc : shC ps = firstBad ps 0 := by unfold shC; rw [if_neg (by omega)]
  rcases hcase with ⟨rfl, hl0, rfl⟩ | ⟨b, off, rfl, hbl, hp⟩
  · have hc2' : shC ps = (0, none) := by
      rw [hc, List.length_eq_zero_iff.1 (show ps.length = 0 by omega)]; rfl
    rw [hc2'] at hc1 hc2
    change (0 : Int) = c at hc1
    change (-1 : Int) = at' at hc2
    subst hc1 hc2
    subst hl0
    clear hc
    have H_hc2' := Lib.hid hc2'
    clear hc2'
    have H_hl := Lib.hid hl
    clear hl
    go_enter Tryz.func28, Tryz.ntmps28
    go_wp2_with fail
    refine wp_loop_rounds 1 ?_
    rw [rounds_succ]
    go_wp2_with fail
    refine call_below (w := w) (by repeat' (first | (with_reducible first | exact bwR _ _ | assumption | refine bdn ?_ | refine bwA ?_ ?_ _ | refine bwD ?_ | refine bwS ?_ ?_ _) | omega | (simp <;> omega))) (fun HB => rfine_any _) ?_
    intro w1 hb1 hz1 c1 d1
    have t1 := hb1.size
    try simp only [szA] at hz1 c1 d1
    try simp only [szD] at hz1 c1 d1
    try simp only [szS] at hz1 c1 d1
    try simp only [World.heap_drewN] at hz1 c1 d1
    try simp only [szA] at hz1 c1 d1
    try simp only [szD] at hz1 c1 d1
    try simp only [szS] at hz1 c1 d1
    have s1_0 : w.heap.size < w1.heap.size := by omega
    have o1_0 := fun j => c1 (w.heap.size) j (by omega)
    have f1_0 := fun j => d1 (w.heap.size) j (by omega)
    clear c1 d1 hz1
    go_wp2_with fail
    refine bodyPost_ret (by simp [results, Tryz.results28, go_sem, *]; try rfl) rfl ?_
    exact ⟨rfl, by repeat' (first | (with_reducible first | exact bwR _ _ | assumption | refine bdn ?_ | refine bwA ?_ ?_ _ | refine bwD ?_ | refine bwS ?_ ?_ _) | omega | (simp <;> omega))⟩
  · have g30 : ¬ (30 : Int) < len := by omega
    have H_hc := Lib.hid hc
    clear hc
    have H_hl := Lib.hid hl
    clear hl
    have H_hp := Lib.hid hp
    clear hp
    have H_hc1 := Lib.hid hc1
    clear hc1
    have H_hc2 := Lib.hid hc2
    clear hc2
    go_enter Tryz.func28, Tryz.ntmps28
    go_wp2_with fail
    go_loopw [3, 4] (fun i e wr => ∃ k : Nat, k ≤ len ∧ i = .int .i64 k ∧ firstBad ps 0 = firstBad (ps.drop k) k ∧ Below (w.heap.size + 1) (w.alloc (.cells #[.int .i64 0, .int .i64 0] 36)) wr) (fun i _ _ => len - (intOf i).toNat)
    case atStart => exact ⟨0, Nat.zero_le _, rfl, rfl, Below.refl _ _⟩
    case round =>
      obtain ⟨k, hk, rfl, hfb, hB0⟩ := hrel
      have hB : Below w.heap.size w wr := ((Below.refl _ _).alloc (Nat.le_refl _) _).trans (hB0.mono (by omega))
      have hzr := hB0.size
      simp only [World.size_alloc] at hzr
      have o0 : ∀ j, wr.cell? ⟨w.heap.size, j, none⟩ = #[Value.int .i64 0, Value.int .i64 0][j]? := fun j => by rw [hB0.cell (by simp)]; simp
      have f0 : ∀ j, wr.frozen? ⟨w.heap.size, j, none⟩ = (w.alloc (.cells #[.int .i64 0, .int .i64 0] 36)).frozen? ⟨w.heap.size, j, none⟩ := fun j => hB0.frozen (by simp)
      have s0 : w.heap.size < wr.heap.size := by omega
      by_cases hlt : k < len
      · have hk' : k < ps.length := by have := H_hl.out; omega
        have q0 := gkeep hB (H_hp.out.c0 k hk') rfl
        have q1 := gkeep hB (H_hp.out.c1 k hk') rfl
        have q2 := gkeep hB (H_hp.out.c2 k hk') rfl
        have q3 := gkeep hB (H_hp.out.c3 k hk') rfl
        have hIk := hI _ (List.getElem_mem hk')
        have hst := firstBad_step hk'
        have hhit := firstBad_hit hk'
        obtain ⟨p, hpk⟩ : ∃ p, ps[k] = p := ⟨_, rfl⟩
        rw [hpk] at q0 q1 q2 q3 hIk hst hhit
        clear hpk
        by_cases hpc : p.c = 0
        · have hst' := hst hpc
          have hpc' : (p.c : Int) = 0 := by omega
          have H_hst' := Lib.hid hst'
          clear hst'
          have H_hfb := Lib.hid hfb
          clear hfb
          have H_hpc := Lib.hid hpc
          clear hpc
          have H_hpc' := Lib.hid hpc'
          clear hpc'
          have H_hB0 := Lib.hid hB0
          clear hB0
          clear hst hhit
          go_wp2_with fail
          refine call_bel (w := w) (by repeat' (first | (with_reducible first | exact bwR _ _ | assumption | refine bdn ?_ | refine bwA ?_ ?_ _ | refine bwD ?_ | refine bwS ?_ ?_ _) | omega | (simp <;> omega))) (fun HB => rpoint_c p 0 _ hIk H_hpc'.out) ?_
          intro w1 hb1 hz1 c1 d1 hW1
          have t1 := hb1.size
          try simp only [szA] at hz1 c1 d1
          try simp only [szD] at hz1 c1 d1
          try simp only [szS] at hz1 c1 d1
          try simp only [World.heap_drewN] at hz1 c1 d1
          try simp only [szA] at hz1 c1 d1
          try simp only [szD] at hz1 c1 d1
          try simp only [szS] at hz1 c1 d1
          have s1_0 : w.heap.size < w1.heap.size := by omega
          have o1_0 := fun j => c1 (w.heap.size) j (by omega)
          have f1_0 := fun j => d1 (w.heap.size) j (by omega)
          clear c1 d1 hz1
          go_wp2_with fail
          go_roundw
          case rel => exact ⟨k + 1, by omega, by go_num, H_hfb.out.trans H_hst'.out, H_hB0.out.trans (hW1.mono (by omega))⟩
          case measure => simp [intOf]; omega
        · have hhit' := hhit hpc
          rw [← hfb, ← H_hc.out] at hhit'
          have e1 := H_hc1.out
          have e2 := H_hc2.out
          rw [hhit'] at e1 e2
          change (k : Int) = at' at e2
          subst e2
          have g1 : 0 < c := by have : (p.c : Int) = c := e1; omega
          have H_hhit' := Lib.hid hhit'
          clear hhit'
          have H_hfb := Lib.hid hfb
          clear hfb
          have H_e1 := Lib.hid e1
          clear e1
          clear hst hhit
          go_wp2_with fail
          refine call_below (w := w) (by repeat' (first | (with_reducible first | exact bwR _ _ | assumption | refine bdn ?_ | refine bwA ?_ ?_ _ | refine bwD ?_ | refine bwS ?_ ?_ _) | omega | (simp <;> omega))) (fun HB => rpoint_c p c _ hIk H_e1.out) ?_
          intro w1 hb1 hz1 c1 d1
          have t1 := hb1.size
          try simp only [szA] at hz1 c1 d1
          try simp only [szD] at hz1 c1 d1
          try simp only [szS] at hz1 c1 d1
          try simp only [World.heap_drewN] at hz1 c1 d1
          try simp only [szA] at hz1 c1 d1
          try simp only [szD] at hz1 c1 d1
          try simp only [szS] at hz1 c1 d1
          have s1_0 : w.heap.size < w1.heap.size := by omega
          have o1_0 := fun j => c1 (w.heap.size) j (by omega)
          have f1_0 := fun j => d1 (w.heap.size) j (by omega)
          clear c1 d1 hz1
          go_wp2_with fail
          refine bodyPost_ret (by simp [results, Tryz.results28, go_sem, *]; try rfl) rfl ?_
          exact ⟨rfl, by repeat' (first | (with_reducible first | exact bwR _ _ | assumption | refine bdn ?_ | refine bwA ?_ ?_ _ | refine bwD ?_ | refine bwS ?_ ?_ _) | omega | (simp <;> omega))⟩
      · have hfe : shC ps = (0, none) := by rw [H_hc.out, hfb, firstBad_end (by have := H_hl.out; omega)]
        have e1 := H_hc1.out
        have e2 := H_hc2.out
        rw [hfe] at e1 e2
        change (0 : Int) = c at e1
        change (-1 : Int) = at' at e2
        subst e1 e2
        have H_hfe := Lib.hid hfe
        clear hfe
        have H_hfb := Lib.hid hfb
        clear hfb
        go_wp2_with fail
        refine call_below (w := w) (by repeat' (first | (with_reducible first | exact bwR _ _ | assumption | refine bdn ?_ | refine bwA ?_ ?_ _ | refine bwD ?_ | refine bwS ?_ ?_ _) | omega | (simp <;> omega))) (fun HB => rfine_any _) ?_
        intro w1 hb1 hz1 c1 d1
        have t1 := hb1.size
        try simp only [szA] at hz1 c1 d1
        try simp only [szD] at hz1 c1 d1
        try simp only [szS] at hz1 c1 d1
        try simp only [World.heap_drewN] at hz1 c1 d1
        try simp only [szA] at hz1 c1 d1
        try simp only [szD] at hz1 c1 d1
        try simp only [szS] at hz1 c1 d1
        have s1_0 : w.heap.size < w1.heap.size := by omega
        have o1_0 := fun j => c1 (w.heap.size) j (by omega)
        have f1_0 := fun j => d1 (w.heap.size) j (by omega)
        clear c1 d1 hz1
        go_wp2_with fail
        refine bodyPost_ret (by simp [results, Tryz.results28, go_sem, *]; try rfl) rfl ?_
        exact ⟨rfl, by repeat' (first | (with_reducible first | exact bwR _ _ | assumption | refine bdn ?_ | refine bwA ?_ ?_ _ | refine bwD ?_ | refine bwS ?_ ?_ _) | omega | (simp <;> omega))⟩

end Go.Proofs.YtpdaenldmgpkjaaGreatDoor
