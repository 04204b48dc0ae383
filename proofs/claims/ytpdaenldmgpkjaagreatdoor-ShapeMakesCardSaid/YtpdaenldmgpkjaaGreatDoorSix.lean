/-
  Walks over the document's answer: SixFault of a move's six parts. (Written by wip/mksix.py.)
-/
import Derived.Test.YtpdaenldmgpkjaaGreatDoorMa
import Derived.Test.YtpdaenldmgpkjaaGreatDoorRef2
namespace Lead
open Go Go.RowKit
/-- A place as a number: none is -1. -/
def atZ (o : Option Nat) : Int := match o with | none => -1 | some k => k
theorem six_cases (m : Mv) : (m.A.c ≠ 0 ∧ m.c = (m.A.c, some 0)) ∨ (m.A.c = 0 ∧ m.B.c ≠ 0 ∧ m.c = (m.B.c, some 1)) ∨ (m.A.c = 0 ∧ m.B.c = 0 ∧ m.C.c ≠ 0 ∧ m.c = (m.C.c, some 2)) ∨ (m.A.c = 0 ∧ m.B.c = 0 ∧ m.C.c = 0 ∧ m.D.c ≠ 0 ∧ m.c = (m.D.c, some 3)) ∨ (m.A.c = 0 ∧ m.B.c = 0 ∧ m.C.c = 0 ∧ m.D.c = 0 ∧ m.E.c ≠ 0 ∧ m.c = (m.E.c, some 4)) ∨ (m.A.c = 0 ∧ m.B.c = 0 ∧ m.C.c = 0 ∧ m.D.c = 0 ∧ m.E.c = 0 ∧ m.F.c ≠ 0 ∧ m.c = (m.F.c, some 5)) ∨ (m.A.c = 0 ∧ m.B.c = 0 ∧ m.C.c = 0 ∧ m.D.c = 0 ∧ m.E.c = 0 ∧ m.F.c = 0 ∧ m.c = (0, none)) := by
  unfold Mv.c Mv.l firstF
  by_cases hA : m.A.c = 0
  · by_cases hB : m.B.c = 0
    · by_cases hC : m.C.c = 0
      · by_cases hD : m.D.c = 0
        · by_cases hE : m.E.c = 0
          · by_cases hF : m.F.c = 0
            · simp [firstF, hA, hB, hC, hD, hE, hF]
            · simp [firstF, hA, hB, hC, hD, hE, hF]
          · simp [firstF, hA, hB, hC, hD, hE]
        · simp [firstF, hA, hB, hC, hD]
      · simp [firstF, hA, hB, hC]
    · simp [firstF, hA, hB]
  · simp [hA]
end Lead
namespace Go.Proofs.YtpdaenldmgpkjaaGreatDoor
open Go.RowKit Lead
theorem rbare2_any (c : Int) (w : World) : Calls Tryz.prog 41 #[.int .i64 c] w fun e w' => e = .returned (.agg #[.int .i64 c, .int .i64 (-1)]) ∧ Below w.heap.size w w' := by
  go_enter Tryz.func41, Tryz.ntmps41
  go_wp2_with fail
  refine bodyPost_ret (by simp [results, Tryz.results41, go_sem, *]; try rfl) rfl ?_
  exact ⟨rfl, by repeat' (first | (with_reducible first | exact bwR _ _ | assumption | refine bdn ?_ | refine bwA ?_ ?_ _ | refine bwD ?_ | refine bwS ?_ ?_ _) | omega | (simp <;> omega))⟩
theorem rfine2_any (w : World) : Calls Tryz.prog 36 #[] w fun e w' => e = .returned (.agg #[.int .i64 0, .int .i64 (-1)]) ∧ Below w.heap.size w w' := by
  go_enter Tryz.func36, Tryz.ntmps36
  go_wp2_with fail
  refine bodyPost_ret (by simp [results, Tryz.results36, go_sem, *]; try rfl) rfl ?_
  exact ⟨rfl, by repeat' (first | (with_reducible first | exact bwR _ _ | assumption | refine bdn ?_ | refine bwA ?_ ?_ _ | refine bwD ?_ | refine bwS ?_ ?_ _) | omega | (simp <;> omega))⟩
set_option maxHeartbeats 4000000 in
set_option maxRecDepth 100000 in
theorem rsix_any (m : Mv) (n at' : Int) (w : World) (im : m.I) (hn : (m.c.1 : Int) = n) (ha : atZ m.c.2 = at') :
    Calls Tryz.prog 27 #[.agg #[.int .i64 m.A.n, .int .i64 m.A.d, .int .i64 m.B.n, .int .i64 m.B.d, .int .i64 m.C.n, .int .i64 m.C.d, .int .i64 m.D.n, .int .i64 m.D.d, .int .i64 m.E.n, .int .i64 m.E.d, .int .i64 m.F.n, .int .i64 m.F.d]] w fun e w' => e = .returned (.agg #[.int .i64 n, .int .i64 at']) ∧ Below w.heap.size w w' := by
  rcases six_cases m with ⟨h0, hc⟩ | ⟨h0, h1, hc⟩ | ⟨h0, h1, h2, hc⟩ | ⟨h0, h1, h2, h3, hc⟩ | ⟨h0, h1, h2, h3, h4, hc⟩ | ⟨h0, h1, h2, h3, h4, h5, hc⟩ | ⟨h0, h1, h2, h3, h4, h5, hc⟩
  · rw [hc] at hn ha
    obtain rfl : (0 : Int) = at' := ha
    have hpos : 0 < n := by have : m.A.c ≠ 0 := h0; omega
    have hn' : (chk m.A.n m.A.d : Int) = n := hn
    have iA := im.A
    have iB := im.B
    have iC := im.C
    have iD := im.D
    have iE := im.E
    have iF := im.F
    have H_hn := Lib.hid hn
    clear hn
    have H_hn' := Lib.hid hn'
    clear hn'
    have H_hc := Lib.hid hc
    clear hc
    have H_im := Lib.hid im
    clear im
    have H_iA := Lib.hid iA
    clear iA
    have H_iB := Lib.hid iB
    clear iB
    have H_iC := Lib.hid iC
    clear iC
    have H_iD := Lib.hid iD
    clear iD
    have H_iE := Lib.hid iE
    clear iE
    have H_iF := Lib.hid iF
    clear iF
    have H_h0 := Lib.hid h0
    clear h0
    go_enter Tryz.func27, Tryz.ntmps27
    go_wp2_with fail
    refine wp_loop_rounds 1 ?_
    rw [rounds_succ]
    go_wp2_with fail
    refine call_bel (w := w) (by repeat' (first | (with_reducible first | exact bwR _ _ | assumption | refine bdn ?_ | refine bwA ?_ ?_ _ | refine bwD ?_ | refine bwS ?_ ?_ _) | omega | (simp <;> omega))) (fun HB => rfracerror_c m.A.n m.A.d n _ H_hn'.out H_iA.out.1 H_iA.out.2) ?_
    intro w1 hb1 hz1 c1 d1 hW1
    have t1 := hb1.size
    try simp only [szA] at hz1 c1 d1
    try simp only [szD] at hz1 c1 d1
    try simp only [szS] at hz1 c1 d1
    try simp only [World.heap_drewN] at hz1 c1 d1
    try simp only [szA] at hz1 c1 d1
    try simp only [szD] at hz1 c1 d1
    try simp only [szS] at hz1 c1 d1
    have s1_0 : w.heap.size < w1.heap.size := by omega
    have o1_0 := fun j => c1 (w.heap.size) j (by omega)
    have f1_0 := fun j => d1 (w.heap.size) j (by omega)
    have s1_1 : w.heap.size + 1 < w1.heap.size := by omega
    have o1_1 := fun j => c1 (w.heap.size + 1) j (by omega)
    have f1_1 := fun j => d1 (w.heap.size + 1) j (by omega)
    clear c1 d1 hz1 hW1
    go_wp2_with fail
    refine bodyPost_ret (by simp [results, Tryz.results27, go_sem, *]; try rfl) rfl ?_
    exact ⟨rfl, by repeat' (first | (with_reducible first | exact bwR _ _ | assumption | refine bdn ?_ | refine bwA ?_ ?_ _ | refine bwD ?_ | refine bwS ?_ ?_ _) | omega | (simp <;> omega))⟩
  · rw [hc] at hn ha
    obtain rfl : (1 : Int) = at' := ha
    have hpos : 0 < n := by have : m.B.c ≠ 0 := h1; omega
    have hn' : (chk m.B.n m.B.d : Int) = n := hn
    have iA := im.A
    have iB := im.B
    have iC := im.C
    have iD := im.D
    have iE := im.E
    have iF := im.F
    have H_hn := Lib.hid hn
    clear hn
    have H_hn' := Lib.hid hn'
    clear hn'
    have H_hc := Lib.hid hc
    clear hc
    have H_im := Lib.hid im
    clear im
    have H_iA := Lib.hid iA
    clear iA
    have H_iB := Lib.hid iB
    clear iB
    have H_iC := Lib.hid iC
    clear iC
    have H_iD := Lib.hid iD
    clear iD
    have H_iE := Lib.hid iE
    clear iE
    have H_iF := Lib.hid iF
    clear iF
    have H_h0 := Lib.hid h0
    clear h0
    have H_h1 := Lib.hid h1
    clear h1
    go_enter Tryz.func27, Tryz.ntmps27
    go_wp2_with fail
    refine wp_loop_rounds 2 ?_
    rw [rounds_succ]
    go_wp2_with fail
    refine call_bel (w := w) (by repeat' (first | (with_reducible first | exact bwR _ _ | assumption | refine bdn ?_ | refine bwA ?_ ?_ _ | refine bwD ?_ | refine bwS ?_ ?_ _) | omega | (simp <;> omega))) (fun HB => rfracerror_0 m.A.n m.A.d _ H_h0.out H_iA.out.1 H_iA.out.2) ?_
    intro w1 hb1 hz1 c1 d1 hW1
    have t1 := hb1.size
    try simp only [szA] at hz1 c1 d1
    try simp only [szD] at hz1 c1 d1
    try simp only [szS] at hz1 c1 d1
    try simp only [World.heap_drewN] at hz1 c1 d1
    try simp only [szA] at hz1 c1 d1
    try simp only [szD] at hz1 c1 d1
    try simp only [szS] at hz1 c1 d1
    have s1_0 : w.heap.size < w1.heap.size := by omega
    have o1_0 := fun j => c1 (w.heap.size) j (by omega)
    have f1_0 := fun j => d1 (w.heap.size) j (by omega)
    have s1_1 : w.heap.size + 1 < w1.heap.size := by omega
    have o1_1 := fun j => c1 (w.heap.size + 1) j (by omega)
    have f1_1 := fun j => d1 (w.heap.size + 1) j (by omega)
    clear c1 d1 hz1 hW1
    go_wp2_with fail
    rw [rounds_succ]
    go_wp2_with fail
    refine call_bel (w := w) (by repeat' (first | (with_reducible first | exact bwR _ _ | assumption | refine bdn ?_ | refine bwA ?_ ?_ _ | refine bwD ?_ | refine bwS ?_ ?_ _) | omega | (simp <;> omega))) (fun HB => rfracerror_c m.B.n m.B.d n _ H_hn'.out H_iB.out.1 H_iB.out.2) ?_
    intro w2 hb2 hz2 c2 d2 hW2
    have t2 := hb2.size
    try simp only [szA] at hz2 c2 d2
    try simp only [szD] at hz2 c2 d2
    try simp only [szS] at hz2 c2 d2
    try simp only [World.heap_drewN] at hz2 c2 d2
    try simp only [szA] at hz2 c2 d2
    try simp only [szD] at hz2 c2 d2
    try simp only [szS] at hz2 c2 d2
    have s2_0 : w.heap.size < w2.heap.size := by omega
    have o2_0 := fun j => c2 (w.heap.size) j (by omega)
    have f2_0 := fun j => d2 (w.heap.size) j (by omega)
    have s2_1 : w.heap.size + 1 < w2.heap.size := by omega
    have o2_1 := fun j => c2 (w.heap.size + 1) j (by omega)
    have f2_1 := fun j => d2 (w.heap.size + 1) j (by omega)
    clear c2 d2 hz2 hW2
    go_wp2_with fail
    refine bodyPost_ret (by simp [results, Tryz.results27, go_sem, *]; try rfl) rfl ?_
    exact ⟨rfl, by repeat' (first | (with_reducible first | exact bwR _ _ | assumption | refine bdn ?_ | refine bwA ?_ ?_ _ | refine bwD ?_ | refine bwS ?_ ?_ _) | omega | (simp <;> omega))⟩
  · rw [hc] at hn ha
    obtain rfl : (2 : Int) = at' := ha
    have hpos : 0 < n := by have : m.C.c ≠ 0 := h2; omega
    have hn' : (chk m.C.n m.C.d : Int) = n := hn
    have iA := im.A
    have iB := im.B
    have iC := im.C
    have iD := im.D
    have iE := im.E
    have iF := im.F
    have H_hn := Lib.hid hn
    clear hn
    have H_hn' := Lib.hid hn'
    clear hn'
    have H_hc := Lib.hid hc
    clear hc
    have H_im := Lib.hid im
    clear im
    have H_iA := Lib.hid iA
    clear iA
    have H_iB := Lib.hid iB
    clear iB
    have H_iC := Lib.hid iC
    clear iC
    have H_iD := Lib.hid iD
    clear iD
    have H_iE := Lib.hid iE
    clear iE
    have H_iF := Lib.hid iF
    clear iF
    have H_h0 := Lib.hid h0
    clear h0
    have H_h1 := Lib.hid h1
    clear h1
    have H_h2 := Lib.hid h2
    clear h2
    go_enter Tryz.func27, Tryz.ntmps27
    go_wp2_with fail
    refine wp_loop_rounds 3 ?_
    rw [rounds_succ]
    go_wp2_with fail
    refine call_bel (w := w) (by repeat' (first | (with_reducible first | exact bwR _ _ | assumption | refine bdn ?_ | refine bwA ?_ ?_ _ | refine bwD ?_ | refine bwS ?_ ?_ _) | omega | (simp <;> omega))) (fun HB => rfracerror_0 m.A.n m.A.d _ H_h0.out H_iA.out.1 H_iA.out.2) ?_
    intro w1 hb1 hz1 c1 d1 hW1
    have t1 := hb1.size
    try simp only [szA] at hz1 c1 d1
    try simp only [szD] at hz1 c1 d1
    try simp only [szS] at hz1 c1 d1
    try simp only [World.heap_drewN] at hz1 c1 d1
    try simp only [szA] at hz1 c1 d1
    try simp only [szD] at hz1 c1 d1
    try simp only [szS] at hz1 c1 d1
    have s1_0 : w.heap.size < w1.heap.size := by omega
    have o1_0 := fun j => c1 (w.heap.size) j (by omega)
    have f1_0 := fun j => d1 (w.heap.size) j (by omega)
    have s1_1 : w.heap.size + 1 < w1.heap.size := by omega
    have o1_1 := fun j => c1 (w.heap.size + 1) j (by omega)
    have f1_1 := fun j => d1 (w.heap.size + 1) j (by omega)
    clear c1 d1 hz1 hW1
    go_wp2_with fail
    rw [rounds_succ]
    go_wp2_with fail
    refine call_bel (w := w) (by repeat' (first | (with_reducible first | exact bwR _ _ | assumption | refine bdn ?_ | refine bwA ?_ ?_ _ | refine bwD ?_ | refine bwS ?_ ?_ _) | omega | (simp <;> omega))) (fun HB => rfracerror_0 m.B.n m.B.d _ H_h1.out H_iB.out.1 H_iB.out.2) ?_
    intro w2 hb2 hz2 c2 d2 hW2
    have t2 := hb2.size
    try simp only [szA] at hz2 c2 d2
    try simp only [szD] at hz2 c2 d2
    try simp only [szS] at hz2 c2 d2
    try simp only [World.heap_drewN] at hz2 c2 d2
    try simp only [szA] at hz2 c2 d2
    try simp only [szD] at hz2 c2 d2
    try simp only [szS] at hz2 c2 d2
    have s2_0 : w.heap.size < w2.heap.size := by omega
    have o2_0 := fun j => c2 (w.heap.size) j (by omega)
    have f2_0 := fun j => d2 (w.heap.size) j (by omega)
    have s2_1 : w.heap.size + 1 < w2.heap.size := by omega
    have o2_1 := fun j => c2 (w.heap.size + 1) j (by omega)
    have f2_1 := fun j => d2 (w.heap.size + 1) j (by omega)
    clear c2 d2 hz2 hW2
    go_wp2_with fail
    rw [rounds_succ]
    go_wp2_with fail
    refine call_bel (w := w) (by repeat' (first | (with_reducible first | exact bwR _ _ | assumption | refine bdn ?_ | refine bwA ?_ ?_ _ | refine bwD ?_ | refine bwS ?_ ?_ _) | omega | (simp <;> omega))) (fun HB => rfracerror_c m.C.n m.C.d n _ H_hn'.out H_iC.out.1 H_iC.out.2) ?_
    intro w3 hb3 hz3 c3 d3 hW3
    have t3 := hb3.size
    try simp only [szA] at hz3 c3 d3
    try simp only [szD] at hz3 c3 d3
    try simp only [szS] at hz3 c3 d3
    try simp only [World.heap_drewN] at hz3 c3 d3
    try simp only [szA] at hz3 c3 d3
    try simp only [szD] at hz3 c3 d3
    try simp only [szS] at hz3 c3 d3
    have s3_0 : w.heap.size < w3.heap.size := by omega
    have o3_0 := fun j => c3 (w.heap.size) j (by omega)
    have f3_0 := fun j => d3 (w.heap.size) j (by omega)
    have s3_1 : w.heap.size + 1 < w3.heap.size := by omega
    have o3_1 := fun j => c3 (w.heap.size + 1) j (by omega)
    have f3_1 := fun j => d3 (w.heap.size + 1) j (by omega)
    clear c3 d3 hz3 hW3
    go_wp2_with fail
    refine bodyPost_ret (by simp [results, Tryz.results27, go_sem, *]; try rfl) rfl ?_
    exact ⟨rfl, by repeat' (first | (with_reducible first | exact bwR _ _ | assumption | refine bdn ?_ | refine bwA ?_ ?_ _ | refine bwD ?_ | refine bwS ?_ ?_ _) | omega | (simp <;> omega))⟩
  · rw [hc] at hn ha
    obtain rfl : (3 : Int) = at' := ha
    have hpos : 0 < n := by have : m.D.c ≠ 0 := h3; omega
    have hn' : (chk m.D.n m.D.d : Int) = n := hn
    have iA := im.A
    have iB := im.B
    have iC := im.C
    have iD := im.D
    have iE := im.E
    have iF := im.F
    have H_hn := Lib.hid hn
    clear hn
    have H_hn' := Lib.hid hn'
    clear hn'
    have H_hc := Lib.hid hc
    clear hc
    have H_im := Lib.hid im
    clear im
    have H_iA := Lib.hid iA
    clear iA
    have H_iB := Lib.hid iB
    clear iB
    have H_iC := Lib.hid iC
    clear iC
    have H_iD := Lib.hid iD
    clear iD
    have H_iE := Lib.hid iE
    clear iE
    have H_iF := Lib.hid iF
    clear iF
    have H_h0 := Lib.hid h0
    clear h0
    have H_h1 := Lib.hid h1
    clear h1
    have H_h2 := Lib.hid h2
    clear h2
    have H_h3 := Lib.hid h3
    clear h3
    go_enter Tryz.func27, Tryz.ntmps27
    go_wp2_with fail
    refine wp_loop_rounds 4 ?_
    rw [rounds_succ]
    go_wp2_with fail
    refine call_bel (w := w) (by repeat' (first | (with_reducible first | exact bwR _ _ | assumption | refine bdn ?_ | refine bwA ?_ ?_ _ | refine bwD ?_ | refine bwS ?_ ?_ _) | omega | (simp <;> omega))) (fun HB => rfracerror_0 m.A.n m.A.d _ H_h0.out H_iA.out.1 H_iA.out.2) ?_
    intro w1 hb1 hz1 c1 d1 hW1
    have t1 := hb1.size
    try simp only [szA] at hz1 c1 d1
    try simp only [szD] at hz1 c1 d1
    try simp only [szS] at hz1 c1 d1
    try simp only [World.heap_drewN] at hz1 c1 d1
    try simp only [szA] at hz1 c1 d1
    try simp only [szD] at hz1 c1 d1
    try simp only [szS] at hz1 c1 d1
    have s1_0 : w.heap.size < w1.heap.size := by omega
    have o1_0 := fun j => c1 (w.heap.size) j (by omega)
    have f1_0 := fun j => d1 (w.heap.size) j (by omega)
    have s1_1 : w.heap.size + 1 < w1.heap.size := by omega
    have o1_1 := fun j => c1 (w.heap.size + 1) j (by omega)
    have f1_1 := fun j => d1 (w.heap.size + 1) j (by omega)
    clear c1 d1 hz1 hW1
    go_wp2_with fail
    rw [rounds_succ]
    go_wp2_with fail
    refine call_bel (w := w) (by repeat' (first | (with_reducible first | exact bwR _ _ | assumption | refine bdn ?_ | refine bwA ?_ ?_ _ | refine bwD ?_ | refine bwS ?_ ?_ _) | omega | (simp <;> omega))) (fun HB => rfracerror_0 m.B.n m.B.d _ H_h1.out H_iB.out.1 H_iB.out.2) ?_
    intro w2 hb2 hz2 c2 d2 hW2
    have t2 := hb2.size
    try simp only [szA] at hz2 c2 d2
    try simp only [szD] at hz2 c2 d2
    try simp only [szS] at hz2 c2 d2
    try simp only [World.heap_drewN] at hz2 c2 d2
    try simp only [szA] at hz2 c2 d2
    try simp only [szD] at hz2 c2 d2
    try simp only [szS] at hz2 c2 d2
    have s2_0 : w.heap.size < w2.heap.size := by omega
    have o2_0 := fun j => c2 (w.heap.size) j (by omega)
    have f2_0 := fun j => d2 (w.heap.size) j (by omega)
    have s2_1 : w.heap.size + 1 < w2.heap.size := by omega
    have o2_1 := fun j => c2 (w.heap.size + 1) j (by omega)
    have f2_1 := fun j => d2 (w.heap.size + 1) j (by omega)
    clear c2 d2 hz2 hW2
    go_wp2_with fail
    rw [rounds_succ]
    go_wp2_with fail
    refine call_bel (w := w) (by repeat' (first | (with_reducible first | exact bwR _ _ | assumption | refine bdn ?_ | refine bwA ?_ ?_ _ | refine bwD ?_ | refine bwS ?_ ?_ _) | omega | (simp <;> omega))) (fun HB => rfracerror_0 m.C.n m.C.d _ H_h2.out H_iC.out.1 H_iC.out.2) ?_
    intro w3 hb3 hz3 c3 d3 hW3
    have t3 := hb3.size
    try simp only [szA] at hz3 c3 d3
    try simp only [szD] at hz3 c3 d3
    try simp only [szS] at hz3 c3 d3
    try simp only [World.heap_drewN] at hz3 c3 d3
    try simp only [szA] at hz3 c3 d3
    try simp only [szD] at hz3 c3 d3
    try simp only [szS] at hz3 c3 d3
    have s3_0 : w.heap.size < w3.heap.size := by omega
    have o3_0 := fun j => c3 (w.heap.size) j (by omega)
    have f3_0 := fun j => d3 (w.heap.size) j (by omega)
    have s3_1 : w.heap.size + 1 < w3.heap.size := by omega
    have o3_1 := fun j => c3 (w.heap.size + 1) j (by omega)
    have f3_1 := fun j => d3 (w.heap.size + 1) j (by omega)
    clear c3 d3 hz3 hW3
    go_wp2_with fail
    rw [rounds_succ]
    go_wp2_with fail
    refine call_bel (w := w) (by repeat' (first | (with_reducible first | exact bwR _ _ | assumption | refine bdn ?_ | refine bwA ?_ ?_ _ | refine bwD ?_ | refine bwS ?_ ?_ _) | omega | (simp <;> omega))) (fun HB => rfracerror_c m.D.n m.D.d n _ H_hn'.out H_iD.out.1 H_iD.out.2) ?_
    intro w4 hb4 hz4 c4 d4 hW4
    have t4 := hb4.size
    try simp only [szA] at hz4 c4 d4
    try simp only [szD] at hz4 c4 d4
    try simp only [szS] at hz4 c4 d4
    try simp only [World.heap_drewN] at hz4 c4 d4
    try simp only [szA] at hz4 c4 d4
    try simp only [szD] at hz4 c4 d4
    try simp only [szS] at hz4 c4 d4
    have s4_0 : w.heap.size < w4.heap.size := by omega
    have o4_0 := fun j => c4 (w.heap.size) j (by omega)
    have f4_0 := fun j => d4 (w.heap.size) j (by omega)
    have s4_1 : w.heap.size + 1 < w4.heap.size := by omega
    have o4_1 := fun j => c4 (w.heap.size + 1) j (by omega)
    have f4_1 := fun j => d4 (w.heap.size + 1) j (by omega)
    clear c4 d4 hz4 hW4
    go_wp2_with fail
    refine bodyPost_ret (by simp [results, Tryz.results27, go_sem, *]; try rfl) rfl ?_
    exact ⟨rfl, by repeat' (first | (with_reducible first | exact bwR _ _ | assumption | refine bdn ?_ | refine bwA ?_ ?_ _ | refine bwD ?_ | refine bwS ?_ ?_ _) | omega | (simp <;> omega))⟩
  · rw [hc] at hn ha
    obtain rfl : (4 : Int) = at' := ha
    have hpos : 0 < n := by have : m.E.c ≠ 0 := h4; omega
    have hn' : (chk m.E.n m.E.d : Int) = n := hn
    have iA := im.A
    have iB := im.B
    have iC := im.C
    have iD := im.D
    have iE := im.E
    have iF := im.F
    have H_hn := Lib.hid hn
    clear hn
    have H_hn' := Lib.hid hn'
    clear hn'
    have H_hc := Lib.hid hc
    clear hc
    have H_im := Lib.hid im
    clear im
    have H_iA := Lib.hid iA
    clear iA
    have H_iB := Lib.hid iB
    clear iB
    have H_iC := Lib.hid iC
    clear iC
    have H_iD := Lib.hid iD
    clear iD
    have H_iE := Lib.hid iE
    clear iE
    have H_iF := Lib.hid iF
    clear iF
    have H_h0 := Lib.hid h0
    clear h0
    have H_h1 := Lib.hid h1
    clear h1
    have H_h2 := Lib.hid h2
    clear h2
    have H_h3 := Lib.hid h3
    clear h3
    have H_h4 := Lib.hid h4
    clear h4
    go_enter Tryz.func27, Tryz.ntmps27
    go_wp2_with fail
    refine wp_loop_rounds 5 ?_
    rw [rounds_succ]
    go_wp2_with fail
    refine call_bel (w := w) (by repeat' (first | (with_reducible first | exact bwR _ _ | assumption | refine bdn ?_ | refine bwA ?_ ?_ _ | refine bwD ?_ | refine bwS ?_ ?_ _) | omega | (simp <;> omega))) (fun HB => rfracerror_0 m.A.n m.A.d _ H_h0.out H_iA.out.1 H_iA.out.2) ?_
    intro w1 hb1 hz1 c1 d1 hW1
    have t1 := hb1.size
    try simp only [szA] at hz1 c1 d1
    try simp only [szD] at hz1 c1 d1
    try simp only [szS] at hz1 c1 d1
    try simp only [World.heap_drewN] at hz1 c1 d1
    try simp only [szA] at hz1 c1 d1
    try simp only [szD] at hz1 c1 d1
    try simp only [szS] at hz1 c1 d1
    have s1_0 : w.heap.size < w1.heap.size := by omega
    have o1_0 := fun j => c1 (w.heap.size) j (by omega)
    have f1_0 := fun j => d1 (w.heap.size) j (by omega)
    have s1_1 : w.heap.size + 1 < w1.heap.size := by omega
    have o1_1 := fun j => c1 (w.heap.size + 1) j (by omega)
    have f1_1 := fun j => d1 (w.heap.size + 1) j (by omega)
    clear c1 d1 hz1 hW1
    go_wp2_with fail
    rw [rounds_succ]
    go_wp2_with fail
    refine call_bel (w := w) (by repeat' (first | (with_reducible first | exact bwR _ _ | assumption | refine bdn ?_ | refine bwA ?_ ?_ _ | refine bwD ?_ | refine bwS ?_ ?_ _) | omega | (simp <;> omega))) (fun HB => rfracerror_0 m.B.n m.B.d _ H_h1.out H_iB.out.1 H_iB.out.2) ?_
    intro w2 hb2 hz2 c2 d2 hW2
    have t2 := hb2.size
    try simp only [szA] at hz2 c2 d2
    try simp only [szD] at hz2 c2 d2
    try simp only [szS] at hz2 c2 d2
    try simp only [World.heap_drewN] at hz2 c2 d2
    try simp only [szA] at hz2 c2 d2
    try simp only [szD] at hz2 c2 d2
    try simp only [szS] at hz2 c2 d2
    have s2_0 : w.heap.size < w2.heap.size := by omega
    have o2_0 := fun j => c2 (w.heap.size) j (by omega)
    have f2_0 := fun j => d2 (w.heap.size) j (by omega)
    have s2_1 : w.heap.size + 1 < w2.heap.size := by omega
    have o2_1 := fun j => c2 (w.heap.size + 1) j (by omega)
    have f2_1 := fun j => d2 (w.heap.size + 1) j (by omega)
    clear c2 d2 hz2 hW2
    go_wp2_with fail
    rw [rounds_succ]
    go_wp2_with fail
    refine call_bel (w := w) (by repeat' (first | (with_reducible first | exact bwR _ _ | assumption | refine bdn ?_ | refine bwA ?_ ?_ _ | refine bwD ?_ | refine bwS ?_ ?_ _) | omega | (simp <;> omega))) (fun HB => rfracerror_0 m.C.n m.C.d _ H_h2.out H_iC.out.1 H_iC.out.2) ?_
    intro w3 hb3 hz3 c3 d3 hW3
    have t3 := hb3.size
    try simp only [szA] at hz3 c3 d3
    try simp only [szD] at hz3 c3 d3
    try simp only [szS] at hz3 c3 d3
    try simp only [World.heap_drewN] at hz3 c3 d3
    try simp only [szA] at hz3 c3 d3
    try simp only [szD] at hz3 c3 d3
    try simp only [szS] at hz3 c3 d3
    have s3_0 : w.heap.size < w3.heap.size := by omega
    have o3_0 := fun j => c3 (w.heap.size) j (by omega)
    have f3_0 := fun j => d3 (w.heap.size) j (by omega)
    have s3_1 : w.heap.size + 1 < w3.heap.size := by omega
    have o3_1 := fun j => c3 (w.heap.size + 1) j (by omega)
    have f3_1 := fun j => d3 (w.heap.size + 1) j (by omega)
    clear c3 d3 hz3 hW3
    go_wp2_with fail
    rw [rounds_succ]
    go_wp2_with fail
    refine call_bel (w := w) (by repeat' (first | (with_reducible first | exact bwR _ _ | assumption | refine bdn ?_ | refine bwA ?_ ?_ _ | refine bwD ?_ | refine bwS ?_ ?_ _) | omega | (simp <;> omega))) (fun HB => rfracerror_0 m.D.n m.D.d _ H_h3.out H_iD.out.1 H_iD.out.2) ?_
    intro w4 hb4 hz4 c4 d4 hW4
    have t4 := hb4.size
    try simp only [szA] at hz4 c4 d4
    try simp only [szD] at hz4 c4 d4
    try simp only [szS] at hz4 c4 d4
    try simp only [World.heap_drewN] at hz4 c4 d4
    try simp only [szA] at hz4 c4 d4
    try simp only [szD] at hz4 c4 d4
    try simp only [szS] at hz4 c4 d4
    have s4_0 : w.heap.size < w4.heap.size := by omega
    have o4_0 := fun j => c4 (w.heap.size) j (by omega)
    have f4_0 := fun j => d4 (w.heap.size) j (by omega)
    have s4_1 : w.heap.size + 1 < w4.heap.size := by omega
    have o4_1 := fun j => c4 (w.heap.size + 1) j (by omega)
    have f4_1 := fun j => d4 (w.heap.size + 1) j (by omega)
    clear c4 d4 hz4 hW4
    go_wp2_with fail
    rw [rounds_succ]
    go_wp2_with fail
    refine call_bel (w := w) (by repeat' (first | (with_reducible first | exact bwR _ _ | assumption | refine bdn ?_ | refine bwA ?_ ?_ _ | refine bwD ?_ | refine bwS ?_ ?_ _) | omega | (simp <;> omega))) (fun HB => rfracerror_c m.E.n m.E.d n _ H_hn'.out H_iE.out.1 H_iE.out.2) ?_
    intro w5 hb5 hz5 c5 d5 hW5
    have t5 := hb5.size
    try simp only [szA] at hz5 c5 d5
    try simp only [szD] at hz5 c5 d5
    try simp only [szS] at hz5 c5 d5
    try simp only [World.heap_drewN] at hz5 c5 d5
    try simp only [szA] at hz5 c5 d5
    try simp only [szD] at hz5 c5 d5
    try simp only [szS] at hz5 c5 d5
    have s5_0 : w.heap.size < w5.heap.size := by omega
    have o5_0 := fun j => c5 (w.heap.size) j (by omega)
    have f5_0 := fun j => d5 (w.heap.size) j (by omega)
    have s5_1 : w.heap.size + 1 < w5.heap.size := by omega
    have o5_1 := fun j => c5 (w.heap.size + 1) j (by omega)
    have f5_1 := fun j => d5 (w.heap.size + 1) j (by omega)
    clear c5 d5 hz5 hW5
    go_wp2_with fail
    refine bodyPost_ret (by simp [results, Tryz.results27, go_sem, *]; try rfl) rfl ?_
    exact ⟨rfl, by repeat' (first | (with_reducible first | exact bwR _ _ | assumption | refine bdn ?_ | refine bwA ?_ ?_ _ | refine bwD ?_ | refine bwS ?_ ?_ _) | omega | (simp <;> omega))⟩
  · rw [hc] at hn ha
    obtain rfl : (5 : Int) = at' := ha
    have hpos : 0 < n := by have : m.F.c ≠ 0 := h5; omega
    have hn' : (chk m.F.n m.F.d : Int) = n := hn
    have iA := im.A
    have iB := im.B
    have iC := im.C
    have iD := im.D
    have iE := im.E
    have iF := im.F
    have H_hn := Lib.hid hn
    clear hn
    have H_hn' := Lib.hid hn'
    clear hn'
    have H_hc := Lib.hid hc
    clear hc
    have H_im := Lib.hid im
    clear im
    have H_iA := Lib.hid iA
    clear iA
    have H_iB := Lib.hid iB
    clear iB
    have H_iC := Lib.hid iC
    clear iC
    have H_iD := Lib.hid iD
    clear iD
    have H_iE := Lib.hid iE
    clear iE
    have H_iF := Lib.hid iF
    clear iF
    have H_h0 := Lib.hid h0
    clear h0
    have H_h1 := Lib.hid h1
    clear h1
    have H_h2 := Lib.hid h2
    clear h2
    have H_h3 := Lib.hid h3
    clear h3
    have H_h4 := Lib.hid h4
    clear h4
    have H_h5 := Lib.hid h5
    clear h5
    go_enter Tryz.func27, Tryz.ntmps27
    go_wp2_with fail
    refine wp_loop_rounds 6 ?_
    rw [rounds_succ]
    go_wp2_with fail
    refine call_bel (w := w) (by repeat' (first | (with_reducible first | exact bwR _ _ | assumption | refine bdn ?_ | refine bwA ?_ ?_ _ | refine bwD ?_ | refine bwS ?_ ?_ _) | omega | (simp <;> omega))) (fun HB => rfracerror_0 m.A.n m.A.d _ H_h0.out H_iA.out.1 H_iA.out.2) ?_
    intro w1 hb1 hz1 c1 d1 hW1
    have t1 := hb1.size
    try simp only [szA] at hz1 c1 d1
    try simp only [szD] at hz1 c1 d1
    try simp only [szS] at hz1 c1 d1
    try simp only [World.heap_drewN] at hz1 c1 d1
    try simp only [szA] at hz1 c1 d1
    try simp only [szD] at hz1 c1 d1
    try simp only [szS] at hz1 c1 d1
    have s1_0 : w.heap.size < w1.heap.size := by omega
    have o1_0 := fun j => c1 (w.heap.size) j (by omega)
    have f1_0 := fun j => d1 (w.heap.size) j (by omega)
    have s1_1 : w.heap.size + 1 < w1.heap.size := by omega
    have o1_1 := fun j => c1 (w.heap.size + 1) j (by omega)
    have f1_1 := fun j => d1 (w.heap.size + 1) j (by omega)
    clear c1 d1 hz1 hW1
    go_wp2_with fail
    rw [rounds_succ]
    go_wp2_with fail
    refine call_bel (w := w) (by repeat' (first | (with_reducible first | exact bwR _ _ | assumption | refine bdn ?_ | refine bwA ?_ ?_ _ | refine bwD ?_ | refine bwS ?_ ?_ _) | omega | (simp <;> omega))) (fun HB => rfracerror_0 m.B.n m.B.d _ H_h1.out H_iB.out.1 H_iB.out.2) ?_
    intro w2 hb2 hz2 c2 d2 hW2
    have t2 := hb2.size
    try simp only [szA] at hz2 c2 d2
    try simp only [szD] at hz2 c2 d2
    try simp only [szS] at hz2 c2 d2
    try simp only [World.heap_drewN] at hz2 c2 d2
    try simp only [szA] at hz2 c2 d2
    try simp only [szD] at hz2 c2 d2
    try simp only [szS] at hz2 c2 d2
    have s2_0 : w.heap.size < w2.heap.size := by omega
    have o2_0 := fun j => c2 (w.heap.size) j (by omega)
    have f2_0 := fun j => d2 (w.heap.size) j (by omega)
    have s2_1 : w.heap.size + 1 < w2.heap.size := by omega
    have o2_1 := fun j => c2 (w.heap.size + 1) j (by omega)
    have f2_1 := fun j => d2 (w.heap.size + 1) j (by omega)
    clear c2 d2 hz2 hW2
    go_wp2_with fail
    rw [rounds_succ]
    go_wp2_with fail
    refine call_bel (w := w) (by repeat' (first | (with_reducible first | exact bwR _ _ | assumption | refine bdn ?_ | refine bwA ?_ ?_ _ | refine bwD ?_ | refine bwS ?_ ?_ _) | omega | (simp <;> omega))) (fun HB => rfracerror_0 m.C.n m.C.d _ H_h2.out H_iC.out.1 H_iC.out.2) ?_
    intro w3 hb3 hz3 c3 d3 hW3
    have t3 := hb3.size
    try simp only [szA] at hz3 c3 d3
    try simp only [szD] at hz3 c3 d3
    try simp only [szS] at hz3 c3 d3
    try simp only [World.heap_drewN] at hz3 c3 d3
    try simp only [szA] at hz3 c3 d3
    try simp only [szD] at hz3 c3 d3
    try simp only [szS] at hz3 c3 d3
    have s3_0 : w.heap.size < w3.heap.size := by omega
    have o3_0 := fun j => c3 (w.heap.size) j (by omega)
    have f3_0 := fun j => d3 (w.heap.size) j (by omega)
    have s3_1 : w.heap.size + 1 < w3.heap.size := by omega
    have o3_1 := fun j => c3 (w.heap.size + 1) j (by omega)
    have f3_1 := fun j => d3 (w.heap.size + 1) j (by omega)
    clear c3 d3 hz3 hW3
    go_wp2_with fail
    rw [rounds_succ]
    go_wp2_with fail
    refine call_bel (w := w) (by repeat' (first | (with_reducible first | exact bwR _ _ | assumption | refine bdn ?_ | refine bwA ?_ ?_ _ | refine bwD ?_ | refine bwS ?_ ?_ _) | omega | (simp <;> omega))) (fun HB => rfracerror_0 m.D.n m.D.d _ H_h3.out H_iD.out.1 H_iD.out.2) ?_
    intro w4 hb4 hz4 c4 d4 hW4
    have t4 := hb4.size
    try simp only [szA] at hz4 c4 d4
    try simp only [szD] at hz4 c4 d4
    try simp only [szS] at hz4 c4 d4
    try simp only [World.heap_drewN] at hz4 c4 d4
    try simp only [szA] at hz4 c4 d4
    try simp only [szD] at hz4 c4 d4
    try simp only [szS] at hz4 c4 d4
    have s4_0 : w.heap.size < w4.heap.size := by omega
    have o4_0 := fun j => c4 (w.heap.size) j (by omega)
    have f4_0 := fun j => d4 (w.heap.size) j (by omega)
    have s4_1 : w.heap.size + 1 < w4.heap.size := by omega
    have o4_1 := fun j => c4 (w.heap.size + 1) j (by omega)
    have f4_1 := fun j => d4 (w.heap.size + 1) j (by omega)
    clear c4 d4 hz4 hW4
    go_wp2_with fail
    rw [rounds_succ]
    go_wp2_with fail
    refine call_bel (w := w) (by repeat' (first | (with_reducible first | exact bwR _ _ | assumption | refine bdn ?_ | refine bwA ?_ ?_ _ | refine bwD ?_ | refine bwS ?_ ?_ _) | omega | (simp <;> omega))) (fun HB => rfracerror_0 m.E.n m.E.d _ H_h4.out H_iE.out.1 H_iE.out.2) ?_
    intro w5 hb5 hz5 c5 d5 hW5
    have t5 := hb5.size
    try simp only [szA] at hz5 c5 d5
    try simp only [szD] at hz5 c5 d5
    try simp only [szS] at hz5 c5 d5
    try simp only [World.heap_drewN] at hz5 c5 d5
    try simp only [szA] at hz5 c5 d5
    try simp only [szD] at hz5 c5 d5
    try simp only [szS] at hz5 c5 d5
    have s5_0 : w.heap.size < w5.heap.size := by omega
    have o5_0 := fun j => c5 (w.heap.size) j (by omega)
    have f5_0 := fun j => d5 (w.heap.size) j (by omega)
    have s5_1 : w.heap.size + 1 < w5.heap.size := by omega
    have o5_1 := fun j => c5 (w.heap.size + 1) j (by omega)
    have f5_1 := fun j => d5 (w.heap.size + 1) j (by omega)
    clear c5 d5 hz5 hW5
    go_wp2_with fail
    rw [rounds_succ]
    go_wp2_with fail
    refine call_bel (w := w) (by repeat' (first | (with_reducible first | exact bwR _ _ | assumption | refine bdn ?_ | refine bwA ?_ ?_ _ | refine bwD ?_ | refine bwS ?_ ?_ _) | omega | (simp <;> omega))) (fun HB => rfracerror_c m.F.n m.F.d n _ H_hn'.out H_iF.out.1 H_iF.out.2) ?_
    intro w6 hb6 hz6 c6 d6 hW6
    have t6 := hb6.size
    try simp only [szA] at hz6 c6 d6
    try simp only [szD] at hz6 c6 d6
    try simp only [szS] at hz6 c6 d6
    try simp only [World.heap_drewN] at hz6 c6 d6
    try simp only [szA] at hz6 c6 d6
    try simp only [szD] at hz6 c6 d6
    try simp only [szS] at hz6 c6 d6
    have s6_0 : w.heap.size < w6.heap.size := by omega
    have o6_0 := fun j => c6 (w.heap.size) j (by omega)
    have f6_0 := fun j => d6 (w.heap.size) j (by omega)
    have s6_1 : w.heap.size + 1 < w6.heap.size := by omega
    have o6_1 := fun j => c6 (w.heap.size + 1) j (by omega)
    have f6_1 := fun j => d6 (w.heap.size + 1) j (by omega)
    clear c6 d6 hz6 hW6
    go_wp2_with fail
    refine bodyPost_ret (by simp [results, Tryz.results27, go_sem, *]; try rfl) rfl ?_
    exact ⟨rfl, by repeat' (first | (with_reducible first | exact bwR _ _ | assumption | refine bdn ?_ | refine bwA ?_ ?_ _ | refine bwD ?_ | refine bwS ?_ ?_ _) | omega | (simp <;> omega))⟩
  · rw [hc] at hn ha
    obtain rfl : (-1 : Int) = at' := ha
    obtain rfl : (0 : Int) = n := hn
    have iA := im.A
    have iB := im.B
    have iC := im.C
    have iD := im.D
    have iE := im.E
    have iF := im.F
    have H_hc := Lib.hid hc
    clear hc
    have H_im := Lib.hid im
    clear im
    have H_iA := Lib.hid iA
    clear iA
    have H_iB := Lib.hid iB
    clear iB
    have H_iC := Lib.hid iC
    clear iC
    have H_iD := Lib.hid iD
    clear iD
    have H_iE := Lib.hid iE
    clear iE
    have H_iF := Lib.hid iF
    clear iF
    have H_h0 := Lib.hid h0
    clear h0
    have H_h1 := Lib.hid h1
    clear h1
    have H_h2 := Lib.hid h2
    clear h2
    have H_h3 := Lib.hid h3
    clear h3
    have H_h4 := Lib.hid h4
    clear h4
    have H_h5 := Lib.hid h5
    clear h5
    go_enter Tryz.func27, Tryz.ntmps27
    go_wp2_with fail
    refine wp_loop_rounds 7 ?_
    rw [rounds_succ]
    go_wp2_with fail
    refine call_bel (w := w) (by repeat' (first | (with_reducible first | exact bwR _ _ | assumption | refine bdn ?_ | refine bwA ?_ ?_ _ | refine bwD ?_ | refine bwS ?_ ?_ _) | omega | (simp <;> omega))) (fun HB => rfracerror_0 m.A.n m.A.d _ H_h0.out H_iA.out.1 H_iA.out.2) ?_
    intro w1 hb1 hz1 c1 d1 hW1
    have t1 := hb1.size
    try simp only [szA] at hz1 c1 d1
    try simp only [szD] at hz1 c1 d1
    try simp only [szS] at hz1 c1 d1
    try simp only [World.heap_drewN] at hz1 c1 d1
    try simp only [szA] at hz1 c1 d1
    try simp only [szD] at hz1 c1 d1
    try simp only [szS] at hz1 c1 d1
    have s1_0 : w.heap.size < w1.heap.size := by omega
    have o1_0 := fun j => c1 (w.heap.size) j (by omega)
    have f1_0 := fun j => d1 (w.heap.size) j (by omega)
    have s1_1 : w.heap.size + 1 < w1.heap.size := by omega
    have o1_1 := fun j => c1 (w.heap.size + 1) j (by omega)
    have f1_1 := fun j => d1 (w.heap.size + 1) j (by omega)
    clear c1 d1 hz1 hW1
    go_wp2_with fail
    rw [rounds_succ]
    go_wp2_with fail
    refine call_bel (w := w) (by repeat' (first | (with_reducible first | exact bwR _ _ | assumption | refine bdn ?_ | refine bwA ?_ ?_ _ | refine bwD ?_ | refine bwS ?_ ?_ _) | omega | (simp <;> omega))) (fun HB => rfracerror_0 m.B.n m.B.d _ H_h1.out H_iB.out.1 H_iB.out.2) ?_
    intro w2 hb2 hz2 c2 d2 hW2
    have t2 := hb2.size
    try simp only [szA] at hz2 c2 d2
    try simp only [szD] at hz2 c2 d2
    try simp only [szS] at hz2 c2 d2
    try simp only [World.heap_drewN] at hz2 c2 d2
    try simp only [szA] at hz2 c2 d2
    try simp only [szD] at hz2 c2 d2
    try simp only [szS] at hz2 c2 d2
    have s2_0 : w.heap.size < w2.heap.size := by omega
    have o2_0 := fun j => c2 (w.heap.size) j (by omega)
    have f2_0 := fun j => d2 (w.heap.size) j (by omega)
    have s2_1 : w.heap.size + 1 < w2.heap.size := by omega
    have o2_1 := fun j => c2 (w.heap.size + 1) j (by omega)
    have f2_1 := fun j => d2 (w.heap.size + 1) j (by omega)
    clear c2 d2 hz2 hW2
    go_wp2_with fail
    rw [rounds_succ]
    go_wp2_with fail
    refine call_bel (w := w) (by repeat' (first | (with_reducible first | exact bwR _ _ | assumption | refine bdn ?_ | refine bwA ?_ ?_ _ | refine bwD ?_ | refine bwS ?_ ?_ _) | omega | (simp <;> omega))) (fun HB => rfracerror_0 m.C.n m.C.d _ H_h2.out H_iC.out.1 H_iC.out.2) ?_
    intro w3 hb3 hz3 c3 d3 hW3
    have t3 := hb3.size
    try simp only [szA] at hz3 c3 d3
    try simp only [szD] at hz3 c3 d3
    try simp only [szS] at hz3 c3 d3
    try simp only [World.heap_drewN] at hz3 c3 d3
    try simp only [szA] at hz3 c3 d3
    try simp only [szD] at hz3 c3 d3
    try simp only [szS] at hz3 c3 d3
    have s3_0 : w.heap.size < w3.heap.size := by omega
    have o3_0 := fun j => c3 (w.heap.size) j (by omega)
    have f3_0 := fun j => d3 (w.heap.size) j (by omega)
    have s3_1 : w.heap.size + 1 < w3.heap.size := by omega
    have o3_1 := fun j => c3 (w.heap.size + 1) j (by omega)
    have f3_1 := fun j => d3 (w.heap.size + 1) j (by omega)
    clear c3 d3 hz3 hW3
    go_wp2_with fail
    rw [rounds_succ]
    go_wp2_with fail
    refine call_bel (w := w) (by repeat' (first | (with_reducible first | exact bwR _ _ | assumption | refine bdn ?_ | refine bwA ?_ ?_ _ | refine bwD ?_ | refine bwS ?_ ?_ _) | omega | (simp <;> omega))) (fun HB => rfracerror_0 m.D.n m.D.d _ H_h3.out H_iD.out.1 H_iD.out.2) ?_
    intro w4 hb4 hz4 c4 d4 hW4
    have t4 := hb4.size
    try simp only [szA] at hz4 c4 d4
    try simp only [szD] at hz4 c4 d4
    try simp only [szS] at hz4 c4 d4
    try simp only [World.heap_drewN] at hz4 c4 d4
    try simp only [szA] at hz4 c4 d4
    try simp only [szD] at hz4 c4 d4
    try simp only [szS] at hz4 c4 d4
    have s4_0 : w.heap.size < w4.heap.size := by omega
    have o4_0 := fun j => c4 (w.heap.size) j (by omega)
    have f4_0 := fun j => d4 (w.heap.size) j (by omega)
    have s4_1 : w.heap.size + 1 < w4.heap.size := by omega
    have o4_1 := fun j => c4 (w.heap.size + 1) j (by omega)
    have f4_1 := fun j => d4 (w.heap.size + 1) j (by omega)
    clear c4 d4 hz4 hW4
    go_wp2_with fail
    rw [rounds_succ]
    go_wp2_with fail
    refine call_bel (w := w) (by repeat' (first | (with_reducible first | exact bwR _ _ | assumption | refine bdn ?_ | refine bwA ?_ ?_ _ | refine bwD ?_ | refine bwS ?_ ?_ _) | omega | (simp <;> omega))) (fun HB => rfracerror_0 m.E.n m.E.d _ H_h4.out H_iE.out.1 H_iE.out.2) ?_
    intro w5 hb5 hz5 c5 d5 hW5
    have t5 := hb5.size
    try simp only [szA] at hz5 c5 d5
    try simp only [szD] at hz5 c5 d5
    try simp only [szS] at hz5 c5 d5
    try simp only [World.heap_drewN] at hz5 c5 d5
    try simp only [szA] at hz5 c5 d5
    try simp only [szD] at hz5 c5 d5
    try simp only [szS] at hz5 c5 d5
    have s5_0 : w.heap.size < w5.heap.size := by omega
    have o5_0 := fun j => c5 (w.heap.size) j (by omega)
    have f5_0 := fun j => d5 (w.heap.size) j (by omega)
    have s5_1 : w.heap.size + 1 < w5.heap.size := by omega
    have o5_1 := fun j => c5 (w.heap.size + 1) j (by omega)
    have f5_1 := fun j => d5 (w.heap.size + 1) j (by omega)
    clear c5 d5 hz5 hW5
    go_wp2_with fail
    rw [rounds_succ]
    go_wp2_with fail
    refine call_bel (w := w) (by repeat' (first | (with_reducible first | exact bwR _ _ | assumption | refine bdn ?_ | refine bwA ?_ ?_ _ | refine bwD ?_ | refine bwS ?_ ?_ _) | omega | (simp <;> omega))) (fun HB => rfracerror_0 m.F.n m.F.d _ H_h5.out H_iF.out.1 H_iF.out.2) ?_
    intro w6 hb6 hz6 c6 d6 hW6
    have t6 := hb6.size
    try simp only [szA] at hz6 c6 d6
    try simp only [szD] at hz6 c6 d6
    try simp only [szS] at hz6 c6 d6
    try simp only [World.heap_drewN] at hz6 c6 d6
    try simp only [szA] at hz6 c6 d6
    try simp only [szD] at hz6 c6 d6
    try simp only [szS] at hz6 c6 d6
    have s6_0 : w.heap.size < w6.heap.size := by omega
    have o6_0 := fun j => c6 (w.heap.size) j (by omega)
    have f6_0 := fun j => d6 (w.heap.size) j (by omega)
    have s6_1 : w.heap.size + 1 < w6.heap.size := by omega
    have o6_1 := fun j => c6 (w.heap.size + 1) j (by omega)
    have f6_1 := fun j => d6 (w.heap.size + 1) j (by omega)
    clear c6 d6 hz6 hW6
    go_wp2_with fail
    rw [rounds_succ]
    go_wp2_with fail
    refine call_bel (w := w) (by repeat' (first | (with_reducible first | exact bwR _ _ | assumption | refine bdn ?_ | refine bwA ?_ ?_ _ | refine bwD ?_ | refine bwS ?_ ?_ _) | omega | (simp <;> omega))) (fun HB => rfine2_any _) ?_
    intro w7 hb7 hz7 c7 d7 hW7
    have t7 := hb7.size
    try simp only [szA] at hz7 c7 d7
    try simp only [szD] at hz7 c7 d7
    try simp only [szS] at hz7 c7 d7
    try simp only [World.heap_drewN] at hz7 c7 d7
    try simp only [szA] at hz7 c7 d7
    try simp only [szD] at hz7 c7 d7
    try simp only [szS] at hz7 c7 d7
    have s7_0 : w.heap.size < w7.heap.size := by omega
    have o7_0 := fun j => c7 (w.heap.size) j (by omega)
    have f7_0 := fun j => d7 (w.heap.size) j (by omega)
    have s7_1 : w.heap.size + 1 < w7.heap.size := by omega
    have o7_1 := fun j => c7 (w.heap.size + 1) j (by omega)
    have f7_1 := fun j => d7 (w.heap.size + 1) j (by omega)
    clear c7 d7 hz7 hW7
    go_wp2_with fail
    refine bodyPost_ret (by simp [results, Tryz.results27, go_sem, *]; try rfl) rfl ?_
    exact ⟨rfl, by repeat' (first | (with_reducible first | exact bwR _ _ | assumption | refine bdn ?_ | refine bwA ?_ ?_ _ | refine bwD ?_ | refine bwS ?_ ?_ _) | omega | (simp <;> omega))⟩
end Go.Proofs.YtpdaenldmgpkjaaGreatDoor
