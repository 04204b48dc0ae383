/-
  Walks over the document's answer: GoesTo, ThenOf; plain: what they are.
-/
import Derived.Test.YtpdaenldmgpkjaaGreatDoorMr1
namespace Lead
open Go Go.RowKit
/-- Where a point goes, by the reference. -/
def goB (m : Mv) (p : Pt) : Bool := decide (toE 0 m p = 0)
def goV (m : Mv) (p : Pt) : Pt := if toE 0 m p = 0 then mvPt m p else ⟨0, 0, 0, 0⟩
theorem go_cases (m : Mv) (p : Pt) :
    (dotE 0 m.A p.X m.C p.Y m.E ≠ 0 ∧ goB m p = false ∧ goV m p = ⟨0, 0, 0, 0⟩) ∨
    (dotE 0 m.A p.X m.C p.Y m.E = 0 ∧ dotE 0 m.B p.X m.D p.Y m.F ≠ 0 ∧ goB m p = false ∧ goV m p = ⟨0, 0, 0, 0⟩) ∨
    (dotE 0 m.A p.X m.C p.Y m.E = 0 ∧ dotE 0 m.B p.X m.D p.Y m.F = 0 ∧ goB m p = true ∧ goV m p = ptOf (dotV 0 m.A p.X m.C p.Y m.E) (dotV 0 m.B p.X m.D p.Y m.F)) := by
  have e : toE 0 m p = dotE (dotE 0 m.A p.X m.C p.Y m.E) m.B p.X m.D p.Y m.F := rfl
  by_cases h1 : dotE 0 m.A p.X m.C p.Y m.E = 0
  · have e' : toE 0 m p = dotE 0 m.B p.X m.D p.Y m.F := by rw [e, h1]
    by_cases h2 : dotE 0 m.B p.X m.D p.Y m.F = 0
    · refine .inr (.inr ⟨h1, h2, decide_eq_true (by rw [e']; exact h2), ?_⟩)
      unfold goV
      rw [if_pos (by rw [e']; exact h2), mvPt_of]
      have ey : toY 0 m p = dotV 0 m.B p.X m.D p.Y m.F := by
        have : toY 0 m p = dotV (dotE 0 m.A p.X m.C p.Y m.E) m.B p.X m.D p.Y m.F := rfl
        rw [this, h1]
      rw [ey]; rfl
    · exact .inr (.inl ⟨h1, h2, decide_eq_false (by rw [e']; exact h2), if_neg (by rw [e']; exact h2)⟩)
  · have e' : toE 0 m p ≠ 0 := by rw [e]; exact dotE_n h1
    exact .inl ⟨h1, decide_eq_false e', if_neg e'⟩
where
  dotE_n {e : Nat} {a b c d f : Fr} (h : e ≠ 0) : dotE e a b c d f ≠ 0 := by
    have h1 : ofE1 e a b ≠ 0 := by unfold ofE1; rw [dE_n h]; exact h
    have h2 : ofE2 e a b c d ≠ 0 := by unfold ofE2; rw [dE_n h1]; exact h1
    have h3 : ofE e a b c d ≠ 0 := by unfold ofE; rw [dE_n h2]; exact h2
    unfold dotE; rw [dE_n h3]; exact h3
end Lead
namespace Go.Proofs.YtpdaenldmgpkjaaGreatDoor
open Go.RowKit Lead

set_option maxHeartbeats 2000000 in
set_option maxRecDepth 100000 in
theorem rgoes_any (m : Mv) (p q : Pt) (ok : Bool) (w : World) (hm : m.R) (hp : p.R) (hq : goV m p = q) (hok : goB m p = ok) :
    Calls Tryz.prog 62 #[.agg #[.int .i64 m.A.n, .int .i64 m.A.d, .int .i64 m.B.n, .int .i64 m.B.d, .int .i64 m.C.n, .int .i64 m.C.d, .int .i64 m.D.n, .int .i64 m.D.d, .int .i64 m.E.n, .int .i64 m.E.d, .int .i64 m.F.n, .int .i64 m.F.d], .agg #[.int .i64 p.xn, .int .i64 p.xd, .int .i64 p.yn, .int .i64 p.yd]] w fun e w' => e = .returned (.tuple #[.agg #[.int .i64 q.xn, .int .i64 q.xd, .int .i64 q.yn, .int .i64 q.yd], .bool ok]) ∧ Below w.heap.size w w' := by
  have hA := hm.A
  have hB := hm.B
  have hC := hm.C
  have hD := hm.D
  have hE := hm.E
  have hF := hm.F
  have hX := hp.x
  have hY := hp.y
  rcases go_cases m p with ⟨h1, h2, h3⟩ | ⟨h1, h2, h3, h4⟩ | ⟨h1, h2, h3, h4⟩
  · obtain rfl : ok = false := hok.symm.trans h2
    obtain rfl : q = ⟨0, 0, 0, 0⟩ := hq.symm.trans h3
    have k1 : rdB m.A p.X m.C p.Y m.E = false := decide_eq_false h1
    obtain ⟨v1, e1⟩ : ∃ v, rdV m.A p.X m.C p.Y m.E = v := ⟨_, rfl⟩
    obtain ⟨v2, e2⟩ : ∃ v, rdV m.B p.X m.D p.Y m.F = v := ⟨_, rfl⟩
    obtain ⟨k, k2⟩ : ∃ k, rdB m.B p.X m.D p.Y m.F = k := ⟨_, rfl⟩
    have H_hm := Lib.hid hm
    clear hm
    have H_hp := Lib.hid hp
    clear hp
    have H_hq := Lib.hid hq
    clear hq
    have H_hok := Lib.hid hok
    clear hok
    have H_hA := Lib.hid hA
    clear hA
    have H_hB := Lib.hid hB
    clear hB
    have H_hC := Lib.hid hC
    clear hC
    have H_hD := Lib.hid hD
    clear hD
    have H_hE := Lib.hid hE
    clear hE
    have H_hF := Lib.hid hF
    clear hF
    have H_hX := Lib.hid hX
    clear hX
    have H_hY := Lib.hid hY
    clear hY
    have H_h1 := Lib.hid h1
    clear h1
    have H_h2 := Lib.hid h2
    clear h2
    have H_h3 := Lib.hid h3
    clear h3
    have H_k1 := Lib.hid k1
    clear k1
    have H_e1 := Lib.hid e1
    clear e1
    have H_e2 := Lib.hid e2
    clear e2
    have H_k2 := Lib.hid k2
    clear k2
    go_enter Tryz.func62, Tryz.ntmps62
    go_wp2_with fail
    refine call_bel (w := w) (by repeat' (first | (with_reducible first | exact bwR _ _ | assumption | refine bdn ?_ | refine bwA ?_ ?_ _ | refine bwD ?_ | refine bwS ?_ ?_ _) | omega | (simp <;> omega))) (fun HB => rdot_any m.A p.X m.C p.Y m.E v1 false _ H_hA.out H_hX.out H_hC.out H_hY.out H_hE.out H_e1.out H_k1.out) ?_
    intro w1 hb1 hz1 c1 d1 hW1
    have t1 := hb1.size
    try simp only [szA] at hz1 c1 d1
    try simp only [szD] at hz1 c1 d1
    try simp only [szS] at hz1 c1 d1
    try simp only [World.heap_drewN] at hz1 c1 d1
    try simp only [szA] at hz1 c1 d1
    try simp only [szD] at hz1 c1 d1
    try simp only [szS] at hz1 c1 d1
    have s1_0 : w.heap.size < w1.heap.size := by omega
    have o1_0 := fun j => c1 (w.heap.size) j (by omega)
    have f1_0 := fun j => d1 (w.heap.size) j (by omega)
    have s1_1 : w.heap.size + 1 < w1.heap.size := by omega
    have o1_1 := fun j => c1 (w.heap.size + 1) j (by omega)
    have f1_1 := fun j => d1 (w.heap.size + 1) j (by omega)
    have s1_2 : w.heap.size + 1 + 1 < w1.heap.size := by omega
    have o1_2 := fun j => c1 (w.heap.size + 1 + 1) j (by omega)
    have f1_2 := fun j => d1 (w.heap.size + 1 + 1) j (by omega)
    clear c1 d1 hz1 hW1
    go_wp2_with fail
    refine call_bel (w := w) (by repeat' (first | (with_reducible first | exact bwR _ _ | assumption | refine bdn ?_ | refine bwA ?_ ?_ _ | refine bwD ?_ | refine bwS ?_ ?_ _) | omega | (simp <;> omega))) (fun HB => rdot_any m.B p.X m.D p.Y m.F v2 k _ H_hB.out H_hX.out H_hD.out H_hY.out H_hF.out H_e2.out H_k2.out) ?_
    intro w2 hb2 hz2 c2 d2 hW2
    have t2 := hb2.size
    try simp only [szA] at hz2 c2 d2
    try simp only [szD] at hz2 c2 d2
    try simp only [szS] at hz2 c2 d2
    try simp only [World.heap_drewN] at hz2 c2 d2
    try simp only [szA] at hz2 c2 d2
    try simp only [szD] at hz2 c2 d2
    try simp only [szS] at hz2 c2 d2
    have s2_0 : w.heap.size < w2.heap.size := by omega
    have o2_0 := fun j => c2 (w.heap.size) j (by omega)
    have f2_0 := fun j => d2 (w.heap.size) j (by omega)
    have s2_1 : w.heap.size + 1 < w2.heap.size := by omega
    have o2_1 := fun j => c2 (w.heap.size + 1) j (by omega)
    have f2_1 := fun j => d2 (w.heap.size + 1) j (by omega)
    have s2_2 : w.heap.size + 1 + 1 < w2.heap.size := by omega
    have o2_2 := fun j => c2 (w.heap.size + 1 + 1) j (by omega)
    have f2_2 := fun j => d2 (w.heap.size + 1 + 1) j (by omega)
    have s2_3 : w1.heap.size < w2.heap.size := by omega
    have o2_3 := fun j => c2 (w1.heap.size) j (by omega)
    have f2_3 := fun j => d2 (w1.heap.size) j (by omega)
    clear c2 d2 hz2 hW2
    go_wp2_with fail
    refine bodyPost_ret (by simp [results, Tryz.results62, go_sem, *]; try rfl) rfl ?_
    exact ⟨rfl, by repeat' (first | (with_reducible first | exact bwR _ _ | assumption | refine bdn ?_ | refine bwA ?_ ?_ _ | refine bwD ?_ | refine bwS ?_ ?_ _) | omega | (simp <;> omega))⟩
  · obtain rfl : ok = false := hok.symm.trans h3
    obtain rfl : q = ⟨0, 0, 0, 0⟩ := hq.symm.trans h4
    have k1 : rdB m.A p.X m.C p.Y m.E = true := decide_eq_true h1
    have k2 : rdB m.B p.X m.D p.Y m.F = false := decide_eq_false h2
    obtain ⟨v1, e1⟩ : ∃ v, rdV m.A p.X m.C p.Y m.E = v := ⟨_, rfl⟩
    obtain ⟨v2, e2⟩ : ∃ v, rdV m.B p.X m.D p.Y m.F = v := ⟨_, rfl⟩
    have H_hm := Lib.hid hm
    clear hm
    have H_hp := Lib.hid hp
    clear hp
    have H_hq := Lib.hid hq
    clear hq
    have H_hok := Lib.hid hok
    clear hok
    have H_hA := Lib.hid hA
    clear hA
    have H_hB := Lib.hid hB
    clear hB
    have H_hC := Lib.hid hC
    clear hC
    have H_hD := Lib.hid hD
    clear hD
    have H_hE := Lib.hid hE
    clear hE
    have H_hF := Lib.hid hF
    clear hF
    have H_hX := Lib.hid hX
    clear hX
    have H_hY := Lib.hid hY
    clear hY
    have H_h1 := Lib.hid h1
    clear h1
    have H_h2 := Lib.hid h2
    clear h2
    have H_h3 := Lib.hid h3
    clear h3
    have H_h4 := Lib.hid h4
    clear h4
    have H_k1 := Lib.hid k1
    clear k1
    have H_e1 := Lib.hid e1
    clear e1
    have H_e2 := Lib.hid e2
    clear e2
    have H_k2 := Lib.hid k2
    clear k2
    go_enter Tryz.func62, Tryz.ntmps62
    go_wp2_with fail
    refine call_bel (w := w) (by repeat' (first | (with_reducible first | exact bwR _ _ | assumption | refine bdn ?_ | refine bwA ?_ ?_ _ | refine bwD ?_ | refine bwS ?_ ?_ _) | omega | (simp <;> omega))) (fun HB => rdot_any m.A p.X m.C p.Y m.E v1 true _ H_hA.out H_hX.out H_hC.out H_hY.out H_hE.out H_e1.out H_k1.out) ?_
    intro w1 hb1 hz1 c1 d1 hW1
    have t1 := hb1.size
    try simp only [szA] at hz1 c1 d1
    try simp only [szD] at hz1 c1 d1
    try simp only [szS] at hz1 c1 d1
    try simp only [World.heap_drewN] at hz1 c1 d1
    try simp only [szA] at hz1 c1 d1
    try simp only [szD] at hz1 c1 d1
    try simp only [szS] at hz1 c1 d1
    have s1_0 : w.heap.size < w1.heap.size := by omega
    have o1_0 := fun j => c1 (w.heap.size) j (by omega)
    have f1_0 := fun j => d1 (w.heap.size) j (by omega)
    have s1_1 : w.heap.size + 1 < w1.heap.size := by omega
    have o1_1 := fun j => c1 (w.heap.size + 1) j (by omega)
    have f1_1 := fun j => d1 (w.heap.size + 1) j (by omega)
    have s1_2 : w.heap.size + 1 + 1 < w1.heap.size := by omega
    have o1_2 := fun j => c1 (w.heap.size + 1 + 1) j (by omega)
    have f1_2 := fun j => d1 (w.heap.size + 1 + 1) j (by omega)
    clear c1 d1 hz1 hW1
    go_wp2_with fail
    refine call_bel (w := w) (by repeat' (first | (with_reducible first | exact bwR _ _ | assumption | refine bdn ?_ | refine bwA ?_ ?_ _ | refine bwD ?_ | refine bwS ?_ ?_ _) | omega | (simp <;> omega))) (fun HB => rdot_any m.B p.X m.D p.Y m.F v2 false _ H_hB.out H_hX.out H_hD.out H_hY.out H_hF.out H_e2.out H_k2.out) ?_
    intro w2 hb2 hz2 c2 d2 hW2
    have t2 := hb2.size
    try simp only [szA] at hz2 c2 d2
    try simp only [szD] at hz2 c2 d2
    try simp only [szS] at hz2 c2 d2
    try simp only [World.heap_drewN] at hz2 c2 d2
    try simp only [szA] at hz2 c2 d2
    try simp only [szD] at hz2 c2 d2
    try simp only [szS] at hz2 c2 d2
    have s2_0 : w.heap.size < w2.heap.size := by omega
    have o2_0 := fun j => c2 (w.heap.size) j (by omega)
    have f2_0 := fun j => d2 (w.heap.size) j (by omega)
    have s2_1 : w.heap.size + 1 < w2.heap.size := by omega
    have o2_1 := fun j => c2 (w.heap.size + 1) j (by omega)
    have f2_1 := fun j => d2 (w.heap.size + 1) j (by omega)
    have s2_2 : w.heap.size + 1 + 1 < w2.heap.size := by omega
    have o2_2 := fun j => c2 (w.heap.size + 1 + 1) j (by omega)
    have f2_2 := fun j => d2 (w.heap.size + 1 + 1) j (by omega)
    have s2_3 : w1.heap.size < w2.heap.size := by omega
    have o2_3 := fun j => c2 (w1.heap.size) j (by omega)
    have f2_3 := fun j => d2 (w1.heap.size) j (by omega)
    clear c2 d2 hz2 hW2
    go_wp2_with fail
    refine bodyPost_ret (by simp [results, Tryz.results62, go_sem, *]; try rfl) rfl ?_
    exact ⟨rfl, by repeat' (first | (with_reducible first | exact bwR _ _ | assumption | refine bdn ?_ | refine bwA ?_ ?_ _ | refine bwD ?_ | refine bwS ?_ ?_ _) | omega | (simp <;> omega))⟩
  · obtain rfl : ok = true := hok.symm.trans h3
    have k1 : rdB m.A p.X m.C p.Y m.E = true := decide_eq_true h1
    have k2 : rdB m.B p.X m.D p.Y m.F = true := decide_eq_true h2
    have e1 : rdV m.A p.X m.C p.Y m.E = dotV 0 m.A p.X m.C p.Y m.E := if_pos h1
    have e2 : rdV m.B p.X m.D p.Y m.F = dotV 0 m.B p.X m.D p.Y m.F := if_pos h2
    rw [h4] at hq
    obtain ⟨v1, g1⟩ : ∃ v, dotV 0 m.A p.X m.C p.Y m.E = v := ⟨_, rfl⟩
    obtain ⟨v2, g2⟩ : ∃ v, dotV 0 m.B p.X m.D p.Y m.F = v := ⟨_, rfl⟩
    rw [g1] at e1 hq
    rw [g2] at e2 hq
    obtain rfl : q = ⟨v1.n, v1.d, v2.n, v2.d⟩ := hq.symm
    have H_hm := Lib.hid hm
    clear hm
    have H_hp := Lib.hid hp
    clear hp
    have H_hok := Lib.hid hok
    clear hok
    have H_hA := Lib.hid hA
    clear hA
    have H_hB := Lib.hid hB
    clear hB
    have H_hC := Lib.hid hC
    clear hC
    have H_hD := Lib.hid hD
    clear hD
    have H_hE := Lib.hid hE
    clear hE
    have H_hF := Lib.hid hF
    clear hF
    have H_hX := Lib.hid hX
    clear hX
    have H_hY := Lib.hid hY
    clear hY
    have H_h1 := Lib.hid h1
    clear h1
    have H_h2 := Lib.hid h2
    clear h2
    have H_h3 := Lib.hid h3
    clear h3
    have H_h4 := Lib.hid h4
    clear h4
    have H_k1 := Lib.hid k1
    clear k1
    have H_e1 := Lib.hid e1
    clear e1
    have H_e2 := Lib.hid e2
    clear e2
    have H_k2 := Lib.hid k2
    clear k2
    have H_g1 := Lib.hid g1
    clear g1
    have H_g2 := Lib.hid g2
    clear g2
    clear hq
    go_enter Tryz.func62, Tryz.ntmps62
    go_wp2_with fail
    refine call_bel (w := w) (by repeat' (first | (with_reducible first | exact bwR _ _ | assumption | refine bdn ?_ | refine bwA ?_ ?_ _ | refine bwD ?_ | refine bwS ?_ ?_ _) | omega | (simp <;> omega))) (fun HB => rdot_any m.A p.X m.C p.Y m.E v1 true _ H_hA.out H_hX.out H_hC.out H_hY.out H_hE.out H_e1.out H_k1.out) ?_
    intro w1 hb1 hz1 c1 d1 hW1
    have t1 := hb1.size
    try simp only [szA] at hz1 c1 d1
    try simp only [szD] at hz1 c1 d1
    try simp only [szS] at hz1 c1 d1
    try simp only [World.heap_drewN] at hz1 c1 d1
    try simp only [szA] at hz1 c1 d1
    try simp only [szD] at hz1 c1 d1
    try simp only [szS] at hz1 c1 d1
    have s1_0 : w.heap.size < w1.heap.size := by omega
    have o1_0 := fun j => c1 (w.heap.size) j (by omega)
    have f1_0 := fun j => d1 (w.heap.size) j (by omega)
    have s1_1 : w.heap.size + 1 < w1.heap.size := by omega
    have o1_1 := fun j => c1 (w.heap.size + 1) j (by omega)
    have f1_1 := fun j => d1 (w.heap.size + 1) j (by omega)
    have s1_2 : w.heap.size + 1 + 1 < w1.heap.size := by omega
    have o1_2 := fun j => c1 (w.heap.size + 1 + 1) j (by omega)
    have f1_2 := fun j => d1 (w.heap.size + 1 + 1) j (by omega)
    clear c1 d1 hz1 hW1
    go_wp2_with fail
    refine call_bel (w := w) (by repeat' (first | (with_reducible first | exact bwR _ _ | assumption | refine bdn ?_ | refine bwA ?_ ?_ _ | refine bwD ?_ | refine bwS ?_ ?_ _) | omega | (simp <;> omega))) (fun HB => rdot_any m.B p.X m.D p.Y m.F v2 true _ H_hB.out H_hX.out H_hD.out H_hY.out H_hF.out H_e2.out H_k2.out) ?_
    intro w2 hb2 hz2 c2 d2 hW2
    have t2 := hb2.size
    try simp only [szA] at hz2 c2 d2
    try simp only [szD] at hz2 c2 d2
    try simp only [szS] at hz2 c2 d2
    try simp only [World.heap_drewN] at hz2 c2 d2
    try simp only [szA] at hz2 c2 d2
    try simp only [szD] at hz2 c2 d2
    try simp only [szS] at hz2 c2 d2
    have s2_0 : w.heap.size < w2.heap.size := by omega
    have o2_0 := fun j => c2 (w.heap.size) j (by omega)
    have f2_0 := fun j => d2 (w.heap.size) j (by omega)
    have s2_1 : w.heap.size + 1 < w2.heap.size := by omega
    have o2_1 := fun j => c2 (w.heap.size + 1) j (by omega)
    have f2_1 := fun j => d2 (w.heap.size + 1) j (by omega)
    have s2_2 : w.heap.size + 1 + 1 < w2.heap.size := by omega
    have o2_2 := fun j => c2 (w.heap.size + 1 + 1) j (by omega)
    have f2_2 := fun j => d2 (w.heap.size + 1 + 1) j (by omega)
    have s2_3 : w1.heap.size < w2.heap.size := by omega
    have o2_3 := fun j => c2 (w1.heap.size) j (by omega)
    have f2_3 := fun j => d2 (w1.heap.size) j (by omega)
    clear c2 d2 hz2 hW2
    go_wp2_with fail
    refine bodyPost_ret (by simp [results, Tryz.results62, go_sem, *]; try rfl) rfl ?_
    exact ⟨rfl, by repeat' (first | (with_reducible first | exact bwR _ _ | assumption | refine bdn ?_ | refine bwA ?_ ?_ _ | refine bwD ?_ | refine bwS ?_ ?_ _) | omega | (simp <;> omega))⟩
end Go.Proofs.YtpdaenldmgpkjaaGreatDoor
