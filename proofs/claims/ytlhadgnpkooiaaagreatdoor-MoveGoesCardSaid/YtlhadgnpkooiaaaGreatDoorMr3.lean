/-
  Walks over the document's answer: ThenOf. (Written by wip/mkmr3.py.)
-/
import Derived.Test.YtlhadgnpkooiaaaGreatDoorMr2
namespace Lead
open Go Go.RowKit
theorem of_dot0 {a b c d : Fr} (ra : a.R) (rb : b.R) (rc : c.R) (rd : d.R) : (dotE 0 a b c d ⟨0, 1⟩ = 0 ↔ ofE 0 a b c d = 0) ∧ (ofE 0 a b c d = 0 → dotV 0 a b c d ⟨0, 1⟩ = ofV 0 a b c d) := by
  by_cases h : ofE 0 a b c d = 0
  · obtain ⟨_, hr, _⟩ := of_val ra rb rc rd h
    obtain ⟨k1, k2⟩ := add_w0 hr
    refine ⟨⟨fun _ => h, fun _ => ?_⟩, fun _ => ?_⟩
    · unfold dotE; rw [dE_0 h]; exact k2
    · unfold dotV; exact (if_pos ⟨h, k2⟩).trans k1
  · refine ⟨⟨fun k => absurd ?_ h, fun k => absurd k h⟩, fun k => absurd k h⟩
    unfold dotE at k; rw [dE_n h] at k; exact k
theorem of_n {e : Nat} {a b c d : Fr} (h : e ≠ 0) : ofE e a b c d ≠ 0 := by
  have h1 : ofE1 e a b ≠ 0 := by unfold ofE1; rw [dE_n h]; exact h
  have h2 : ofE2 e a b c d ≠ 0 := by unfold ofE2; rw [dE_n h1]; exact h1
  unfold ofE; rw [dE_n h2]; exact h2
theorem dot_n {e : Nat} {a b c d f : Fr} (h : e ≠ 0) : dotE e a b c d f ≠ 0 := by
  unfold dotE; rw [dE_n (of_n h)]; exact of_n h
theorem to_n {e : Nat} {m : Mv} {p : Pt} (h : e ≠ 0) : toE e m p ≠ 0 := dot_n (dot_n h)
theorem tn_cases (m n : Mv) (hm : m.R) (hn : n.R) : (dotE 0 n.A m.A n.C m.B ⟨0, 1⟩ ≠ 0 ∧ thE m n ≠ 0) ∨ (dotE 0 n.A m.A n.C m.B ⟨0, 1⟩ = 0 ∧ dotE 0 n.B m.A n.D m.B ⟨0, 1⟩ ≠ 0 ∧ thE m n ≠ 0) ∨ (dotE 0 n.A m.A n.C m.B ⟨0, 1⟩ = 0 ∧ dotE 0 n.B m.A n.D m.B ⟨0, 1⟩ = 0 ∧ dotE 0 n.A m.C n.C m.D ⟨0, 1⟩ ≠ 0 ∧ thE m n ≠ 0) ∨ (dotE 0 n.A m.A n.C m.B ⟨0, 1⟩ = 0 ∧ dotE 0 n.B m.A n.D m.B ⟨0, 1⟩ = 0 ∧ dotE 0 n.A m.C n.C m.D ⟨0, 1⟩ = 0 ∧ dotE 0 n.B m.C n.D m.D ⟨0, 1⟩ ≠ 0 ∧ thE m n ≠ 0) ∨ (dotE 0 n.A m.A n.C m.B ⟨0, 1⟩ = 0 ∧ dotE 0 n.B m.A n.D m.B ⟨0, 1⟩ = 0 ∧ dotE 0 n.A m.C n.C m.D ⟨0, 1⟩ = 0 ∧ dotE 0 n.B m.C n.D m.D ⟨0, 1⟩ = 0 ∧ toE 0 n (thP m) ≠ 0 ∧ thE m n ≠ 0) ∨ (dotE 0 n.A m.A n.C m.B ⟨0, 1⟩ = 0 ∧ dotE 0 n.B m.A n.D m.B ⟨0, 1⟩ = 0 ∧ dotE 0 n.A m.C n.C m.D ⟨0, 1⟩ = 0 ∧ dotE 0 n.B m.C n.D m.D ⟨0, 1⟩ = 0 ∧ toE 0 n (thP m) = 0 ∧ thE m n = 0 ∧ thV m n = ⟨dotV 0 n.A m.A n.C m.B ⟨0, 1⟩, dotV 0 n.B m.A n.D m.B ⟨0, 1⟩, dotV 0 n.A m.C n.C m.D ⟨0, 1⟩, dotV 0 n.B m.C n.D m.D ⟨0, 1⟩, (goV n (thP m)).X, (goV n (thP m)).Y⟩) := by
  obtain ⟨q0, w0⟩ := of_dot0 (a := n.A) (b := m.A) (c := n.C) (d := m.B) hn.A hm.A hn.C hm.B
  obtain ⟨q1, w1⟩ := of_dot0 (a := n.B) (b := m.A) (c := n.D) (d := m.B) hn.B hm.A hn.D hm.B
  obtain ⟨q2, w2⟩ := of_dot0 (a := n.A) (b := m.C) (c := n.C) (d := m.D) hn.A hm.C hn.C hm.D
  obtain ⟨q3, w3⟩ := of_dot0 (a := n.B) (b := m.C) (c := n.D) (d := m.D) hn.B hm.C hn.D hm.D
  have eA : thA m n = ofE 0 n.A m.A n.C m.B := rfl
  by_cases h0 : ofE 0 n.A m.A n.C m.B = 0
  · have e0 : thA m n = 0 := by exact h0
    by_cases h1 : ofE 0 n.B m.A n.D m.B = 0
    · have e1 : thB m n = 0 := by unfold thB; rw [e0]; exact h1
      by_cases h2 : ofE 0 n.A m.C n.C m.D = 0
      · have e2 : thC m n = 0 := by unfold thC; rw [e1]; exact h2
        by_cases h3 : ofE 0 n.B m.C n.D m.D = 0
        · have e3 : thD m n = 0 := by unfold thD; rw [e2]; exact h3
          have eE : thE m n = toE 0 n (thP m) := by unfold thE; rw [e3]
          by_cases h4 : toE 0 n (thP m) = 0
          · refine .inr (.inr (.inr (.inr (.inr (⟨q0.2 h0, q1.2 h1, q2.2 h2, q3.2 h3, h4, eE.trans h4, ?_⟩)))))
            have hg : goV n (thP m) = mvPt n (thP m) := if_pos h4
            rw [hg, mvPt_X, mvPt_Y, w0 h0, w1 h1, w2 h2, w3 h3]
            unfold thV
            rw [e0, e1, e2, e3]
          · exact .inr (.inr (.inr (.inr (.inl ⟨q0.2 h0, q1.2 h1, q2.2 h2, q3.2 h3, h4, by rw [eE]; exact h4⟩))))
        · have k3 : thD m n ≠ 0 := by unfold thD; rw [e2]; exact h3
          exact .inr (.inr (.inr (.inl ⟨q0.2 h0, q1.2 h1, q2.2 h2, fun k => h3 (q3.1 k), to_n k3⟩)))
      · have k2 : thC m n ≠ 0 := by unfold thC; rw [e1]; exact h2
        have k3 : thD m n ≠ 0 := of_n k2
        exact .inr (.inr (.inl ⟨q0.2 h0, q1.2 h1, fun k => h2 (q2.1 k), to_n k3⟩))
    · have k1 : thB m n ≠ 0 := by unfold thB; rw [e0]; exact h1
      have k2 : thC m n ≠ 0 := of_n k1
      have k3 : thD m n ≠ 0 := of_n k2
      exact .inr (.inl ⟨q0.2 h0, fun k => h1 (q1.1 k), to_n k3⟩)
  · have k0 : thA m n ≠ 0 := by exact h0
    have k1 : thB m n ≠ 0 := of_n k0
    have k2 : thC m n ≠ 0 := of_n k1
    have k3 : thD m n ≠ 0 := of_n k2
    exact .inl ⟨fun k => h0 (q0.1 k), to_n k3⟩
def tnB (m n : Mv) : Bool := decide (thE m n = 0)
def tnV (m n : Mv) : Mv := if thE m n = 0 then thV m n else ⟨⟨0, 0⟩, ⟨0, 0⟩, ⟨0, 0⟩, ⟨0, 0⟩, ⟨0, 0⟩, ⟨0, 0⟩⟩
theorem r01 : Fr.R ⟨0, 1⟩ := w_R (x := 0) (by omega)
end Lead
namespace Go.Proofs.YtlhadgnpkooiaaaGreatDoor
open Go.RowKit Lead

set_option maxHeartbeats 8000000 in
set_option maxRecDepth 100000 in
theorem rthen_any (m n v : Mv) (ok : Bool) (w : World) (hm : m.R) (hn : n.R) (hv : tnV m n = v) (hok : tnB m n = ok) :
    Calls Tryz.prog 14 #[.agg #[.int .i64 m.A.n, .int .i64 m.A.d, .int .i64 m.B.n, .int .i64 m.B.d, .int .i64 m.C.n, .int .i64 m.C.d, .int .i64 m.D.n, .int .i64 m.D.d, .int .i64 m.E.n, .int .i64 m.E.d, .int .i64 m.F.n, .int .i64 m.F.d], .agg #[.int .i64 n.A.n, .int .i64 n.A.d, .int .i64 n.B.n, .int .i64 n.B.d, .int .i64 n.C.n, .int .i64 n.C.d, .int .i64 n.D.n, .int .i64 n.D.d, .int .i64 n.E.n, .int .i64 n.E.d, .int .i64 n.F.n, .int .i64 n.F.d]] w fun e w' => e = .returned (.tuple #[.agg #[.int .i64 v.A.n, .int .i64 v.A.d, .int .i64 v.B.n, .int .i64 v.B.d, .int .i64 v.C.n, .int .i64 v.C.d, .int .i64 v.D.n, .int .i64 v.D.d, .int .i64 v.E.n, .int .i64 v.E.d, .int .i64 v.F.n, .int .i64 v.F.d], .bool ok]) ∧ Below w.heap.size w w' := by
  have mA := hm.A
  have nA := hn.A
  have mB := hm.B
  have nB := hn.B
  have mC := hm.C
  have nC := hn.C
  have mD := hm.D
  have nD := hn.D
  have mE := hm.E
  have nE := hn.E
  have mF := hm.F
  have nF := hn.F
  have hP : (thP m).R := ⟨mE, mF⟩
  have hz := r01
  rcases tn_cases m n hm hn with ⟨h0, hE⟩ | ⟨h0, h1, hE⟩ | ⟨h0, h1, h2, hE⟩ | ⟨h0, h1, h2, h3, hE⟩ | ⟨h0, h1, h2, h3, h4, hE⟩ | ⟨h0, h1, h2, h3, h4, hE, hV⟩
  · obtain rfl : ok = false := hok.symm.trans (decide_eq_false hE)
    obtain rfl : v = ⟨⟨0, 0⟩, ⟨0, 0⟩, ⟨0, 0⟩, ⟨0, 0⟩, ⟨0, 0⟩, ⟨0, 0⟩⟩ := hv.symm.trans (if_neg hE)
    have b0 : rdB n.A m.A n.C m.B ⟨0, 1⟩ = false := decide_eq_false h0
    obtain ⟨v0, e0⟩ : ∃ k, rdV n.A m.A n.C m.B ⟨0, 1⟩ = k := ⟨_, rfl⟩
    obtain ⟨o1, b1⟩ : ∃ k, rdB n.B m.A n.D m.B ⟨0, 1⟩ = k := ⟨_, rfl⟩
    obtain ⟨v1, e1⟩ : ∃ k, rdV n.B m.A n.D m.B ⟨0, 1⟩ = k := ⟨_, rfl⟩
    obtain ⟨o2, b2⟩ : ∃ k, rdB n.A m.C n.C m.D ⟨0, 1⟩ = k := ⟨_, rfl⟩
    obtain ⟨v2, e2⟩ : ∃ k, rdV n.A m.C n.C m.D ⟨0, 1⟩ = k := ⟨_, rfl⟩
    obtain ⟨o3, b3⟩ : ∃ k, rdB n.B m.C n.D m.D ⟨0, 1⟩ = k := ⟨_, rfl⟩
    obtain ⟨v3, e3⟩ : ∃ k, rdV n.B m.C n.D m.D ⟨0, 1⟩ = k := ⟨_, rfl⟩
    obtain ⟨o4, b4⟩ : ∃ k, goB n (thP m) = k := ⟨_, rfl⟩
    obtain ⟨q, e4⟩ : ∃ k, goV n (thP m) = k := ⟨_, rfl⟩
    clear hv
    have H_hm := Lib.hid hm
    clear hm
    have H_hn := Lib.hid hn
    clear hn
    have H_hok := Lib.hid hok
    clear hok
    have H_hE := Lib.hid hE
    clear hE
    have H_mA := Lib.hid mA
    clear mA
    have H_nA := Lib.hid nA
    clear nA
    have H_mB := Lib.hid mB
    clear mB
    have H_nB := Lib.hid nB
    clear nB
    have H_mC := Lib.hid mC
    clear mC
    have H_nC := Lib.hid nC
    clear nC
    have H_mD := Lib.hid mD
    clear mD
    have H_nD := Lib.hid nD
    clear nD
    have H_mE := Lib.hid mE
    clear mE
    have H_nE := Lib.hid nE
    clear nE
    have H_mF := Lib.hid mF
    clear mF
    have H_nF := Lib.hid nF
    clear nF
    have H_hP := Lib.hid hP
    clear hP
    have H_hz := Lib.hid hz
    clear hz
    have H_h0 := Lib.hid h0
    clear h0
    have H_b0 := Lib.hid b0
    clear b0
    have H_e0 := Lib.hid e0
    clear e0
    have H_b1 := Lib.hid b1
    clear b1
    have H_e1 := Lib.hid e1
    clear e1
    have H_b2 := Lib.hid b2
    clear b2
    have H_e2 := Lib.hid e2
    clear e2
    have H_b3 := Lib.hid b3
    clear b3
    have H_e3 := Lib.hid e3
    clear e3
    have H_b4 := Lib.hid b4
    clear b4
    have H_e4 := Lib.hid e4
    clear e4
    go_enter Tryz.func14, Tryz.ntmps14
    ((try go_simp); (repeat go_step))
    refine call_bel (w := w) (by repeat' (first | (with_reducible first | exact bwR _ _ | assumption | refine bdn ?_ | refine bwA ?_ ?_ _ | refine bwD ?_ | refine bwS ?_ ?_ _) | omega | (simp <;> omega))) (fun HB => rwhole_any 0 _) ?_
    intro w1 hb1 hz1 c1 d1 hW1
    have t1 := hb1.size
    try simp only [szA] at hz1 c1 d1
    try simp only [szD] at hz1 c1 d1
    try simp only [szS] at hz1 c1 d1
    try simp only [World.heap_drewN] at hz1 c1 d1
    try simp only [szA] at hz1 c1 d1
    try simp only [szD] at hz1 c1 d1
    try simp only [szS] at hz1 c1 d1
    have s1_0 : w.heap.size < w1.heap.size := by omega
    have o1_0 := fun j => c1 (w.heap.size) j (by omega)
    have f1_0 := fun j => d1 (w.heap.size) j (by omega)
    have s1_1 : w.heap.size + 1 < w1.heap.size := by omega
    have o1_1 := fun j => c1 (w.heap.size + 1) j (by omega)
    have f1_1 := fun j => d1 (w.heap.size + 1) j (by omega)
    have s1_2 : w.heap.size + 1 + 1 < w1.heap.size := by omega
    have o1_2 := fun j => c1 (w.heap.size + 1 + 1) j (by omega)
    have f1_2 := fun j => d1 (w.heap.size + 1 + 1) j (by omega)
    clear c1 d1 hz1 hW1
    ((try go_simp); (repeat go_step))
    refine call_bel (w := w) (by repeat' (first | (with_reducible first | exact bwR _ _ | assumption | refine bdn ?_ | refine bwA ?_ ?_ _ | refine bwD ?_ | refine bwS ?_ ?_ _) | omega | (simp <;> omega))) (fun HB => rdot_any n.A m.A n.C m.B ⟨0, 1⟩ v0 false _ H_nA.out H_mA.out H_nC.out H_mB.out H_hz.out H_e0.out H_b0.out) ?_
    intro w2 hb2 hz2 c2 d2 hW2
    have t2 := hb2.size
    try simp only [szA] at hz2 c2 d2
    try simp only [szD] at hz2 c2 d2
    try simp only [szS] at hz2 c2 d2
    try simp only [World.heap_drewN] at hz2 c2 d2
    try simp only [szA] at hz2 c2 d2
    try simp only [szD] at hz2 c2 d2
    try simp only [szS] at hz2 c2 d2
    have s2_0 : w.heap.size < w2.heap.size := by omega
    have o2_0 := fun j => c2 (w.heap.size) j (by omega)
    have f2_0 := fun j => d2 (w.heap.size) j (by omega)
    have s2_1 : w.heap.size + 1 < w2.heap.size := by omega
    have o2_1 := fun j => c2 (w.heap.size + 1) j (by omega)
    have f2_1 := fun j => d2 (w.heap.size + 1) j (by omega)
    have s2_2 : w.heap.size + 1 + 1 < w2.heap.size := by omega
    have o2_2 := fun j => c2 (w.heap.size + 1 + 1) j (by omega)
    have f2_2 := fun j => d2 (w.heap.size + 1 + 1) j (by omega)
    have s2_3 : w1.heap.size < w2.heap.size := by omega
    have o2_3 := fun j => c2 (w1.heap.size) j (by omega)
    have f2_3 := fun j => d2 (w1.heap.size) j (by omega)
    clear c2 d2 hz2 hW2
    ((try go_simp); (repeat go_step))
    refine call_bel (w := w) (by repeat' (first | (with_reducible first | exact bwR _ _ | assumption | refine bdn ?_ | refine bwA ?_ ?_ _ | refine bwD ?_ | refine bwS ?_ ?_ _) | omega | (simp <;> omega))) (fun HB => rdot_any n.B m.A n.D m.B ⟨0, 1⟩ v1 o1 _ H_nB.out H_mA.out H_nD.out H_mB.out H_hz.out H_e1.out H_b1.out) ?_
    intro w3 hb3 hz3 c3 d3 hW3
    have t3 := hb3.size
    try simp only [szA] at hz3 c3 d3
    try simp only [szD] at hz3 c3 d3
    try simp only [szS] at hz3 c3 d3
    try simp only [World.heap_drewN] at hz3 c3 d3
    try simp only [szA] at hz3 c3 d3
    try simp only [szD] at hz3 c3 d3
    try simp only [szS] at hz3 c3 d3
    have s3_0 : w.heap.size < w3.heap.size := by omega
    have o3_0 := fun j => c3 (w.heap.size) j (by omega)
    have f3_0 := fun j => d3 (w.heap.size) j (by omega)
    have s3_1 : w.heap.size + 1 < w3.heap.size := by omega
    have o3_1 := fun j => c3 (w.heap.size + 1) j (by omega)
    have f3_1 := fun j => d3 (w.heap.size + 1) j (by omega)
    have s3_2 : w.heap.size + 1 + 1 < w3.heap.size := by omega
    have o3_2 := fun j => c3 (w.heap.size + 1 + 1) j (by omega)
    have f3_2 := fun j => d3 (w.heap.size + 1 + 1) j (by omega)
    have s3_3 : w1.heap.size < w3.heap.size := by omega
    have o3_3 := fun j => c3 (w1.heap.size) j (by omega)
    have f3_3 := fun j => d3 (w1.heap.size) j (by omega)
    clear c3 d3 hz3 hW3
    ((try go_simp); (repeat go_step))
    refine call_bel (w := w) (by repeat' (first | (with_reducible first | exact bwR _ _ | assumption | refine bdn ?_ | refine bwA ?_ ?_ _ | refine bwD ?_ | refine bwS ?_ ?_ _) | omega | (simp <;> omega))) (fun HB => rdot_any n.A m.C n.C m.D ⟨0, 1⟩ v2 o2 _ H_nA.out H_mC.out H_nC.out H_mD.out H_hz.out H_e2.out H_b2.out) ?_
    intro w4 hb4 hz4 c4 d4 hW4
    have t4 := hb4.size
    try simp only [szA] at hz4 c4 d4
    try simp only [szD] at hz4 c4 d4
    try simp only [szS] at hz4 c4 d4
    try simp only [World.heap_drewN] at hz4 c4 d4
    try simp only [szA] at hz4 c4 d4
    try simp only [szD] at hz4 c4 d4
    try simp only [szS] at hz4 c4 d4
    have s4_0 : w.heap.size < w4.heap.size := by omega
    have o4_0 := fun j => c4 (w.heap.size) j (by omega)
    have f4_0 := fun j => d4 (w.heap.size) j (by omega)
    have s4_1 : w.heap.size + 1 < w4.heap.size := by omega
    have o4_1 := fun j => c4 (w.heap.size + 1) j (by omega)
    have f4_1 := fun j => d4 (w.heap.size + 1) j (by omega)
    have s4_2 : w.heap.size + 1 + 1 < w4.heap.size := by omega
    have o4_2 := fun j => c4 (w.heap.size + 1 + 1) j (by omega)
    have f4_2 := fun j => d4 (w.heap.size + 1 + 1) j (by omega)
    have s4_3 : w1.heap.size < w4.heap.size := by omega
    have o4_3 := fun j => c4 (w1.heap.size) j (by omega)
    have f4_3 := fun j => d4 (w1.heap.size) j (by omega)
    clear c4 d4 hz4 hW4
    ((try go_simp); (repeat go_step))
    refine call_bel (w := w) (by repeat' (first | (with_reducible first | exact bwR _ _ | assumption | refine bdn ?_ | refine bwA ?_ ?_ _ | refine bwD ?_ | refine bwS ?_ ?_ _) | omega | (simp <;> omega))) (fun HB => rdot_any n.B m.C n.D m.D ⟨0, 1⟩ v3 o3 _ H_nB.out H_mC.out H_nD.out H_mD.out H_hz.out H_e3.out H_b3.out) ?_
    intro w5 hb5 hz5 c5 d5 hW5
    have t5 := hb5.size
    try simp only [szA] at hz5 c5 d5
    try simp only [szD] at hz5 c5 d5
    try simp only [szS] at hz5 c5 d5
    try simp only [World.heap_drewN] at hz5 c5 d5
    try simp only [szA] at hz5 c5 d5
    try simp only [szD] at hz5 c5 d5
    try simp only [szS] at hz5 c5 d5
    have s5_0 : w.heap.size < w5.heap.size := by omega
    have o5_0 := fun j => c5 (w.heap.size) j (by omega)
    have f5_0 := fun j => d5 (w.heap.size) j (by omega)
    have s5_1 : w.heap.size + 1 < w5.heap.size := by omega
    have o5_1 := fun j => c5 (w.heap.size + 1) j (by omega)
    have f5_1 := fun j => d5 (w.heap.size + 1) j (by omega)
    have s5_2 : w.heap.size + 1 + 1 < w5.heap.size := by omega
    have o5_2 := fun j => c5 (w.heap.size + 1 + 1) j (by omega)
    have f5_2 := fun j => d5 (w.heap.size + 1 + 1) j (by omega)
    have s5_3 : w1.heap.size < w5.heap.size := by omega
    have o5_3 := fun j => c5 (w1.heap.size) j (by omega)
    have f5_3 := fun j => d5 (w1.heap.size) j (by omega)
    clear c5 d5 hz5 hW5
    ((try go_simp); (repeat go_step))
    refine call_bel (w := w) (by repeat' (first | (with_reducible first | exact bwR _ _ | assumption | refine bdn ?_ | refine bwA ?_ ?_ _ | refine bwD ?_ | refine bwS ?_ ?_ _) | omega | (simp <;> omega))) (fun HB => rgoes_any n (thP m) q o4 _ H_hn.out H_hP.out H_e4.out H_b4.out) ?_
    intro w6 hb6 hz6 c6 d6 hW6
    have t6 := hb6.size
    try simp only [szA] at hz6 c6 d6
    try simp only [szD] at hz6 c6 d6
    try simp only [szS] at hz6 c6 d6
    try simp only [World.heap_drewN] at hz6 c6 d6
    try simp only [szA] at hz6 c6 d6
    try simp only [szD] at hz6 c6 d6
    try simp only [szS] at hz6 c6 d6
    have s6_0 : w.heap.size < w6.heap.size := by omega
    have o6_0 := fun j => c6 (w.heap.size) j (by omega)
    have f6_0 := fun j => d6 (w.heap.size) j (by omega)
    have s6_1 : w.heap.size + 1 < w6.heap.size := by omega
    have o6_1 := fun j => c6 (w.heap.size + 1) j (by omega)
    have f6_1 := fun j => d6 (w.heap.size + 1) j (by omega)
    have s6_2 : w.heap.size + 1 + 1 < w6.heap.size := by omega
    have o6_2 := fun j => c6 (w.heap.size + 1 + 1) j (by omega)
    have f6_2 := fun j => d6 (w.heap.size + 1 + 1) j (by omega)
    have s6_3 : w1.heap.size < w6.heap.size := by omega
    have o6_3 := fun j => c6 (w1.heap.size) j (by omega)
    have f6_3 := fun j => d6 (w1.heap.size) j (by omega)
    clear c6 d6 hz6 hW6
    ((try go_simp); (repeat go_step))
    refine bodyPost_ret (by simp [results, Tryz.results14, go_sem, *]; try rfl) rfl ?_
    exact ⟨rfl, by repeat' (first | (with_reducible first | exact bwR _ _ | assumption | refine bdn ?_ | refine bwA ?_ ?_ _ | refine bwD ?_ | refine bwS ?_ ?_ _) | omega | (simp <;> omega))⟩
  · obtain rfl : ok = false := hok.symm.trans (decide_eq_false hE)
    obtain rfl : v = ⟨⟨0, 0⟩, ⟨0, 0⟩, ⟨0, 0⟩, ⟨0, 0⟩, ⟨0, 0⟩, ⟨0, 0⟩⟩ := hv.symm.trans (if_neg hE)
    have b0 : rdB n.A m.A n.C m.B ⟨0, 1⟩ = true := decide_eq_true h0
    obtain ⟨v0, e0⟩ : ∃ k, rdV n.A m.A n.C m.B ⟨0, 1⟩ = k := ⟨_, rfl⟩
    have b1 : rdB n.B m.A n.D m.B ⟨0, 1⟩ = false := decide_eq_false h1
    obtain ⟨v1, e1⟩ : ∃ k, rdV n.B m.A n.D m.B ⟨0, 1⟩ = k := ⟨_, rfl⟩
    obtain ⟨o2, b2⟩ : ∃ k, rdB n.A m.C n.C m.D ⟨0, 1⟩ = k := ⟨_, rfl⟩
    obtain ⟨v2, e2⟩ : ∃ k, rdV n.A m.C n.C m.D ⟨0, 1⟩ = k := ⟨_, rfl⟩
    obtain ⟨o3, b3⟩ : ∃ k, rdB n.B m.C n.D m.D ⟨0, 1⟩ = k := ⟨_, rfl⟩
    obtain ⟨v3, e3⟩ : ∃ k, rdV n.B m.C n.D m.D ⟨0, 1⟩ = k := ⟨_, rfl⟩
    obtain ⟨o4, b4⟩ : ∃ k, goB n (thP m) = k := ⟨_, rfl⟩
    obtain ⟨q, e4⟩ : ∃ k, goV n (thP m) = k := ⟨_, rfl⟩
    clear hv
    have H_hm := Lib.hid hm
    clear hm
    have H_hn := Lib.hid hn
    clear hn
    have H_hok := Lib.hid hok
    clear hok
    have H_hE := Lib.hid hE
    clear hE
    have H_mA := Lib.hid mA
    clear mA
    have H_nA := Lib.hid nA
    clear nA
    have H_mB := Lib.hid mB
    clear mB
    have H_nB := Lib.hid nB
    clear nB
    have H_mC := Lib.hid mC
    clear mC
    have H_nC := Lib.hid nC
    clear nC
    have H_mD := Lib.hid mD
    clear mD
    have H_nD := Lib.hid nD
    clear nD
    have H_mE := Lib.hid mE
    clear mE
    have H_nE := Lib.hid nE
    clear nE
    have H_mF := Lib.hid mF
    clear mF
    have H_nF := Lib.hid nF
    clear nF
    have H_hP := Lib.hid hP
    clear hP
    have H_hz := Lib.hid hz
    clear hz
    have H_h0 := Lib.hid h0
    clear h0
    have H_h1 := Lib.hid h1
    clear h1
    have H_b0 := Lib.hid b0
    clear b0
    have H_e0 := Lib.hid e0
    clear e0
    have H_b1 := Lib.hid b1
    clear b1
    have H_e1 := Lib.hid e1
    clear e1
    have H_b2 := Lib.hid b2
    clear b2
    have H_e2 := Lib.hid e2
    clear e2
    have H_b3 := Lib.hid b3
    clear b3
    have H_e3 := Lib.hid e3
    clear e3
    have H_b4 := Lib.hid b4
    clear b4
    have H_e4 := Lib.hid e4
    clear e4
    go_enter Tryz.func14, Tryz.ntmps14
    ((try go_simp); (repeat go_step))
    refine call_bel (w := w) (by repeat' (first | (with_reducible first | exact bwR _ _ | assumption | refine bdn ?_ | refine bwA ?_ ?_ _ | refine bwD ?_ | refine bwS ?_ ?_ _) | omega | (simp <;> omega))) (fun HB => rwhole_any 0 _) ?_
    intro w1 hb1 hz1 c1 d1 hW1
    have t1 := hb1.size
    try simp only [szA] at hz1 c1 d1
    try simp only [szD] at hz1 c1 d1
    try simp only [szS] at hz1 c1 d1
    try simp only [World.heap_drewN] at hz1 c1 d1
    try simp only [szA] at hz1 c1 d1
    try simp only [szD] at hz1 c1 d1
    try simp only [szS] at hz1 c1 d1
    have s1_0 : w.heap.size < w1.heap.size := by omega
    have o1_0 := fun j => c1 (w.heap.size) j (by omega)
    have f1_0 := fun j => d1 (w.heap.size) j (by omega)
    have s1_1 : w.heap.size + 1 < w1.heap.size := by omega
    have o1_1 := fun j => c1 (w.heap.size + 1) j (by omega)
    have f1_1 := fun j => d1 (w.heap.size + 1) j (by omega)
    have s1_2 : w.heap.size + 1 + 1 < w1.heap.size := by omega
    have o1_2 := fun j => c1 (w.heap.size + 1 + 1) j (by omega)
    have f1_2 := fun j => d1 (w.heap.size + 1 + 1) j (by omega)
    clear c1 d1 hz1 hW1
    ((try go_simp); (repeat go_step))
    refine call_bel (w := w) (by repeat' (first | (with_reducible first | exact bwR _ _ | assumption | refine bdn ?_ | refine bwA ?_ ?_ _ | refine bwD ?_ | refine bwS ?_ ?_ _) | omega | (simp <;> omega))) (fun HB => rdot_any n.A m.A n.C m.B ⟨0, 1⟩ v0 true _ H_nA.out H_mA.out H_nC.out H_mB.out H_hz.out H_e0.out H_b0.out) ?_
    intro w2 hb2 hz2 c2 d2 hW2
    have t2 := hb2.size
    try simp only [szA] at hz2 c2 d2
    try simp only [szD] at hz2 c2 d2
    try simp only [szS] at hz2 c2 d2
    try simp only [World.heap_drewN] at hz2 c2 d2
    try simp only [szA] at hz2 c2 d2
    try simp only [szD] at hz2 c2 d2
    try simp only [szS] at hz2 c2 d2
    have s2_0 : w.heap.size < w2.heap.size := by omega
    have o2_0 := fun j => c2 (w.heap.size) j (by omega)
    have f2_0 := fun j => d2 (w.heap.size) j (by omega)
    have s2_1 : w.heap.size + 1 < w2.heap.size := by omega
    have o2_1 := fun j => c2 (w.heap.size + 1) j (by omega)
    have f2_1 := fun j => d2 (w.heap.size + 1) j (by omega)
    have s2_2 : w.heap.size + 1 + 1 < w2.heap.size := by omega
    have o2_2 := fun j => c2 (w.heap.size + 1 + 1) j (by omega)
    have f2_2 := fun j => d2 (w.heap.size + 1 + 1) j (by omega)
    have s2_3 : w1.heap.size < w2.heap.size := by omega
    have o2_3 := fun j => c2 (w1.heap.size) j (by omega)
    have f2_3 := fun j => d2 (w1.heap.size) j (by omega)
    clear c2 d2 hz2 hW2
    ((try go_simp); (repeat go_step))
    refine call_bel (w := w) (by repeat' (first | (with_reducible first | exact bwR _ _ | assumption | refine bdn ?_ | refine bwA ?_ ?_ _ | refine bwD ?_ | refine bwS ?_ ?_ _) | omega | (simp <;> omega))) (fun HB => rdot_any n.B m.A n.D m.B ⟨0, 1⟩ v1 false _ H_nB.out H_mA.out H_nD.out H_mB.out H_hz.out H_e1.out H_b1.out) ?_
    intro w3 hb3 hz3 c3 d3 hW3
    have t3 := hb3.size
    try simp only [szA] at hz3 c3 d3
    try simp only [szD] at hz3 c3 d3
    try simp only [szS] at hz3 c3 d3
    try simp only [World.heap_drewN] at hz3 c3 d3
    try simp only [szA] at hz3 c3 d3
    try simp only [szD] at hz3 c3 d3
    try simp only [szS] at hz3 c3 d3
    have s3_0 : w.heap.size < w3.heap.size := by omega
    have o3_0 := fun j => c3 (w.heap.size) j (by omega)
    have f3_0 := fun j => d3 (w.heap.size) j (by omega)
    have s3_1 : w.heap.size + 1 < w3.heap.size := by omega
    have o3_1 := fun j => c3 (w.heap.size + 1) j (by omega)
    have f3_1 := fun j => d3 (w.heap.size + 1) j (by omega)
    have s3_2 : w.heap.size + 1 + 1 < w3.heap.size := by omega
    have o3_2 := fun j => c3 (w.heap.size + 1 + 1) j (by omega)
    have f3_2 := fun j => d3 (w.heap.size + 1 + 1) j (by omega)
    have s3_3 : w1.heap.size < w3.heap.size := by omega
    have o3_3 := fun j => c3 (w1.heap.size) j (by omega)
    have f3_3 := fun j => d3 (w1.heap.size) j (by omega)
    clear c3 d3 hz3 hW3
    ((try go_simp); (repeat go_step))
    refine call_bel (w := w) (by repeat' (first | (with_reducible first | exact bwR _ _ | assumption | refine bdn ?_ | refine bwA ?_ ?_ _ | refine bwD ?_ | refine bwS ?_ ?_ _) | omega | (simp <;> omega))) (fun HB => rdot_any n.A m.C n.C m.D ⟨0, 1⟩ v2 o2 _ H_nA.out H_mC.out H_nC.out H_mD.out H_hz.out H_e2.out H_b2.out) ?_
    intro w4 hb4 hz4 c4 d4 hW4
    have t4 := hb4.size
    try simp only [szA] at hz4 c4 d4
    try simp only [szD] at hz4 c4 d4
    try simp only [szS] at hz4 c4 d4
    try simp only [World.heap_drewN] at hz4 c4 d4
    try simp only [szA] at hz4 c4 d4
    try simp only [szD] at hz4 c4 d4
    try simp only [szS] at hz4 c4 d4
    have s4_0 : w.heap.size < w4.heap.size := by omega
    have o4_0 := fun j => c4 (w.heap.size) j (by omega)
    have f4_0 := fun j => d4 (w.heap.size) j (by omega)
    have s4_1 : w.heap.size + 1 < w4.heap.size := by omega
    have o4_1 := fun j => c4 (w.heap.size + 1) j (by omega)
    have f4_1 := fun j => d4 (w.heap.size + 1) j (by omega)
    have s4_2 : w.heap.size + 1 + 1 < w4.heap.size := by omega
    have o4_2 := fun j => c4 (w.heap.size + 1 + 1) j (by omega)
    have f4_2 := fun j => d4 (w.heap.size + 1 + 1) j (by omega)
    have s4_3 : w1.heap.size < w4.heap.size := by omega
    have o4_3 := fun j => c4 (w1.heap.size) j (by omega)
    have f4_3 := fun j => d4 (w1.heap.size) j (by omega)
    clear c4 d4 hz4 hW4
    ((try go_simp); (repeat go_step))
    refine call_bel (w := w) (by repeat' (first | (with_reducible first | exact bwR _ _ | assumption | refine bdn ?_ | refine bwA ?_ ?_ _ | refine bwD ?_ | refine bwS ?_ ?_ _) | omega | (simp <;> omega))) (fun HB => rdot_any n.B m.C n.D m.D ⟨0, 1⟩ v3 o3 _ H_nB.out H_mC.out H_nD.out H_mD.out H_hz.out H_e3.out H_b3.out) ?_
    intro w5 hb5 hz5 c5 d5 hW5
    have t5 := hb5.size
    try simp only [szA] at hz5 c5 d5
    try simp only [szD] at hz5 c5 d5
    try simp only [szS] at hz5 c5 d5
    try simp only [World.heap_drewN] at hz5 c5 d5
    try simp only [szA] at hz5 c5 d5
    try simp only [szD] at hz5 c5 d5
    try simp only [szS] at hz5 c5 d5
    have s5_0 : w.heap.size < w5.heap.size := by omega
    have o5_0 := fun j => c5 (w.heap.size) j (by omega)
    have f5_0 := fun j => d5 (w.heap.size) j (by omega)
    have s5_1 : w.heap.size + 1 < w5.heap.size := by omega
    have o5_1 := fun j => c5 (w.heap.size + 1) j (by omega)
    have f5_1 := fun j => d5 (w.heap.size + 1) j (by omega)
    have s5_2 : w.heap.size + 1 + 1 < w5.heap.size := by omega
    have o5_2 := fun j => c5 (w.heap.size + 1 + 1) j (by omega)
    have f5_2 := fun j => d5 (w.heap.size + 1 + 1) j (by omega)
    have s5_3 : w1.heap.size < w5.heap.size := by omega
    have o5_3 := fun j => c5 (w1.heap.size) j (by omega)
    have f5_3 := fun j => d5 (w1.heap.size) j (by omega)
    clear c5 d5 hz5 hW5
    ((try go_simp); (repeat go_step))
    refine call_bel (w := w) (by repeat' (first | (with_reducible first | exact bwR _ _ | assumption | refine bdn ?_ | refine bwA ?_ ?_ _ | refine bwD ?_ | refine bwS ?_ ?_ _) | omega | (simp <;> omega))) (fun HB => rgoes_any n (thP m) q o4 _ H_hn.out H_hP.out H_e4.out H_b4.out) ?_
    intro w6 hb6 hz6 c6 d6 hW6
    have t6 := hb6.size
    try simp only [szA] at hz6 c6 d6
    try simp only [szD] at hz6 c6 d6
    try simp only [szS] at hz6 c6 d6
    try simp only [World.heap_drewN] at hz6 c6 d6
    try simp only [szA] at hz6 c6 d6
    try simp only [szD] at hz6 c6 d6
    try simp only [szS] at hz6 c6 d6
    have s6_0 : w.heap.size < w6.heap.size := by omega
    have o6_0 := fun j => c6 (w.heap.size) j (by omega)
    have f6_0 := fun j => d6 (w.heap.size) j (by omega)
    have s6_1 : w.heap.size + 1 < w6.heap.size := by omega
    have o6_1 := fun j => c6 (w.heap.size + 1) j (by omega)
    have f6_1 := fun j => d6 (w.heap.size + 1) j (by omega)
    have s6_2 : w.heap.size + 1 + 1 < w6.heap.size := by omega
    have o6_2 := fun j => c6 (w.heap.size + 1 + 1) j (by omega)
    have f6_2 := fun j => d6 (w.heap.size + 1 + 1) j (by omega)
    have s6_3 : w1.heap.size < w6.heap.size := by omega
    have o6_3 := fun j => c6 (w1.heap.size) j (by omega)
    have f6_3 := fun j => d6 (w1.heap.size) j (by omega)
    clear c6 d6 hz6 hW6
    ((try go_simp); (repeat go_step))
    refine bodyPost_ret (by simp [results, Tryz.results14, go_sem, *]; try rfl) rfl ?_
    exact ⟨rfl, by repeat' (first | (with_reducible first | exact bwR _ _ | assumption | refine bdn ?_ | refine bwA ?_ ?_ _ | refine bwD ?_ | refine bwS ?_ ?_ _) | omega | (simp <;> omega))⟩
  · obtain rfl : ok = false := hok.symm.trans (decide_eq_false hE)
    obtain rfl : v = ⟨⟨0, 0⟩, ⟨0, 0⟩, ⟨0, 0⟩, ⟨0, 0⟩, ⟨0, 0⟩, ⟨0, 0⟩⟩ := hv.symm.trans (if_neg hE)
    have b0 : rdB n.A m.A n.C m.B ⟨0, 1⟩ = true := decide_eq_true h0
    obtain ⟨v0, e0⟩ : ∃ k, rdV n.A m.A n.C m.B ⟨0, 1⟩ = k := ⟨_, rfl⟩
    have b1 : rdB n.B m.A n.D m.B ⟨0, 1⟩ = true := decide_eq_true h1
    obtain ⟨v1, e1⟩ : ∃ k, rdV n.B m.A n.D m.B ⟨0, 1⟩ = k := ⟨_, rfl⟩
    have b2 : rdB n.A m.C n.C m.D ⟨0, 1⟩ = false := decide_eq_false h2
    obtain ⟨v2, e2⟩ : ∃ k, rdV n.A m.C n.C m.D ⟨0, 1⟩ = k := ⟨_, rfl⟩
    obtain ⟨o3, b3⟩ : ∃ k, rdB n.B m.C n.D m.D ⟨0, 1⟩ = k := ⟨_, rfl⟩
    obtain ⟨v3, e3⟩ : ∃ k, rdV n.B m.C n.D m.D ⟨0, 1⟩ = k := ⟨_, rfl⟩
    obtain ⟨o4, b4⟩ : ∃ k, goB n (thP m) = k := ⟨_, rfl⟩
    obtain ⟨q, e4⟩ : ∃ k, goV n (thP m) = k := ⟨_, rfl⟩
    clear hv
    have H_hm := Lib.hid hm
    clear hm
    have H_hn := Lib.hid hn
    clear hn
    have H_hok := Lib.hid hok
    clear hok
    have H_hE := Lib.hid hE
    clear hE
    have H_mA := Lib.hid mA
    clear mA
    have H_nA := Lib.hid nA
    clear nA
    have H_mB := Lib.hid mB
    clear mB
    have H_nB := Lib.hid nB
    clear nB
    have H_mC := Lib.hid mC
    clear mC
    have H_nC := Lib.hid nC
    clear nC
    have H_mD := Lib.hid mD
    clear mD
    have H_nD := Lib.hid nD
    clear nD
    have H_mE := Lib.hid mE
    clear mE
    have H_nE := Lib.hid nE
    clear nE
    have H_mF := Lib.hid mF
    clear mF
    have H_nF := Lib.hid nF
    clear nF
    have H_hP := Lib.hid hP
    clear hP
    have H_hz := Lib.hid hz
    clear hz
    have H_h0 := Lib.hid h0
    clear h0
    have H_h1 := Lib.hid h1
    clear h1
    have H_h2 := Lib.hid h2
    clear h2
    have H_b0 := Lib.hid b0
    clear b0
    have H_e0 := Lib.hid e0
    clear e0
    have H_b1 := Lib.hid b1
    clear b1
    have H_e1 := Lib.hid e1
    clear e1
    have H_b2 := Lib.hid b2
    clear b2
    have H_e2 := Lib.hid e2
    clear e2
    have H_b3 := Lib.hid b3
    clear b3
    have H_e3 := Lib.hid e3
    clear e3
    have H_b4 := Lib.hid b4
    clear b4
    have H_e4 := Lib.hid e4
    clear e4
    go_enter Tryz.func14, Tryz.ntmps14
    ((try go_simp); (repeat go_step))
    refine call_bel (w := w) (by repeat' (first | (with_reducible first | exact bwR _ _ | assumption | refine bdn ?_ | refine bwA ?_ ?_ _ | refine bwD ?_ | refine bwS ?_ ?_ _) | omega | (simp <;> omega))) (fun HB => rwhole_any 0 _) ?_
    intro w1 hb1 hz1 c1 d1 hW1
    have t1 := hb1.size
    try simp only [szA] at hz1 c1 d1
    try simp only [szD] at hz1 c1 d1
    try simp only [szS] at hz1 c1 d1
    try simp only [World.heap_drewN] at hz1 c1 d1
    try simp only [szA] at hz1 c1 d1
    try simp only [szD] at hz1 c1 d1
    try simp only [szS] at hz1 c1 d1
    have s1_0 : w.heap.size < w1.heap.size := by omega
    have o1_0 := fun j => c1 (w.heap.size) j (by omega)
    have f1_0 := fun j => d1 (w.heap.size) j (by omega)
    have s1_1 : w.heap.size + 1 < w1.heap.size := by omega
    have o1_1 := fun j => c1 (w.heap.size + 1) j (by omega)
    have f1_1 := fun j => d1 (w.heap.size + 1) j (by omega)
    have s1_2 : w.heap.size + 1 + 1 < w1.heap.size := by omega
    have o1_2 := fun j => c1 (w.heap.size + 1 + 1) j (by omega)
    have f1_2 := fun j => d1 (w.heap.size + 1 + 1) j (by omega)
    clear c1 d1 hz1 hW1
    ((try go_simp); (repeat go_step))
    refine call_bel (w := w) (by repeat' (first | (with_reducible first | exact bwR _ _ | assumption | refine bdn ?_ | refine bwA ?_ ?_ _ | refine bwD ?_ | refine bwS ?_ ?_ _) | omega | (simp <;> omega))) (fun HB => rdot_any n.A m.A n.C m.B ⟨0, 1⟩ v0 true _ H_nA.out H_mA.out H_nC.out H_mB.out H_hz.out H_e0.out H_b0.out) ?_
    intro w2 hb2 hz2 c2 d2 hW2
    have t2 := hb2.size
    try simp only [szA] at hz2 c2 d2
    try simp only [szD] at hz2 c2 d2
    try simp only [szS] at hz2 c2 d2
    try simp only [World.heap_drewN] at hz2 c2 d2
    try simp only [szA] at hz2 c2 d2
    try simp only [szD] at hz2 c2 d2
    try simp only [szS] at hz2 c2 d2
    have s2_0 : w.heap.size < w2.heap.size := by omega
    have o2_0 := fun j => c2 (w.heap.size) j (by omega)
    have f2_0 := fun j => d2 (w.heap.size) j (by omega)
    have s2_1 : w.heap.size + 1 < w2.heap.size := by omega
    have o2_1 := fun j => c2 (w.heap.size + 1) j (by omega)
    have f2_1 := fun j => d2 (w.heap.size + 1) j (by omega)
    have s2_2 : w.heap.size + 1 + 1 < w2.heap.size := by omega
    have o2_2 := fun j => c2 (w.heap.size + 1 + 1) j (by omega)
    have f2_2 := fun j => d2 (w.heap.size + 1 + 1) j (by omega)
    have s2_3 : w1.heap.size < w2.heap.size := by omega
    have o2_3 := fun j => c2 (w1.heap.size) j (by omega)
    have f2_3 := fun j => d2 (w1.heap.size) j (by omega)
    clear c2 d2 hz2 hW2
    ((try go_simp); (repeat go_step))
    refine call_bel (w := w) (by repeat' (first | (with_reducible first | exact bwR _ _ | assumption | refine bdn ?_ | refine bwA ?_ ?_ _ | refine bwD ?_ | refine bwS ?_ ?_ _) | omega | (simp <;> omega))) (fun HB => rdot_any n.B m.A n.D m.B ⟨0, 1⟩ v1 true _ H_nB.out H_mA.out H_nD.out H_mB.out H_hz.out H_e1.out H_b1.out) ?_
    intro w3 hb3 hz3 c3 d3 hW3
    have t3 := hb3.size
    try simp only [szA] at hz3 c3 d3
    try simp only [szD] at hz3 c3 d3
    try simp only [szS] at hz3 c3 d3
    try simp only [World.heap_drewN] at hz3 c3 d3
    try simp only [szA] at hz3 c3 d3
    try simp only [szD] at hz3 c3 d3
    try simp only [szS] at hz3 c3 d3
    have s3_0 : w.heap.size < w3.heap.size := by omega
    have o3_0 := fun j => c3 (w.heap.size) j (by omega)
    have f3_0 := fun j => d3 (w.heap.size) j (by omega)
    have s3_1 : w.heap.size + 1 < w3.heap.size := by omega
    have o3_1 := fun j => c3 (w.heap.size + 1) j (by omega)
    have f3_1 := fun j => d3 (w.heap.size + 1) j (by omega)
    have s3_2 : w.heap.size + 1 + 1 < w3.heap.size := by omega
    have o3_2 := fun j => c3 (w.heap.size + 1 + 1) j (by omega)
    have f3_2 := fun j => d3 (w.heap.size + 1 + 1) j (by omega)
    have s3_3 : w1.heap.size < w3.heap.size := by omega
    have o3_3 := fun j => c3 (w1.heap.size) j (by omega)
    have f3_3 := fun j => d3 (w1.heap.size) j (by omega)
    clear c3 d3 hz3 hW3
    ((try go_simp); (repeat go_step))
    refine call_bel (w := w) (by repeat' (first | (with_reducible first | exact bwR _ _ | assumption | refine bdn ?_ | refine bwA ?_ ?_ _ | refine bwD ?_ | refine bwS ?_ ?_ _) | omega | (simp <;> omega))) (fun HB => rdot_any n.A m.C n.C m.D ⟨0, 1⟩ v2 false _ H_nA.out H_mC.out H_nC.out H_mD.out H_hz.out H_e2.out H_b2.out) ?_
    intro w4 hb4 hz4 c4 d4 hW4
    have t4 := hb4.size
    try simp only [szA] at hz4 c4 d4
    try simp only [szD] at hz4 c4 d4
    try simp only [szS] at hz4 c4 d4
    try simp only [World.heap_drewN] at hz4 c4 d4
    try simp only [szA] at hz4 c4 d4
    try simp only [szD] at hz4 c4 d4
    try simp only [szS] at hz4 c4 d4
    have s4_0 : w.heap.size < w4.heap.size := by omega
    have o4_0 := fun j => c4 (w.heap.size) j (by omega)
    have f4_0 := fun j => d4 (w.heap.size) j (by omega)
    have s4_1 : w.heap.size + 1 < w4.heap.size := by omega
    have o4_1 := fun j => c4 (w.heap.size + 1) j (by omega)
    have f4_1 := fun j => d4 (w.heap.size + 1) j (by omega)
    have s4_2 : w.heap.size + 1 + 1 < w4.heap.size := by omega
    have o4_2 := fun j => c4 (w.heap.size + 1 + 1) j (by omega)
    have f4_2 := fun j => d4 (w.heap.size + 1 + 1) j (by omega)
    have s4_3 : w1.heap.size < w4.heap.size := by omega
    have o4_3 := fun j => c4 (w1.heap.size) j (by omega)
    have f4_3 := fun j => d4 (w1.heap.size) j (by omega)
    clear c4 d4 hz4 hW4
    ((try go_simp); (repeat go_step))
    refine call_bel (w := w) (by repeat' (first | (with_reducible first | exact bwR _ _ | assumption | refine bdn ?_ | refine bwA ?_ ?_ _ | refine bwD ?_ | refine bwS ?_ ?_ _) | omega | (simp <;> omega))) (fun HB => rdot_any n.B m.C n.D m.D ⟨0, 1⟩ v3 o3 _ H_nB.out H_mC.out H_nD.out H_mD.out H_hz.out H_e3.out H_b3.out) ?_
    intro w5 hb5 hz5 c5 d5 hW5
    have t5 := hb5.size
    try simp only [szA] at hz5 c5 d5
    try simp only [szD] at hz5 c5 d5
    try simp only [szS] at hz5 c5 d5
    try simp only [World.heap_drewN] at hz5 c5 d5
    try simp only [szA] at hz5 c5 d5
    try simp only [szD] at hz5 c5 d5
    try simp only [szS] at hz5 c5 d5
    have s5_0 : w.heap.size < w5.heap.size := by omega
    have o5_0 := fun j => c5 (w.heap.size) j (by omega)
    have f5_0 := fun j => d5 (w.heap.size) j (by omega)
    have s5_1 : w.heap.size + 1 < w5.heap.size := by omega
    have o5_1 := fun j => c5 (w.heap.size + 1) j (by omega)
    have f5_1 := fun j => d5 (w.heap.size + 1) j (by omega)
    have s5_2 : w.heap.size + 1 + 1 < w5.heap.size := by omega
    have o5_2 := fun j => c5 (w.heap.size + 1 + 1) j (by omega)
    have f5_2 := fun j => d5 (w.heap.size + 1 + 1) j (by omega)
    have s5_3 : w1.heap.size < w5.heap.size := by omega
    have o5_3 := fun j => c5 (w1.heap.size) j (by omega)
    have f5_3 := fun j => d5 (w1.heap.size) j (by omega)
    clear c5 d5 hz5 hW5
    ((try go_simp); (repeat go_step))
    refine call_bel (w := w) (by repeat' (first | (with_reducible first | exact bwR _ _ | assumption | refine bdn ?_ | refine bwA ?_ ?_ _ | refine bwD ?_ | refine bwS ?_ ?_ _) | omega | (simp <;> omega))) (fun HB => rgoes_any n (thP m) q o4 _ H_hn.out H_hP.out H_e4.out H_b4.out) ?_
    intro w6 hb6 hz6 c6 d6 hW6
    have t6 := hb6.size
    try simp only [szA] at hz6 c6 d6
    try simp only [szD] at hz6 c6 d6
    try simp only [szS] at hz6 c6 d6
    try simp only [World.heap_drewN] at hz6 c6 d6
    try simp only [szA] at hz6 c6 d6
    try simp only [szD] at hz6 c6 d6
    try simp only [szS] at hz6 c6 d6
    have s6_0 : w.heap.size < w6.heap.size := by omega
    have o6_0 := fun j => c6 (w.heap.size) j (by omega)
    have f6_0 := fun j => d6 (w.heap.size) j (by omega)
    have s6_1 : w.heap.size + 1 < w6.heap.size := by omega
    have o6_1 := fun j => c6 (w.heap.size + 1) j (by omega)
    have f6_1 := fun j => d6 (w.heap.size + 1) j (by omega)
    have s6_2 : w.heap.size + 1 + 1 < w6.heap.size := by omega
    have o6_2 := fun j => c6 (w.heap.size + 1 + 1) j (by omega)
    have f6_2 := fun j => d6 (w.heap.size + 1 + 1) j (by omega)
    have s6_3 : w1.heap.size < w6.heap.size := by omega
    have o6_3 := fun j => c6 (w1.heap.size) j (by omega)
    have f6_3 := fun j => d6 (w1.heap.size) j (by omega)
    clear c6 d6 hz6 hW6
    ((try go_simp); (repeat go_step))
    refine bodyPost_ret (by simp [results, Tryz.results14, go_sem, *]; try rfl) rfl ?_
    exact ⟨rfl, by repeat' (first | (with_reducible first | exact bwR _ _ | assumption | refine bdn ?_ | refine bwA ?_ ?_ _ | refine bwD ?_ | refine bwS ?_ ?_ _) | omega | (simp <;> omega))⟩
  · obtain rfl : ok = false := hok.symm.trans (decide_eq_false hE)
    obtain rfl : v = ⟨⟨0, 0⟩, ⟨0, 0⟩, ⟨0, 0⟩, ⟨0, 0⟩, ⟨0, 0⟩, ⟨0, 0⟩⟩ := hv.symm.trans (if_neg hE)
    have b0 : rdB n.A m.A n.C m.B ⟨0, 1⟩ = true := decide_eq_true h0
    obtain ⟨v0, e0⟩ : ∃ k, rdV n.A m.A n.C m.B ⟨0, 1⟩ = k := ⟨_, rfl⟩
    have b1 : rdB n.B m.A n.D m.B ⟨0, 1⟩ = true := decide_eq_true h1
    obtain ⟨v1, e1⟩ : ∃ k, rdV n.B m.A n.D m.B ⟨0, 1⟩ = k := ⟨_, rfl⟩
    have b2 : rdB n.A m.C n.C m.D ⟨0, 1⟩ = true := decide_eq_true h2
    obtain ⟨v2, e2⟩ : ∃ k, rdV n.A m.C n.C m.D ⟨0, 1⟩ = k := ⟨_, rfl⟩
    have b3 : rdB n.B m.C n.D m.D ⟨0, 1⟩ = false := decide_eq_false h3
    obtain ⟨v3, e3⟩ : ∃ k, rdV n.B m.C n.D m.D ⟨0, 1⟩ = k := ⟨_, rfl⟩
    obtain ⟨o4, b4⟩ : ∃ k, goB n (thP m) = k := ⟨_, rfl⟩
    obtain ⟨q, e4⟩ : ∃ k, goV n (thP m) = k := ⟨_, rfl⟩
    clear hv
    have H_hm := Lib.hid hm
    clear hm
    have H_hn := Lib.hid hn
    clear hn
    have H_hok := Lib.hid hok
    clear hok
    have H_hE := Lib.hid hE
    clear hE
    have H_mA := Lib.hid mA
    clear mA
    have H_nA := Lib.hid nA
    clear nA
    have H_mB := Lib.hid mB
    clear mB
    have H_nB := Lib.hid nB
    clear nB
    have H_mC := Lib.hid mC
    clear mC
    have H_nC := Lib.hid nC
    clear nC
    have H_mD := Lib.hid mD
    clear mD
    have H_nD := Lib.hid nD
    clear nD
    have H_mE := Lib.hid mE
    clear mE
    have H_nE := Lib.hid nE
    clear nE
    have H_mF := Lib.hid mF
    clear mF
    have H_nF := Lib.hid nF
    clear nF
    have H_hP := Lib.hid hP
    clear hP
    have H_hz := Lib.hid hz
    clear hz
    have H_h0 := Lib.hid h0
    clear h0
    have H_h1 := Lib.hid h1
    clear h1
    have H_h2 := Lib.hid h2
    clear h2
    have H_h3 := Lib.hid h3
    clear h3
    have H_b0 := Lib.hid b0
    clear b0
    have H_e0 := Lib.hid e0
    clear e0
    have H_b1 := Lib.hid b1
    clear b1
    have H_e1 := Lib.hid e1
    clear e1
    have H_b2 := Lib.hid b2
    clear b2
    have H_e2 := Lib.hid e2
    clear e2
    have H_b3 := Lib.hid b3
    clear b3
    have H_e3 := Lib.hid e3
    clear e3
    have H_b4 := Lib.hid b4
    clear b4
    have H_e4 := Lib.hid e4
    clear e4
    go_enter Tryz.func14, Tryz.ntmps14
    ((try go_simp); (repeat go_step))
    refine call_bel (w := w) (by repeat' (first | (with_reducible first | exact bwR _ _ | assumption | refine bdn ?_ | refine bwA ?_ ?_ _ | refine bwD ?_ | refine bwS ?_ ?_ _) | omega | (simp <;> omega))) (fun HB => rwhole_any 0 _) ?_
    intro w1 hb1 hz1 c1 d1 hW1
    have t1 := hb1.size
    try simp only [szA] at hz1 c1 d1
    try simp only [szD] at hz1 c1 d1
    try simp only [szS] at hz1 c1 d1
    try simp only [World.heap_drewN] at hz1 c1 d1
    try simp only [szA] at hz1 c1 d1
    try simp only [szD] at hz1 c1 d1
    try simp only [szS] at hz1 c1 d1
    have s1_0 : w.heap.size < w1.heap.size := by omega
    have o1_0 := fun j => c1 (w.heap.size) j (by omega)
    have f1_0 := fun j => d1 (w.heap.size) j (by omega)
    have s1_1 : w.heap.size + 1 < w1.heap.size := by omega
    have o1_1 := fun j => c1 (w.heap.size + 1) j (by omega)
    have f1_1 := fun j => d1 (w.heap.size + 1) j (by omega)
    have s1_2 : w.heap.size + 1 + 1 < w1.heap.size := by omega
    have o1_2 := fun j => c1 (w.heap.size + 1 + 1) j (by omega)
    have f1_2 := fun j => d1 (w.heap.size + 1 + 1) j (by omega)
    clear c1 d1 hz1 hW1
    ((try go_simp); (repeat go_step))
    refine call_bel (w := w) (by repeat' (first | (with_reducible first | exact bwR _ _ | assumption | refine bdn ?_ | refine bwA ?_ ?_ _ | refine bwD ?_ | refine bwS ?_ ?_ _) | omega | (simp <;> omega))) (fun HB => rdot_any n.A m.A n.C m.B ⟨0, 1⟩ v0 true _ H_nA.out H_mA.out H_nC.out H_mB.out H_hz.out H_e0.out H_b0.out) ?_
    intro w2 hb2 hz2 c2 d2 hW2
    have t2 := hb2.size
    try simp only [szA] at hz2 c2 d2
    try simp only [szD] at hz2 c2 d2
    try simp only [szS] at hz2 c2 d2
    try simp only [World.heap_drewN] at hz2 c2 d2
    try simp only [szA] at hz2 c2 d2
    try simp only [szD] at hz2 c2 d2
    try simp only [szS] at hz2 c2 d2
    have s2_0 : w.heap.size < w2.heap.size := by omega
    have o2_0 := fun j => c2 (w.heap.size) j (by omega)
    have f2_0 := fun j => d2 (w.heap.size) j (by omega)
    have s2_1 : w.heap.size + 1 < w2.heap.size := by omega
    have o2_1 := fun j => c2 (w.heap.size + 1) j (by omega)
    have f2_1 := fun j => d2 (w.heap.size + 1) j (by omega)
    have s2_2 : w.heap.size + 1 + 1 < w2.heap.size := by omega
    have o2_2 := fun j => c2 (w.heap.size + 1 + 1) j (by omega)
    have f2_2 := fun j => d2 (w.heap.size + 1 + 1) j (by omega)
    have s2_3 : w1.heap.size < w2.heap.size := by omega
    have o2_3 := fun j => c2 (w1.heap.size) j (by omega)
    have f2_3 := fun j => d2 (w1.heap.size) j (by omega)
    clear c2 d2 hz2 hW2
    ((try go_simp); (repeat go_step))
    refine call_bel (w := w) (by repeat' (first | (with_reducible first | exact bwR _ _ | assumption | refine bdn ?_ | refine bwA ?_ ?_ _ | refine bwD ?_ | refine bwS ?_ ?_ _) | omega | (simp <;> omega))) (fun HB => rdot_any n.B m.A n.D m.B ⟨0, 1⟩ v1 true _ H_nB.out H_mA.out H_nD.out H_mB.out H_hz.out H_e1.out H_b1.out) ?_
    intro w3 hb3 hz3 c3 d3 hW3
    have t3 := hb3.size
    try simp only [szA] at hz3 c3 d3
    try simp only [szD] at hz3 c3 d3
    try simp only [szS] at hz3 c3 d3
    try simp only [World.heap_drewN] at hz3 c3 d3
    try simp only [szA] at hz3 c3 d3
    try simp only [szD] at hz3 c3 d3
    try simp only [szS] at hz3 c3 d3
    have s3_0 : w.heap.size < w3.heap.size := by omega
    have o3_0 := fun j => c3 (w.heap.size) j (by omega)
    have f3_0 := fun j => d3 (w.heap.size) j (by omega)
    have s3_1 : w.heap.size + 1 < w3.heap.size := by omega
    have o3_1 := fun j => c3 (w.heap.size + 1) j (by omega)
    have f3_1 := fun j => d3 (w.heap.size + 1) j (by omega)
    have s3_2 : w.heap.size + 1 + 1 < w3.heap.size := by omega
    have o3_2 := fun j => c3 (w.heap.size + 1 + 1) j (by omega)
    have f3_2 := fun j => d3 (w.heap.size + 1 + 1) j (by omega)
    have s3_3 : w1.heap.size < w3.heap.size := by omega
    have o3_3 := fun j => c3 (w1.heap.size) j (by omega)
    have f3_3 := fun j => d3 (w1.heap.size) j (by omega)
    clear c3 d3 hz3 hW3
    ((try go_simp); (repeat go_step))
    refine call_bel (w := w) (by repeat' (first | (with_reducible first | exact bwR _ _ | assumption | refine bdn ?_ | refine bwA ?_ ?_ _ | refine bwD ?_ | refine bwS ?_ ?_ _) | omega | (simp <;> omega))) (fun HB => rdot_any n.A m.C n.C m.D ⟨0, 1⟩ v2 true _ H_nA.out H_mC.out H_nC.out H_mD.out H_hz.out H_e2.out H_b2.out) ?_
    intro w4 hb4 hz4 c4 d4 hW4
    have t4 := hb4.size
    try simp only [szA] at hz4 c4 d4
    try simp only [szD] at hz4 c4 d4
    try simp only [szS] at hz4 c4 d4
    try simp only [World.heap_drewN] at hz4 c4 d4
    try simp only [szA] at hz4 c4 d4
    try simp only [szD] at hz4 c4 d4
    try simp only [szS] at hz4 c4 d4
    have s4_0 : w.heap.size < w4.heap.size := by omega
    have o4_0 := fun j => c4 (w.heap.size) j (by omega)
    have f4_0 := fun j => d4 (w.heap.size) j (by omega)
    have s4_1 : w.heap.size + 1 < w4.heap.size := by omega
    have o4_1 := fun j => c4 (w.heap.size + 1) j (by omega)
    have f4_1 := fun j => d4 (w.heap.size + 1) j (by omega)
    have s4_2 : w.heap.size + 1 + 1 < w4.heap.size := by omega
    have o4_2 := fun j => c4 (w.heap.size + 1 + 1) j (by omega)
    have f4_2 := fun j => d4 (w.heap.size + 1 + 1) j (by omega)
    have s4_3 : w1.heap.size < w4.heap.size := by omega
    have o4_3 := fun j => c4 (w1.heap.size) j (by omega)
    have f4_3 := fun j => d4 (w1.heap.size) j (by omega)
    clear c4 d4 hz4 hW4
    ((try go_simp); (repeat go_step))
    refine call_bel (w := w) (by repeat' (first | (with_reducible first | exact bwR _ _ | assumption | refine bdn ?_ | refine bwA ?_ ?_ _ | refine bwD ?_ | refine bwS ?_ ?_ _) | omega | (simp <;> omega))) (fun HB => rdot_any n.B m.C n.D m.D ⟨0, 1⟩ v3 false _ H_nB.out H_mC.out H_nD.out H_mD.out H_hz.out H_e3.out H_b3.out) ?_
    intro w5 hb5 hz5 c5 d5 hW5
    have t5 := hb5.size
    try simp only [szA] at hz5 c5 d5
    try simp only [szD] at hz5 c5 d5
    try simp only [szS] at hz5 c5 d5
    try simp only [World.heap_drewN] at hz5 c5 d5
    try simp only [szA] at hz5 c5 d5
    try simp only [szD] at hz5 c5 d5
    try simp only [szS] at hz5 c5 d5
    have s5_0 : w.heap.size < w5.heap.size := by omega
    have o5_0 := fun j => c5 (w.heap.size) j (by omega)
    have f5_0 := fun j => d5 (w.heap.size) j (by omega)
    have s5_1 : w.heap.size + 1 < w5.heap.size := by omega
    have o5_1 := fun j => c5 (w.heap.size + 1) j (by omega)
    have f5_1 := fun j => d5 (w.heap.size + 1) j (by omega)
    have s5_2 : w.heap.size + 1 + 1 < w5.heap.size := by omega
    have o5_2 := fun j => c5 (w.heap.size + 1 + 1) j (by omega)
    have f5_2 := fun j => d5 (w.heap.size + 1 + 1) j (by omega)
    have s5_3 : w1.heap.size < w5.heap.size := by omega
    have o5_3 := fun j => c5 (w1.heap.size) j (by omega)
    have f5_3 := fun j => d5 (w1.heap.size) j (by omega)
    clear c5 d5 hz5 hW5
    ((try go_simp); (repeat go_step))
    refine call_bel (w := w) (by repeat' (first | (with_reducible first | exact bwR _ _ | assumption | refine bdn ?_ | refine bwA ?_ ?_ _ | refine bwD ?_ | refine bwS ?_ ?_ _) | omega | (simp <;> omega))) (fun HB => rgoes_any n (thP m) q o4 _ H_hn.out H_hP.out H_e4.out H_b4.out) ?_
    intro w6 hb6 hz6 c6 d6 hW6
    have t6 := hb6.size
    try simp only [szA] at hz6 c6 d6
    try simp only [szD] at hz6 c6 d6
    try simp only [szS] at hz6 c6 d6
    try simp only [World.heap_drewN] at hz6 c6 d6
    try simp only [szA] at hz6 c6 d6
    try simp only [szD] at hz6 c6 d6
    try simp only [szS] at hz6 c6 d6
    have s6_0 : w.heap.size < w6.heap.size := by omega
    have o6_0 := fun j => c6 (w.heap.size) j (by omega)
    have f6_0 := fun j => d6 (w.heap.size) j (by omega)
    have s6_1 : w.heap.size + 1 < w6.heap.size := by omega
    have o6_1 := fun j => c6 (w.heap.size + 1) j (by omega)
    have f6_1 := fun j => d6 (w.heap.size + 1) j (by omega)
    have s6_2 : w.heap.size + 1 + 1 < w6.heap.size := by omega
    have o6_2 := fun j => c6 (w.heap.size + 1 + 1) j (by omega)
    have f6_2 := fun j => d6 (w.heap.size + 1 + 1) j (by omega)
    have s6_3 : w1.heap.size < w6.heap.size := by omega
    have o6_3 := fun j => c6 (w1.heap.size) j (by omega)
    have f6_3 := fun j => d6 (w1.heap.size) j (by omega)
    clear c6 d6 hz6 hW6
    ((try go_simp); (repeat go_step))
    refine bodyPost_ret (by simp [results, Tryz.results14, go_sem, *]; try rfl) rfl ?_
    exact ⟨rfl, by repeat' (first | (with_reducible first | exact bwR _ _ | assumption | refine bdn ?_ | refine bwA ?_ ?_ _ | refine bwD ?_ | refine bwS ?_ ?_ _) | omega | (simp <;> omega))⟩
  · obtain rfl : ok = false := hok.symm.trans (decide_eq_false hE)
    obtain rfl : v = ⟨⟨0, 0⟩, ⟨0, 0⟩, ⟨0, 0⟩, ⟨0, 0⟩, ⟨0, 0⟩, ⟨0, 0⟩⟩ := hv.symm.trans (if_neg hE)
    have b0 : rdB n.A m.A n.C m.B ⟨0, 1⟩ = true := decide_eq_true h0
    obtain ⟨v0, e0⟩ : ∃ k, rdV n.A m.A n.C m.B ⟨0, 1⟩ = k := ⟨_, rfl⟩
    have b1 : rdB n.B m.A n.D m.B ⟨0, 1⟩ = true := decide_eq_true h1
    obtain ⟨v1, e1⟩ : ∃ k, rdV n.B m.A n.D m.B ⟨0, 1⟩ = k := ⟨_, rfl⟩
    have b2 : rdB n.A m.C n.C m.D ⟨0, 1⟩ = true := decide_eq_true h2
    obtain ⟨v2, e2⟩ : ∃ k, rdV n.A m.C n.C m.D ⟨0, 1⟩ = k := ⟨_, rfl⟩
    have b3 : rdB n.B m.C n.D m.D ⟨0, 1⟩ = true := decide_eq_true h3
    obtain ⟨v3, e3⟩ : ∃ k, rdV n.B m.C n.D m.D ⟨0, 1⟩ = k := ⟨_, rfl⟩
    have b4 : goB n (thP m) = false := decide_eq_false h4
    obtain ⟨q, e4⟩ : ∃ k, goV n (thP m) = k := ⟨_, rfl⟩
    clear hv
    have H_hm := Lib.hid hm
    clear hm
    have H_hn := Lib.hid hn
    clear hn
    have H_hok := Lib.hid hok
    clear hok
    have H_hE := Lib.hid hE
    clear hE
    have H_mA := Lib.hid mA
    clear mA
    have H_nA := Lib.hid nA
    clear nA
    have H_mB := Lib.hid mB
    clear mB
    have H_nB := Lib.hid nB
    clear nB
    have H_mC := Lib.hid mC
    clear mC
    have H_nC := Lib.hid nC
    clear nC
    have H_mD := Lib.hid mD
    clear mD
    have H_nD := Lib.hid nD
    clear nD
    have H_mE := Lib.hid mE
    clear mE
    have H_nE := Lib.hid nE
    clear nE
    have H_mF := Lib.hid mF
    clear mF
    have H_nF := Lib.hid nF
    clear nF
    have H_hP := Lib.hid hP
    clear hP
    have H_hz := Lib.hid hz
    clear hz
    have H_h0 := Lib.hid h0
    clear h0
    have H_h1 := Lib.hid h1
    clear h1
    have H_h2 := Lib.hid h2
    clear h2
    have H_h3 := Lib.hid h3
    clear h3
    have H_h4 := Lib.hid h4
    clear h4
    have H_b0 := Lib.hid b0
    clear b0
    have H_e0 := Lib.hid e0
    clear e0
    have H_b1 := Lib.hid b1
    clear b1
    have H_e1 := Lib.hid e1
    clear e1
    have H_b2 := Lib.hid b2
    clear b2
    have H_e2 := Lib.hid e2
    clear e2
    have H_b3 := Lib.hid b3
    clear b3
    have H_e3 := Lib.hid e3
    clear e3
    have H_b4 := Lib.hid b4
    clear b4
    have H_e4 := Lib.hid e4
    clear e4
    go_enter Tryz.func14, Tryz.ntmps14
    ((try go_simp); (repeat go_step))
    refine call_bel (w := w) (by repeat' (first | (with_reducible first | exact bwR _ _ | assumption | refine bdn ?_ | refine bwA ?_ ?_ _ | refine bwD ?_ | refine bwS ?_ ?_ _) | omega | (simp <;> omega))) (fun HB => rwhole_any 0 _) ?_
    intro w1 hb1 hz1 c1 d1 hW1
    have t1 := hb1.size
    try simp only [szA] at hz1 c1 d1
    try simp only [szD] at hz1 c1 d1
    try simp only [szS] at hz1 c1 d1
    try simp only [World.heap_drewN] at hz1 c1 d1
    try simp only [szA] at hz1 c1 d1
    try simp only [szD] at hz1 c1 d1
    try simp only [szS] at hz1 c1 d1
    have s1_0 : w.heap.size < w1.heap.size := by omega
    have o1_0 := fun j => c1 (w.heap.size) j (by omega)
    have f1_0 := fun j => d1 (w.heap.size) j (by omega)
    have s1_1 : w.heap.size + 1 < w1.heap.size := by omega
    have o1_1 := fun j => c1 (w.heap.size + 1) j (by omega)
    have f1_1 := fun j => d1 (w.heap.size + 1) j (by omega)
    have s1_2 : w.heap.size + 1 + 1 < w1.heap.size := by omega
    have o1_2 := fun j => c1 (w.heap.size + 1 + 1) j (by omega)
    have f1_2 := fun j => d1 (w.heap.size + 1 + 1) j (by omega)
    clear c1 d1 hz1 hW1
    ((try go_simp); (repeat go_step))
    refine call_bel (w := w) (by repeat' (first | (with_reducible first | exact bwR _ _ | assumption | refine bdn ?_ | refine bwA ?_ ?_ _ | refine bwD ?_ | refine bwS ?_ ?_ _) | omega | (simp <;> omega))) (fun HB => rdot_any n.A m.A n.C m.B ⟨0, 1⟩ v0 true _ H_nA.out H_mA.out H_nC.out H_mB.out H_hz.out H_e0.out H_b0.out) ?_
    intro w2 hb2 hz2 c2 d2 hW2
    have t2 := hb2.size
    try simp only [szA] at hz2 c2 d2
    try simp only [szD] at hz2 c2 d2
    try simp only [szS] at hz2 c2 d2
    try simp only [World.heap_drewN] at hz2 c2 d2
    try simp only [szA] at hz2 c2 d2
    try simp only [szD] at hz2 c2 d2
    try simp only [szS] at hz2 c2 d2
    have s2_0 : w.heap.size < w2.heap.size := by omega
    have o2_0 := fun j => c2 (w.heap.size) j (by omega)
    have f2_0 := fun j => d2 (w.heap.size) j (by omega)
    have s2_1 : w.heap.size + 1 < w2.heap.size := by omega
    have o2_1 := fun j => c2 (w.heap.size + 1) j (by omega)
    have f2_1 := fun j => d2 (w.heap.size + 1) j (by omega)
    have s2_2 : w.heap.size + 1 + 1 < w2.heap.size := by omega
    have o2_2 := fun j => c2 (w.heap.size + 1 + 1) j (by omega)
    have f2_2 := fun j => d2 (w.heap.size + 1 + 1) j (by omega)
    have s2_3 : w1.heap.size < w2.heap.size := by omega
    have o2_3 := fun j => c2 (w1.heap.size) j (by omega)
    have f2_3 := fun j => d2 (w1.heap.size) j (by omega)
    clear c2 d2 hz2 hW2
    ((try go_simp); (repeat go_step))
    refine call_bel (w := w) (by repeat' (first | (with_reducible first | exact bwR _ _ | assumption | refine bdn ?_ | refine bwA ?_ ?_ _ | refine bwD ?_ | refine bwS ?_ ?_ _) | omega | (simp <;> omega))) (fun HB => rdot_any n.B m.A n.D m.B ⟨0, 1⟩ v1 true _ H_nB.out H_mA.out H_nD.out H_mB.out H_hz.out H_e1.out H_b1.out) ?_
    intro w3 hb3 hz3 c3 d3 hW3
    have t3 := hb3.size
    try simp only [szA] at hz3 c3 d3
    try simp only [szD] at hz3 c3 d3
    try simp only [szS] at hz3 c3 d3
    try simp only [World.heap_drewN] at hz3 c3 d3
    try simp only [szA] at hz3 c3 d3
    try simp only [szD] at hz3 c3 d3
    try simp only [szS] at hz3 c3 d3
    have s3_0 : w.heap.size < w3.heap.size := by omega
    have o3_0 := fun j => c3 (w.heap.size) j (by omega)
    have f3_0 := fun j => d3 (w.heap.size) j (by omega)
    have s3_1 : w.heap.size + 1 < w3.heap.size := by omega
    have o3_1 := fun j => c3 (w.heap.size + 1) j (by omega)
    have f3_1 := fun j => d3 (w.heap.size + 1) j (by omega)
    have s3_2 : w.heap.size + 1 + 1 < w3.heap.size := by omega
    have o3_2 := fun j => c3 (w.heap.size + 1 + 1) j (by omega)
    have f3_2 := fun j => d3 (w.heap.size + 1 + 1) j (by omega)
    have s3_3 : w1.heap.size < w3.heap.size := by omega
    have o3_3 := fun j => c3 (w1.heap.size) j (by omega)
    have f3_3 := fun j => d3 (w1.heap.size) j (by omega)
    clear c3 d3 hz3 hW3
    ((try go_simp); (repeat go_step))
    refine call_bel (w := w) (by repeat' (first | (with_reducible first | exact bwR _ _ | assumption | refine bdn ?_ | refine bwA ?_ ?_ _ | refine bwD ?_ | refine bwS ?_ ?_ _) | omega | (simp <;> omega))) (fun HB => rdot_any n.A m.C n.C m.D ⟨0, 1⟩ v2 true _ H_nA.out H_mC.out H_nC.out H_mD.out H_hz.out H_e2.out H_b2.out) ?_
    intro w4 hb4 hz4 c4 d4 hW4
    have t4 := hb4.size
    try simp only [szA] at hz4 c4 d4
    try simp only [szD] at hz4 c4 d4
    try simp only [szS] at hz4 c4 d4
    try simp only [World.heap_drewN] at hz4 c4 d4
    try simp only [szA] at hz4 c4 d4
    try simp only [szD] at hz4 c4 d4
    try simp only [szS] at hz4 c4 d4
    have s4_0 : w.heap.size < w4.heap.size := by omega
    have o4_0 := fun j => c4 (w.heap.size) j (by omega)
    have f4_0 := fun j => d4 (w.heap.size) j (by omega)
    have s4_1 : w.heap.size + 1 < w4.heap.size := by omega
    have o4_1 := fun j => c4 (w.heap.size + 1) j (by omega)
    have f4_1 := fun j => d4 (w.heap.size + 1) j (by omega)
    have s4_2 : w.heap.size + 1 + 1 < w4.heap.size := by omega
    have o4_2 := fun j => c4 (w.heap.size + 1 + 1) j (by omega)
    have f4_2 := fun j => d4 (w.heap.size + 1 + 1) j (by omega)
    have s4_3 : w1.heap.size < w4.heap.size := by omega
    have o4_3 := fun j => c4 (w1.heap.size) j (by omega)
    have f4_3 := fun j => d4 (w1.heap.size) j (by omega)
    clear c4 d4 hz4 hW4
    ((try go_simp); (repeat go_step))
    refine call_bel (w := w) (by repeat' (first | (with_reducible first | exact bwR _ _ | assumption | refine bdn ?_ | refine bwA ?_ ?_ _ | refine bwD ?_ | refine bwS ?_ ?_ _) | omega | (simp <;> omega))) (fun HB => rdot_any n.B m.C n.D m.D ⟨0, 1⟩ v3 true _ H_nB.out H_mC.out H_nD.out H_mD.out H_hz.out H_e3.out H_b3.out) ?_
    intro w5 hb5 hz5 c5 d5 hW5
    have t5 := hb5.size
    try simp only [szA] at hz5 c5 d5
    try simp only [szD] at hz5 c5 d5
    try simp only [szS] at hz5 c5 d5
    try simp only [World.heap_drewN] at hz5 c5 d5
    try simp only [szA] at hz5 c5 d5
    try simp only [szD] at hz5 c5 d5
    try simp only [szS] at hz5 c5 d5
    have s5_0 : w.heap.size < w5.heap.size := by omega
    have o5_0 := fun j => c5 (w.heap.size) j (by omega)
    have f5_0 := fun j => d5 (w.heap.size) j (by omega)
    have s5_1 : w.heap.size + 1 < w5.heap.size := by omega
    have o5_1 := fun j => c5 (w.heap.size + 1) j (by omega)
    have f5_1 := fun j => d5 (w.heap.size + 1) j (by omega)
    have s5_2 : w.heap.size + 1 + 1 < w5.heap.size := by omega
    have o5_2 := fun j => c5 (w.heap.size + 1 + 1) j (by omega)
    have f5_2 := fun j => d5 (w.heap.size + 1 + 1) j (by omega)
    have s5_3 : w1.heap.size < w5.heap.size := by omega
    have o5_3 := fun j => c5 (w1.heap.size) j (by omega)
    have f5_3 := fun j => d5 (w1.heap.size) j (by omega)
    clear c5 d5 hz5 hW5
    ((try go_simp); (repeat go_step))
    refine call_bel (w := w) (by repeat' (first | (with_reducible first | exact bwR _ _ | assumption | refine bdn ?_ | refine bwA ?_ ?_ _ | refine bwD ?_ | refine bwS ?_ ?_ _) | omega | (simp <;> omega))) (fun HB => rgoes_any n (thP m) q false _ H_hn.out H_hP.out H_e4.out H_b4.out) ?_
    intro w6 hb6 hz6 c6 d6 hW6
    have t6 := hb6.size
    try simp only [szA] at hz6 c6 d6
    try simp only [szD] at hz6 c6 d6
    try simp only [szS] at hz6 c6 d6
    try simp only [World.heap_drewN] at hz6 c6 d6
    try simp only [szA] at hz6 c6 d6
    try simp only [szD] at hz6 c6 d6
    try simp only [szS] at hz6 c6 d6
    have s6_0 : w.heap.size < w6.heap.size := by omega
    have o6_0 := fun j => c6 (w.heap.size) j (by omega)
    have f6_0 := fun j => d6 (w.heap.size) j (by omega)
    have s6_1 : w.heap.size + 1 < w6.heap.size := by omega
    have o6_1 := fun j => c6 (w.heap.size + 1) j (by omega)
    have f6_1 := fun j => d6 (w.heap.size + 1) j (by omega)
    have s6_2 : w.heap.size + 1 + 1 < w6.heap.size := by omega
    have o6_2 := fun j => c6 (w.heap.size + 1 + 1) j (by omega)
    have f6_2 := fun j => d6 (w.heap.size + 1 + 1) j (by omega)
    have s6_3 : w1.heap.size < w6.heap.size := by omega
    have o6_3 := fun j => c6 (w1.heap.size) j (by omega)
    have f6_3 := fun j => d6 (w1.heap.size) j (by omega)
    clear c6 d6 hz6 hW6
    ((try go_simp); (repeat go_step))
    refine bodyPost_ret (by simp [results, Tryz.results14, go_sem, *]; try rfl) rfl ?_
    exact ⟨rfl, by repeat' (first | (with_reducible first | exact bwR _ _ | assumption | refine bdn ?_ | refine bwA ?_ ?_ _ | refine bwD ?_ | refine bwS ?_ ?_ _) | omega | (simp <;> omega))⟩
  · obtain rfl : ok = true := hok.symm.trans (decide_eq_true hE)
    have hv' := hv.symm.trans ((if_pos hE).trans hV)
    have b0 : rdB n.A m.A n.C m.B ⟨0, 1⟩ = true := decide_eq_true h0
    have e0 : rdV n.A m.A n.C m.B ⟨0, 1⟩ = dotV 0 n.A m.A n.C m.B ⟨0, 1⟩ := if_pos h0
    obtain ⟨v0, g0⟩ : ∃ k, dotV 0 n.A m.A n.C m.B ⟨0, 1⟩ = k := ⟨_, rfl⟩
    rw [g0] at e0 hv'
    have b1 : rdB n.B m.A n.D m.B ⟨0, 1⟩ = true := decide_eq_true h1
    have e1 : rdV n.B m.A n.D m.B ⟨0, 1⟩ = dotV 0 n.B m.A n.D m.B ⟨0, 1⟩ := if_pos h1
    obtain ⟨v1, g1⟩ : ∃ k, dotV 0 n.B m.A n.D m.B ⟨0, 1⟩ = k := ⟨_, rfl⟩
    rw [g1] at e1 hv'
    have b2 : rdB n.A m.C n.C m.D ⟨0, 1⟩ = true := decide_eq_true h2
    have e2 : rdV n.A m.C n.C m.D ⟨0, 1⟩ = dotV 0 n.A m.C n.C m.D ⟨0, 1⟩ := if_pos h2
    obtain ⟨v2, g2⟩ : ∃ k, dotV 0 n.A m.C n.C m.D ⟨0, 1⟩ = k := ⟨_, rfl⟩
    rw [g2] at e2 hv'
    have b3 : rdB n.B m.C n.D m.D ⟨0, 1⟩ = true := decide_eq_true h3
    have e3 : rdV n.B m.C n.D m.D ⟨0, 1⟩ = dotV 0 n.B m.C n.D m.D ⟨0, 1⟩ := if_pos h3
    obtain ⟨v3, g3⟩ : ∃ k, dotV 0 n.B m.C n.D m.D ⟨0, 1⟩ = k := ⟨_, rfl⟩
    rw [g3] at e3 hv'
    have b4 : goB n (thP m) = true := decide_eq_true h4
    obtain ⟨q, e4⟩ : ∃ k, goV n (thP m) = k := ⟨_, rfl⟩
    rw [e4] at hv'
    subst hv'
    clear hv hV g0 g1 g2 g3
    have H_hm := Lib.hid hm
    clear hm
    have H_hn := Lib.hid hn
    clear hn
    have H_hok := Lib.hid hok
    clear hok
    have H_hE := Lib.hid hE
    clear hE
    have H_mA := Lib.hid mA
    clear mA
    have H_nA := Lib.hid nA
    clear nA
    have H_mB := Lib.hid mB
    clear mB
    have H_nB := Lib.hid nB
    clear nB
    have H_mC := Lib.hid mC
    clear mC
    have H_nC := Lib.hid nC
    clear nC
    have H_mD := Lib.hid mD
    clear mD
    have H_nD := Lib.hid nD
    clear nD
    have H_mE := Lib.hid mE
    clear mE
    have H_nE := Lib.hid nE
    clear nE
    have H_mF := Lib.hid mF
    clear mF
    have H_nF := Lib.hid nF
    clear nF
    have H_hP := Lib.hid hP
    clear hP
    have H_hz := Lib.hid hz
    clear hz
    have H_h0 := Lib.hid h0
    clear h0
    have H_h1 := Lib.hid h1
    clear h1
    have H_h2 := Lib.hid h2
    clear h2
    have H_h3 := Lib.hid h3
    clear h3
    have H_h4 := Lib.hid h4
    clear h4
    have H_b0 := Lib.hid b0
    clear b0
    have H_e0 := Lib.hid e0
    clear e0
    have H_b1 := Lib.hid b1
    clear b1
    have H_e1 := Lib.hid e1
    clear e1
    have H_b2 := Lib.hid b2
    clear b2
    have H_e2 := Lib.hid e2
    clear e2
    have H_b3 := Lib.hid b3
    clear b3
    have H_e3 := Lib.hid e3
    clear e3
    have H_b4 := Lib.hid b4
    clear b4
    have H_e4 := Lib.hid e4
    clear e4
    go_enter Tryz.func14, Tryz.ntmps14
    ((try go_simp); (repeat go_step))
    refine call_bel (w := w) (by repeat' (first | (with_reducible first | exact bwR _ _ | assumption | refine bdn ?_ | refine bwA ?_ ?_ _ | refine bwD ?_ | refine bwS ?_ ?_ _) | omega | (simp <;> omega))) (fun HB => rwhole_any 0 _) ?_
    intro w1 hb1 hz1 c1 d1 hW1
    have t1 := hb1.size
    try simp only [szA] at hz1 c1 d1
    try simp only [szD] at hz1 c1 d1
    try simp only [szS] at hz1 c1 d1
    try simp only [World.heap_drewN] at hz1 c1 d1
    try simp only [szA] at hz1 c1 d1
    try simp only [szD] at hz1 c1 d1
    try simp only [szS] at hz1 c1 d1
    have s1_0 : w.heap.size < w1.heap.size := by omega
    have o1_0 := fun j => c1 (w.heap.size) j (by omega)
    have f1_0 := fun j => d1 (w.heap.size) j (by omega)
    have s1_1 : w.heap.size + 1 < w1.heap.size := by omega
    have o1_1 := fun j => c1 (w.heap.size + 1) j (by omega)
    have f1_1 := fun j => d1 (w.heap.size + 1) j (by omega)
    have s1_2 : w.heap.size + 1 + 1 < w1.heap.size := by omega
    have o1_2 := fun j => c1 (w.heap.size + 1 + 1) j (by omega)
    have f1_2 := fun j => d1 (w.heap.size + 1 + 1) j (by omega)
    clear c1 d1 hz1 hW1
    ((try go_simp); (repeat go_step))
    refine call_bel (w := w) (by repeat' (first | (with_reducible first | exact bwR _ _ | assumption | refine bdn ?_ | refine bwA ?_ ?_ _ | refine bwD ?_ | refine bwS ?_ ?_ _) | omega | (simp <;> omega))) (fun HB => rdot_any n.A m.A n.C m.B ⟨0, 1⟩ v0 true _ H_nA.out H_mA.out H_nC.out H_mB.out H_hz.out H_e0.out H_b0.out) ?_
    intro w2 hb2 hz2 c2 d2 hW2
    have t2 := hb2.size
    try simp only [szA] at hz2 c2 d2
    try simp only [szD] at hz2 c2 d2
    try simp only [szS] at hz2 c2 d2
    try simp only [World.heap_drewN] at hz2 c2 d2
    try simp only [szA] at hz2 c2 d2
    try simp only [szD] at hz2 c2 d2
    try simp only [szS] at hz2 c2 d2
    have s2_0 : w.heap.size < w2.heap.size := by omega
    have o2_0 := fun j => c2 (w.heap.size) j (by omega)
    have f2_0 := fun j => d2 (w.heap.size) j (by omega)
    have s2_1 : w.heap.size + 1 < w2.heap.size := by omega
    have o2_1 := fun j => c2 (w.heap.size + 1) j (by omega)
    have f2_1 := fun j => d2 (w.heap.size + 1) j (by omega)
    have s2_2 : w.heap.size + 1 + 1 < w2.heap.size := by omega
    have o2_2 := fun j => c2 (w.heap.size + 1 + 1) j (by omega)
    have f2_2 := fun j => d2 (w.heap.size + 1 + 1) j (by omega)
    have s2_3 : w1.heap.size < w2.heap.size := by omega
    have o2_3 := fun j => c2 (w1.heap.size) j (by omega)
    have f2_3 := fun j => d2 (w1.heap.size) j (by omega)
    clear c2 d2 hz2 hW2
    ((try go_simp); (repeat go_step))
    refine call_bel (w := w) (by repeat' (first | (with_reducible first | exact bwR _ _ | assumption | refine bdn ?_ | refine bwA ?_ ?_ _ | refine bwD ?_ | refine bwS ?_ ?_ _) | omega | (simp <;> omega))) (fun HB => rdot_any n.B m.A n.D m.B ⟨0, 1⟩ v1 true _ H_nB.out H_mA.out H_nD.out H_mB.out H_hz.out H_e1.out H_b1.out) ?_
    intro w3 hb3 hz3 c3 d3 hW3
    have t3 := hb3.size
    try simp only [szA] at hz3 c3 d3
    try simp only [szD] at hz3 c3 d3
    try simp only [szS] at hz3 c3 d3
    try simp only [World.heap_drewN] at hz3 c3 d3
    try simp only [szA] at hz3 c3 d3
    try simp only [szD] at hz3 c3 d3
    try simp only [szS] at hz3 c3 d3
    have s3_0 : w.heap.size < w3.heap.size := by omega
    have o3_0 := fun j => c3 (w.heap.size) j (by omega)
    have f3_0 := fun j => d3 (w.heap.size) j (by omega)
    have s3_1 : w.heap.size + 1 < w3.heap.size := by omega
    have o3_1 := fun j => c3 (w.heap.size + 1) j (by omega)
    have f3_1 := fun j => d3 (w.heap.size + 1) j (by omega)
    have s3_2 : w.heap.size + 1 + 1 < w3.heap.size := by omega
    have o3_2 := fun j => c3 (w.heap.size + 1 + 1) j (by omega)
    have f3_2 := fun j => d3 (w.heap.size + 1 + 1) j (by omega)
    have s3_3 : w1.heap.size < w3.heap.size := by omega
    have o3_3 := fun j => c3 (w1.heap.size) j (by omega)
    have f3_3 := fun j => d3 (w1.heap.size) j (by omega)
    have s3_4 : w2.heap.size < w3.heap.size := by omega
    have o3_4 := fun j => c3 (w2.heap.size) j (by omega)
    have f3_4 := fun j => d3 (w2.heap.size) j (by omega)
    clear c3 d3 hz3 hW3
    ((try go_simp); (repeat go_step))
    refine call_bel (w := w) (by repeat' (first | (with_reducible first | exact bwR _ _ | assumption | refine bdn ?_ | refine bwA ?_ ?_ _ | refine bwD ?_ | refine bwS ?_ ?_ _) | omega | (simp <;> omega))) (fun HB => rdot_any n.A m.C n.C m.D ⟨0, 1⟩ v2 true _ H_nA.out H_mC.out H_nC.out H_mD.out H_hz.out H_e2.out H_b2.out) ?_
    intro w4 hb4 hz4 c4 d4 hW4
    have t4 := hb4.size
    try simp only [szA] at hz4 c4 d4
    try simp only [szD] at hz4 c4 d4
    try simp only [szS] at hz4 c4 d4
    try simp only [World.heap_drewN] at hz4 c4 d4
    try simp only [szA] at hz4 c4 d4
    try simp only [szD] at hz4 c4 d4
    try simp only [szS] at hz4 c4 d4
    have s4_0 : w.heap.size < w4.heap.size := by omega
    have o4_0 := fun j => c4 (w.heap.size) j (by omega)
    have f4_0 := fun j => d4 (w.heap.size) j (by omega)
    have s4_1 : w.heap.size + 1 < w4.heap.size := by omega
    have o4_1 := fun j => c4 (w.heap.size + 1) j (by omega)
    have f4_1 := fun j => d4 (w.heap.size + 1) j (by omega)
    have s4_2 : w.heap.size + 1 + 1 < w4.heap.size := by omega
    have o4_2 := fun j => c4 (w.heap.size + 1 + 1) j (by omega)
    have f4_2 := fun j => d4 (w.heap.size + 1 + 1) j (by omega)
    have s4_3 : w1.heap.size < w4.heap.size := by omega
    have o4_3 := fun j => c4 (w1.heap.size) j (by omega)
    have f4_3 := fun j => d4 (w1.heap.size) j (by omega)
    have s4_4 : w2.heap.size < w4.heap.size := by omega
    have o4_4 := fun j => c4 (w2.heap.size) j (by omega)
    have f4_4 := fun j => d4 (w2.heap.size) j (by omega)
    have s4_5 : w3.heap.size < w4.heap.size := by omega
    have o4_5 := fun j => c4 (w3.heap.size) j (by omega)
    have f4_5 := fun j => d4 (w3.heap.size) j (by omega)
    clear c4 d4 hz4 hW4
    ((try go_simp); (repeat go_step))
    refine call_bel (w := w) (by repeat' (first | (with_reducible first | exact bwR _ _ | assumption | refine bdn ?_ | refine bwA ?_ ?_ _ | refine bwD ?_ | refine bwS ?_ ?_ _) | omega | (simp <;> omega))) (fun HB => rdot_any n.B m.C n.D m.D ⟨0, 1⟩ v3 true _ H_nB.out H_mC.out H_nD.out H_mD.out H_hz.out H_e3.out H_b3.out) ?_
    intro w5 hb5 hz5 c5 d5 hW5
    have t5 := hb5.size
    try simp only [szA] at hz5 c5 d5
    try simp only [szD] at hz5 c5 d5
    try simp only [szS] at hz5 c5 d5
    try simp only [World.heap_drewN] at hz5 c5 d5
    try simp only [szA] at hz5 c5 d5
    try simp only [szD] at hz5 c5 d5
    try simp only [szS] at hz5 c5 d5
    have s5_0 : w.heap.size < w5.heap.size := by omega
    have o5_0 := fun j => c5 (w.heap.size) j (by omega)
    have f5_0 := fun j => d5 (w.heap.size) j (by omega)
    have s5_1 : w.heap.size + 1 < w5.heap.size := by omega
    have o5_1 := fun j => c5 (w.heap.size + 1) j (by omega)
    have f5_1 := fun j => d5 (w.heap.size + 1) j (by omega)
    have s5_2 : w.heap.size + 1 + 1 < w5.heap.size := by omega
    have o5_2 := fun j => c5 (w.heap.size + 1 + 1) j (by omega)
    have f5_2 := fun j => d5 (w.heap.size + 1 + 1) j (by omega)
    have s5_3 : w1.heap.size < w5.heap.size := by omega
    have o5_3 := fun j => c5 (w1.heap.size) j (by omega)
    have f5_3 := fun j => d5 (w1.heap.size) j (by omega)
    have s5_4 : w2.heap.size < w5.heap.size := by omega
    have o5_4 := fun j => c5 (w2.heap.size) j (by omega)
    have f5_4 := fun j => d5 (w2.heap.size) j (by omega)
    have s5_5 : w3.heap.size < w5.heap.size := by omega
    have o5_5 := fun j => c5 (w3.heap.size) j (by omega)
    have f5_5 := fun j => d5 (w3.heap.size) j (by omega)
    have s5_6 : w4.heap.size < w5.heap.size := by omega
    have o5_6 := fun j => c5 (w4.heap.size) j (by omega)
    have f5_6 := fun j => d5 (w4.heap.size) j (by omega)
    clear c5 d5 hz5 hW5
    ((try go_simp); (repeat go_step))
    refine call_bel (w := w) (by repeat' (first | (with_reducible first | exact bwR _ _ | assumption | refine bdn ?_ | refine bwA ?_ ?_ _ | refine bwD ?_ | refine bwS ?_ ?_ _) | omega | (simp <;> omega))) (fun HB => rgoes_any n (thP m) q true _ H_hn.out H_hP.out H_e4.out H_b4.out) ?_
    intro w6 hb6 hz6 c6 d6 hW6
    have t6 := hb6.size
    try simp only [szA] at hz6 c6 d6
    try simp only [szD] at hz6 c6 d6
    try simp only [szS] at hz6 c6 d6
    try simp only [World.heap_drewN] at hz6 c6 d6
    try simp only [szA] at hz6 c6 d6
    try simp only [szD] at hz6 c6 d6
    try simp only [szS] at hz6 c6 d6
    have s6_0 : w.heap.size < w6.heap.size := by omega
    have o6_0 := fun j => c6 (w.heap.size) j (by omega)
    have f6_0 := fun j => d6 (w.heap.size) j (by omega)
    have s6_1 : w.heap.size + 1 < w6.heap.size := by omega
    have o6_1 := fun j => c6 (w.heap.size + 1) j (by omega)
    have f6_1 := fun j => d6 (w.heap.size + 1) j (by omega)
    have s6_2 : w.heap.size + 1 + 1 < w6.heap.size := by omega
    have o6_2 := fun j => c6 (w.heap.size + 1 + 1) j (by omega)
    have f6_2 := fun j => d6 (w.heap.size + 1 + 1) j (by omega)
    have s6_3 : w1.heap.size < w6.heap.size := by omega
    have o6_3 := fun j => c6 (w1.heap.size) j (by omega)
    have f6_3 := fun j => d6 (w1.heap.size) j (by omega)
    have s6_4 : w2.heap.size < w6.heap.size := by omega
    have o6_4 := fun j => c6 (w2.heap.size) j (by omega)
    have f6_4 := fun j => d6 (w2.heap.size) j (by omega)
    have s6_5 : w3.heap.size < w6.heap.size := by omega
    have o6_5 := fun j => c6 (w3.heap.size) j (by omega)
    have f6_5 := fun j => d6 (w3.heap.size) j (by omega)
    have s6_6 : w4.heap.size < w6.heap.size := by omega
    have o6_6 := fun j => c6 (w4.heap.size) j (by omega)
    have f6_6 := fun j => d6 (w4.heap.size) j (by omega)
    have s6_7 : w5.heap.size < w6.heap.size := by omega
    have o6_7 := fun j => c6 (w5.heap.size) j (by omega)
    have f6_7 := fun j => d6 (w5.heap.size) j (by omega)
    clear c6 d6 hz6 hW6
    ((try go_simp); (repeat go_step))
    refine bodyPost_ret (by simp [results, Tryz.results14, go_sem, *]; try rfl) rfl ?_
    exact ⟨rfl, by repeat' (first | (with_reducible first | exact bwR _ _ | assumption | refine bdn ?_ | refine bwA ?_ ?_ _ | refine bwD ?_ | refine bwS ?_ ?_ _) | omega | (simp <;> omega))⟩
end Go.Proofs.YtlhadgnpkooiaaaGreatDoor
