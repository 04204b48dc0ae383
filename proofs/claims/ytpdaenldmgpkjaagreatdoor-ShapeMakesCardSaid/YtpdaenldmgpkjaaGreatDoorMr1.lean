/-
  Walks over the document's answer: moves (whole, Stay, dot, GoesTo).
-/
import Derived.Test.YtpdaenldmgpkjaaGreatDoorMa
import Derived.Test.YtpdaenldmgpkjaaGreatDoorRef3
import Derived.Test.YtpdaenldmgpkjaaGreatDoorRef2
namespace Lead
open Go Go.RowKit
theorem dot_cases {a b c d f : Fr} (ra : a.R) (rb : b.R) (rc : c.R) (rd : d.R) (rf : f.R) :
    ((a.mulK b ≠ 0 ∨ c.mulK d ≠ 0) ∧ dotE 0 a b c d f ≠ 0) ∨ (a.mulK b = 0 ∧ c.mulK d = 0 ∧ (a.mul b).addK (c.mul d) ≠ 0 ∧ dotE 0 a b c d f ≠ 0) ∨
    (a.mulK b = 0 ∧ c.mulK d = 0 ∧ (a.mul b).addK (c.mul d) = 0 ∧ ((a.mul b).add (c.mul d)).addK f ≠ 0 ∧ dotE 0 a b c d f ≠ 0) ∨
    (a.mulK b = 0 ∧ c.mulK d = 0 ∧ (a.mul b).addK (c.mul d) = 0 ∧ ((a.mul b).add (c.mul d)).addK f = 0 ∧ dotE 0 a b c d f = 0 ∧ dotV 0 a b c d f = ((a.mul b).add (c.mul d)).add f) := by
  by_cases k1 : a.mulK b = 0
  · by_cases k2 : c.mulK d = 0
    · by_cases k3 : (a.mul b).addK (c.mul d) = 0
      · obtain ⟨v, e⟩ := of_ok ⟨rfl, k1⟩ ⟨rfl, k2⟩ ⟨rfl, k3⟩
        right; right
        by_cases k4 : ((a.mul b).add (c.mul d)).addK f = 0
        · right
          obtain ⟨v', e'⟩ := dot_ok ⟨rfl, k1⟩ ⟨rfl, k2⟩ ⟨rfl, k3⟩ ⟨rfl, k4⟩
          exact ⟨k1, k2, k3, k4, e', v'⟩
        · left
          refine ⟨k1, k2, k3, k4, fun h => k4 ?_⟩
          obtain ⟨_, _, _, _, h5, _⟩ := dot_val ra rb rc rd rf h
          rw [v] at h5; exact h5
      · right; left
        refine ⟨k1, k2, k3, fun h => k3 ?_⟩
        obtain ⟨_, _, _, h4, _⟩ := dot_val ra rb rc rd rf h
        obtain ⟨_, _, _, _, _, h5, _⟩ := of_val ra rb rc rd h4
        exact h5
    · left
      refine ⟨.inr k2, fun h => k2 ?_⟩
      obtain ⟨_, _, _, h4, _⟩ := dot_val ra rb rc rd rf h
      obtain ⟨_, _, _, _, h5, _⟩ := of_val ra rb rc rd h4
      exact h5
  · left
    refine ⟨.inl k1, fun h => k1 ?_⟩
    obtain ⟨_, _, _, h4, _⟩ := dot_val ra rb rc rd rf h
    obtain ⟨_, _, _, h5, _⟩ := of_val ra rb rc rd h4
    exact h5
/-- What dot answers: the sum, or nothing. -/
def rdV (a b c d f : Fr) : Fr := if dotE 0 a b c d f = 0 then dotV 0 a b c d f else ⟨0, 0⟩
def rdB (a b c d f : Fr) : Bool := decide (dotE 0 a b c d f = 0)
end Lead
namespace Go.Proofs.YtpdaenldmgpkjaaGreatDoor
open Go.RowKit Lead

set_option maxHeartbeats 2000000 in
theorem rdot_any (a b c d f v : Fr) (ok : Bool) (w : World) (ra : a.R) (rb : b.R) (rc : c.R) (rd : d.R) (rf : f.R) (hv : rdV a b c d f = v) (hok : rdB a b c d f = ok) :
    Calls Tryz.prog 91 #[.agg #[.int .i64 a.n, .int .i64 a.d], .agg #[.int .i64 b.n, .int .i64 b.d], .agg #[.int .i64 c.n, .int .i64 c.d], .agg #[.int .i64 d.n, .int .i64 d.d], .agg #[.int .i64 f.n, .int .i64 f.d]] w fun e w' => e = .returned (.tuple #[.agg #[.int .i64 v.n, .int .i64 v.d], .bool ok]) ∧ Below w.heap.size w w' := by
  have ia := ra.i
  have ib := rb.i
  have ic := rc.i
  have id := rd.i
  have jf := rf.i
  have hc := dot_cases ra rb rc rd rf
  unfold rdV at hv
  unfold rdB at hok
  obtain ⟨k1, hk1⟩ : ∃ k, a.mulK b = k := ⟨_, rfl⟩
  obtain ⟨k2, hk2⟩ : ∃ k, c.mulK d = k := ⟨_, rfl⟩
  obtain ⟨x, hx⟩ : ∃ k, a.mul b = k := ⟨_, rfl⟩
  obtain ⟨y, hy⟩ : ∃ k, c.mul d = k := ⟨_, rfl⟩
  obtain ⟨k3, hk3⟩ : ∃ k, x.addK y = k := ⟨_, rfl⟩
  obtain ⟨z, hz⟩ : ∃ k, x.add y = k := ⟨_, rfl⟩
  obtain ⟨k4, hk4⟩ : ∃ k, z.addK f = k := ⟨_, rfl⟩
  obtain ⟨t, ht⟩ : ∃ k, z.add f = k := ⟨_, rfl⟩
  rw [hx, hy] at hc
  rw [hk1, hk2, hk3, hz, hk4, ht] at hc
  have ix : k1 = 0 → x.I := fun h => by rw [← hx]; exact (mulK_R (hk1.trans h)).i
  have iy : k2 = 0 → y.I := fun h => by rw [← hy]; exact (mulK_R (hk2.trans h)).i
  have iz : k3 = 0 → z.I := fun h => by rw [← hz]; exact (addK_R (hk3.trans h)).i
  rcases hc with ⟨h1, h0⟩ | ⟨h1, h2, h3, h0⟩ | ⟨h1, h2, h3, h4, h0⟩ | ⟨h1, h2, h3, h4, h0, h5⟩
  · rw [if_neg h0] at hv
    obtain rfl : ok = false := by rw [← hok]; exact decide_eq_false h0
    subst hv
    have h6 : (0 : Int) < (k1 : Int) + (k2 : Int) := by omega
    have l1 : (k1 : Int) ≤ 11 := by have := opK_le a.n a.d b.n b.d (mulN a b) (addD a b); unfold Fr.mulK at hk1; omega
    have l2 : (k2 : Int) ≤ 11 := by have := opK_le c.n c.d d.n d.d (mulN c d) (addD c d); unfold Fr.mulK at hk2; omega
    have H_h1 := Lib.hid h1
    clear h1
    have H_h0 := Lib.hid h0
    clear h0
    have H_hok := Lib.hid hok
    clear hok
    have H_hk1 := Lib.hid hk1
    clear hk1
    have H_hk2 := Lib.hid hk2
    clear hk2
    have H_hk3 := Lib.hid hk3
    clear hk3
    have H_hk4 := Lib.hid hk4
    clear hk4
    have H_hx := Lib.hid hx
    clear hx
    have H_hy := Lib.hid hy
    clear hy
    have H_hz := Lib.hid hz
    clear hz
    have H_ht := Lib.hid ht
    clear ht
    have H_ia := Lib.hid ia
    clear ia
    have H_ib := Lib.hid ib
    clear ib
    have H_ic := Lib.hid ic
    clear ic
    have H_id := Lib.hid id
    clear id
    have H_jf := Lib.hid jf
    clear jf
    have H_ix := Lib.hid ix
    clear ix
    have H_iy := Lib.hid iy
    clear iy
    have H_iz := Lib.hid iz
    clear iz
    go_enter Tryz.func91, Tryz.ntmps91
    go_wp2_with fail
    refine call_bel (w := w) (by repeat' (first | (with_reducible first | exact bwR _ _ | assumption | refine bdn ?_ | refine bwA ?_ ?_ _ | refine bwD ?_ | refine bwS ?_ ?_ _) | omega | (simp <;> omega))) (fun HB => rdo_mul a b x _ H_ia.out H_ib.out H_hx.out) ?_
    intro w1 hb1 hz1 c1 d1 hW1
    have t1 := hb1.size
    try simp only [szA] at hz1 c1 d1
    try simp only [szD] at hz1 c1 d1
    try simp only [szS] at hz1 c1 d1
    try simp only [World.heap_drewN] at hz1 c1 d1
    try simp only [szA] at hz1 c1 d1
    try simp only [szD] at hz1 c1 d1
    try simp only [szS] at hz1 c1 d1
    have s1_0 : w.heap.size < w1.heap.size := by omega
    have o1_0 := fun j => c1 (w.heap.size) j (by omega)
    have f1_0 := fun j => d1 (w.heap.size) j (by omega)
    have s1_1 : w.heap.size + 1 < w1.heap.size := by omega
    have o1_1 := fun j => c1 (w.heap.size + 1) j (by omega)
    have f1_1 := fun j => d1 (w.heap.size + 1) j (by omega)
    have s1_2 : w.heap.size + 1 + 1 < w1.heap.size := by omega
    have o1_2 := fun j => c1 (w.heap.size + 1 + 1) j (by omega)
    have f1_2 := fun j => d1 (w.heap.size + 1 + 1) j (by omega)
    have s1_3 : w.heap.size + 1 + 1 + 1 < w1.heap.size := by omega
    have o1_3 := fun j => c1 (w.heap.size + 1 + 1 + 1) j (by omega)
    have f1_3 := fun j => d1 (w.heap.size + 1 + 1 + 1) j (by omega)
    have s1_4 : w.heap.size + 1 + 1 + 1 + 1 < w1.heap.size := by omega
    have o1_4 := fun j => c1 (w.heap.size + 1 + 1 + 1 + 1) j (by omega)
    have f1_4 := fun j => d1 (w.heap.size + 1 + 1 + 1 + 1) j (by omega)
    have s1_5 : w.heap.size + 1 + 1 + 1 + 1 + 1 < w1.heap.size := by omega
    have o1_5 := fun j => c1 (w.heap.size + 1 + 1 + 1 + 1 + 1) j (by omega)
    have f1_5 := fun j => d1 (w.heap.size + 1 + 1 + 1 + 1 + 1) j (by omega)
    clear c1 d1 hz1 hW1
    rw [H_hk1.out, frN]
    go_wp2_with fail
    refine call_bel (w := w) (by repeat' (first | (with_reducible first | exact bwR _ _ | assumption | refine bdn ?_ | refine bwA ?_ ?_ _ | refine bwD ?_ | refine bwS ?_ ?_ _) | omega | (simp <;> omega))) (fun HB => rdo_mul c d y _ H_ic.out H_id.out H_hy.out) ?_
    intro w2 hb2 hz2 c2 d2 hW2
    have t2 := hb2.size
    try simp only [szA] at hz2 c2 d2
    try simp only [szD] at hz2 c2 d2
    try simp only [szS] at hz2 c2 d2
    try simp only [World.heap_drewN] at hz2 c2 d2
    try simp only [szA] at hz2 c2 d2
    try simp only [szD] at hz2 c2 d2
    try simp only [szS] at hz2 c2 d2
    have s2_0 : w.heap.size < w2.heap.size := by omega
    have o2_0 := fun j => c2 (w.heap.size) j (by omega)
    have f2_0 := fun j => d2 (w.heap.size) j (by omega)
    have s2_1 : w.heap.size + 1 < w2.heap.size := by omega
    have o2_1 := fun j => c2 (w.heap.size + 1) j (by omega)
    have f2_1 := fun j => d2 (w.heap.size + 1) j (by omega)
    have s2_2 : w.heap.size + 1 + 1 < w2.heap.size := by omega
    have o2_2 := fun j => c2 (w.heap.size + 1 + 1) j (by omega)
    have f2_2 := fun j => d2 (w.heap.size + 1 + 1) j (by omega)
    have s2_3 : w.heap.size + 1 + 1 + 1 < w2.heap.size := by omega
    have o2_3 := fun j => c2 (w.heap.size + 1 + 1 + 1) j (by omega)
    have f2_3 := fun j => d2 (w.heap.size + 1 + 1 + 1) j (by omega)
    have s2_4 : w.heap.size + 1 + 1 + 1 + 1 < w2.heap.size := by omega
    have o2_4 := fun j => c2 (w.heap.size + 1 + 1 + 1 + 1) j (by omega)
    have f2_4 := fun j => d2 (w.heap.size + 1 + 1 + 1 + 1) j (by omega)
    have s2_5 : w.heap.size + 1 + 1 + 1 + 1 + 1 < w2.heap.size := by omega
    have o2_5 := fun j => c2 (w.heap.size + 1 + 1 + 1 + 1 + 1) j (by omega)
    have f2_5 := fun j => d2 (w.heap.size + 1 + 1 + 1 + 1 + 1) j (by omega)
    have s2_6 : w1.heap.size < w2.heap.size := by omega
    have o2_6 := fun j => c2 (w1.heap.size) j (by omega)
    have f2_6 := fun j => d2 (w1.heap.size) j (by omega)
    clear c2 d2 hz2 hW2
    rw [H_hk2.out, frN]
    go_wp2_with fail
    refine bodyPost_ret (by simp [results, Tryz.results91, go_sem, *]; try rfl) rfl ?_
    exact ⟨rfl, by repeat' (first | (with_reducible first | exact bwR _ _ | assumption | refine bdn ?_ | refine bwA ?_ ?_ _ | refine bwD ?_ | refine bwS ?_ ?_ _) | omega | (simp <;> omega))⟩
  all_goals
    have jx := ix h1
    have jy := iy h2
  · rw [if_neg h0] at hv
    obtain rfl : ok = false := by rw [← hok]; exact decide_eq_false h0
    subst hv
    have h6 : (0 : Int) < (k3 : Int) := by omega
    have H_h1 := Lib.hid h1
    clear h1
    have H_h0 := Lib.hid h0
    clear h0
    have H_h2 := Lib.hid h2
    clear h2
    have H_h3 := Lib.hid h3
    clear h3
    have H_hok := Lib.hid hok
    clear hok
    have H_hk1 := Lib.hid hk1
    clear hk1
    have H_hk2 := Lib.hid hk2
    clear hk2
    have H_hk3 := Lib.hid hk3
    clear hk3
    have H_hk4 := Lib.hid hk4
    clear hk4
    have H_hx := Lib.hid hx
    clear hx
    have H_hy := Lib.hid hy
    clear hy
    have H_hz := Lib.hid hz
    clear hz
    have H_ht := Lib.hid ht
    clear ht
    have H_ia := Lib.hid ia
    clear ia
    have H_ib := Lib.hid ib
    clear ib
    have H_ic := Lib.hid ic
    clear ic
    have H_id := Lib.hid id
    clear id
    have H_jf := Lib.hid jf
    clear jf
    have H_ix := Lib.hid ix
    clear ix
    have H_iy := Lib.hid iy
    clear iy
    have H_iz := Lib.hid iz
    clear iz
    have H_jx := Lib.hid jx
    clear jx
    have H_jy := Lib.hid jy
    clear jy
    go_enter Tryz.func91, Tryz.ntmps91
    go_wp2_with fail
    refine call_bel (w := w) (by repeat' (first | (with_reducible first | exact bwR _ _ | assumption | refine bdn ?_ | refine bwA ?_ ?_ _ | refine bwD ?_ | refine bwS ?_ ?_ _) | omega | (simp <;> omega))) (fun HB => rdo_mul a b x _ H_ia.out H_ib.out H_hx.out) ?_
    intro w1 hb1 hz1 c1 d1 hW1
    have t1 := hb1.size
    try simp only [szA] at hz1 c1 d1
    try simp only [szD] at hz1 c1 d1
    try simp only [szS] at hz1 c1 d1
    try simp only [World.heap_drewN] at hz1 c1 d1
    try simp only [szA] at hz1 c1 d1
    try simp only [szD] at hz1 c1 d1
    try simp only [szS] at hz1 c1 d1
    have s1_0 : w.heap.size < w1.heap.size := by omega
    have o1_0 := fun j => c1 (w.heap.size) j (by omega)
    have f1_0 := fun j => d1 (w.heap.size) j (by omega)
    have s1_1 : w.heap.size + 1 < w1.heap.size := by omega
    have o1_1 := fun j => c1 (w.heap.size + 1) j (by omega)
    have f1_1 := fun j => d1 (w.heap.size + 1) j (by omega)
    have s1_2 : w.heap.size + 1 + 1 < w1.heap.size := by omega
    have o1_2 := fun j => c1 (w.heap.size + 1 + 1) j (by omega)
    have f1_2 := fun j => d1 (w.heap.size + 1 + 1) j (by omega)
    have s1_3 : w.heap.size + 1 + 1 + 1 < w1.heap.size := by omega
    have o1_3 := fun j => c1 (w.heap.size + 1 + 1 + 1) j (by omega)
    have f1_3 := fun j => d1 (w.heap.size + 1 + 1 + 1) j (by omega)
    have s1_4 : w.heap.size + 1 + 1 + 1 + 1 < w1.heap.size := by omega
    have o1_4 := fun j => c1 (w.heap.size + 1 + 1 + 1 + 1) j (by omega)
    have f1_4 := fun j => d1 (w.heap.size + 1 + 1 + 1 + 1) j (by omega)
    have s1_5 : w.heap.size + 1 + 1 + 1 + 1 + 1 < w1.heap.size := by omega
    have o1_5 := fun j => c1 (w.heap.size + 1 + 1 + 1 + 1 + 1) j (by omega)
    have f1_5 := fun j => d1 (w.heap.size + 1 + 1 + 1 + 1 + 1) j (by omega)
    clear c1 d1 hz1 hW1
    rw [H_hk1.out, H_h1.out, frN_0 rfl]
    go_wp2_with fail
    refine call_bel (w := w) (by repeat' (first | (with_reducible first | exact bwR _ _ | assumption | refine bdn ?_ | refine bwA ?_ ?_ _ | refine bwD ?_ | refine bwS ?_ ?_ _) | omega | (simp <;> omega))) (fun HB => rdo_mul c d y _ H_ic.out H_id.out H_hy.out) ?_
    intro w2 hb2 hz2 c2 d2 hW2
    have t2 := hb2.size
    try simp only [szA] at hz2 c2 d2
    try simp only [szD] at hz2 c2 d2
    try simp only [szS] at hz2 c2 d2
    try simp only [World.heap_drewN] at hz2 c2 d2
    try simp only [szA] at hz2 c2 d2
    try simp only [szD] at hz2 c2 d2
    try simp only [szS] at hz2 c2 d2
    have s2_0 : w.heap.size < w2.heap.size := by omega
    have o2_0 := fun j => c2 (w.heap.size) j (by omega)
    have f2_0 := fun j => d2 (w.heap.size) j (by omega)
    have s2_1 : w.heap.size + 1 < w2.heap.size := by omega
    have o2_1 := fun j => c2 (w.heap.size + 1) j (by omega)
    have f2_1 := fun j => d2 (w.heap.size + 1) j (by omega)
    have s2_2 : w.heap.size + 1 + 1 < w2.heap.size := by omega
    have o2_2 := fun j => c2 (w.heap.size + 1 + 1) j (by omega)
    have f2_2 := fun j => d2 (w.heap.size + 1 + 1) j (by omega)
    have s2_3 : w.heap.size + 1 + 1 + 1 < w2.heap.size := by omega
    have o2_3 := fun j => c2 (w.heap.size + 1 + 1 + 1) j (by omega)
    have f2_3 := fun j => d2 (w.heap.size + 1 + 1 + 1) j (by omega)
    have s2_4 : w.heap.size + 1 + 1 + 1 + 1 < w2.heap.size := by omega
    have o2_4 := fun j => c2 (w.heap.size + 1 + 1 + 1 + 1) j (by omega)
    have f2_4 := fun j => d2 (w.heap.size + 1 + 1 + 1 + 1) j (by omega)
    have s2_5 : w.heap.size + 1 + 1 + 1 + 1 + 1 < w2.heap.size := by omega
    have o2_5 := fun j => c2 (w.heap.size + 1 + 1 + 1 + 1 + 1) j (by omega)
    have f2_5 := fun j => d2 (w.heap.size + 1 + 1 + 1 + 1 + 1) j (by omega)
    have s2_6 : w1.heap.size < w2.heap.size := by omega
    have o2_6 := fun j => c2 (w1.heap.size) j (by omega)
    have f2_6 := fun j => d2 (w1.heap.size) j (by omega)
    clear c2 d2 hz2 hW2
    rw [H_hk2.out, H_h2.out, frN_0 rfl]
    go_wp2_with fail
    refine call_bel (w := w) (by repeat' (first | (with_reducible first | exact bwR _ _ | assumption | refine bdn ?_ | refine bwA ?_ ?_ _ | refine bwD ?_ | refine bwS ?_ ?_ _) | omega | (simp <;> omega))) (fun HB => rdo_add x y z _ H_jx.out H_jy.out H_hz.out) ?_
    intro w3 hb3 hz3 c3 d3 hW3
    have t3 := hb3.size
    try simp only [szA] at hz3 c3 d3
    try simp only [szD] at hz3 c3 d3
    try simp only [szS] at hz3 c3 d3
    try simp only [World.heap_drewN] at hz3 c3 d3
    try simp only [szA] at hz3 c3 d3
    try simp only [szD] at hz3 c3 d3
    try simp only [szS] at hz3 c3 d3
    have s3_0 : w.heap.size < w3.heap.size := by omega
    have o3_0 := fun j => c3 (w.heap.size) j (by omega)
    have f3_0 := fun j => d3 (w.heap.size) j (by omega)
    have s3_1 : w.heap.size + 1 < w3.heap.size := by omega
    have o3_1 := fun j => c3 (w.heap.size + 1) j (by omega)
    have f3_1 := fun j => d3 (w.heap.size + 1) j (by omega)
    have s3_2 : w.heap.size + 1 + 1 < w3.heap.size := by omega
    have o3_2 := fun j => c3 (w.heap.size + 1 + 1) j (by omega)
    have f3_2 := fun j => d3 (w.heap.size + 1 + 1) j (by omega)
    have s3_3 : w.heap.size + 1 + 1 + 1 < w3.heap.size := by omega
    have o3_3 := fun j => c3 (w.heap.size + 1 + 1 + 1) j (by omega)
    have f3_3 := fun j => d3 (w.heap.size + 1 + 1 + 1) j (by omega)
    have s3_4 : w.heap.size + 1 + 1 + 1 + 1 < w3.heap.size := by omega
    have o3_4 := fun j => c3 (w.heap.size + 1 + 1 + 1 + 1) j (by omega)
    have f3_4 := fun j => d3 (w.heap.size + 1 + 1 + 1 + 1) j (by omega)
    have s3_5 : w.heap.size + 1 + 1 + 1 + 1 + 1 < w3.heap.size := by omega
    have o3_5 := fun j => c3 (w.heap.size + 1 + 1 + 1 + 1 + 1) j (by omega)
    have f3_5 := fun j => d3 (w.heap.size + 1 + 1 + 1 + 1 + 1) j (by omega)
    have s3_6 : w1.heap.size < w3.heap.size := by omega
    have o3_6 := fun j => c3 (w1.heap.size) j (by omega)
    have f3_6 := fun j => d3 (w1.heap.size) j (by omega)
    have s3_7 : w2.heap.size < w3.heap.size := by omega
    have o3_7 := fun j => c3 (w2.heap.size) j (by omega)
    have f3_7 := fun j => d3 (w2.heap.size) j (by omega)
    clear c3 d3 hz3 hW3
    rw [H_hk3.out, frN]
    go_wp2_with fail
    refine bodyPost_ret (by simp [results, Tryz.results91, go_sem, *]; try rfl) rfl ?_
    exact ⟨rfl, by repeat' (first | (with_reducible first | exact bwR _ _ | assumption | refine bdn ?_ | refine bwA ?_ ?_ _ | refine bwD ?_ | refine bwS ?_ ?_ _) | omega | (simp <;> omega))⟩
  · have jz := iz h3
    rw [if_neg h0] at hv
    obtain rfl : ok = false := by rw [← hok]; exact decide_eq_false h0
    subst hv
    have h6 : ((k4 : Int) == 0) = false := by rw [beq_eq_false_iff_ne]; omega
    have H_h1 := Lib.hid h1
    clear h1
    have H_h0 := Lib.hid h0
    clear h0
    have H_h2 := Lib.hid h2
    clear h2
    have H_h3 := Lib.hid h3
    clear h3
    have H_h4 := Lib.hid h4
    clear h4
    have H_hok := Lib.hid hok
    clear hok
    have H_hk1 := Lib.hid hk1
    clear hk1
    have H_hk2 := Lib.hid hk2
    clear hk2
    have H_hk3 := Lib.hid hk3
    clear hk3
    have H_hk4 := Lib.hid hk4
    clear hk4
    have H_hx := Lib.hid hx
    clear hx
    have H_hy := Lib.hid hy
    clear hy
    have H_hz := Lib.hid hz
    clear hz
    have H_ht := Lib.hid ht
    clear ht
    have H_ia := Lib.hid ia
    clear ia
    have H_ib := Lib.hid ib
    clear ib
    have H_ic := Lib.hid ic
    clear ic
    have H_id := Lib.hid id
    clear id
    have H_jf := Lib.hid jf
    clear jf
    have H_ix := Lib.hid ix
    clear ix
    have H_iy := Lib.hid iy
    clear iy
    have H_iz := Lib.hid iz
    clear iz
    have H_jx := Lib.hid jx
    clear jx
    have H_jy := Lib.hid jy
    clear jy
    have H_jz := Lib.hid jz
    clear jz
    go_enter Tryz.func91, Tryz.ntmps91
    go_wp2_with fail
    refine call_bel (w := w) (by repeat' (first | (with_reducible first | exact bwR _ _ | assumption | refine bdn ?_ | refine bwA ?_ ?_ _ | refine bwD ?_ | refine bwS ?_ ?_ _) | omega | (simp <;> omega))) (fun HB => rdo_mul a b x _ H_ia.out H_ib.out H_hx.out) ?_
    intro w1 hb1 hz1 c1 d1 hW1
    have t1 := hb1.size
    try simp only [szA] at hz1 c1 d1
    try simp only [szD] at hz1 c1 d1
    try simp only [szS] at hz1 c1 d1
    try simp only [World.heap_drewN] at hz1 c1 d1
    try simp only [szA] at hz1 c1 d1
    try simp only [szD] at hz1 c1 d1
    try simp only [szS] at hz1 c1 d1
    have s1_0 : w.heap.size < w1.heap.size := by omega
    have o1_0 := fun j => c1 (w.heap.size) j (by omega)
    have f1_0 := fun j => d1 (w.heap.size) j (by omega)
    have s1_1 : w.heap.size + 1 < w1.heap.size := by omega
    have o1_1 := fun j => c1 (w.heap.size + 1) j (by omega)
    have f1_1 := fun j => d1 (w.heap.size + 1) j (by omega)
    have s1_2 : w.heap.size + 1 + 1 < w1.heap.size := by omega
    have o1_2 := fun j => c1 (w.heap.size + 1 + 1) j (by omega)
    have f1_2 := fun j => d1 (w.heap.size + 1 + 1) j (by omega)
    have s1_3 : w.heap.size + 1 + 1 + 1 < w1.heap.size := by omega
    have o1_3 := fun j => c1 (w.heap.size + 1 + 1 + 1) j (by omega)
    have f1_3 := fun j => d1 (w.heap.size + 1 + 1 + 1) j (by omega)
    have s1_4 : w.heap.size + 1 + 1 + 1 + 1 < w1.heap.size := by omega
    have o1_4 := fun j => c1 (w.heap.size + 1 + 1 + 1 + 1) j (by omega)
    have f1_4 := fun j => d1 (w.heap.size + 1 + 1 + 1 + 1) j (by omega)
    have s1_5 : w.heap.size + 1 + 1 + 1 + 1 + 1 < w1.heap.size := by omega
    have o1_5 := fun j => c1 (w.heap.size + 1 + 1 + 1 + 1 + 1) j (by omega)
    have f1_5 := fun j => d1 (w.heap.size + 1 + 1 + 1 + 1 + 1) j (by omega)
    clear c1 d1 hz1 hW1
    rw [H_hk1.out, H_h1.out, frN_0 rfl]
    go_wp2_with fail
    refine call_bel (w := w) (by repeat' (first | (with_reducible first | exact bwR _ _ | assumption | refine bdn ?_ | refine bwA ?_ ?_ _ | refine bwD ?_ | refine bwS ?_ ?_ _) | omega | (simp <;> omega))) (fun HB => rdo_mul c d y _ H_ic.out H_id.out H_hy.out) ?_
    intro w2 hb2 hz2 c2 d2 hW2
    have t2 := hb2.size
    try simp only [szA] at hz2 c2 d2
    try simp only [szD] at hz2 c2 d2
    try simp only [szS] at hz2 c2 d2
    try simp only [World.heap_drewN] at hz2 c2 d2
    try simp only [szA] at hz2 c2 d2
    try simp only [szD] at hz2 c2 d2
    try simp only [szS] at hz2 c2 d2
    have s2_0 : w.heap.size < w2.heap.size := by omega
    have o2_0 := fun j => c2 (w.heap.size) j (by omega)
    have f2_0 := fun j => d2 (w.heap.size) j (by omega)
    have s2_1 : w.heap.size + 1 < w2.heap.size := by omega
    have o2_1 := fun j => c2 (w.heap.size + 1) j (by omega)
    have f2_1 := fun j => d2 (w.heap.size + 1) j (by omega)
    have s2_2 : w.heap.size + 1 + 1 < w2.heap.size := by omega
    have o2_2 := fun j => c2 (w.heap.size + 1 + 1) j (by omega)
    have f2_2 := fun j => d2 (w.heap.size + 1 + 1) j (by omega)
    have s2_3 : w.heap.size + 1 + 1 + 1 < w2.heap.size := by omega
    have o2_3 := fun j => c2 (w.heap.size + 1 + 1 + 1) j (by omega)
    have f2_3 := fun j => d2 (w.heap.size + 1 + 1 + 1) j (by omega)
    have s2_4 : w.heap.size + 1 + 1 + 1 + 1 < w2.heap.size := by omega
    have o2_4 := fun j => c2 (w.heap.size + 1 + 1 + 1 + 1) j (by omega)
    have f2_4 := fun j => d2 (w.heap.size + 1 + 1 + 1 + 1) j (by omega)
    have s2_5 : w.heap.size + 1 + 1 + 1 + 1 + 1 < w2.heap.size := by omega
    have o2_5 := fun j => c2 (w.heap.size + 1 + 1 + 1 + 1 + 1) j (by omega)
    have f2_5 := fun j => d2 (w.heap.size + 1 + 1 + 1 + 1 + 1) j (by omega)
    have s2_6 : w1.heap.size < w2.heap.size := by omega
    have o2_6 := fun j => c2 (w1.heap.size) j (by omega)
    have f2_6 := fun j => d2 (w1.heap.size) j (by omega)
    clear c2 d2 hz2 hW2
    rw [H_hk2.out, H_h2.out, frN_0 rfl]
    go_wp2_with fail
    refine call_bel (w := w) (by repeat' (first | (with_reducible first | exact bwR _ _ | assumption | refine bdn ?_ | refine bwA ?_ ?_ _ | refine bwD ?_ | refine bwS ?_ ?_ _) | omega | (simp <;> omega))) (fun HB => rdo_add x y z _ H_jx.out H_jy.out H_hz.out) ?_
    intro w3 hb3 hz3 c3 d3 hW3
    have t3 := hb3.size
    try simp only [szA] at hz3 c3 d3
    try simp only [szD] at hz3 c3 d3
    try simp only [szS] at hz3 c3 d3
    try simp only [World.heap_drewN] at hz3 c3 d3
    try simp only [szA] at hz3 c3 d3
    try simp only [szD] at hz3 c3 d3
    try simp only [szS] at hz3 c3 d3
    have s3_0 : w.heap.size < w3.heap.size := by omega
    have o3_0 := fun j => c3 (w.heap.size) j (by omega)
    have f3_0 := fun j => d3 (w.heap.size) j (by omega)
    have s3_1 : w.heap.size + 1 < w3.heap.size := by omega
    have o3_1 := fun j => c3 (w.heap.size + 1) j (by omega)
    have f3_1 := fun j => d3 (w.heap.size + 1) j (by omega)
    have s3_2 : w.heap.size + 1 + 1 < w3.heap.size := by omega
    have o3_2 := fun j => c3 (w.heap.size + 1 + 1) j (by omega)
    have f3_2 := fun j => d3 (w.heap.size + 1 + 1) j (by omega)
    have s3_3 : w.heap.size + 1 + 1 + 1 < w3.heap.size := by omega
    have o3_3 := fun j => c3 (w.heap.size + 1 + 1 + 1) j (by omega)
    have f3_3 := fun j => d3 (w.heap.size + 1 + 1 + 1) j (by omega)
    have s3_4 : w.heap.size + 1 + 1 + 1 + 1 < w3.heap.size := by omega
    have o3_4 := fun j => c3 (w.heap.size + 1 + 1 + 1 + 1) j (by omega)
    have f3_4 := fun j => d3 (w.heap.size + 1 + 1 + 1 + 1) j (by omega)
    have s3_5 : w.heap.size + 1 + 1 + 1 + 1 + 1 < w3.heap.size := by omega
    have o3_5 := fun j => c3 (w.heap.size + 1 + 1 + 1 + 1 + 1) j (by omega)
    have f3_5 := fun j => d3 (w.heap.size + 1 + 1 + 1 + 1 + 1) j (by omega)
    have s3_6 : w1.heap.size < w3.heap.size := by omega
    have o3_6 := fun j => c3 (w1.heap.size) j (by omega)
    have f3_6 := fun j => d3 (w1.heap.size) j (by omega)
    have s3_7 : w2.heap.size < w3.heap.size := by omega
    have o3_7 := fun j => c3 (w2.heap.size) j (by omega)
    have f3_7 := fun j => d3 (w2.heap.size) j (by omega)
    clear c3 d3 hz3 hW3
    rw [H_hk3.out, H_h3.out, frN_0 rfl]
    go_wp2_with fail
    refine call_bel (w := w) (by repeat' (first | (with_reducible first | exact bwR _ _ | assumption | refine bdn ?_ | refine bwA ?_ ?_ _ | refine bwD ?_ | refine bwS ?_ ?_ _) | omega | (simp <;> omega))) (fun HB => rdo_add z f t _ H_jz.out H_jf.out H_ht.out) ?_
    intro w4 hb4 hz4 c4 d4 hW4
    have t4 := hb4.size
    try simp only [szA] at hz4 c4 d4
    try simp only [szD] at hz4 c4 d4
    try simp only [szS] at hz4 c4 d4
    try simp only [World.heap_drewN] at hz4 c4 d4
    try simp only [szA] at hz4 c4 d4
    try simp only [szD] at hz4 c4 d4
    try simp only [szS] at hz4 c4 d4
    have s4_0 : w.heap.size < w4.heap.size := by omega
    have o4_0 := fun j => c4 (w.heap.size) j (by omega)
    have f4_0 := fun j => d4 (w.heap.size) j (by omega)
    have s4_1 : w.heap.size + 1 < w4.heap.size := by omega
    have o4_1 := fun j => c4 (w.heap.size + 1) j (by omega)
    have f4_1 := fun j => d4 (w.heap.size + 1) j (by omega)
    have s4_2 : w.heap.size + 1 + 1 < w4.heap.size := by omega
    have o4_2 := fun j => c4 (w.heap.size + 1 + 1) j (by omega)
    have f4_2 := fun j => d4 (w.heap.size + 1 + 1) j (by omega)
    have s4_3 : w.heap.size + 1 + 1 + 1 < w4.heap.size := by omega
    have o4_3 := fun j => c4 (w.heap.size + 1 + 1 + 1) j (by omega)
    have f4_3 := fun j => d4 (w.heap.size + 1 + 1 + 1) j (by omega)
    have s4_4 : w.heap.size + 1 + 1 + 1 + 1 < w4.heap.size := by omega
    have o4_4 := fun j => c4 (w.heap.size + 1 + 1 + 1 + 1) j (by omega)
    have f4_4 := fun j => d4 (w.heap.size + 1 + 1 + 1 + 1) j (by omega)
    have s4_5 : w.heap.size + 1 + 1 + 1 + 1 + 1 < w4.heap.size := by omega
    have o4_5 := fun j => c4 (w.heap.size + 1 + 1 + 1 + 1 + 1) j (by omega)
    have f4_5 := fun j => d4 (w.heap.size + 1 + 1 + 1 + 1 + 1) j (by omega)
    have s4_6 : w1.heap.size < w4.heap.size := by omega
    have o4_6 := fun j => c4 (w1.heap.size) j (by omega)
    have f4_6 := fun j => d4 (w1.heap.size) j (by omega)
    have s4_7 : w2.heap.size < w4.heap.size := by omega
    have o4_7 := fun j => c4 (w2.heap.size) j (by omega)
    have f4_7 := fun j => d4 (w2.heap.size) j (by omega)
    have s4_8 : w3.heap.size < w4.heap.size := by omega
    have o4_8 := fun j => c4 (w3.heap.size) j (by omega)
    have f4_8 := fun j => d4 (w3.heap.size) j (by omega)
    clear c4 d4 hz4 hW4
    rw [H_hk4.out, frN_n H_h4.out]
    go_wp2_with fail
    refine bodyPost_ret (by simp [results, Tryz.results91, go_sem, *]; try rfl) rfl ?_
    exact ⟨rfl, by repeat' (first | (with_reducible first | exact bwR _ _ | assumption | refine bdn ?_ | refine bwA ?_ ?_ _ | refine bwD ?_ | refine bwS ?_ ?_ _) | omega | (simp <;> omega))⟩
  · have jz := iz h3
    rw [if_pos h0, h5] at hv
    obtain rfl : ok = true := by rw [← hok]; exact decide_eq_true h0
    subst hv
    have H_h1 := Lib.hid h1
    clear h1
    have H_h0 := Lib.hid h0
    clear h0
    have H_h2 := Lib.hid h2
    clear h2
    have H_h3 := Lib.hid h3
    clear h3
    have H_h4 := Lib.hid h4
    clear h4
    have H_h5 := Lib.hid h5
    clear h5
    have H_hok := Lib.hid hok
    clear hok
    have H_hk1 := Lib.hid hk1
    clear hk1
    have H_hk2 := Lib.hid hk2
    clear hk2
    have H_hk3 := Lib.hid hk3
    clear hk3
    have H_hk4 := Lib.hid hk4
    clear hk4
    have H_hx := Lib.hid hx
    clear hx
    have H_hy := Lib.hid hy
    clear hy
    have H_hz := Lib.hid hz
    clear hz
    have H_ht := Lib.hid ht
    clear ht
    have H_ia := Lib.hid ia
    clear ia
    have H_ib := Lib.hid ib
    clear ib
    have H_ic := Lib.hid ic
    clear ic
    have H_id := Lib.hid id
    clear id
    have H_jf := Lib.hid jf
    clear jf
    have H_ix := Lib.hid ix
    clear ix
    have H_iy := Lib.hid iy
    clear iy
    have H_iz := Lib.hid iz
    clear iz
    have H_jx := Lib.hid jx
    clear jx
    have H_jy := Lib.hid jy
    clear jy
    have H_jz := Lib.hid jz
    clear jz
    go_enter Tryz.func91, Tryz.ntmps91
    go_wp2_with fail
    refine call_bel (w := w) (by repeat' (first | (with_reducible first | exact bwR _ _ | assumption | refine bdn ?_ | refine bwA ?_ ?_ _ | refine bwD ?_ | refine bwS ?_ ?_ _) | omega | (simp <;> omega))) (fun HB => rdo_mul a b x _ H_ia.out H_ib.out H_hx.out) ?_
    intro w1 hb1 hz1 c1 d1 hW1
    have t1 := hb1.size
    try simp only [szA] at hz1 c1 d1
    try simp only [szD] at hz1 c1 d1
    try simp only [szS] at hz1 c1 d1
    try simp only [World.heap_drewN] at hz1 c1 d1
    try simp only [szA] at hz1 c1 d1
    try simp only [szD] at hz1 c1 d1
    try simp only [szS] at hz1 c1 d1
    have s1_0 : w.heap.size < w1.heap.size := by omega
    have o1_0 := fun j => c1 (w.heap.size) j (by omega)
    have f1_0 := fun j => d1 (w.heap.size) j (by omega)
    have s1_1 : w.heap.size + 1 < w1.heap.size := by omega
    have o1_1 := fun j => c1 (w.heap.size + 1) j (by omega)
    have f1_1 := fun j => d1 (w.heap.size + 1) j (by omega)
    have s1_2 : w.heap.size + 1 + 1 < w1.heap.size := by omega
    have o1_2 := fun j => c1 (w.heap.size + 1 + 1) j (by omega)
    have f1_2 := fun j => d1 (w.heap.size + 1 + 1) j (by omega)
    have s1_3 : w.heap.size + 1 + 1 + 1 < w1.heap.size := by omega
    have o1_3 := fun j => c1 (w.heap.size + 1 + 1 + 1) j (by omega)
    have f1_3 := fun j => d1 (w.heap.size + 1 + 1 + 1) j (by omega)
    have s1_4 : w.heap.size + 1 + 1 + 1 + 1 < w1.heap.size := by omega
    have o1_4 := fun j => c1 (w.heap.size + 1 + 1 + 1 + 1) j (by omega)
    have f1_4 := fun j => d1 (w.heap.size + 1 + 1 + 1 + 1) j (by omega)
    have s1_5 : w.heap.size + 1 + 1 + 1 + 1 + 1 < w1.heap.size := by omega
    have o1_5 := fun j => c1 (w.heap.size + 1 + 1 + 1 + 1 + 1) j (by omega)
    have f1_5 := fun j => d1 (w.heap.size + 1 + 1 + 1 + 1 + 1) j (by omega)
    clear c1 d1 hz1 hW1
    rw [H_hk1.out, H_h1.out, frN_0 rfl]
    go_wp2_with fail
    refine call_bel (w := w) (by repeat' (first | (with_reducible first | exact bwR _ _ | assumption | refine bdn ?_ | refine bwA ?_ ?_ _ | refine bwD ?_ | refine bwS ?_ ?_ _) | omega | (simp <;> omega))) (fun HB => rdo_mul c d y _ H_ic.out H_id.out H_hy.out) ?_
    intro w2 hb2 hz2 c2 d2 hW2
    have t2 := hb2.size
    try simp only [szA] at hz2 c2 d2
    try simp only [szD] at hz2 c2 d2
    try simp only [szS] at hz2 c2 d2
    try simp only [World.heap_drewN] at hz2 c2 d2
    try simp only [szA] at hz2 c2 d2
    try simp only [szD] at hz2 c2 d2
    try simp only [szS] at hz2 c2 d2
    have s2_0 : w.heap.size < w2.heap.size := by omega
    have o2_0 := fun j => c2 (w.heap.size) j (by omega)
    have f2_0 := fun j => d2 (w.heap.size) j (by omega)
    have s2_1 : w.heap.size + 1 < w2.heap.size := by omega
    have o2_1 := fun j => c2 (w.heap.size + 1) j (by omega)
    have f2_1 := fun j => d2 (w.heap.size + 1) j (by omega)
    have s2_2 : w.heap.size + 1 + 1 < w2.heap.size := by omega
    have o2_2 := fun j => c2 (w.heap.size + 1 + 1) j (by omega)
    have f2_2 := fun j => d2 (w.heap.size + 1 + 1) j (by omega)
    have s2_3 : w.heap.size + 1 + 1 + 1 < w2.heap.size := by omega
    have o2_3 := fun j => c2 (w.heap.size + 1 + 1 + 1) j (by omega)
    have f2_3 := fun j => d2 (w.heap.size + 1 + 1 + 1) j (by omega)
    have s2_4 : w.heap.size + 1 + 1 + 1 + 1 < w2.heap.size := by omega
    have o2_4 := fun j => c2 (w.heap.size + 1 + 1 + 1 + 1) j (by omega)
    have f2_4 := fun j => d2 (w.heap.size + 1 + 1 + 1 + 1) j (by omega)
    have s2_5 : w.heap.size + 1 + 1 + 1 + 1 + 1 < w2.heap.size := by omega
    have o2_5 := fun j => c2 (w.heap.size + 1 + 1 + 1 + 1 + 1) j (by omega)
    have f2_5 := fun j => d2 (w.heap.size + 1 + 1 + 1 + 1 + 1) j (by omega)
    have s2_6 : w1.heap.size < w2.heap.size := by omega
    have o2_6 := fun j => c2 (w1.heap.size) j (by omega)
    have f2_6 := fun j => d2 (w1.heap.size) j (by omega)
    clear c2 d2 hz2 hW2
    rw [H_hk2.out, H_h2.out, frN_0 rfl]
    go_wp2_with fail
    refine call_bel (w := w) (by repeat' (first | (with_reducible first | exact bwR _ _ | assumption | refine bdn ?_ | refine bwA ?_ ?_ _ | refine bwD ?_ | refine bwS ?_ ?_ _) | omega | (simp <;> omega))) (fun HB => rdo_add x y z _ H_jx.out H_jy.out H_hz.out) ?_
    intro w3 hb3 hz3 c3 d3 hW3
    have t3 := hb3.size
    try simp only [szA] at hz3 c3 d3
    try simp only [szD] at hz3 c3 d3
    try simp only [szS] at hz3 c3 d3
    try simp only [World.heap_drewN] at hz3 c3 d3
    try simp only [szA] at hz3 c3 d3
    try simp only [szD] at hz3 c3 d3
    try simp only [szS] at hz3 c3 d3
    have s3_0 : w.heap.size < w3.heap.size := by omega
    have o3_0 := fun j => c3 (w.heap.size) j (by omega)
    have f3_0 := fun j => d3 (w.heap.size) j (by omega)
    have s3_1 : w.heap.size + 1 < w3.heap.size := by omega
    have o3_1 := fun j => c3 (w.heap.size + 1) j (by omega)
    have f3_1 := fun j => d3 (w.heap.size + 1) j (by omega)
    have s3_2 : w.heap.size + 1 + 1 < w3.heap.size := by omega
    have o3_2 := fun j => c3 (w.heap.size + 1 + 1) j (by omega)
    have f3_2 := fun j => d3 (w.heap.size + 1 + 1) j (by omega)
    have s3_3 : w.heap.size + 1 + 1 + 1 < w3.heap.size := by omega
    have o3_3 := fun j => c3 (w.heap.size + 1 + 1 + 1) j (by omega)
    have f3_3 := fun j => d3 (w.heap.size + 1 + 1 + 1) j (by omega)
    have s3_4 : w.heap.size + 1 + 1 + 1 + 1 < w3.heap.size := by omega
    have o3_4 := fun j => c3 (w.heap.size + 1 + 1 + 1 + 1) j (by omega)
    have f3_4 := fun j => d3 (w.heap.size + 1 + 1 + 1 + 1) j (by omega)
    have s3_5 : w.heap.size + 1 + 1 + 1 + 1 + 1 < w3.heap.size := by omega
    have o3_5 := fun j => c3 (w.heap.size + 1 + 1 + 1 + 1 + 1) j (by omega)
    have f3_5 := fun j => d3 (w.heap.size + 1 + 1 + 1 + 1 + 1) j (by omega)
    have s3_6 : w1.heap.size < w3.heap.size := by omega
    have o3_6 := fun j => c3 (w1.heap.size) j (by omega)
    have f3_6 := fun j => d3 (w1.heap.size) j (by omega)
    have s3_7 : w2.heap.size < w3.heap.size := by omega
    have o3_7 := fun j => c3 (w2.heap.size) j (by omega)
    have f3_7 := fun j => d3 (w2.heap.size) j (by omega)
    clear c3 d3 hz3 hW3
    rw [H_hk3.out, H_h3.out, frN_0 rfl]
    go_wp2_with fail
    refine call_bel (w := w) (by repeat' (first | (with_reducible first | exact bwR _ _ | assumption | refine bdn ?_ | refine bwA ?_ ?_ _ | refine bwD ?_ | refine bwS ?_ ?_ _) | omega | (simp <;> omega))) (fun HB => rdo_add z f t _ H_jz.out H_jf.out H_ht.out) ?_
    intro w4 hb4 hz4 c4 d4 hW4
    have t4 := hb4.size
    try simp only [szA] at hz4 c4 d4
    try simp only [szD] at hz4 c4 d4
    try simp only [szS] at hz4 c4 d4
    try simp only [World.heap_drewN] at hz4 c4 d4
    try simp only [szA] at hz4 c4 d4
    try simp only [szD] at hz4 c4 d4
    try simp only [szS] at hz4 c4 d4
    have s4_0 : w.heap.size < w4.heap.size := by omega
    have o4_0 := fun j => c4 (w.heap.size) j (by omega)
    have f4_0 := fun j => d4 (w.heap.size) j (by omega)
    have s4_1 : w.heap.size + 1 < w4.heap.size := by omega
    have o4_1 := fun j => c4 (w.heap.size + 1) j (by omega)
    have f4_1 := fun j => d4 (w.heap.size + 1) j (by omega)
    have s4_2 : w.heap.size + 1 + 1 < w4.heap.size := by omega
    have o4_2 := fun j => c4 (w.heap.size + 1 + 1) j (by omega)
    have f4_2 := fun j => d4 (w.heap.size + 1 + 1) j (by omega)
    have s4_3 : w.heap.size + 1 + 1 + 1 < w4.heap.size := by omega
    have o4_3 := fun j => c4 (w.heap.size + 1 + 1 + 1) j (by omega)
    have f4_3 := fun j => d4 (w.heap.size + 1 + 1 + 1) j (by omega)
    have s4_4 : w.heap.size + 1 + 1 + 1 + 1 < w4.heap.size := by omega
    have o4_4 := fun j => c4 (w.heap.size + 1 + 1 + 1 + 1) j (by omega)
    have f4_4 := fun j => d4 (w.heap.size + 1 + 1 + 1 + 1) j (by omega)
    have s4_5 : w.heap.size + 1 + 1 + 1 + 1 + 1 < w4.heap.size := by omega
    have o4_5 := fun j => c4 (w.heap.size + 1 + 1 + 1 + 1 + 1) j (by omega)
    have f4_5 := fun j => d4 (w.heap.size + 1 + 1 + 1 + 1 + 1) j (by omega)
    have s4_6 : w1.heap.size < w4.heap.size := by omega
    have o4_6 := fun j => c4 (w1.heap.size) j (by omega)
    have f4_6 := fun j => d4 (w1.heap.size) j (by omega)
    have s4_7 : w2.heap.size < w4.heap.size := by omega
    have o4_7 := fun j => c4 (w2.heap.size) j (by omega)
    have f4_7 := fun j => d4 (w2.heap.size) j (by omega)
    have s4_8 : w3.heap.size < w4.heap.size := by omega
    have o4_8 := fun j => c4 (w3.heap.size) j (by omega)
    have f4_8 := fun j => d4 (w3.heap.size) j (by omega)
    clear c4 d4 hz4 hW4
    rw [H_hk4.out, H_h4.out, frN_0 rfl]
    go_wp2_with fail
    refine bodyPost_ret (by simp [results, Tryz.results91, go_sem, *]; try rfl) rfl ?_
    exact ⟨rfl, by repeat' (first | (with_reducible first | exact bwR _ _ | assumption | refine bdn ?_ | refine bwA ?_ ?_ _ | refine bwD ?_ | refine bwS ?_ ?_ _) | omega | (simp <;> omega))⟩
end Go.Proofs.YtpdaenldmgpkjaaGreatDoor
