/-
  Walks over package move: quarters, many, fracs, one.
-/
import Derived.Test.YtlhadgnpkooiaaaGreatDoorMv2
import Derived.Test.YtlhadgnpkooiaaaGreatDoorRd
import Derived.Test.YtlhadgnpkooiaaaGreatDoorRow
namespace Lead
open Go Go.RowKit
theorem tst (s : ByteArray) (L : List UInt8) : ((s.toList == L) = true ∧ s.data.toList = L) ∨ ((s.toList == L) = false ∧ s.data.toList ≠ L) := by
  by_cases h : s.toList = L
  · exact .inl ⟨by rw [h]; exact beq_self_eq_true _, by rw [← ByteArray.toList_eq]; exact h⟩
  · exact .inr ⟨beq_eq_false_iff_ne.2 h, by rw [← ByteArray.toList_eq]; exact h⟩
/-- Fractions, moves as cells. -/
def EF : Enc Fr := ⟨fun a => [.int .i64 a.n, .int .i64 a.d], 2, fun _ => rfl, fun x u h => by simp at h; rcases h with rfl | rfl <;> rfl, by decide⟩
def EM : Enc Mv := ⟨fun m => [.int .i64 m.A.n, .int .i64 m.A.d, .int .i64 m.B.n, .int .i64 m.B.d, .int .i64 m.C.n, .int .i64 m.C.d, .int .i64 m.D.n, .int .i64 m.D.d, .int .i64 m.E.n, .int .i64 m.E.d, .int .i64 m.F.n, .int .i64 m.F.d], 12, fun _ => rfl, fun x u h => by simp at h; rcases h with rfl | rfl | rfl | rfl | rfl | rfl | rfl | rfl | rfl | rfl | rfl | rfl <;> rfl, by decide⟩
end Lead
namespace Go.Proofs.YtlhadgnpkooiaaaGreatDoor
open Go.RowKit Lead

set_option maxHeartbeats 1000000 in
theorem mmany_any (s : ByteArray) (n : Int) (w : World) (hn : (manyW s.data.toList : Int) = n) :
    Calls Tryz.prog 29 #[.string s] w fun e w' => e = .returned (.int .i64 n) ∧ Below w.heap.size w w' := by
  unfold manyW kMove kScale kTurn kSkew at hn
  rcases tst s [109, 111, 118, 101] with ⟨h1, e1⟩ | ⟨h1, e1⟩
  · rw [if_pos (.inl e1)] at hn
    subst hn
    clear e1
    go_enter Tryz.func29, Tryz.ntmps29
    go_wp2_with fail
    go_returns
    exact ⟨rfl, by repeat' (first | (with_reducible first | exact bwR _ _ | assumption | refine bdn ?_ | refine bwA ?_ ?_ _ | refine bwD ?_ | refine bwS ?_ ?_ _) | omega | (simp <;> omega))⟩
  · rcases tst s [115, 99, 97, 108, 101] with ⟨h2, e2⟩ | ⟨h2, e2⟩
    · rw [if_pos (.inr e2)] at hn
      subst hn
      clear e1 e2
      go_enter Tryz.func29, Tryz.ntmps29
      go_wp2_with fail
      go_returns
      exact ⟨rfl, by repeat' (first | (with_reducible first | exact bwR _ _ | assumption | refine bdn ?_ | refine bwA ?_ ?_ _ | refine bwD ?_ | refine bwS ?_ ?_ _) | omega | (simp <;> omega))⟩
    · rw [if_neg (not_or.2 ⟨e1, e2⟩)] at hn
      rcases tst s [116, 117, 114, 110] with ⟨h3, e3⟩ | ⟨h3, e3⟩
      · rw [if_pos (.inl e3)] at hn
        subst hn
        clear e1 e2 e3
        go_enter Tryz.func29, Tryz.ntmps29
        go_wp2_with fail
        go_returns
        exact ⟨rfl, by repeat' (first | (with_reducible first | exact bwR _ _ | assumption | refine bdn ?_ | refine bwA ?_ ?_ _ | refine bwD ?_ | refine bwS ?_ ?_ _) | omega | (simp <;> omega))⟩
      · rcases tst s [115, 107, 101, 119] with ⟨h4, e4⟩ | ⟨h4, e4⟩
        · rw [if_pos (.inr e4)] at hn
          subst hn
          clear e1 e2 e3 e4
          go_enter Tryz.func29, Tryz.ntmps29
          go_wp2_with fail
          go_returns
          exact ⟨rfl, by repeat' (first | (with_reducible first | exact bwR _ _ | assumption | refine bdn ?_ | refine bwA ?_ ?_ _ | refine bwD ?_ | refine bwS ?_ ?_ _) | omega | (simp <;> omega))⟩
        · rw [if_neg (not_or.2 ⟨e3, e4⟩)] at hn
          subst hn
          clear e1 e2 e3 e4
          go_enter Tryz.func29, Tryz.ntmps29
          go_wp2_with fail
          go_returns
          exact ⟨rfl, by repeat' (first | (with_reducible first | exact bwR _ _ | assumption | refine bdn ?_ | refine bwA ?_ ?_ _ | refine bwD ?_ | refine bwS ?_ ?_ _) | omega | (simp <;> omega))⟩

set_option maxHeartbeats 4000000 in
set_option maxRecDepth 100000 in
theorem mquarters_any (s : ByteArray) (q : Mv) (b : Bool) (w : World) (hq : (qtr s.data.toList).getD zMv = q) (hb : (qtr s.data.toList).isSome = b) :
    Calls Tryz.prog 48 #[.string s] w fun e w' => e = .returned (.tuple #[.agg #[.int .i64 q.A.n, .int .i64 q.A.d, .int .i64 q.B.n, .int .i64 q.B.d, .int .i64 q.C.n, .int .i64 q.C.d, .int .i64 q.D.n, .int .i64 q.D.d, .int .i64 q.E.n, .int .i64 q.E.d, .int .i64 q.F.n, .int .i64 q.F.d], .bool b]) ∧ Below w.heap.size w w' := by
  unfold qtr at hq hb
  rcases tst s [48] with ⟨h1, e1⟩ | ⟨h1, e1⟩
  · rw [if_pos e1] at hq hb
    obtain rfl : q = ⟨⟨1, 1⟩, ⟨0, 1⟩, ⟨0, 1⟩, ⟨1, 1⟩, ⟨0, 1⟩, ⟨0, 1⟩⟩ := hq.symm
    obtain rfl : b = true := hb.symm
    clear hq hb
    clear e1
    go_enter Tryz.func48, Tryz.ntmps48
    ((try go_simp); (repeat go_step))
    refine call_bel (w := w) (by repeat' (first | (with_reducible first | exact bwR _ _ | assumption | refine bdn ?_ | refine bwA ?_ ?_ _ | refine bwD ?_ | refine bwS ?_ ?_ _) | omega | (simp <;> omega))) (fun HB => mone_any _) ?_
    intro w1 hb1 hz1 c1 d1 hW1
    have t1 := hb1.size
    try simp only [szA] at hz1 c1 d1
    try simp only [szD] at hz1 c1 d1
    try simp only [szS] at hz1 c1 d1
    try simp only [World.heap_drewN] at hz1 c1 d1
    try simp only [szA] at hz1 c1 d1
    try simp only [szD] at hz1 c1 d1
    try simp only [szS] at hz1 c1 d1
    have s1_0 : w.heap.size < w1.heap.size := by omega
    have o1_0 := fun j => c1 (w.heap.size) j (by omega)
    have f1_0 := fun j => d1 (w.heap.size) j (by omega)
    clear c1 d1 hz1 hW1
    ((try go_simp); (repeat go_step))
    refine bodyPost_ret (by simp [results, Tryz.results48, go_sem, *]; try rfl) rfl ?_
    exact ⟨rfl, by repeat' (first | (with_reducible first | exact bwR _ _ | assumption | refine bdn ?_ | refine bwA ?_ ?_ _ | refine bwD ?_ | refine bwS ?_ ?_ _) | omega | (simp <;> omega))⟩
  · rw [if_neg e1] at hq hb
    rcases tst s [49] with ⟨h2, e2⟩ | ⟨h2, e2⟩
    · rw [if_pos e2] at hq hb
      obtain rfl : q = ⟨⟨0, 1⟩, ⟨1, 1⟩, ⟨-1, 1⟩, ⟨0, 1⟩, ⟨0, 1⟩, ⟨0, 1⟩⟩ := hq.symm
      obtain rfl : b = true := hb.symm
      clear hq hb
      clear e1 e2
      go_enter Tryz.func48, Tryz.ntmps48
      ((try go_simp); (repeat go_step))
      refine call_bel (w := w) (by repeat' (first | (with_reducible first | exact bwR _ _ | assumption | refine bdn ?_ | refine bwA ?_ ?_ _ | refine bwD ?_ | refine bwS ?_ ?_ _) | omega | (simp <;> omega))) (fun HB => mone_any _) ?_
      intro w1 hb1 hz1 c1 d1 hW1
      have t1 := hb1.size
      try simp only [szA] at hz1 c1 d1
      try simp only [szD] at hz1 c1 d1
      try simp only [szS] at hz1 c1 d1
      try simp only [World.heap_drewN] at hz1 c1 d1
      try simp only [szA] at hz1 c1 d1
      try simp only [szD] at hz1 c1 d1
      try simp only [szS] at hz1 c1 d1
      have s1_0 : w.heap.size < w1.heap.size := by omega
      have o1_0 := fun j => c1 (w.heap.size) j (by omega)
      have f1_0 := fun j => d1 (w.heap.size) j (by omega)
      clear c1 d1 hz1 hW1
      ((try go_simp); (repeat go_step))
      refine call_bel (w := w) (by repeat' (first | (with_reducible first | exact bwR _ _ | assumption | refine bdn ?_ | refine bwA ?_ ?_ _ | refine bwD ?_ | refine bwS ?_ ?_ _) | omega | (simp <;> omega))) (fun HB => mwhole_any 0 _) ?_
      intro w2 hb2 hz2 c2 d2 hW2
      have t2 := hb2.size
      try simp only [szA] at hz2 c2 d2
      try simp only [szD] at hz2 c2 d2
      try simp only [szS] at hz2 c2 d2
      try simp only [World.heap_drewN] at hz2 c2 d2
      try simp only [szA] at hz2 c2 d2
      try simp only [szD] at hz2 c2 d2
      try simp only [szS] at hz2 c2 d2
      have s2_0 : w.heap.size < w2.heap.size := by omega
      have o2_0 := fun j => c2 (w.heap.size) j (by omega)
      have f2_0 := fun j => d2 (w.heap.size) j (by omega)
      have s2_1 : w1.heap.size < w2.heap.size := by omega
      have o2_1 := fun j => c2 (w1.heap.size) j (by omega)
      have f2_1 := fun j => d2 (w1.heap.size) j (by omega)
      clear c2 d2 hz2 hW2
      ((try go_simp); (repeat go_step))
      refine call_bel (w := w) (by repeat' (first | (with_reducible first | exact bwR _ _ | assumption | refine bdn ?_ | refine bwA ?_ ?_ _ | refine bwD ?_ | refine bwS ?_ ?_ _) | omega | (simp <;> omega))) (fun HB => mwhole_any 1 _) ?_
      intro w3 hb3 hz3 c3 d3 hW3
      have t3 := hb3.size
      try simp only [szA] at hz3 c3 d3
      try simp only [szD] at hz3 c3 d3
      try simp only [szS] at hz3 c3 d3
      try simp only [World.heap_drewN] at hz3 c3 d3
      try simp only [szA] at hz3 c3 d3
      try simp only [szD] at hz3 c3 d3
      try simp only [szS] at hz3 c3 d3
      have s3_0 : w.heap.size < w3.heap.size := by omega
      have o3_0 := fun j => c3 (w.heap.size) j (by omega)
      have f3_0 := fun j => d3 (w.heap.size) j (by omega)
      have s3_1 : w1.heap.size < w3.heap.size := by omega
      have o3_1 := fun j => c3 (w1.heap.size) j (by omega)
      have f3_1 := fun j => d3 (w1.heap.size) j (by omega)
      clear c3 d3 hz3 hW3
      ((try go_simp); (repeat go_step))
      refine call_bel (w := w) (by repeat' (first | (with_reducible first | exact bwR _ _ | assumption | refine bdn ?_ | refine bwA ?_ ?_ _ | refine bwD ?_ | refine bwS ?_ ?_ _) | omega | (simp <;> omega))) (fun HB => mwhole_any (-1) _) ?_
      intro w4 hb4 hz4 c4 d4 hW4
      have t4 := hb4.size
      try simp only [szA] at hz4 c4 d4
      try simp only [szD] at hz4 c4 d4
      try simp only [szS] at hz4 c4 d4
      try simp only [World.heap_drewN] at hz4 c4 d4
      try simp only [szA] at hz4 c4 d4
      try simp only [szD] at hz4 c4 d4
      try simp only [szS] at hz4 c4 d4
      have s4_0 : w.heap.size < w4.heap.size := by omega
      have o4_0 := fun j => c4 (w.heap.size) j (by omega)
      have f4_0 := fun j => d4 (w.heap.size) j (by omega)
      have s4_1 : w1.heap.size < w4.heap.size := by omega
      have o4_1 := fun j => c4 (w1.heap.size) j (by omega)
      have f4_1 := fun j => d4 (w1.heap.size) j (by omega)
      clear c4 d4 hz4 hW4
      ((try go_simp); (repeat go_step))
      refine call_bel (w := w) (by repeat' (first | (with_reducible first | exact bwR _ _ | assumption | refine bdn ?_ | refine bwA ?_ ?_ _ | refine bwD ?_ | refine bwS ?_ ?_ _) | omega | (simp <;> omega))) (fun HB => mwhole_any 0 _) ?_
      intro w5 hb5 hz5 c5 d5 hW5
      have t5 := hb5.size
      try simp only [szA] at hz5 c5 d5
      try simp only [szD] at hz5 c5 d5
      try simp only [szS] at hz5 c5 d5
      try simp only [World.heap_drewN] at hz5 c5 d5
      try simp only [szA] at hz5 c5 d5
      try simp only [szD] at hz5 c5 d5
      try simp only [szS] at hz5 c5 d5
      have s5_0 : w.heap.size < w5.heap.size := by omega
      have o5_0 := fun j => c5 (w.heap.size) j (by omega)
      have f5_0 := fun j => d5 (w.heap.size) j (by omega)
      have s5_1 : w1.heap.size < w5.heap.size := by omega
      have o5_1 := fun j => c5 (w1.heap.size) j (by omega)
      have f5_1 := fun j => d5 (w1.heap.size) j (by omega)
      clear c5 d5 hz5 hW5
      ((try go_simp); (repeat go_step))
      refine bodyPost_ret (by simp [results, Tryz.results48, go_sem, *]; try rfl) rfl ?_
      exact ⟨rfl, by repeat' (first | (with_reducible first | exact bwR _ _ | assumption | refine bdn ?_ | refine bwA ?_ ?_ _ | refine bwD ?_ | refine bwS ?_ ?_ _) | omega | (simp <;> omega))⟩
    · rw [if_neg e2] at hq hb
      rcases tst s [50] with ⟨h3, e3⟩ | ⟨h3, e3⟩
      · rw [if_pos e3] at hq hb
        obtain rfl : q = ⟨⟨-1, 1⟩, ⟨0, 1⟩, ⟨0, 1⟩, ⟨-1, 1⟩, ⟨0, 1⟩, ⟨0, 1⟩⟩ := hq.symm
        obtain rfl : b = true := hb.symm
        clear hq hb
        clear e1 e2 e3
        go_enter Tryz.func48, Tryz.ntmps48
        ((try go_simp); (repeat go_step))
        refine call_bel (w := w) (by repeat' (first | (with_reducible first | exact bwR _ _ | assumption | refine bdn ?_ | refine bwA ?_ ?_ _ | refine bwD ?_ | refine bwS ?_ ?_ _) | omega | (simp <;> omega))) (fun HB => mone_any _) ?_
        intro w1 hb1 hz1 c1 d1 hW1
        have t1 := hb1.size
        try simp only [szA] at hz1 c1 d1
        try simp only [szD] at hz1 c1 d1
        try simp only [szS] at hz1 c1 d1
        try simp only [World.heap_drewN] at hz1 c1 d1
        try simp only [szA] at hz1 c1 d1
        try simp only [szD] at hz1 c1 d1
        try simp only [szS] at hz1 c1 d1
        have s1_0 : w.heap.size < w1.heap.size := by omega
        have o1_0 := fun j => c1 (w.heap.size) j (by omega)
        have f1_0 := fun j => d1 (w.heap.size) j (by omega)
        clear c1 d1 hz1 hW1
        ((try go_simp); (repeat go_step))
        refine call_bel (w := w) (by repeat' (first | (with_reducible first | exact bwR _ _ | assumption | refine bdn ?_ | refine bwA ?_ ?_ _ | refine bwD ?_ | refine bwS ?_ ?_ _) | omega | (simp <;> omega))) (fun HB => mwhole_any (-1) _) ?_
        intro w2 hb2 hz2 c2 d2 hW2
        have t2 := hb2.size
        try simp only [szA] at hz2 c2 d2
        try simp only [szD] at hz2 c2 d2
        try simp only [szS] at hz2 c2 d2
        try simp only [World.heap_drewN] at hz2 c2 d2
        try simp only [szA] at hz2 c2 d2
        try simp only [szD] at hz2 c2 d2
        try simp only [szS] at hz2 c2 d2
        have s2_0 : w.heap.size < w2.heap.size := by omega
        have o2_0 := fun j => c2 (w.heap.size) j (by omega)
        have f2_0 := fun j => d2 (w.heap.size) j (by omega)
        have s2_1 : w1.heap.size < w2.heap.size := by omega
        have o2_1 := fun j => c2 (w1.heap.size) j (by omega)
        have f2_1 := fun j => d2 (w1.heap.size) j (by omega)
        clear c2 d2 hz2 hW2
        ((try go_simp); (repeat go_step))
        refine call_bel (w := w) (by repeat' (first | (with_reducible first | exact bwR _ _ | assumption | refine bdn ?_ | refine bwA ?_ ?_ _ | refine bwD ?_ | refine bwS ?_ ?_ _) | omega | (simp <;> omega))) (fun HB => mwhole_any (-1) _) ?_
        intro w3 hb3 hz3 c3 d3 hW3
        have t3 := hb3.size
        try simp only [szA] at hz3 c3 d3
        try simp only [szD] at hz3 c3 d3
        try simp only [szS] at hz3 c3 d3
        try simp only [World.heap_drewN] at hz3 c3 d3
        try simp only [szA] at hz3 c3 d3
        try simp only [szD] at hz3 c3 d3
        try simp only [szS] at hz3 c3 d3
        have s3_0 : w.heap.size < w3.heap.size := by omega
        have o3_0 := fun j => c3 (w.heap.size) j (by omega)
        have f3_0 := fun j => d3 (w.heap.size) j (by omega)
        have s3_1 : w1.heap.size < w3.heap.size := by omega
        have o3_1 := fun j => c3 (w1.heap.size) j (by omega)
        have f3_1 := fun j => d3 (w1.heap.size) j (by omega)
        clear c3 d3 hz3 hW3
        ((try go_simp); (repeat go_step))
        refine bodyPost_ret (by simp [results, Tryz.results48, go_sem, *]; try rfl) rfl ?_
        exact ⟨rfl, by repeat' (first | (with_reducible first | exact bwR _ _ | assumption | refine bdn ?_ | refine bwA ?_ ?_ _ | refine bwD ?_ | refine bwS ?_ ?_ _) | omega | (simp <;> omega))⟩
      · rw [if_neg e3] at hq hb
        rcases tst s [51] with ⟨h4, e4⟩ | ⟨h4, e4⟩
        · rw [if_pos e4] at hq hb
          obtain rfl : q = ⟨⟨0, 1⟩, ⟨-1, 1⟩, ⟨1, 1⟩, ⟨0, 1⟩, ⟨0, 1⟩, ⟨0, 1⟩⟩ := hq.symm
          obtain rfl : b = true := hb.symm
          clear hq hb
          clear e1 e2 e3 e4
          go_enter Tryz.func48, Tryz.ntmps48
          ((try go_simp); (repeat go_step))
          refine call_bel (w := w) (by repeat' (first | (with_reducible first | exact bwR _ _ | assumption | refine bdn ?_ | refine bwA ?_ ?_ _ | refine bwD ?_ | refine bwS ?_ ?_ _) | omega | (simp <;> omega))) (fun HB => mone_any _) ?_
          intro w1 hb1 hz1 c1 d1 hW1
          have t1 := hb1.size
          try simp only [szA] at hz1 c1 d1
          try simp only [szD] at hz1 c1 d1
          try simp only [szS] at hz1 c1 d1
          try simp only [World.heap_drewN] at hz1 c1 d1
          try simp only [szA] at hz1 c1 d1
          try simp only [szD] at hz1 c1 d1
          try simp only [szS] at hz1 c1 d1
          have s1_0 : w.heap.size < w1.heap.size := by omega
          have o1_0 := fun j => c1 (w.heap.size) j (by omega)
          have f1_0 := fun j => d1 (w.heap.size) j (by omega)
          clear c1 d1 hz1 hW1
          ((try go_simp); (repeat go_step))
          refine call_bel (w := w) (by repeat' (first | (with_reducible first | exact bwR _ _ | assumption | refine bdn ?_ | refine bwA ?_ ?_ _ | refine bwD ?_ | refine bwS ?_ ?_ _) | omega | (simp <;> omega))) (fun HB => mwhole_any 0 _) ?_
          intro w2 hb2 hz2 c2 d2 hW2
          have t2 := hb2.size
          try simp only [szA] at hz2 c2 d2
          try simp only [szD] at hz2 c2 d2
          try simp only [szS] at hz2 c2 d2
          try simp only [World.heap_drewN] at hz2 c2 d2
          try simp only [szA] at hz2 c2 d2
          try simp only [szD] at hz2 c2 d2
          try simp only [szS] at hz2 c2 d2
          have s2_0 : w.heap.size < w2.heap.size := by omega
          have o2_0 := fun j => c2 (w.heap.size) j (by omega)
          have f2_0 := fun j => d2 (w.heap.size) j (by omega)
          have s2_1 : w1.heap.size < w2.heap.size := by omega
          have o2_1 := fun j => c2 (w1.heap.size) j (by omega)
          have f2_1 := fun j => d2 (w1.heap.size) j (by omega)
          clear c2 d2 hz2 hW2
          ((try go_simp); (repeat go_step))
          refine call_bel (w := w) (by repeat' (first | (with_reducible first | exact bwR _ _ | assumption | refine bdn ?_ | refine bwA ?_ ?_ _ | refine bwD ?_ | refine bwS ?_ ?_ _) | omega | (simp <;> omega))) (fun HB => mwhole_any (-1) _) ?_
          intro w3 hb3 hz3 c3 d3 hW3
          have t3 := hb3.size
          try simp only [szA] at hz3 c3 d3
          try simp only [szD] at hz3 c3 d3
          try simp only [szS] at hz3 c3 d3
          try simp only [World.heap_drewN] at hz3 c3 d3
          try simp only [szA] at hz3 c3 d3
          try simp only [szD] at hz3 c3 d3
          try simp only [szS] at hz3 c3 d3
          have s3_0 : w.heap.size < w3.heap.size := by omega
          have o3_0 := fun j => c3 (w.heap.size) j (by omega)
          have f3_0 := fun j => d3 (w.heap.size) j (by omega)
          have s3_1 : w1.heap.size < w3.heap.size := by omega
          have o3_1 := fun j => c3 (w1.heap.size) j (by omega)
          have f3_1 := fun j => d3 (w1.heap.size) j (by omega)
          clear c3 d3 hz3 hW3
          ((try go_simp); (repeat go_step))
          refine call_bel (w := w) (by repeat' (first | (with_reducible first | exact bwR _ _ | assumption | refine bdn ?_ | refine bwA ?_ ?_ _ | refine bwD ?_ | refine bwS ?_ ?_ _) | omega | (simp <;> omega))) (fun HB => mwhole_any 1 _) ?_
          intro w4 hb4 hz4 c4 d4 hW4
          have t4 := hb4.size
          try simp only [szA] at hz4 c4 d4
          try simp only [szD] at hz4 c4 d4
          try simp only [szS] at hz4 c4 d4
          try simp only [World.heap_drewN] at hz4 c4 d4
          try simp only [szA] at hz4 c4 d4
          try simp only [szD] at hz4 c4 d4
          try simp only [szS] at hz4 c4 d4
          have s4_0 : w.heap.size < w4.heap.size := by omega
          have o4_0 := fun j => c4 (w.heap.size) j (by omega)
          have f4_0 := fun j => d4 (w.heap.size) j (by omega)
          have s4_1 : w1.heap.size < w4.heap.size := by omega
          have o4_1 := fun j => c4 (w1.heap.size) j (by omega)
          have f4_1 := fun j => d4 (w1.heap.size) j (by omega)
          clear c4 d4 hz4 hW4
          ((try go_simp); (repeat go_step))
          refine call_bel (w := w) (by repeat' (first | (with_reducible first | exact bwR _ _ | assumption | refine bdn ?_ | refine bwA ?_ ?_ _ | refine bwD ?_ | refine bwS ?_ ?_ _) | omega | (simp <;> omega))) (fun HB => mwhole_any 0 _) ?_
          intro w5 hb5 hz5 c5 d5 hW5
          have t5 := hb5.size
          try simp only [szA] at hz5 c5 d5
          try simp only [szD] at hz5 c5 d5
          try simp only [szS] at hz5 c5 d5
          try simp only [World.heap_drewN] at hz5 c5 d5
          try simp only [szA] at hz5 c5 d5
          try simp only [szD] at hz5 c5 d5
          try simp only [szS] at hz5 c5 d5
          have s5_0 : w.heap.size < w5.heap.size := by omega
          have o5_0 := fun j => c5 (w.heap.size) j (by omega)
          have f5_0 := fun j => d5 (w.heap.size) j (by omega)
          have s5_1 : w1.heap.size < w5.heap.size := by omega
          have o5_1 := fun j => c5 (w1.heap.size) j (by omega)
          have f5_1 := fun j => d5 (w1.heap.size) j (by omega)
          clear c5 d5 hz5 hW5
          ((try go_simp); (repeat go_step))
          refine bodyPost_ret (by simp [results, Tryz.results48, go_sem, *]; try rfl) rfl ?_
          exact ⟨rfl, by repeat' (first | (with_reducible first | exact bwR _ _ | assumption | refine bdn ?_ | refine bwA ?_ ?_ _ | refine bwD ?_ | refine bwS ?_ ?_ _) | omega | (simp <;> omega))⟩
        · rw [if_neg e4] at hq hb
          obtain rfl : q = ⟨⟨0, 0⟩, ⟨0, 0⟩, ⟨0, 0⟩, ⟨0, 0⟩, ⟨0, 0⟩, ⟨0, 0⟩⟩ := hq.symm
          obtain rfl : b = false := hb.symm
          clear hq hb
          clear e1 e2 e3 e4
          go_enter Tryz.func48, Tryz.ntmps48
          ((try go_simp); (repeat go_step))
          refine call_bel (w := w) (by repeat' (first | (with_reducible first | exact bwR _ _ | assumption | refine bdn ?_ | refine bwA ?_ ?_ _ | refine bwD ?_ | refine bwS ?_ ?_ _) | omega | (simp <;> omega))) (fun HB => mone_any _) ?_
          intro w1 hb1 hz1 c1 d1 hW1
          have t1 := hb1.size
          try simp only [szA] at hz1 c1 d1
          try simp only [szD] at hz1 c1 d1
          try simp only [szS] at hz1 c1 d1
          try simp only [World.heap_drewN] at hz1 c1 d1
          try simp only [szA] at hz1 c1 d1
          try simp only [szD] at hz1 c1 d1
          try simp only [szS] at hz1 c1 d1
          have s1_0 : w.heap.size < w1.heap.size := by omega
          have o1_0 := fun j => c1 (w.heap.size) j (by omega)
          have f1_0 := fun j => d1 (w.heap.size) j (by omega)
          clear c1 d1 hz1 hW1
          ((try go_simp); (repeat go_step))
          refine bodyPost_ret (by simp [results, Tryz.results48, go_sem, *]; try rfl) rfl ?_
          exact ⟨rfl, by repeat' (first | (with_reducible first | exact bwR _ _ | assumption | refine bdn ?_ | refine bwA ?_ ?_ _ | refine bwD ?_ | refine bwS ?_ ?_ _) | omega | (simp <;> omega))⟩
end Go.Proofs.YtlhadgnpkooiaaaGreatDoor
