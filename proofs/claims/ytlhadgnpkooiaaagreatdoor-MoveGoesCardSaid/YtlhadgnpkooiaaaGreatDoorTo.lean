/-
  Walks over the document's answer: Stay, turnOf. (Written by wip/mkto.py.)
-/
import Derived.Test.YtlhadgnpkooiaaaGreatDoorMr1
import Derived.Test.YtlhadgnpkooiaaaGreatDoorRdW
import Derived.Test.YtlhadgnpkooiaaaGreatDoorSet
import Derived.Deep.DeepCutAuto
namespace Go.Proofs.YtlhadgnpkooiaaaGreatDoor
open Go.RowKit Lead
theorem res_stay (tmps : Array Value) (w0 : World) (g : Nat) (v0 v1 v2 v3 v4 v5 v6 v7 v8 v9 v10 v11 : Value) (h0 : tmps[0]?.getD undef = .pointer (some ⟨g, 0, none⟩)) (hc : ∀ j, w0.cell? ⟨g, j, none⟩ = (#[v0, v1, v2, v3, v4, v5, v6, v7, v8, v9, v10, v11] : Array Value)[j]?) :
    (results Tryz.f32 tmps).run Tryz.prog w0 = .ok (.agg #[v0, v1, v2, v3, v4, v5, v6, v7, v8, v9, v10, v11]) w0 := by
  simp [results, Tryz.results32, go_sem, h0, hc]
theorem res_turn (tmps : Array Value) (w0 : World) (g : Nat) (v0 v1 v2 v3 v4 v5 v6 v7 v8 v9 v10 v11 : Value) (h2 : tmps[2]?.getD undef = .pointer (some ⟨g, 0, none⟩)) (hc : ∀ j, w0.cell? ⟨g, j, none⟩ = (#[v0, v1, v2, v3, v4, v5, v6, v7, v8, v9, v10, v11] : Array Value)[j]?) :
    (results Tryz.f34 tmps).run Tryz.prog w0 = .ok (.tuple #[.agg #[v0, v1, v2, v3, v4, v5, v6, v7, v8, v9, v10, v11], tmps[3]?.getD undef]) w0 := by
  simp [results, Tryz.results34, go_sem, h2, hc]
set_option maxHeartbeats 1000000 in
set_option maxRecDepth 100000 in
theorem rstay_any (w : World) : Calls Tryz.prog 32 #[] w fun e w' => e = .returned (.agg #[.int .i64 1, .int .i64 1, .int .i64 0, .int .i64 1, .int .i64 0, .int .i64 1, .int .i64 1, .int .i64 1, .int .i64 0, .int .i64 1, .int .i64 0, .int .i64 1]) ∧ Below w.heap.size w w' := by
  go_enter Tryz.func32, Tryz.ntmps32
  ((try go_simp); (repeat go_step))
  refine call_bel (w := w) (by repeat' (first | (with_reducible first | exact bwR _ _ | assumption | refine bdn ?_ | refine bwA ?_ ?_ _ | refine bwD ?_ | refine bwS ?_ ?_ _) | omega | (simp <;> omega))) (fun HB => rwhole_any 1 _) ?_
  intro w1 hb1 hz1 c1 d1 hW1
  have t1 := hb1.size
  try simp only [szA] at hz1 c1 d1
  try simp only [szD] at hz1 c1 d1
  try simp only [szS] at hz1 c1 d1
  try simp only [World.heap_drewN] at hz1 c1 d1
  try simp only [szA] at hz1 c1 d1
  try simp only [szD] at hz1 c1 d1
  try simp only [szS] at hz1 c1 d1
  have s1_0 : w.heap.size < w1.heap.size := by omega
  have o1_0 := fun j => c1 (w.heap.size) j (by omega)
  have f1_0 := fun j => d1 (w.heap.size) j (by omega)
  clear c1 d1 hz1 hW1
  ((try go_simp); (repeat go_step))
  refine call_bel (w := w) (by repeat' (first | (with_reducible first | exact bwR _ _ | assumption | refine bdn ?_ | refine bwA ?_ ?_ _ | refine bwD ?_ | refine bwS ?_ ?_ _) | omega | (simp <;> omega))) (fun HB => rwhole_any 0 _) ?_
  intro w2 hb2 hz2 c2 d2 hW2
  have t2 := hb2.size
  try simp only [szA] at hz2 c2 d2
  try simp only [szD] at hz2 c2 d2
  try simp only [szS] at hz2 c2 d2
  try simp only [World.heap_drewN] at hz2 c2 d2
  try simp only [szA] at hz2 c2 d2
  try simp only [szD] at hz2 c2 d2
  try simp only [szS] at hz2 c2 d2
  have s2_0 : w.heap.size < w2.heap.size := by omega
  have o2_0 := fun j => c2 (w.heap.size) j (by omega)
  have f2_0 := fun j => d2 (w.heap.size) j (by omega)
  clear c2 d2 hz2 hW2
  ((try go_simp); (repeat go_step))
  refine call_bel (w := w) (by repeat' (first | (with_reducible first | exact bwR _ _ | assumption | refine bdn ?_ | refine bwA ?_ ?_ _ | refine bwD ?_ | refine bwS ?_ ?_ _) | omega | (simp <;> omega))) (fun HB => rwhole_any 0 _) ?_
  intro w3 hb3 hz3 c3 d3 hW3
  have t3 := hb3.size
  try simp only [szA] at hz3 c3 d3
  try simp only [szD] at hz3 c3 d3
  try simp only [szS] at hz3 c3 d3
  try simp only [World.heap_drewN] at hz3 c3 d3
  try simp only [szA] at hz3 c3 d3
  try simp only [szD] at hz3 c3 d3
  try simp only [szS] at hz3 c3 d3
  have s3_0 : w.heap.size < w3.heap.size := by omega
  have o3_0 := fun j => c3 (w.heap.size) j (by omega)
  have f3_0 := fun j => d3 (w.heap.size) j (by omega)
  clear c3 d3 hz3 hW3
  ((try go_simp); (repeat go_step))
  refine call_bel (w := w) (by repeat' (first | (with_reducible first | exact bwR _ _ | assumption | refine bdn ?_ | refine bwA ?_ ?_ _ | refine bwD ?_ | refine bwS ?_ ?_ _) | omega | (simp <;> omega))) (fun HB => rwhole_any 1 _) ?_
  intro w4 hb4 hz4 c4 d4 hW4
  have t4 := hb4.size
  try simp only [szA] at hz4 c4 d4
  try simp only [szD] at hz4 c4 d4
  try simp only [szS] at hz4 c4 d4
  try simp only [World.heap_drewN] at hz4 c4 d4
  try simp only [szA] at hz4 c4 d4
  try simp only [szD] at hz4 c4 d4
  try simp only [szS] at hz4 c4 d4
  have s4_0 : w.heap.size < w4.heap.size := by omega
  have o4_0 := fun j => c4 (w.heap.size) j (by omega)
  have f4_0 := fun j => d4 (w.heap.size) j (by omega)
  clear c4 d4 hz4 hW4
  ((try go_simp); (repeat go_step))
  refine call_bel (w := w) (by repeat' (first | (with_reducible first | exact bwR _ _ | assumption | refine bdn ?_ | refine bwA ?_ ?_ _ | refine bwD ?_ | refine bwS ?_ ?_ _) | omega | (simp <;> omega))) (fun HB => rwhole_any 0 _) ?_
  intro w5 hb5 hz5 c5 d5 hW5
  have t5 := hb5.size
  try simp only [szA] at hz5 c5 d5
  try simp only [szD] at hz5 c5 d5
  try simp only [szS] at hz5 c5 d5
  try simp only [World.heap_drewN] at hz5 c5 d5
  try simp only [szA] at hz5 c5 d5
  try simp only [szD] at hz5 c5 d5
  try simp only [szS] at hz5 c5 d5
  have s5_0 : w.heap.size < w5.heap.size := by omega
  have o5_0 := fun j => c5 (w.heap.size) j (by omega)
  have f5_0 := fun j => d5 (w.heap.size) j (by omega)
  clear c5 d5 hz5 hW5
  ((try go_simp); (repeat go_step))
  refine call_bel (w := w) (by repeat' (first | (with_reducible first | exact bwR _ _ | assumption | refine bdn ?_ | refine bwA ?_ ?_ _ | refine bwD ?_ | refine bwS ?_ ?_ _) | omega | (simp <;> omega))) (fun HB => rwhole_any 0 _) ?_
  intro w6 hb6 hz6 c6 d6 hW6
  have t6 := hb6.size
  try simp only [szA] at hz6 c6 d6
  try simp only [szD] at hz6 c6 d6
  try simp only [szS] at hz6 c6 d6
  try simp only [World.heap_drewN] at hz6 c6 d6
  try simp only [szA] at hz6 c6 d6
  try simp only [szD] at hz6 c6 d6
  try simp only [szS] at hz6 c6 d6
  have s6_0 : w.heap.size < w6.heap.size := by omega
  have o6_0 := fun j => c6 (w.heap.size) j (by omega)
  have f6_0 := fun j => d6 (w.heap.size) j (by omega)
  clear c6 d6 hz6 hW6
  ((try go_simp); (repeat go_step))
  first
    | (with_reducible refine bodyPost_ret (res_stay _ _ (w.heap.size) _ _ _ _ _ _ _ _ _ _ _ _ ?hp (set12 ?hz _ _ _ _ _ _ _ _ _ _ _ _)) rfl ?_)
    | (with_reducible refine bodyPost_ret (res_stay _ _ (w.heap.size) _ _ _ _ _ _ _ _ _ _ _ _ ?hp (set12d ?hz _ _ _ _ _ _ _ _ _ _ _ _)) rfl ?_)
    | (with_reducible refine bodyPost_ret (res_stay _ _ (w.heap.size) _ _ _ _ _ _ _ _ _ _ _ _ ?hp (set12a ?hg ?hz _ _ _ _ _ _ _ _ _ _ _ _)) rfl ?_)
    | (with_reducible refine bodyPost_ret (res_stay _ _ (w.heap.size) _ _ _ _ _ _ _ _ _ _ _ _ ?hp (set12ad ?hg ?hz _ _ _ _ _ _ _ _ _ _ _ _)) rfl ?_)
  case hp => simp
  case hz => (intro j; rw [o6_0, o5_0, o4_0, o3_0, o2_0, o1_0, World.cell?_alloc_new])
  try (case hg => (exact s6_0))
  show _ ∧ _
  exact ⟨rfl, by repeat' (first | (with_reducible first | exact bwR _ _ | assumption | refine bdn ?_ | refine bwA ?_ ?_ _ | refine bwD ?_ | refine bwS ?_ ?_ _) | omega | (simp <;> omega))⟩

set_option maxHeartbeats 4000000 in
set_option maxRecDepth 100000 in
theorem rturn_any (s : ByteArray) (q : Mv) (b : Bool) (w : World) (hq : (qtr s.data.toList).getD zMv = q) (hb : (qtr s.data.toList).isSome = b) :
    Calls Tryz.prog 34 #[.string s] w fun e w' => e = .returned (.tuple #[.agg #[.int .i64 q.A.n, .int .i64 q.A.d, .int .i64 q.B.n, .int .i64 q.B.d, .int .i64 q.C.n, .int .i64 q.C.d, .int .i64 q.D.n, .int .i64 q.D.d, .int .i64 q.E.n, .int .i64 q.E.d, .int .i64 q.F.n, .int .i64 q.F.d], .bool b]) ∧ Below w.heap.size w w' := by
  unfold qtr at hq hb
  rcases tst s [48] with ⟨h1, e1⟩ | ⟨h1, e1⟩
  · rw [if_pos e1] at hq hb
    obtain rfl : q = ⟨⟨1, 1⟩, ⟨0, 1⟩, ⟨0, 1⟩, ⟨1, 1⟩, ⟨0, 1⟩, ⟨0, 1⟩⟩ := hq.symm
    obtain rfl : b = true := hb.symm
    clear hq hb
    clear e1
    go_enter Tryz.func34, Tryz.ntmps34
    ((try go_simp); (repeat go_step))
    refine call_bel (w := w) (by repeat' (first | (with_reducible first | exact bwR _ _ | assumption | refine bdn ?_ | refine bwA ?_ ?_ _ | refine bwD ?_ | refine bwS ?_ ?_ _) | omega | (simp <;> omega))) (fun HB => rwhole_any 0 _) ?_
    intro w1 hb1 hz1 c1 d1 hW1
    have t1 := hb1.size
    try simp only [szA] at hz1 c1 d1
    try simp only [szD] at hz1 c1 d1
    try simp only [szS] at hz1 c1 d1
    try simp only [World.heap_drewN] at hz1 c1 d1
    try simp only [szA] at hz1 c1 d1
    try simp only [szD] at hz1 c1 d1
    try simp only [szS] at hz1 c1 d1
    have s1_0 : w.heap.size < w1.heap.size := by omega
    have o1_0 := fun j => c1 (w.heap.size) j (by omega)
    have f1_0 := fun j => d1 (w.heap.size) j (by omega)
    clear c1 d1 hz1 hW1
    ((try go_simp); (repeat go_step))
    refine call_bel (w := w) (by repeat' (first | (with_reducible first | exact bwR _ _ | assumption | refine bdn ?_ | refine bwA ?_ ?_ _ | refine bwD ?_ | refine bwS ?_ ?_ _) | omega | (simp <;> omega))) (fun HB => rstay_any _) ?_
    intro w2 hb2 hz2 c2 d2 hW2
    have t2 := hb2.size
    try simp only [szA] at hz2 c2 d2
    try simp only [szD] at hz2 c2 d2
    try simp only [szS] at hz2 c2 d2
    try simp only [World.heap_drewN] at hz2 c2 d2
    try simp only [szA] at hz2 c2 d2
    try simp only [szD] at hz2 c2 d2
    try simp only [szS] at hz2 c2 d2
    have s2_0 : w.heap.size < w2.heap.size := by omega
    have o2_0 := fun j => c2 (w.heap.size) j (by omega)
    have f2_0 := fun j => d2 (w.heap.size) j (by omega)
    clear c2 d2 hz2 hW2
    ((try go_simp); (repeat go_step))
    first
      | (with_reducible refine bodyPost_ret (res_turn _ _ (w.heap.size) _ _ _ _ _ _ _ _ _ _ _ _ ?hp (set12 ?hz _ _ _ _ _ _ _ _ _ _ _ _)) rfl ?_)
      | (with_reducible refine bodyPost_ret (res_turn _ _ (w.heap.size) _ _ _ _ _ _ _ _ _ _ _ _ ?hp (set12d ?hz _ _ _ _ _ _ _ _ _ _ _ _)) rfl ?_)
      | (with_reducible refine bodyPost_ret (res_turn _ _ (w.heap.size) _ _ _ _ _ _ _ _ _ _ _ _ ?hp (set12a ?hg ?hz _ _ _ _ _ _ _ _ _ _ _ _)) rfl ?_)
      | (with_reducible refine bodyPost_ret (res_turn _ _ (w.heap.size) _ _ _ _ _ _ _ _ _ _ _ _ ?hp (set12ad ?hg ?hz _ _ _ _ _ _ _ _ _ _ _ _)) rfl ?_)
    case hp => simp
    case hz => (intro j; rw [o2_0, World.cell?_alloc_past _ _ _ s1_0, o1_0, World.cell?_alloc_new])
    try (case hg => (exact s2_0))
    show _ ∧ _
    exact ⟨rfl, by repeat' (first | (with_reducible first | exact bwR _ _ | assumption | refine bdn ?_ | refine bwA ?_ ?_ _ | refine bwD ?_ | refine bwS ?_ ?_ _) | omega | (simp <;> omega))⟩
  · rw [if_neg e1] at hq hb
    rcases tst s [49] with ⟨h2, e2⟩ | ⟨h2, e2⟩
    · rw [if_pos e2] at hq hb
      obtain rfl : q = ⟨⟨0, 1⟩, ⟨1, 1⟩, ⟨-1, 1⟩, ⟨0, 1⟩, ⟨0, 1⟩, ⟨0, 1⟩⟩ := hq.symm
      obtain rfl : b = true := hb.symm
      clear hq hb
      clear e1 e2
      go_enter Tryz.func34, Tryz.ntmps34
      ((try go_simp); (repeat go_step))
      refine call_bel (w := w) (by repeat' (first | (with_reducible first | exact bwR _ _ | assumption | refine bdn ?_ | refine bwA ?_ ?_ _ | refine bwD ?_ | refine bwS ?_ ?_ _) | omega | (simp <;> omega))) (fun HB => rwhole_any 0 _) ?_
      intro w1 hb1 hz1 c1 d1 hW1
      have t1 := hb1.size
      try simp only [szA] at hz1 c1 d1
      try simp only [szD] at hz1 c1 d1
      try simp only [szS] at hz1 c1 d1
      try simp only [World.heap_drewN] at hz1 c1 d1
      try simp only [szA] at hz1 c1 d1
      try simp only [szD] at hz1 c1 d1
      try simp only [szS] at hz1 c1 d1
      have s1_0 : w.heap.size < w1.heap.size := by omega
      have o1_0 := fun j => c1 (w.heap.size) j (by omega)
      have f1_0 := fun j => d1 (w.heap.size) j (by omega)
      clear c1 d1 hz1 hW1
      go_upto_region 6 with fail
      obtain ⟨wz, hwz⟩ : ∃ u, w1.alloc (.cells #[.int .i64 0, .int .i64 1] 23) = u := ⟨_, rfl⟩
      rw [hwz]
      have hBz : Below w.heap.size w wz := by rw [← hwz]; exact hb1.alloc t1 _
      have zz : wz.heap.size = w1.heap.size + 1 := by rw [← hwz]; simp
      have k0 : wz.cell? ⟨w1.heap.size, 0, none⟩ = some (.int .i64 0) := by rw [← hwz, World.cell?_alloc_new]; rfl
      have k1 : wz.cell? ⟨w1.heap.size, 1, none⟩ = some (.int .i64 1) := by rw [← hwz, World.cell?_alloc_new]; rfl
      have kz : ∀ j, wz.cell? ⟨w.heap.size, j, none⟩ = (#[.int .i64 0, .int .i64 0, .int .i64 0, .int .i64 0, .int .i64 0, .int .i64 0, .int .i64 0, .int .i64 0, .int .i64 0, .int .i64 0, .int .i64 0, .int .i64 0] : Array Value)[j]? := fun j => by rw [← hwz, World.cell?_alloc_past _ _ _ s1_0, o1_0, World.cell?_alloc_new]
      have kf : ∀ j, wz.frozen? ⟨w.heap.size, j, none⟩ = false := fun j => by rw [← hwz, World.frozen?_alloc_past _ _ _ s1_0, f1_0, World.frozen?_alloc_at _ _ _ _ rfl]
      have za : w1.heap.size < wz.heap.size := by omega
      have zr : w.heap.size < wz.heap.size := by omega
      clear hwz o1_0 f1_0 hb1
      have SK : ∀ W, Below wz.heap.size wz W → W.cell? ⟨w1.heap.size, 0, none⟩ = some (.int .i64 0) ∧ W.cell? ⟨w1.heap.size, 1, none⟩ = some (.int .i64 1) := fun W h => ⟨(h.cell (p := ⟨w1.heap.size, 0, none⟩) za).trans k0, (h.cell (p := ⟨w1.heap.size, 1, none⟩) za).trans k1⟩
      have KZ : ∀ W, Below wz.heap.size wz W → ∀ j, W.cell? ⟨w.heap.size, j, none⟩ = (#[.int .i64 0, .int .i64 0, .int .i64 0, .int .i64 0, .int .i64 0, .int .i64 0, .int .i64 0, .int .i64 0, .int .i64 0, .int .i64 0, .int .i64 0, .int .i64 0] : Array Value)[j]? := fun W h j => (h.cell (p := ⟨w.heap.size, j, none⟩) zr).trans (kz j)
      have KF : ∀ W, Below wz.heap.size wz W → ∀ j, W.frozen? ⟨w.heap.size, j, none⟩ = false := fun W h j => (h.frozen (p := ⟨w.heap.size, j, none⟩) zr).trans (kf j)
      have ne0 : w.heap.size ≠ w1.heap.size := by omega
      have K12 : ∀ (V : World) (v0 v1 v2 v3 v4 v5 v6 v7 v8 v9 v10 v11 : Value), Below wz.heap.size wz V → (fun W : World => W.cell? ⟨w1.heap.size, 0, none⟩ = some (.int .i64 0) ∧ W.cell? ⟨w1.heap.size, 1, none⟩ = some (.int .i64 1)) ((((((((((((V.setCell ⟨w.heap.size, 0, none⟩ v0).setCell ⟨w.heap.size, 1, none⟩ v1).setCell ⟨w.heap.size, 2, none⟩ v2).setCell ⟨w.heap.size, 3, none⟩ v3).setCell ⟨w.heap.size, 4, none⟩ v4).setCell ⟨w.heap.size, 5, none⟩ v5).setCell ⟨w.heap.size, 6, none⟩ v6).setCell ⟨w.heap.size, 7, none⟩ v7).setCell ⟨w.heap.size, 8, none⟩ v8).setCell ⟨w.heap.size, 9, none⟩ v9).setCell ⟨w.heap.size, 10, none⟩ v10).setCell ⟨w.heap.size, 11, none⟩ v11) := fun V v0 v1 v2 v3 v4 v5 v6 v7 v8 v9 v10 v11 h => ⟨(oth4 ne0 0).trans ((oth4 ne0 0).trans ((oth4 ne0 0).trans (SK V h).1)), (oth4 ne0 1).trans ((oth4 ne0 1).trans ((oth4 ne0 1).trans (SK V h).2))⟩
      have H_SK := Lib.hid SK
      clear SK
      have H_KZ := Lib.hid KZ
      clear KZ
      have H_KF := Lib.hid KF
      clear KF
      have H_K12 := Lib.hid K12
      clear K12
      clear kz kf k0 k1
      go_region_held3 (fun W => W.cell? ⟨w1.heap.size, 0, none⟩ = some (.int .i64 0) ∧ W.cell? ⟨w1.heap.size, 1, none⟩ = some (.int .i64 1)) (first | ((with_reducible refine H_SK.out _ ?_); (repeat' (first | (with_reducible first | exact bwR _ _ | assumption | refine bdn ?_ | refine bwA ?_ ?_ _ | refine bwD ?_ | refine bwS ?_ ?_ _) | omega | (simp <;> omega))); done) | ((with_reducible refine H_K12.out _ _ _ _ _ _ _ _ _ _ _ _ _ ?_); (repeat' (first | (with_reducible first | exact bwR _ _ | assumption | refine bdn ?_ | refine bwA ?_ ?_ _ | refine bwD ?_ | refine bwS ?_ ?_ _) | omega | (simp <;> omega))); done))
        (((first | (with_reducible refine (rwhole_any 1 _).mono ?_) | (with_reducible refine (rwhole_any (-1) _).mono ?_)); rintro en wV ⟨rfl, hV⟩; have hbV : Below wz.heap.size wz wV := below_via (by repeat' (first | (with_reducible first | exact bwR _ _ | assumption | refine bdn ?_ | refine bwA ?_ ?_ _ | refine bwD ?_ | refine bwS ?_ ?_ _) | omega | (simp <;> omega))) hV; have tV := hbV.size; have zV : w.heap.size < wV.heap.size := Nat.lt_of_lt_of_le zr tV; have oV := H_KZ.out _ hbV; have fV := H_KF.out _ hbV; clear hV))
      all_goals
        ((try go_simp); (repeat go_step))
        have hBw := below_via hBz hbV
        ((try go_simp); (repeat go_step))
        first
          | (with_reducible refine bodyPost_ret (res_turn _ _ (w.heap.size) _ _ _ _ _ _ _ _ _ _ _ _ ?hp (set12 ?hz _ _ _ _ _ _ _ _ _ _ _ _)) rfl ?_)
          | (with_reducible refine bodyPost_ret (res_turn _ _ (w.heap.size) _ _ _ _ _ _ _ _ _ _ _ _ ?hp (set12d ?hz _ _ _ _ _ _ _ _ _ _ _ _)) rfl ?_)
          | (with_reducible refine bodyPost_ret (res_turn _ _ (w.heap.size) _ _ _ _ _ _ _ _ _ _ _ _ ?hp (set12a ?hg ?hz _ _ _ _ _ _ _ _ _ _ _ _)) rfl ?_)
          | (with_reducible refine bodyPost_ret (res_turn _ _ (w.heap.size) _ _ _ _ _ _ _ _ _ _ _ _ ?hp (set12ad ?hg ?hz _ _ _ _ _ _ _ _ _ _ _ _)) rfl ?_)
        case hp => simp
        case hz => (intro j; exact H_KZ.out _ hbV j)
        try (case hg => (exact zV))
        show _ ∧ _
        exact ⟨rfl, by repeat' (first | (with_reducible first | exact bwR _ _ | assumption | refine bdn ?_ | refine bwA ?_ ?_ _ | refine bwD ?_ | refine bwS ?_ ?_ _) | omega | (simp <;> omega))⟩
    · rw [if_neg e2] at hq hb
      rcases tst s [50] with ⟨h3, e3⟩ | ⟨h3, e3⟩
      · rw [if_pos e3] at hq hb
        obtain rfl : q = ⟨⟨-1, 1⟩, ⟨0, 1⟩, ⟨0, 1⟩, ⟨-1, 1⟩, ⟨0, 1⟩, ⟨0, 1⟩⟩ := hq.symm
        obtain rfl : b = true := hb.symm
        clear hq hb
        clear e1 e2 e3
        go_enter Tryz.func34, Tryz.ntmps34
        ((try go_simp); (repeat go_step))
        refine call_bel (w := w) (by repeat' (first | (with_reducible first | exact bwR _ _ | assumption | refine bdn ?_ | refine bwA ?_ ?_ _ | refine bwD ?_ | refine bwS ?_ ?_ _) | omega | (simp <;> omega))) (fun HB => rwhole_any 0 _) ?_
        intro w1 hb1 hz1 c1 d1 hW1
        have t1 := hb1.size
        try simp only [szA] at hz1 c1 d1
        try simp only [szD] at hz1 c1 d1
        try simp only [szS] at hz1 c1 d1
        try simp only [World.heap_drewN] at hz1 c1 d1
        try simp only [szA] at hz1 c1 d1
        try simp only [szD] at hz1 c1 d1
        try simp only [szS] at hz1 c1 d1
        have s1_0 : w.heap.size < w1.heap.size := by omega
        have o1_0 := fun j => c1 (w.heap.size) j (by omega)
        have f1_0 := fun j => d1 (w.heap.size) j (by omega)
        clear c1 d1 hz1 hW1
        go_upto_region 8 with fail
        obtain ⟨wz, hwz⟩ : ∃ u, w1.alloc (.cells #[.int .i64 0, .int .i64 1] 23) = u := ⟨_, rfl⟩
        rw [hwz]
        have hBz : Below w.heap.size w wz := by rw [← hwz]; exact hb1.alloc t1 _
        have zz : wz.heap.size = w1.heap.size + 1 := by rw [← hwz]; simp
        have k0 : wz.cell? ⟨w1.heap.size, 0, none⟩ = some (.int .i64 0) := by rw [← hwz, World.cell?_alloc_new]; rfl
        have k1 : wz.cell? ⟨w1.heap.size, 1, none⟩ = some (.int .i64 1) := by rw [← hwz, World.cell?_alloc_new]; rfl
        have kz : ∀ j, wz.cell? ⟨w.heap.size, j, none⟩ = (#[.int .i64 0, .int .i64 0, .int .i64 0, .int .i64 0, .int .i64 0, .int .i64 0, .int .i64 0, .int .i64 0, .int .i64 0, .int .i64 0, .int .i64 0, .int .i64 0] : Array Value)[j]? := fun j => by rw [← hwz, World.cell?_alloc_past _ _ _ s1_0, o1_0, World.cell?_alloc_new]
        have kf : ∀ j, wz.frozen? ⟨w.heap.size, j, none⟩ = false := fun j => by rw [← hwz, World.frozen?_alloc_past _ _ _ s1_0, f1_0, World.frozen?_alloc_at _ _ _ _ rfl]
        have za : w1.heap.size < wz.heap.size := by omega
        have zr : w.heap.size < wz.heap.size := by omega
        clear hwz o1_0 f1_0 hb1
        have SK : ∀ W, Below wz.heap.size wz W → W.cell? ⟨w1.heap.size, 0, none⟩ = some (.int .i64 0) ∧ W.cell? ⟨w1.heap.size, 1, none⟩ = some (.int .i64 1) := fun W h => ⟨(h.cell (p := ⟨w1.heap.size, 0, none⟩) za).trans k0, (h.cell (p := ⟨w1.heap.size, 1, none⟩) za).trans k1⟩
        have KZ : ∀ W, Below wz.heap.size wz W → ∀ j, W.cell? ⟨w.heap.size, j, none⟩ = (#[.int .i64 0, .int .i64 0, .int .i64 0, .int .i64 0, .int .i64 0, .int .i64 0, .int .i64 0, .int .i64 0, .int .i64 0, .int .i64 0, .int .i64 0, .int .i64 0] : Array Value)[j]? := fun W h j => (h.cell (p := ⟨w.heap.size, j, none⟩) zr).trans (kz j)
        have KF : ∀ W, Below wz.heap.size wz W → ∀ j, W.frozen? ⟨w.heap.size, j, none⟩ = false := fun W h j => (h.frozen (p := ⟨w.heap.size, j, none⟩) zr).trans (kf j)
        have ne0 : w.heap.size ≠ w1.heap.size := by omega
        have K12 : ∀ (V : World) (v0 v1 v2 v3 v4 v5 v6 v7 v8 v9 v10 v11 : Value), Below wz.heap.size wz V → (fun W : World => W.cell? ⟨w1.heap.size, 0, none⟩ = some (.int .i64 0) ∧ W.cell? ⟨w1.heap.size, 1, none⟩ = some (.int .i64 1)) ((((((((((((V.setCell ⟨w.heap.size, 0, none⟩ v0).setCell ⟨w.heap.size, 1, none⟩ v1).setCell ⟨w.heap.size, 2, none⟩ v2).setCell ⟨w.heap.size, 3, none⟩ v3).setCell ⟨w.heap.size, 4, none⟩ v4).setCell ⟨w.heap.size, 5, none⟩ v5).setCell ⟨w.heap.size, 6, none⟩ v6).setCell ⟨w.heap.size, 7, none⟩ v7).setCell ⟨w.heap.size, 8, none⟩ v8).setCell ⟨w.heap.size, 9, none⟩ v9).setCell ⟨w.heap.size, 10, none⟩ v10).setCell ⟨w.heap.size, 11, none⟩ v11) := fun V v0 v1 v2 v3 v4 v5 v6 v7 v8 v9 v10 v11 h => ⟨(oth4 ne0 0).trans ((oth4 ne0 0).trans ((oth4 ne0 0).trans (SK V h).1)), (oth4 ne0 1).trans ((oth4 ne0 1).trans ((oth4 ne0 1).trans (SK V h).2))⟩
        have H_SK := Lib.hid SK
        clear SK
        have H_KZ := Lib.hid KZ
        clear KZ
        have H_KF := Lib.hid KF
        clear KF
        have H_K12 := Lib.hid K12
        clear K12
        clear kz kf k0 k1
        go_region_held3 (fun W => W.cell? ⟨w1.heap.size, 0, none⟩ = some (.int .i64 0) ∧ W.cell? ⟨w1.heap.size, 1, none⟩ = some (.int .i64 1)) (first | ((with_reducible refine H_SK.out _ ?_); (repeat' (first | (with_reducible first | exact bwR _ _ | assumption | refine bdn ?_ | refine bwA ?_ ?_ _ | refine bwD ?_ | refine bwS ?_ ?_ _) | omega | (simp <;> omega))); done) | ((with_reducible refine H_K12.out _ _ _ _ _ _ _ _ _ _ _ _ _ ?_); (repeat' (first | (with_reducible first | exact bwR _ _ | assumption | refine bdn ?_ | refine bwA ?_ ?_ _ | refine bwD ?_ | refine bwS ?_ ?_ _) | omega | (simp <;> omega))); done))
          (((first | (with_reducible refine (rwhole_any (-1) _).mono ?_) | (with_reducible refine (rwhole_any (-1) _).mono ?_)); rintro en wV ⟨rfl, hV⟩; have hbV : Below wz.heap.size wz wV := below_via (by repeat' (first | (with_reducible first | exact bwR _ _ | assumption | refine bdn ?_ | refine bwA ?_ ?_ _ | refine bwD ?_ | refine bwS ?_ ?_ _) | omega | (simp <;> omega))) hV; have tV := hbV.size; have zV : w.heap.size < wV.heap.size := Nat.lt_of_lt_of_le zr tV; have oV := H_KZ.out _ hbV; have fV := H_KF.out _ hbV; clear hV))
        all_goals
          ((try go_simp); (repeat go_step))
          have hBw := below_via hBz hbV
          ((try go_simp); (repeat go_step))
          first
            | (with_reducible refine bodyPost_ret (res_turn _ _ (w.heap.size) _ _ _ _ _ _ _ _ _ _ _ _ ?hp (set12 ?hz _ _ _ _ _ _ _ _ _ _ _ _)) rfl ?_)
            | (with_reducible refine bodyPost_ret (res_turn _ _ (w.heap.size) _ _ _ _ _ _ _ _ _ _ _ _ ?hp (set12d ?hz _ _ _ _ _ _ _ _ _ _ _ _)) rfl ?_)
            | (with_reducible refine bodyPost_ret (res_turn _ _ (w.heap.size) _ _ _ _ _ _ _ _ _ _ _ _ ?hp (set12a ?hg ?hz _ _ _ _ _ _ _ _ _ _ _ _)) rfl ?_)
            | (with_reducible refine bodyPost_ret (res_turn _ _ (w.heap.size) _ _ _ _ _ _ _ _ _ _ _ _ ?hp (set12ad ?hg ?hz _ _ _ _ _ _ _ _ _ _ _ _)) rfl ?_)
          case hp => simp
          case hz => (intro j; exact H_KZ.out _ hbV j)
          try (case hg => (exact zV))
          show _ ∧ _
          exact ⟨rfl, by repeat' (first | (with_reducible first | exact bwR _ _ | assumption | refine bdn ?_ | refine bwA ?_ ?_ _ | refine bwD ?_ | refine bwS ?_ ?_ _) | omega | (simp <;> omega))⟩
      · rw [if_neg e3] at hq hb
        rcases tst s [51] with ⟨h4, e4⟩ | ⟨h4, e4⟩
        · rw [if_pos e4] at hq hb
          obtain rfl : q = ⟨⟨0, 1⟩, ⟨-1, 1⟩, ⟨1, 1⟩, ⟨0, 1⟩, ⟨0, 1⟩, ⟨0, 1⟩⟩ := hq.symm
          obtain rfl : b = true := hb.symm
          clear hq hb
          clear e1 e2 e3 e4
          go_enter Tryz.func34, Tryz.ntmps34
          ((try go_simp); (repeat go_step))
          refine call_bel (w := w) (by repeat' (first | (with_reducible first | exact bwR _ _ | assumption | refine bdn ?_ | refine bwA ?_ ?_ _ | refine bwD ?_ | refine bwS ?_ ?_ _) | omega | (simp <;> omega))) (fun HB => rwhole_any 0 _) ?_
          intro w1 hb1 hz1 c1 d1 hW1
          have t1 := hb1.size
          try simp only [szA] at hz1 c1 d1
          try simp only [szD] at hz1 c1 d1
          try simp only [szS] at hz1 c1 d1
          try simp only [World.heap_drewN] at hz1 c1 d1
          try simp only [szA] at hz1 c1 d1
          try simp only [szD] at hz1 c1 d1
          try simp only [szS] at hz1 c1 d1
          have s1_0 : w.heap.size < w1.heap.size := by omega
          have o1_0 := fun j => c1 (w.heap.size) j (by omega)
          have f1_0 := fun j => d1 (w.heap.size) j (by omega)
          clear c1 d1 hz1 hW1
          go_upto_region 10 with fail
          obtain ⟨wz, hwz⟩ : ∃ u, w1.alloc (.cells #[.int .i64 0, .int .i64 1] 23) = u := ⟨_, rfl⟩
          rw [hwz]
          have hBz : Below w.heap.size w wz := by rw [← hwz]; exact hb1.alloc t1 _
          have zz : wz.heap.size = w1.heap.size + 1 := by rw [← hwz]; simp
          have k0 : wz.cell? ⟨w1.heap.size, 0, none⟩ = some (.int .i64 0) := by rw [← hwz, World.cell?_alloc_new]; rfl
          have k1 : wz.cell? ⟨w1.heap.size, 1, none⟩ = some (.int .i64 1) := by rw [← hwz, World.cell?_alloc_new]; rfl
          have kz : ∀ j, wz.cell? ⟨w.heap.size, j, none⟩ = (#[.int .i64 0, .int .i64 0, .int .i64 0, .int .i64 0, .int .i64 0, .int .i64 0, .int .i64 0, .int .i64 0, .int .i64 0, .int .i64 0, .int .i64 0, .int .i64 0] : Array Value)[j]? := fun j => by rw [← hwz, World.cell?_alloc_past _ _ _ s1_0, o1_0, World.cell?_alloc_new]
          have kf : ∀ j, wz.frozen? ⟨w.heap.size, j, none⟩ = false := fun j => by rw [← hwz, World.frozen?_alloc_past _ _ _ s1_0, f1_0, World.frozen?_alloc_at _ _ _ _ rfl]
          have za : w1.heap.size < wz.heap.size := by omega
          have zr : w.heap.size < wz.heap.size := by omega
          clear hwz o1_0 f1_0 hb1
          have SK : ∀ W, Below wz.heap.size wz W → W.cell? ⟨w1.heap.size, 0, none⟩ = some (.int .i64 0) ∧ W.cell? ⟨w1.heap.size, 1, none⟩ = some (.int .i64 1) := fun W h => ⟨(h.cell (p := ⟨w1.heap.size, 0, none⟩) za).trans k0, (h.cell (p := ⟨w1.heap.size, 1, none⟩) za).trans k1⟩
          have KZ : ∀ W, Below wz.heap.size wz W → ∀ j, W.cell? ⟨w.heap.size, j, none⟩ = (#[.int .i64 0, .int .i64 0, .int .i64 0, .int .i64 0, .int .i64 0, .int .i64 0, .int .i64 0, .int .i64 0, .int .i64 0, .int .i64 0, .int .i64 0, .int .i64 0] : Array Value)[j]? := fun W h j => (h.cell (p := ⟨w.heap.size, j, none⟩) zr).trans (kz j)
          have KF : ∀ W, Below wz.heap.size wz W → ∀ j, W.frozen? ⟨w.heap.size, j, none⟩ = false := fun W h j => (h.frozen (p := ⟨w.heap.size, j, none⟩) zr).trans (kf j)
          have ne0 : w.heap.size ≠ w1.heap.size := by omega
          have K12 : ∀ (V : World) (v0 v1 v2 v3 v4 v5 v6 v7 v8 v9 v10 v11 : Value), Below wz.heap.size wz V → (fun W : World => W.cell? ⟨w1.heap.size, 0, none⟩ = some (.int .i64 0) ∧ W.cell? ⟨w1.heap.size, 1, none⟩ = some (.int .i64 1)) ((((((((((((V.setCell ⟨w.heap.size, 0, none⟩ v0).setCell ⟨w.heap.size, 1, none⟩ v1).setCell ⟨w.heap.size, 2, none⟩ v2).setCell ⟨w.heap.size, 3, none⟩ v3).setCell ⟨w.heap.size, 4, none⟩ v4).setCell ⟨w.heap.size, 5, none⟩ v5).setCell ⟨w.heap.size, 6, none⟩ v6).setCell ⟨w.heap.size, 7, none⟩ v7).setCell ⟨w.heap.size, 8, none⟩ v8).setCell ⟨w.heap.size, 9, none⟩ v9).setCell ⟨w.heap.size, 10, none⟩ v10).setCell ⟨w.heap.size, 11, none⟩ v11) := fun V v0 v1 v2 v3 v4 v5 v6 v7 v8 v9 v10 v11 h => ⟨(oth4 ne0 0).trans ((oth4 ne0 0).trans ((oth4 ne0 0).trans (SK V h).1)), (oth4 ne0 1).trans ((oth4 ne0 1).trans ((oth4 ne0 1).trans (SK V h).2))⟩
          have H_SK := Lib.hid SK
          clear SK
          have H_KZ := Lib.hid KZ
          clear KZ
          have H_KF := Lib.hid KF
          clear KF
          have H_K12 := Lib.hid K12
          clear K12
          clear kz kf k0 k1
          go_region_held3 (fun W => W.cell? ⟨w1.heap.size, 0, none⟩ = some (.int .i64 0) ∧ W.cell? ⟨w1.heap.size, 1, none⟩ = some (.int .i64 1)) (first | ((with_reducible refine H_SK.out _ ?_); (repeat' (first | (with_reducible first | exact bwR _ _ | assumption | refine bdn ?_ | refine bwA ?_ ?_ _ | refine bwD ?_ | refine bwS ?_ ?_ _) | omega | (simp <;> omega))); done) | ((with_reducible refine H_K12.out _ _ _ _ _ _ _ _ _ _ _ _ _ ?_); (repeat' (first | (with_reducible first | exact bwR _ _ | assumption | refine bdn ?_ | refine bwA ?_ ?_ _ | refine bwD ?_ | refine bwS ?_ ?_ _) | omega | (simp <;> omega))); done))
            (((first | (with_reducible refine (rwhole_any (-1) _).mono ?_) | (with_reducible refine (rwhole_any 1 _).mono ?_)); rintro en wV ⟨rfl, hV⟩; have hbV : Below wz.heap.size wz wV := below_via (by repeat' (first | (with_reducible first | exact bwR _ _ | assumption | refine bdn ?_ | refine bwA ?_ ?_ _ | refine bwD ?_ | refine bwS ?_ ?_ _) | omega | (simp <;> omega))) hV; have tV := hbV.size; have zV : w.heap.size < wV.heap.size := Nat.lt_of_lt_of_le zr tV; have oV := H_KZ.out _ hbV; have fV := H_KF.out _ hbV; clear hV))
          all_goals
            ((try go_simp); (repeat go_step))
            have hBw := below_via hBz hbV
            ((try go_simp); (repeat go_step))
            first
              | (with_reducible refine bodyPost_ret (res_turn _ _ (w.heap.size) _ _ _ _ _ _ _ _ _ _ _ _ ?hp (set12 ?hz _ _ _ _ _ _ _ _ _ _ _ _)) rfl ?_)
              | (with_reducible refine bodyPost_ret (res_turn _ _ (w.heap.size) _ _ _ _ _ _ _ _ _ _ _ _ ?hp (set12d ?hz _ _ _ _ _ _ _ _ _ _ _ _)) rfl ?_)
              | (with_reducible refine bodyPost_ret (res_turn _ _ (w.heap.size) _ _ _ _ _ _ _ _ _ _ _ _ ?hp (set12a ?hg ?hz _ _ _ _ _ _ _ _ _ _ _ _)) rfl ?_)
              | (with_reducible refine bodyPost_ret (res_turn _ _ (w.heap.size) _ _ _ _ _ _ _ _ _ _ _ _ ?hp (set12ad ?hg ?hz _ _ _ _ _ _ _ _ _ _ _ _)) rfl ?_)
            case hp => simp
            case hz => (intro j; exact H_KZ.out _ hbV j)
            try (case hg => (exact zV))
            show _ ∧ _
            exact ⟨rfl, by repeat' (first | (with_reducible first | exact bwR _ _ | assumption | refine bdn ?_ | refine bwA ?_ ?_ _ | refine bwD ?_ | refine bwS ?_ ?_ _) | omega | (simp <;> omega))⟩
        · rw [if_neg e4] at hq hb
          obtain rfl : q = ⟨⟨0, 0⟩, ⟨0, 0⟩, ⟨0, 0⟩, ⟨0, 0⟩, ⟨0, 0⟩, ⟨0, 0⟩⟩ := hq.symm
          obtain rfl : b = false := hb.symm
          clear hq hb
          clear e1 e2 e3 e4
          go_enter Tryz.func34, Tryz.ntmps34
          ((try go_simp); (repeat go_step))
          refine call_bel (w := w) (by repeat' (first | (with_reducible first | exact bwR _ _ | assumption | refine bdn ?_ | refine bwA ?_ ?_ _ | refine bwD ?_ | refine bwS ?_ ?_ _) | omega | (simp <;> omega))) (fun HB => rwhole_any 0 _) ?_
          intro w1 hb1 hz1 c1 d1 hW1
          have t1 := hb1.size
          try simp only [szA] at hz1 c1 d1
          try simp only [szD] at hz1 c1 d1
          try simp only [szS] at hz1 c1 d1
          try simp only [World.heap_drewN] at hz1 c1 d1
          try simp only [szA] at hz1 c1 d1
          try simp only [szD] at hz1 c1 d1
          try simp only [szS] at hz1 c1 d1
          have s1_0 : w.heap.size < w1.heap.size := by omega
          have o1_0 := fun j => c1 (w.heap.size) j (by omega)
          have f1_0 := fun j => d1 (w.heap.size) j (by omega)
          clear c1 d1 hz1 hW1
          ((try go_simp); (repeat go_step))
          first
            | (with_reducible refine bodyPost_ret (res_turn _ _ (w.heap.size) _ _ _ _ _ _ _ _ _ _ _ _ ?hp (set12 ?hz _ _ _ _ _ _ _ _ _ _ _ _)) rfl ?_)
            | (with_reducible refine bodyPost_ret (res_turn _ _ (w.heap.size) _ _ _ _ _ _ _ _ _ _ _ _ ?hp (set12d ?hz _ _ _ _ _ _ _ _ _ _ _ _)) rfl ?_)
            | (with_reducible refine bodyPost_ret (res_turn _ _ (w.heap.size) _ _ _ _ _ _ _ _ _ _ _ _ ?hp (set12a ?hg ?hz _ _ _ _ _ _ _ _ _ _ _ _)) rfl ?_)
            | (with_reducible refine bodyPost_ret (res_turn _ _ (w.heap.size) _ _ _ _ _ _ _ _ _ _ _ _ ?hp (set12ad ?hg ?hz _ _ _ _ _ _ _ _ _ _ _ _)) rfl ?_)
          case hp => simp
          case hz => (intro j; rw [o1_0, World.cell?_alloc_new])
          try (case hg => (exact s1_0))
          show _ ∧ _
          exact ⟨rfl, by repeat' (first | (with_reducible first | exact bwR _ _ | assumption | refine bdn ?_ | refine bwA ?_ ?_ _ | refine bwD ?_ | refine bwS ?_ ?_ _) | omega | (simp <;> omega))⟩
end Go.Proofs.YtlhadgnpkooiaaaGreatDoor
