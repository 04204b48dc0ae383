/-
  Walks over the document's answer: crossings of edges.
-/
import Derived.Test.YtaidgecpglikpaaDoorRef4
import Derived.Test.YtaidgecpglikpaaDoorPa
namespace Go.Proofs.YtaidgecpglikpaaDoor
open Go.RowKit Lead

theorem rbeyond_up (a b p : Pt) (r : Bool) (w : World) (ha : PtOk a) (hb : PtOk b) (hp : PtOk p) (h1 : ¬ p.yn * a.yd < a.yn * p.yd) (h2 : p.yn * b.yd < b.yn * p.yd) (hr : decide (0 < sideI a b p) = r) :
    Calls Tryd.prog 69 #[.agg #[.int .i64 a.xn, .int .i64 a.xd, .int .i64 a.yn, .int .i64 a.yd], .agg #[.int .i64 b.xn, .int .i64 b.xd, .int .i64 b.yn, .int .i64 b.yd], .agg #[.int .i64 p.xn, .int .i64 p.xd, .int .i64 p.yn, .int .i64 p.yd]] w fun e w' => e = .returned (.bool r) ∧ Below w.heap.size w w' := by
  obtain ⟨_, hu⟩ := up_pos ha hb hp h1 h2
  have W := bey_wrap ha hb hp
  have E := bey_eq a b p
  refine rbeyond_raw _ _ _ _ _ _ _ _ _ _ _ _ _ _ _ _ _ _ _ _ _ _ r w W.u1 W.u2 W.d1 W.d2 W.n W.d (.inr ⟨hu, rfl, rfl⟩) W.l W.r ?_
  rw [← hr]
  exact decide_eq_decide.2 ⟨fun h => by omega, fun h => by omega⟩
theorem rbeyond_down (a b p : Pt) (r : Bool) (w : World) (ha : PtOk a) (hb : PtOk b) (hp : PtOk p) (h1 : p.yn * a.yd < a.yn * p.yd) (h2 : ¬ p.yn * b.yd < b.yn * p.yd) (hr : decide (sideI a b p < 0) = r) :
    Calls Tryd.prog 69 #[.agg #[.int .i64 a.xn, .int .i64 a.xd, .int .i64 a.yn, .int .i64 a.yd], .agg #[.int .i64 b.xn, .int .i64 b.xd, .int .i64 b.yn, .int .i64 b.yd], .agg #[.int .i64 p.xn, .int .i64 p.xd, .int .i64 p.yn, .int .i64 p.yd]] w fun e w' => e = .returned (.bool r) ∧ Below w.heap.size w w' := by
  obtain ⟨_, hu⟩ := up_neg ha hb hp h1 h2
  have W := bey_wrap ha hb hp
  have E := bey_neg a b p
  refine rbeyond_raw _ _ _ _ _ _ _ _ _ _ _ _ _ _ _ _ _ _ _ _ _ _ r w W.u1 W.u2 W.d1 W.d2 W.n W.d (.inl ⟨hu, W.n', W.d'⟩) W.l' W.r' ?_
  rw [← hr]
  exact decide_eq_decide.2 ⟨fun h => by omega, fun h => by omega⟩
theorem rfraccmp_c (n d n' d' c : Int) (w : World) (h : Right n d) (h' : Right n' d') (hc : cmpI (n * d') (n' * d) = c) :
    Calls Tryd.prog 37 #[.agg #[.int .i64 n, .int .i64 d], .agg #[.int .i64 n', .int .i64 d']] w fun e w' => e = .returned (.int .i64 c) ∧ Below w.heap.size w w' := by
  rw [← hc]
  exact rfraccmp_any n d n' d' _ _ w h h' rfl rfl

/-- One edge: what the reference counts. -/
theorem edge_cases (a b p : Pt) : (decide (p.yn * a.yd < a.yn * p.yd) = decide (p.yn * b.yd < b.yn * p.yd) ∧ crossPt a b p = 0) ∨
    (¬ p.yn * a.yd < a.yn * p.yd ∧ p.yn * b.yd < b.yn * p.yd ∧ ((0 < sideI a b p ∧ crossPt a b p = 1) ∨ (¬ 0 < sideI a b p ∧ crossPt a b p = 0))) ∨
    (p.yn * a.yd < a.yn * p.yd ∧ ¬ p.yn * b.yd < b.yn * p.yd ∧ ((sideI a b p < 0 ∧ crossPt a b p = -1) ∨ (¬ sideI a b p < 0 ∧ crossPt a b p = 0))) := by
  unfold crossPt crossB
  by_cases h1 : p.yn * a.yd < a.yn * p.yd <;> by_cases h2 : p.yn * b.yd < b.yn * p.yd
  · left; simp [h1, h2]
  · right; right
    refine ⟨h1, h2, ?_⟩
    by_cases h3 : sideI a b p < 0 <;> simp [h1, h2, h3]
  · right; left
    refine ⟨h1, h2, ?_⟩
    by_cases h3 : 0 < sideI a b p <;> simp [h1, h2, h3]
  · left; simp [h1, h2]

set_option maxHeartbeats 4000000 in
set_option maxRecDepth 100000 in
theorem rcrossings_some (ps : List Pt) (p : Pt) (b off len cap : Nat) (w : World) (hs : SlP w (some ⟨b, off, none⟩) len cap ps) (hall : ∀ q ∈ ps, PtOk q) (hp : PtOk p) (h30 : ps.length ≤ 30) :
    Calls Tryd.prog 49 #[.slice (some ⟨b, off, none⟩) len cap, .agg #[.int .i64 p.xn, .int .i64 p.xd, .int .i64 p.yn, .int .i64 p.yd]] w fun e w' => e = .returned (.tuple #[.int .i64 (crsTo ps p ps.length).length, .int .i64 (crsTo ps p ps.length).sum]) ∧ Below w.heap.size w w' := by
  obtain ⟨hl, hlc, hm, hI, hcase⟩ := hs
  obtain ⟨hbl, hpt⟩ : b < w.heap.size ∧ PtsIn w b off ps := by
    rcases hcase with ⟨h, _⟩ | ⟨b', off', h, h1, h2⟩
    · cases h
    · cases h; exact ⟨h1, h2⟩
  clear hcase
  unfold maxLen at hm
  have H_hl := Lib.hid hl
  clear hl
  have H_hpt := Lib.hid hpt
  clear hpt
  go_enter Tryd.func49, Tryd.ntmps49
  go_wp2_with fail
  go_loopw [6, 7, 8] (fun mv sv i wr => ∃ k : Nat, k ≤ len ∧ i = .int .i64 k ∧ mv = .int .i64 (crsTo ps p k).length ∧ sv = .int .i64 (crsTo ps p k).sum ∧ Below (w.heap.size + 1) (w.alloc (.cells #[.int .i64 p.xn, .int .i64 p.xd, .int .i64 p.yn, .int .i64 p.yd] 80)) wr) (fun _ _ i _ => len - (intOf i).toNat)
  case atStart => exact ⟨0, Nat.zero_le _, rfl, rfl, rfl, Below.refl _ _⟩
  case round =>
    obtain ⟨k, hk, rfl, rfl, rfl, hB0⟩ := hrel
    have hB : Below w.heap.size w wr := ((Below.refl _ _).alloc (Nat.le_refl _) _).trans (hB0.mono (by omega))
    have hzr := hB0.size
    simp only [World.size_alloc] at hzr
    have o0 : ∀ j, wr.cell? ⟨w.heap.size, j, none⟩ = #[Value.int .i64 p.xn, .int .i64 p.xd, .int .i64 p.yn, .int .i64 p.yd][j]? := fun j => by rw [hB0.cell (by simp)]; exact World.cell?_alloc_new _ _ _ _
    have s0 : w.heap.size < wr.heap.size := by omega
    by_cases hlt : k < len
    · have hk' : k < ps.length := by have := H_hl.out; omega
      obtain ⟨m, hm0⟩ : ∃ m : Nat, (k + 1) % len = m := ⟨_, rfl⟩
      have hml : m < len := by rw [← hm0]; exact Nat.mod_lt _ (by omega)
      have hm' : m < ps.length := by have := H_hl.out; omega
      have q0 := gkeep hB (H_hpt.out.c0 k hk') rfl
      have q1 := gkeep hB (H_hpt.out.c1 k hk') rfl
      have q2 := gkeep hB (H_hpt.out.c2 k hk') rfl
      have q3 := gkeep hB (H_hpt.out.c3 k hk') rfl
      have n0 := gkeep hB (H_hpt.out.c0 m hm') rfl
      have n1 := gkeep hB (H_hpt.out.c1 m hm') rfl
      have n2 := gkeep hB (H_hpt.out.c2 m hm') rfl
      have n3 := gkeep hB (H_hpt.out.c3 m hm') rfl
      have hok1 := hall _ (List.getElem_mem hk')
      have hok2 := hall _ (List.getElem_mem hm')
      have hsucc := crsTo_succ ps p k
      have hlenk := crsTo_len ps p k
      have hsb := sum_bound (crsTo_bound ps p k)
      have e1 : ps.getD k zpt = ps[k] := by simp [hk']
      have e2 : ps.getD ((k + 1) % ps.length) zpt = ps[m] := by
        have : (k + 1) % ps.length = m := by rw [← hm0, H_hl.out]
        rw [this]; simp [hm']
      rw [e1, e2] at hsucc
      clear e1 e2
      obtain ⟨a, ha⟩ : ∃ a, ps[k] = a := ⟨_, rfl⟩
      obtain ⟨a', ha'⟩ : ∃ a, ps[m] = a := ⟨_, rfl⟩
      rw [ha] at q0 q1 q2 q3 hok1 hsucc
      rw [ha'] at n0 n1 n2 n3 hok2 hsucc
      clear ha ha'
      have hcs : ∀ c, crossPt a a' p = c → (crsTo ps p (k + 1)).length = (crsTo ps p k).length + (if c = 0 then 0 else 1) ∧ (crsTo ps p (k + 1)).sum = (crsTo ps p k).sum + c := by
        intro c hc
        rw [hsucc, hc, List.length_append, List.sum_append]
        by_cases h0 : c = 0
        · rw [if_pos h0, if_pos h0, h0]; exact ⟨rfl, by simp⟩
        · rw [if_neg h0, if_neg h0]; exact ⟨rfl, by simp⟩
      have i1 : IntKind.i64.wrap ((k : Int) + 1) = (k : Int) + 1 := IntWalk.i64_in _ (by omega)
      have i2 : ((k : Int) + 1).tmod (len : Int) = (m : Int) := by
        rw [Int.tmod_eq_emod_of_nonneg (by omega), ← hm0]; norm_cast
      have i3 : (m : Int) < (len : Int) := by omega
      have i4 : ¬ len = 0 := by omega
      have i5 : ((len : Int) == 0) = false := by simp; omega
      have hed := edge_cases a a' p
      have hd1 := cmp_le (x := a.yn * p.yd) (y := p.yn * a.yd)
      have hd2 := cmp_le (x := a'.yn * p.yd) (y := p.yn * a'.yd)
      obtain ⟨c1, hc1⟩ : ∃ c, cmpI (a.yn * p.yd) (p.yn * a.yd) = c := ⟨_, rfl⟩
      obtain ⟨c2, hc2⟩ : ∃ c, cmpI (a'.yn * p.yd) (p.yn * a'.yd) = c := ⟨_, rfl⟩
      rw [hc1] at hd1
      rw [hc2] at hd2
      clear hsucc
      generalize (crsTo ps p k).sum = s at *
      generalize (crsTo ps p k).length = t at *
      have hcs' : ∀ c : Int, ∀ d : Nat, crossPt a a' p = c → (if c = 0 then 0 else 1) = d → ((crsTo ps p (k + 1)).length : Int) = t + d ∧ (crsTo ps p (k + 1)).sum = s + c := fun c d h1 h2 => ⟨by rw [(hcs c h1).1, h2]; rfl, (hcs c h1).2⟩
      clear hcs
      have hbr : b < wr.heap.size := by omega
      have hbr' : ¬ wr.heap.size = b := by omega
      obtain ⟨w0, hw0⟩ : ∃ u, w.alloc (.cells #[.int .i64 p.xn, .int .i64 p.xd, .int .i64 p.yn, .int .i64 p.yd] 80) = u := ⟨_, rfl⟩
      have hz0 : w0.heap.size = w.heap.size + 1 := by rw [← hw0]; simp
      rw [hw0, ← hz0] at hB0
      have hz0' : w0.heap.size ≤ wr.heap.size := by omega
      rcases hed with ⟨hed, hcr⟩ | ⟨h1, h2, ⟨hsd, hcr⟩ | ⟨hsd, hcr⟩⟩ | ⟨h1, h2, ⟨hsd, hcr⟩ | ⟨hsd, hcr⟩⟩
      · rw [decide_eq_decide] at hed
        by_cases h1 : p.yn * a.yd < a.yn * p.yd
        · have h2 := hed.1 h1
          have f1 : ¬ c1 ≤ 0 := by omega
          have f2 : ¬ c2 ≤ 0 := by omega
          have H_h1 := Lib.hid h1
          clear h1
          have H_h2 := Lib.hid h2
          clear h2
          obtain ⟨hL, hT⟩ := hcs' 0 0 hcr rfl
          have g12 : (decide (c1 ≤ 0) == decide (c2 ≤ 0)) = true := by simp [f1, f2]
          have H_hed := Lib.hid hed
          clear hed
          have H_hd1 := Lib.hid hd1
          clear hd1
          have H_hd2 := Lib.hid hd2
          clear hd2
          have H_hc1 := Lib.hid hc1
          clear hc1
          have H_hc2 := Lib.hid hc2
          clear hc2
          have H_hcs' := Lib.hid hcs'
          clear hcs'
          have H_hw0 := Lib.hid hw0
          clear hw0
          have H_hz0 := Lib.hid hz0
          clear hz0
          have H_hm0 := Lib.hid hm0
          clear hm0
          have H_hL := Lib.hid hL
          clear hL
          have H_hT := Lib.hid hT
          clear hT
          have H_hcr := Lib.hid hcr
          clear hcr
          go_wp2_with fail
          go_wp2_with fail
          refine call_bel (w := w) (by repeat' (first | (with_reducible first | exact bwR _ _ | assumption | refine bdn ?_ | refine bwA ?_ ?_ _ | refine bwD ?_ | refine bwS ?_ ?_ _) | omega | (simp <;> omega))) (fun HB => rfraccmp_c a.yn a.yd p.yn p.yd c1 _ hok1.y hp.y H_hc1.out) ?_
          intro w1 hb1 hz1 c1 d1 hW1
          have t1 := hb1.size
          have e1_0 : Below w0.heap.size w0 w1 := below_via (by repeat' (first | (with_reducible first | exact bwR _ _ | assumption | refine bdn ?_ | refine bwA ?_ ?_ _ | refine bwD ?_ | refine bwS ?_ ?_ _) | omega | (simp <;> omega))) hW1
          have te1_0 := e1_0.size
          try simp only [szA] at hz1 c1 d1
          try simp only [szD] at hz1 c1 d1
          try simp only [szS] at hz1 c1 d1
          try simp only [World.heap_drewN] at hz1 c1 d1
          try simp only [szA] at hz1 c1 d1
          try simp only [szD] at hz1 c1 d1
          try simp only [szS] at hz1 c1 d1
          have s1_0 : w.heap.size < w1.heap.size := by omega
          have o1_0 := fun j => c1 (w.heap.size) j (by omega)
          have f1_0 := fun j => d1 (w.heap.size) j (by omega)
          have s1_1 : wr.heap.size < w1.heap.size := by omega
          have o1_1 := fun j => c1 (wr.heap.size) j (by omega)
          have f1_1 := fun j => d1 (wr.heap.size) j (by omega)
          have s1_2 : wr.heap.size + 1 < w1.heap.size := by omega
          have o1_2 := fun j => c1 (wr.heap.size + 1) j (by omega)
          have f1_2 := fun j => d1 (wr.heap.size + 1) j (by omega)
          clear c1 d1 hz1 hW1
          go_wp2_with fail
          refine call_bel (w := w) (by repeat' (first | (with_reducible first | exact bwR _ _ | assumption | refine bdn ?_ | refine bwA ?_ ?_ _ | refine bwD ?_ | refine bwS ?_ ?_ _) | omega | (simp <;> omega))) (fun HB => rfraccmp_c a'.yn a'.yd p.yn p.yd c2 _ hok2.y hp.y H_hc2.out) ?_
          intro w2 hb2 hz2 c2 d2 hW2
          have t2 := hb2.size
          have e2_0 : Below w0.heap.size w0 w2 := below_via (by repeat' (first | (with_reducible first | exact bwR _ _ | assumption | refine bdn ?_ | refine bwA ?_ ?_ _ | refine bwD ?_ | refine bwS ?_ ?_ _) | omega | (simp <;> omega))) hW2
          have te2_0 := e2_0.size
          try simp only [szA] at hz2 c2 d2
          try simp only [szD] at hz2 c2 d2
          try simp only [szS] at hz2 c2 d2
          try simp only [World.heap_drewN] at hz2 c2 d2
          try simp only [szA] at hz2 c2 d2
          try simp only [szD] at hz2 c2 d2
          try simp only [szS] at hz2 c2 d2
          have s2_0 : w.heap.size < w2.heap.size := by omega
          have o2_0 := fun j => c2 (w.heap.size) j (by omega)
          have f2_0 := fun j => d2 (w.heap.size) j (by omega)
          have s2_1 : wr.heap.size < w2.heap.size := by omega
          have o2_1 := fun j => c2 (wr.heap.size) j (by omega)
          have f2_1 := fun j => d2 (wr.heap.size) j (by omega)
          have s2_2 : wr.heap.size + 1 < w2.heap.size := by omega
          have o2_2 := fun j => c2 (wr.heap.size + 1) j (by omega)
          have f2_2 := fun j => d2 (wr.heap.size + 1) j (by omega)
          clear c2 d2 hz2 hW2
          go_wp2_with fail
          go_roundw
          case rel => exact ⟨k + 1, by omega, by go_num, by first | (rw [H_hL.out]; done) | (rw [H_hL.out]; simp), by first | (rw [H_hT.out]; done) | (rw [H_hT.out]; simp; done) | (rw [H_hT.out]; rfl), by rw [H_hw0.out, ← H_hz0.out]; exact e2_0⟩
          case measure => simp [intOf]; omega
        · have h2 : ¬ p.yn * a'.yd < a'.yn * p.yd := fun h => h1 (hed.2 h)
          have f1 : c1 ≤ 0 := by omega
          have f2 : c2 ≤ 0 := by omega
          have H_h1 := Lib.hid h1
          clear h1
          have H_h2 := Lib.hid h2
          clear h2
          obtain ⟨hL, hT⟩ := hcs' 0 0 hcr rfl
          have g12 : (decide (c1 ≤ 0) == decide (c2 ≤ 0)) = true := by simp [f1, f2]
          have H_hed := Lib.hid hed
          clear hed
          have H_hd1 := Lib.hid hd1
          clear hd1
          have H_hd2 := Lib.hid hd2
          clear hd2
          have H_hc1 := Lib.hid hc1
          clear hc1
          have H_hc2 := Lib.hid hc2
          clear hc2
          have H_hcs' := Lib.hid hcs'
          clear hcs'
          have H_hw0 := Lib.hid hw0
          clear hw0
          have H_hz0 := Lib.hid hz0
          clear hz0
          have H_hm0 := Lib.hid hm0
          clear hm0
          have H_hL := Lib.hid hL
          clear hL
          have H_hT := Lib.hid hT
          clear hT
          have H_hcr := Lib.hid hcr
          clear hcr
          go_wp2_with fail
          go_wp2_with fail
          refine call_bel (w := w) (by repeat' (first | (with_reducible first | exact bwR _ _ | assumption | refine bdn ?_ | refine bwA ?_ ?_ _ | refine bwD ?_ | refine bwS ?_ ?_ _) | omega | (simp <;> omega))) (fun HB => rfraccmp_c a.yn a.yd p.yn p.yd c1 _ hok1.y hp.y H_hc1.out) ?_
          intro w1 hb1 hz1 c1 d1 hW1
          have t1 := hb1.size
          have e1_0 : Below w0.heap.size w0 w1 := below_via (by repeat' (first | (with_reducible first | exact bwR _ _ | assumption | refine bdn ?_ | refine bwA ?_ ?_ _ | refine bwD ?_ | refine bwS ?_ ?_ _) | omega | (simp <;> omega))) hW1
          have te1_0 := e1_0.size
          try simp only [szA] at hz1 c1 d1
          try simp only [szD] at hz1 c1 d1
          try simp only [szS] at hz1 c1 d1
          try simp only [World.heap_drewN] at hz1 c1 d1
          try simp only [szA] at hz1 c1 d1
          try simp only [szD] at hz1 c1 d1
          try simp only [szS] at hz1 c1 d1
          have s1_0 : w.heap.size < w1.heap.size := by omega
          have o1_0 := fun j => c1 (w.heap.size) j (by omega)
          have f1_0 := fun j => d1 (w.heap.size) j (by omega)
          have s1_1 : wr.heap.size < w1.heap.size := by omega
          have o1_1 := fun j => c1 (wr.heap.size) j (by omega)
          have f1_1 := fun j => d1 (wr.heap.size) j (by omega)
          have s1_2 : wr.heap.size + 1 < w1.heap.size := by omega
          have o1_2 := fun j => c1 (wr.heap.size + 1) j (by omega)
          have f1_2 := fun j => d1 (wr.heap.size + 1) j (by omega)
          clear c1 d1 hz1 hW1
          go_wp2_with fail
          refine call_bel (w := w) (by repeat' (first | (with_reducible first | exact bwR _ _ | assumption | refine bdn ?_ | refine bwA ?_ ?_ _ | refine bwD ?_ | refine bwS ?_ ?_ _) | omega | (simp <;> omega))) (fun HB => rfraccmp_c a'.yn a'.yd p.yn p.yd c2 _ hok2.y hp.y H_hc2.out) ?_
          intro w2 hb2 hz2 c2 d2 hW2
          have t2 := hb2.size
          have e2_0 : Below w0.heap.size w0 w2 := below_via (by repeat' (first | (with_reducible first | exact bwR _ _ | assumption | refine bdn ?_ | refine bwA ?_ ?_ _ | refine bwD ?_ | refine bwS ?_ ?_ _) | omega | (simp <;> omega))) hW2
          have te2_0 := e2_0.size
          try simp only [szA] at hz2 c2 d2
          try simp only [szD] at hz2 c2 d2
          try simp only [szS] at hz2 c2 d2
          try simp only [World.heap_drewN] at hz2 c2 d2
          try simp only [szA] at hz2 c2 d2
          try simp only [szD] at hz2 c2 d2
          try simp only [szS] at hz2 c2 d2
          have s2_0 : w.heap.size < w2.heap.size := by omega
          have o2_0 := fun j => c2 (w.heap.size) j (by omega)
          have f2_0 := fun j => d2 (w.heap.size) j (by omega)
          have s2_1 : wr.heap.size < w2.heap.size := by omega
          have o2_1 := fun j => c2 (wr.heap.size) j (by omega)
          have f2_1 := fun j => d2 (wr.heap.size) j (by omega)
          have s2_2 : wr.heap.size + 1 < w2.heap.size := by omega
          have o2_2 := fun j => c2 (wr.heap.size + 1) j (by omega)
          have f2_2 := fun j => d2 (wr.heap.size + 1) j (by omega)
          clear c2 d2 hz2 hW2
          go_wp2_with fail
          go_roundw
          case rel => exact ⟨k + 1, by omega, by go_num, by first | (rw [H_hL.out]; done) | (rw [H_hL.out]; simp), by first | (rw [H_hT.out]; done) | (rw [H_hT.out]; simp; done) | (rw [H_hT.out]; rfl), by rw [H_hw0.out, ← H_hz0.out]; exact e2_0⟩
          case measure => simp [intOf]; omega
      · have f1 : c1 ≤ 0 := by omega
        have f2 : ¬ c2 ≤ 0 := by omega
        obtain ⟨hL, hT⟩ := hcs' (1) 1 hcr rfl
        have hr : decide (0 < sideI a a' p) = true := by simp only [hsd]; rfl
        have hby := fun W => rbeyond_up a a' p true W hok1 hok2 hp h1 h2 hr
        have H_hd1 := Lib.hid hd1
        clear hd1
        have H_hd2 := Lib.hid hd2
        clear hd2
        have H_hc1 := Lib.hid hc1
        clear hc1
        have H_hc2 := Lib.hid hc2
        clear hc2
        have H_hcs' := Lib.hid hcs'
        clear hcs'
        have H_hw0 := Lib.hid hw0
        clear hw0
        have H_hz0 := Lib.hid hz0
        clear hz0
        have H_hm0 := Lib.hid hm0
        clear hm0
        have H_hL := Lib.hid hL
        clear hL
        have H_hT := Lib.hid hT
        clear hT
        have H_hcr := Lib.hid hcr
        clear hcr
        have H_hsd := Lib.hid hsd
        clear hsd
        have H_hr := Lib.hid hr
        clear hr
        have H_h1 := Lib.hid h1
        clear h1
        have H_h2 := Lib.hid h2
        clear h2
        have H_hby := Lib.hid hby
        clear hby
        go_wp2_with fail
        go_wp2_with fail
        refine call_bel (w := w) (by repeat' (first | (with_reducible first | exact bwR _ _ | assumption | refine bdn ?_ | refine bwA ?_ ?_ _ | refine bwD ?_ | refine bwS ?_ ?_ _) | omega | (simp <;> omega))) (fun HB => rfraccmp_c a.yn a.yd p.yn p.yd c1 _ hok1.y hp.y H_hc1.out) ?_
        intro w1 hb1 hz1 c1 d1 hW1
        have t1 := hb1.size
        have e1_0 : Below w0.heap.size w0 w1 := below_via (by repeat' (first | (with_reducible first | exact bwR _ _ | assumption | refine bdn ?_ | refine bwA ?_ ?_ _ | refine bwD ?_ | refine bwS ?_ ?_ _) | omega | (simp <;> omega))) hW1
        have te1_0 := e1_0.size
        try simp only [szA] at hz1 c1 d1
        try simp only [szD] at hz1 c1 d1
        try simp only [szS] at hz1 c1 d1
        try simp only [World.heap_drewN] at hz1 c1 d1
        try simp only [szA] at hz1 c1 d1
        try simp only [szD] at hz1 c1 d1
        try simp only [szS] at hz1 c1 d1
        have s1_0 : w.heap.size < w1.heap.size := by omega
        have o1_0 := fun j => c1 (w.heap.size) j (by omega)
        have f1_0 := fun j => d1 (w.heap.size) j (by omega)
        have s1_1 : wr.heap.size < w1.heap.size := by omega
        have o1_1 := fun j => c1 (wr.heap.size) j (by omega)
        have f1_1 := fun j => d1 (wr.heap.size) j (by omega)
        have s1_2 : wr.heap.size + 1 < w1.heap.size := by omega
        have o1_2 := fun j => c1 (wr.heap.size + 1) j (by omega)
        have f1_2 := fun j => d1 (wr.heap.size + 1) j (by omega)
        clear c1 d1 hz1 hW1
        go_wp2_with fail
        refine call_bel (w := w) (by repeat' (first | (with_reducible first | exact bwR _ _ | assumption | refine bdn ?_ | refine bwA ?_ ?_ _ | refine bwD ?_ | refine bwS ?_ ?_ _) | omega | (simp <;> omega))) (fun HB => rfraccmp_c a'.yn a'.yd p.yn p.yd c2 _ hok2.y hp.y H_hc2.out) ?_
        intro w2 hb2 hz2 c2 d2 hW2
        have t2 := hb2.size
        have e2_0 : Below w0.heap.size w0 w2 := below_via (by repeat' (first | (with_reducible first | exact bwR _ _ | assumption | refine bdn ?_ | refine bwA ?_ ?_ _ | refine bwD ?_ | refine bwS ?_ ?_ _) | omega | (simp <;> omega))) hW2
        have te2_0 := e2_0.size
        try simp only [szA] at hz2 c2 d2
        try simp only [szD] at hz2 c2 d2
        try simp only [szS] at hz2 c2 d2
        try simp only [World.heap_drewN] at hz2 c2 d2
        try simp only [szA] at hz2 c2 d2
        try simp only [szD] at hz2 c2 d2
        try simp only [szS] at hz2 c2 d2
        have s2_0 : w.heap.size < w2.heap.size := by omega
        have o2_0 := fun j => c2 (w.heap.size) j (by omega)
        have f2_0 := fun j => d2 (w.heap.size) j (by omega)
        have s2_1 : wr.heap.size < w2.heap.size := by omega
        have o2_1 := fun j => c2 (wr.heap.size) j (by omega)
        have f2_1 := fun j => d2 (wr.heap.size) j (by omega)
        have s2_2 : wr.heap.size + 1 < w2.heap.size := by omega
        have o2_2 := fun j => c2 (wr.heap.size + 1) j (by omega)
        have f2_2 := fun j => d2 (wr.heap.size + 1) j (by omega)
        clear c2 d2 hz2 hW2
        go_wp2_with fail
        refine call_bel (w := w) (by repeat' (first | (with_reducible first | exact bwR _ _ | assumption | refine bdn ?_ | refine bwA ?_ ?_ _ | refine bwD ?_ | refine bwS ?_ ?_ _) | omega | (simp <;> omega))) (fun HB => H_hby.out _) ?_
        intro w3 hb3 hz3 c3 d3 hW3
        have t3 := hb3.size
        have e3_0 : Below w0.heap.size w0 w3 := below_via (by repeat' (first | (with_reducible first | exact bwR _ _ | assumption | refine bdn ?_ | refine bwA ?_ ?_ _ | refine bwD ?_ | refine bwS ?_ ?_ _) | omega | (simp <;> omega))) hW3
        have te3_0 := e3_0.size
        try simp only [szA] at hz3 c3 d3
        try simp only [szD] at hz3 c3 d3
        try simp only [szS] at hz3 c3 d3
        try simp only [World.heap_drewN] at hz3 c3 d3
        try simp only [szA] at hz3 c3 d3
        try simp only [szD] at hz3 c3 d3
        try simp only [szS] at hz3 c3 d3
        have s3_0 : w.heap.size < w3.heap.size := by omega
        have o3_0 := fun j => c3 (w.heap.size) j (by omega)
        have f3_0 := fun j => d3 (w.heap.size) j (by omega)
        clear c3 d3 hz3 hW3
        go_wp2_with fail
        go_roundw
        case rel => exact ⟨k + 1, by omega, by go_num, by first | (rw [H_hL.out]; done) | (rw [H_hL.out]; simp), by first | (rw [H_hT.out]; done) | (rw [H_hT.out]; simp; done) | (rw [H_hT.out]; rfl), by rw [H_hw0.out, ← H_hz0.out]; exact e3_0⟩
        case measure => simp [intOf]; omega
      · have f1 : c1 ≤ 0 := by omega
        have f2 : ¬ c2 ≤ 0 := by omega
        obtain ⟨hL, hT⟩ := hcs' (0) 0 hcr rfl
        have hr : decide (0 < sideI a a' p) = false := by simp only [hsd]; rfl
        have hby := fun W => rbeyond_up a a' p false W hok1 hok2 hp h1 h2 hr
        have H_hd1 := Lib.hid hd1
        clear hd1
        have H_hd2 := Lib.hid hd2
        clear hd2
        have H_hc1 := Lib.hid hc1
        clear hc1
        have H_hc2 := Lib.hid hc2
        clear hc2
        have H_hcs' := Lib.hid hcs'
        clear hcs'
        have H_hw0 := Lib.hid hw0
        clear hw0
        have H_hz0 := Lib.hid hz0
        clear hz0
        have H_hm0 := Lib.hid hm0
        clear hm0
        have H_hL := Lib.hid hL
        clear hL
        have H_hT := Lib.hid hT
        clear hT
        have H_hcr := Lib.hid hcr
        clear hcr
        have H_hsd := Lib.hid hsd
        clear hsd
        have H_hr := Lib.hid hr
        clear hr
        have H_h1 := Lib.hid h1
        clear h1
        have H_h2 := Lib.hid h2
        clear h2
        have H_hby := Lib.hid hby
        clear hby
        go_wp2_with fail
        go_wp2_with fail
        refine call_bel (w := w) (by repeat' (first | (with_reducible first | exact bwR _ _ | assumption | refine bdn ?_ | refine bwA ?_ ?_ _ | refine bwD ?_ | refine bwS ?_ ?_ _) | omega | (simp <;> omega))) (fun HB => rfraccmp_c a.yn a.yd p.yn p.yd c1 _ hok1.y hp.y H_hc1.out) ?_
        intro w1 hb1 hz1 c1 d1 hW1
        have t1 := hb1.size
        have e1_0 : Below w0.heap.size w0 w1 := below_via (by repeat' (first | (with_reducible first | exact bwR _ _ | assumption | refine bdn ?_ | refine bwA ?_ ?_ _ | refine bwD ?_ | refine bwS ?_ ?_ _) | omega | (simp <;> omega))) hW1
        have te1_0 := e1_0.size
        try simp only [szA] at hz1 c1 d1
        try simp only [szD] at hz1 c1 d1
        try simp only [szS] at hz1 c1 d1
        try simp only [World.heap_drewN] at hz1 c1 d1
        try simp only [szA] at hz1 c1 d1
        try simp only [szD] at hz1 c1 d1
        try simp only [szS] at hz1 c1 d1
        have s1_0 : w.heap.size < w1.heap.size := by omega
        have o1_0 := fun j => c1 (w.heap.size) j (by omega)
        have f1_0 := fun j => d1 (w.heap.size) j (by omega)
        have s1_1 : wr.heap.size < w1.heap.size := by omega
        have o1_1 := fun j => c1 (wr.heap.size) j (by omega)
        have f1_1 := fun j => d1 (wr.heap.size) j (by omega)
        have s1_2 : wr.heap.size + 1 < w1.heap.size := by omega
        have o1_2 := fun j => c1 (wr.heap.size + 1) j (by omega)
        have f1_2 := fun j => d1 (wr.heap.size + 1) j (by omega)
        clear c1 d1 hz1 hW1
        go_wp2_with fail
        refine call_bel (w := w) (by repeat' (first | (with_reducible first | exact bwR _ _ | assumption | refine bdn ?_ | refine bwA ?_ ?_ _ | refine bwD ?_ | refine bwS ?_ ?_ _) | omega | (simp <;> omega))) (fun HB => rfraccmp_c a'.yn a'.yd p.yn p.yd c2 _ hok2.y hp.y H_hc2.out) ?_
        intro w2 hb2 hz2 c2 d2 hW2
        have t2 := hb2.size
        have e2_0 : Below w0.heap.size w0 w2 := below_via (by repeat' (first | (with_reducible first | exact bwR _ _ | assumption | refine bdn ?_ | refine bwA ?_ ?_ _ | refine bwD ?_ | refine bwS ?_ ?_ _) | omega | (simp <;> omega))) hW2
        have te2_0 := e2_0.size
        try simp only [szA] at hz2 c2 d2
        try simp only [szD] at hz2 c2 d2
        try simp only [szS] at hz2 c2 d2
        try simp only [World.heap_drewN] at hz2 c2 d2
        try simp only [szA] at hz2 c2 d2
        try simp only [szD] at hz2 c2 d2
        try simp only [szS] at hz2 c2 d2
        have s2_0 : w.heap.size < w2.heap.size := by omega
        have o2_0 := fun j => c2 (w.heap.size) j (by omega)
        have f2_0 := fun j => d2 (w.heap.size) j (by omega)
        have s2_1 : wr.heap.size < w2.heap.size := by omega
        have o2_1 := fun j => c2 (wr.heap.size) j (by omega)
        have f2_1 := fun j => d2 (wr.heap.size) j (by omega)
        have s2_2 : wr.heap.size + 1 < w2.heap.size := by omega
        have o2_2 := fun j => c2 (wr.heap.size + 1) j (by omega)
        have f2_2 := fun j => d2 (wr.heap.size + 1) j (by omega)
        clear c2 d2 hz2 hW2
        go_wp2_with fail
        refine call_bel (w := w) (by repeat' (first | (with_reducible first | exact bwR _ _ | assumption | refine bdn ?_ | refine bwA ?_ ?_ _ | refine bwD ?_ | refine bwS ?_ ?_ _) | omega | (simp <;> omega))) (fun HB => H_hby.out _) ?_
        intro w3 hb3 hz3 c3 d3 hW3
        have t3 := hb3.size
        have e3_0 : Below w0.heap.size w0 w3 := below_via (by repeat' (first | (with_reducible first | exact bwR _ _ | assumption | refine bdn ?_ | refine bwA ?_ ?_ _ | refine bwD ?_ | refine bwS ?_ ?_ _) | omega | (simp <;> omega))) hW3
        have te3_0 := e3_0.size
        try simp only [szA] at hz3 c3 d3
        try simp only [szD] at hz3 c3 d3
        try simp only [szS] at hz3 c3 d3
        try simp only [World.heap_drewN] at hz3 c3 d3
        try simp only [szA] at hz3 c3 d3
        try simp only [szD] at hz3 c3 d3
        try simp only [szS] at hz3 c3 d3
        have s3_0 : w.heap.size < w3.heap.size := by omega
        have o3_0 := fun j => c3 (w.heap.size) j (by omega)
        have f3_0 := fun j => d3 (w.heap.size) j (by omega)
        clear c3 d3 hz3 hW3
        go_wp2_with fail
        go_roundw
        case rel => exact ⟨k + 1, by omega, by go_num, by first | (rw [H_hL.out]; done) | (rw [H_hL.out]; simp), by first | (rw [H_hT.out]; done) | (rw [H_hT.out]; simp; done) | (rw [H_hT.out]; rfl), by rw [H_hw0.out, ← H_hz0.out]; exact e3_0⟩
        case measure => simp [intOf]; omega
      · have f1 : ¬ c1 ≤ 0 := by omega
        have f2 : c2 ≤ 0 := by omega
        obtain ⟨hL, hT⟩ := hcs' (-1) 1 hcr rfl
        have hr : decide (sideI a a' p < 0) = true := by simp only [hsd]; rfl
        have hby := fun W => rbeyond_down a a' p true W hok1 hok2 hp h1 h2 hr
        have H_hd1 := Lib.hid hd1
        clear hd1
        have H_hd2 := Lib.hid hd2
        clear hd2
        have H_hc1 := Lib.hid hc1
        clear hc1
        have H_hc2 := Lib.hid hc2
        clear hc2
        have H_hcs' := Lib.hid hcs'
        clear hcs'
        have H_hw0 := Lib.hid hw0
        clear hw0
        have H_hz0 := Lib.hid hz0
        clear hz0
        have H_hm0 := Lib.hid hm0
        clear hm0
        have H_hL := Lib.hid hL
        clear hL
        have H_hT := Lib.hid hT
        clear hT
        have H_hcr := Lib.hid hcr
        clear hcr
        have H_hsd := Lib.hid hsd
        clear hsd
        have H_hr := Lib.hid hr
        clear hr
        have H_h1 := Lib.hid h1
        clear h1
        have H_h2 := Lib.hid h2
        clear h2
        have H_hby := Lib.hid hby
        clear hby
        go_wp2_with fail
        go_wp2_with fail
        refine call_bel (w := w) (by repeat' (first | (with_reducible first | exact bwR _ _ | assumption | refine bdn ?_ | refine bwA ?_ ?_ _ | refine bwD ?_ | refine bwS ?_ ?_ _) | omega | (simp <;> omega))) (fun HB => rfraccmp_c a.yn a.yd p.yn p.yd c1 _ hok1.y hp.y H_hc1.out) ?_
        intro w1 hb1 hz1 c1 d1 hW1
        have t1 := hb1.size
        have e1_0 : Below w0.heap.size w0 w1 := below_via (by repeat' (first | (with_reducible first | exact bwR _ _ | assumption | refine bdn ?_ | refine bwA ?_ ?_ _ | refine bwD ?_ | refine bwS ?_ ?_ _) | omega | (simp <;> omega))) hW1
        have te1_0 := e1_0.size
        try simp only [szA] at hz1 c1 d1
        try simp only [szD] at hz1 c1 d1
        try simp only [szS] at hz1 c1 d1
        try simp only [World.heap_drewN] at hz1 c1 d1
        try simp only [szA] at hz1 c1 d1
        try simp only [szD] at hz1 c1 d1
        try simp only [szS] at hz1 c1 d1
        have s1_0 : w.heap.size < w1.heap.size := by omega
        have o1_0 := fun j => c1 (w.heap.size) j (by omega)
        have f1_0 := fun j => d1 (w.heap.size) j (by omega)
        have s1_1 : wr.heap.size < w1.heap.size := by omega
        have o1_1 := fun j => c1 (wr.heap.size) j (by omega)
        have f1_1 := fun j => d1 (wr.heap.size) j (by omega)
        have s1_2 : wr.heap.size + 1 < w1.heap.size := by omega
        have o1_2 := fun j => c1 (wr.heap.size + 1) j (by omega)
        have f1_2 := fun j => d1 (wr.heap.size + 1) j (by omega)
        clear c1 d1 hz1 hW1
        go_wp2_with fail
        refine call_bel (w := w) (by repeat' (first | (with_reducible first | exact bwR _ _ | assumption | refine bdn ?_ | refine bwA ?_ ?_ _ | refine bwD ?_ | refine bwS ?_ ?_ _) | omega | (simp <;> omega))) (fun HB => rfraccmp_c a'.yn a'.yd p.yn p.yd c2 _ hok2.y hp.y H_hc2.out) ?_
        intro w2 hb2 hz2 c2 d2 hW2
        have t2 := hb2.size
        have e2_0 : Below w0.heap.size w0 w2 := below_via (by repeat' (first | (with_reducible first | exact bwR _ _ | assumption | refine bdn ?_ | refine bwA ?_ ?_ _ | refine bwD ?_ | refine bwS ?_ ?_ _) | omega | (simp <;> omega))) hW2
        have te2_0 := e2_0.size
        try simp only [szA] at hz2 c2 d2
        try simp only [szD] at hz2 c2 d2
        try simp only [szS] at hz2 c2 d2
        try simp only [World.heap_drewN] at hz2 c2 d2
        try simp only [szA] at hz2 c2 d2
        try simp only [szD] at hz2 c2 d2
        try simp only [szS] at hz2 c2 d2
        have s2_0 : w.heap.size < w2.heap.size := by omega
        have o2_0 := fun j => c2 (w.heap.size) j (by omega)
        have f2_0 := fun j => d2 (w.heap.size) j (by omega)
        have s2_1 : wr.heap.size < w2.heap.size := by omega
        have o2_1 := fun j => c2 (wr.heap.size) j (by omega)
        have f2_1 := fun j => d2 (wr.heap.size) j (by omega)
        have s2_2 : wr.heap.size + 1 < w2.heap.size := by omega
        have o2_2 := fun j => c2 (wr.heap.size + 1) j (by omega)
        have f2_2 := fun j => d2 (wr.heap.size + 1) j (by omega)
        clear c2 d2 hz2 hW2
        go_wp2_with fail
        refine call_bel (w := w) (by repeat' (first | (with_reducible first | exact bwR _ _ | assumption | refine bdn ?_ | refine bwA ?_ ?_ _ | refine bwD ?_ | refine bwS ?_ ?_ _) | omega | (simp <;> omega))) (fun HB => H_hby.out _) ?_
        intro w3 hb3 hz3 c3 d3 hW3
        have t3 := hb3.size
        have e3_0 : Below w0.heap.size w0 w3 := below_via (by repeat' (first | (with_reducible first | exact bwR _ _ | assumption | refine bdn ?_ | refine bwA ?_ ?_ _ | refine bwD ?_ | refine bwS ?_ ?_ _) | omega | (simp <;> omega))) hW3
        have te3_0 := e3_0.size
        try simp only [szA] at hz3 c3 d3
        try simp only [szD] at hz3 c3 d3
        try simp only [szS] at hz3 c3 d3
        try simp only [World.heap_drewN] at hz3 c3 d3
        try simp only [szA] at hz3 c3 d3
        try simp only [szD] at hz3 c3 d3
        try simp only [szS] at hz3 c3 d3
        have s3_0 : w.heap.size < w3.heap.size := by omega
        have o3_0 := fun j => c3 (w.heap.size) j (by omega)
        have f3_0 := fun j => d3 (w.heap.size) j (by omega)
        clear c3 d3 hz3 hW3
        go_wp2_with fail
        go_roundw
        case rel => exact ⟨k + 1, by omega, by go_num, by first | (rw [H_hL.out]; done) | (rw [H_hL.out]; simp), by first | (rw [H_hT.out]; done) | (rw [H_hT.out]; simp; done) | (rw [H_hT.out]; rfl), by rw [H_hw0.out, ← H_hz0.out]; exact e3_0⟩
        case measure => simp [intOf]; omega
      · have f1 : ¬ c1 ≤ 0 := by omega
        have f2 : c2 ≤ 0 := by omega
        obtain ⟨hL, hT⟩ := hcs' (0) 0 hcr rfl
        have hr : decide (sideI a a' p < 0) = false := by simp only [hsd]; rfl
        have hby := fun W => rbeyond_down a a' p false W hok1 hok2 hp h1 h2 hr
        have H_hd1 := Lib.hid hd1
        clear hd1
        have H_hd2 := Lib.hid hd2
        clear hd2
        have H_hc1 := Lib.hid hc1
        clear hc1
        have H_hc2 := Lib.hid hc2
        clear hc2
        have H_hcs' := Lib.hid hcs'
        clear hcs'
        have H_hw0 := Lib.hid hw0
        clear hw0
        have H_hz0 := Lib.hid hz0
        clear hz0
        have H_hm0 := Lib.hid hm0
        clear hm0
        have H_hL := Lib.hid hL
        clear hL
        have H_hT := Lib.hid hT
        clear hT
        have H_hcr := Lib.hid hcr
        clear hcr
        have H_hsd := Lib.hid hsd
        clear hsd
        have H_hr := Lib.hid hr
        clear hr
        have H_h1 := Lib.hid h1
        clear h1
        have H_h2 := Lib.hid h2
        clear h2
        have H_hby := Lib.hid hby
        clear hby
        go_wp2_with fail
        go_wp2_with fail
        refine call_bel (w := w) (by repeat' (first | (with_reducible first | exact bwR _ _ | assumption | refine bdn ?_ | refine bwA ?_ ?_ _ | refine bwD ?_ | refine bwS ?_ ?_ _) | omega | (simp <;> omega))) (fun HB => rfraccmp_c a.yn a.yd p.yn p.yd c1 _ hok1.y hp.y H_hc1.out) ?_
        intro w1 hb1 hz1 c1 d1 hW1
        have t1 := hb1.size
        have e1_0 : Below w0.heap.size w0 w1 := below_via (by repeat' (first | (with_reducible first | exact bwR _ _ | assumption | refine bdn ?_ | refine bwA ?_ ?_ _ | refine bwD ?_ | refine bwS ?_ ?_ _) | omega | (simp <;> omega))) hW1
        have te1_0 := e1_0.size
        try simp only [szA] at hz1 c1 d1
        try simp only [szD] at hz1 c1 d1
        try simp only [szS] at hz1 c1 d1
        try simp only [World.heap_drewN] at hz1 c1 d1
        try simp only [szA] at hz1 c1 d1
        try simp only [szD] at hz1 c1 d1
        try simp only [szS] at hz1 c1 d1
        have s1_0 : w.heap.size < w1.heap.size := by omega
        have o1_0 := fun j => c1 (w.heap.size) j (by omega)
        have f1_0 := fun j => d1 (w.heap.size) j (by omega)
        have s1_1 : wr.heap.size < w1.heap.size := by omega
        have o1_1 := fun j => c1 (wr.heap.size) j (by omega)
        have f1_1 := fun j => d1 (wr.heap.size) j (by omega)
        have s1_2 : wr.heap.size + 1 < w1.heap.size := by omega
        have o1_2 := fun j => c1 (wr.heap.size + 1) j (by omega)
        have f1_2 := fun j => d1 (wr.heap.size + 1) j (by omega)
        clear c1 d1 hz1 hW1
        go_wp2_with fail
        refine call_bel (w := w) (by repeat' (first | (with_reducible first | exact bwR _ _ | assumption | refine bdn ?_ | refine bwA ?_ ?_ _ | refine bwD ?_ | refine bwS ?_ ?_ _) | omega | (simp <;> omega))) (fun HB => rfraccmp_c a'.yn a'.yd p.yn p.yd c2 _ hok2.y hp.y H_hc2.out) ?_
        intro w2 hb2 hz2 c2 d2 hW2
        have t2 := hb2.size
        have e2_0 : Below w0.heap.size w0 w2 := below_via (by repeat' (first | (with_reducible first | exact bwR _ _ | assumption | refine bdn ?_ | refine bwA ?_ ?_ _ | refine bwD ?_ | refine bwS ?_ ?_ _) | omega | (simp <;> omega))) hW2
        have te2_0 := e2_0.size
        try simp only [szA] at hz2 c2 d2
        try simp only [szD] at hz2 c2 d2
        try simp only [szS] at hz2 c2 d2
        try simp only [World.heap_drewN] at hz2 c2 d2
        try simp only [szA] at hz2 c2 d2
        try simp only [szD] at hz2 c2 d2
        try simp only [szS] at hz2 c2 d2
        have s2_0 : w.heap.size < w2.heap.size := by omega
        have o2_0 := fun j => c2 (w.heap.size) j (by omega)
        have f2_0 := fun j => d2 (w.heap.size) j (by omega)
        have s2_1 : wr.heap.size < w2.heap.size := by omega
        have o2_1 := fun j => c2 (wr.heap.size) j (by omega)
        have f2_1 := fun j => d2 (wr.heap.size) j (by omega)
        have s2_2 : wr.heap.size + 1 < w2.heap.size := by omega
        have o2_2 := fun j => c2 (wr.heap.size + 1) j (by omega)
        have f2_2 := fun j => d2 (wr.heap.size + 1) j (by omega)
        clear c2 d2 hz2 hW2
        go_wp2_with fail
        refine call_bel (w := w) (by repeat' (first | (with_reducible first | exact bwR _ _ | assumption | refine bdn ?_ | refine bwA ?_ ?_ _ | refine bwD ?_ | refine bwS ?_ ?_ _) | omega | (simp <;> omega))) (fun HB => H_hby.out _) ?_
        intro w3 hb3 hz3 c3 d3 hW3
        have t3 := hb3.size
        have e3_0 : Below w0.heap.size w0 w3 := below_via (by repeat' (first | (with_reducible first | exact bwR _ _ | assumption | refine bdn ?_ | refine bwA ?_ ?_ _ | refine bwD ?_ | refine bwS ?_ ?_ _) | omega | (simp <;> omega))) hW3
        have te3_0 := e3_0.size
        try simp only [szA] at hz3 c3 d3
        try simp only [szD] at hz3 c3 d3
        try simp only [szS] at hz3 c3 d3
        try simp only [World.heap_drewN] at hz3 c3 d3
        try simp only [szA] at hz3 c3 d3
        try simp only [szD] at hz3 c3 d3
        try simp only [szS] at hz3 c3 d3
        have s3_0 : w.heap.size < w3.heap.size := by omega
        have o3_0 := fun j => c3 (w.heap.size) j (by omega)
        have f3_0 := fun j => d3 (w.heap.size) j (by omega)
        clear c3 d3 hz3 hW3
        go_wp2_with fail
        go_roundw
        case rel => exact ⟨k + 1, by omega, by go_num, by first | (rw [H_hL.out]; done) | (rw [H_hL.out]; simp), by first | (rw [H_hT.out]; done) | (rw [H_hT.out]; simp; done) | (rw [H_hT.out]; rfl), by rw [H_hw0.out, ← H_hz0.out]; exact e3_0⟩
        case measure => simp [intOf]; omega
    · have hkl : k = ps.length := by have := H_hl.out; omega
      have H_hB0 := Lib.hid hB0
      clear hB0
      go_wp2_with fail
      go_returns
      exact ⟨by rw [← hkl]; rfl, by repeat' (first | (with_reducible first | exact bwR _ _ | assumption | refine bdn ?_ | refine bwA ?_ ?_ _ | refine bwD ?_ | refine bwS ?_ ?_ _) | omega | (simp <;> omega))⟩
theorem rcrossings_nil (ps : List Pt) (p : Pt) (w : World) (hs : SlP w none 0 0 ps) :
    Calls Tryd.prog 49 #[.slice none 0 0, .agg #[.int .i64 p.xn, .int .i64 p.xd, .int .i64 p.yn, .int .i64 p.yd]] w fun e w' => e = .returned (.tuple #[.int .i64 (crsTo ps p ps.length).length, .int .i64 (crsTo ps p ps.length).sum]) ∧ Below w.heap.size w w' := by
  obtain rfl : ps = [] := List.length_eq_zero_iff.1 hs.1.symm
  clear hs
  go_enter Tryd.func49, Tryd.ntmps49
  go_wp2_with fail
  refine wp_loop_rounds 1 ?_
  rw [rounds_succ]
  go_wp2_with fail
  go_returns
  exact ⟨rfl, by repeat' (first | (with_reducible first | exact bwR _ _ | assumption | refine bdn ?_ | refine bwA ?_ ?_ _ | refine bwD ?_ | refine bwS ?_ ?_ _) | omega | (simp <;> omega))⟩
theorem rcrossings_any (ps : List Pt) (p : Pt) (oa : Option Addr) (len cap : Nat) (m s : Int) (w : World) (hs : SlP w oa len cap ps) (hok : crC ps p = (0, none)) (hm : ((crL ps p).length : Int) = m) (h2 : (crL ps p).sum = s) :
    Calls Tryd.prog 49 #[.slice oa len cap, .agg #[.int .i64 p.xn, .int .i64 p.xd, .int .i64 p.yn, .int .i64 p.yd]] w fun e w' => e = .returned (.tuple #[.int .i64 m, .int .i64 s]) ∧ Below w.heap.size w w' := by
  obtain ⟨hall, hp, h30⟩ := crC_inv hok
  have hL : crL ps p = crsTo ps p ps.length := if_pos hok
  rw [← hm, ← h2, hL]
  rcases hs.2.2.2.2 with ⟨h1, h2, h3⟩ | ⟨b, off, h1, _⟩
  · subst h1 h2 h3
    exact rcrossings_nil ps p w hs
  · subst h1
    exact rcrossings_some ps p b off len cap w hs hall hp h30
end Go.Proofs.YtaidgecpglikpaaDoor
