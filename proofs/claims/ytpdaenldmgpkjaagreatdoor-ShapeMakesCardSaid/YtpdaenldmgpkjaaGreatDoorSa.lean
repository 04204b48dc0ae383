/-
  Several texts as one: Shape1, Shape2, Shape3, Shape4.
-/
import Derived.Test.YtpdaenldmgpkjaaGreatDoorRows
import Derived.Test.YtpdaenldmgpkjaaGreatDoorPa
import Derived.Test.YtpdaenldmgpkjaaGreatDoorFa
/-
  Walks over package shape: less, side.
-/
namespace Go.Proofs.YtpdaenldmgpkjaaGreatDoor
open Go.RowKit Lead

set_option maxHeartbeats 400000 in
theorem shless_any (n d n' d' x y : Int) (b : Bool) (w : World) (hw1 : wrap64 (n * d') = x) (hw2 : wrap64 (n' * d) = y) (hb : decide (x < y) = b) :
    Calls Tryz.prog 133 #[.agg #[.int .i64 n, .int .i64 d], .agg #[.int .i64 n', .int .i64 d']] w fun e w' => e = .returned (.bool b) ∧ Below w.heap.size w w' := by
  have H_b := Lib.hid hb
  clear hb
  go_enter Tryz.func133, Tryz.ntmps133
  go_wp2_with fail
  go_returns
  exact ⟨by rw [← H_b.out]; rfl, by repeat' (first | (with_reducible first | exact bwR _ _ | assumption | refine bdn ?_ | refine bwA ?_ ?_ _ | refine bwD ?_ | refine bwS ?_ ?_ _) | omega | (simp <;> omega))⟩

set_option maxHeartbeats 1000000 in
set_option maxRecDepth 100000 in
theorem shside_any (axn axd ayn ayd bxn bxd byn byd pxn pxd pyn pyd s : Int) (w : World)
    (hs : wrap64 (wrap64 (wrap64 (wrap64 (wrap64 (wrap64 (bxn * axd) - wrap64 (axn * bxd)) * wrap64 (wrap64 (pyn * ayd) - wrap64 (ayn * pyd))) * byd) * pxd) - wrap64 (wrap64 (wrap64 (wrap64 (wrap64 (pxn * axd) - wrap64 (axn * pxd)) * wrap64 (wrap64 (byn * ayd) - wrap64 (ayn * byd))) * bxd) * pyd)) = s) :
    Calls Tryz.prog 134 #[.agg #[.int .i64 axn, .int .i64 axd, .int .i64 ayn, .int .i64 ayd], .agg #[.int .i64 bxn, .int .i64 bxd, .int .i64 byn, .int .i64 byd], .agg #[.int .i64 pxn, .int .i64 pxd, .int .i64 pyn, .int .i64 pyd]] w fun e w' => e = .returned (.int .i64 s) ∧ Below w.heap.size w w' := by
  have H_hs := Lib.hid hs
  clear hs
  go_enter Tryz.func134, Tryz.ntmps134
  go_wp2_with fail
  go_quiet (fail)
  go_wp2_with fail
  go_quiet (fail)
  go_wp2_with fail
  go_returns
  exact ⟨by rw [← H_hs.out]; rfl, by repeat' (first | (with_reducible first | exact bwR _ _ | assumption | refine bdn ?_ | refine bwA ?_ ?_ _ | refine bwD ?_ | refine bwS ?_ ?_ _) | omega | (simp <;> omega))⟩
end Go.Proofs.YtpdaenldmgpkjaaGreatDoor

/-
  Walks over package shape: crossing.
-/
namespace Go.Proofs.YtpdaenldmgpkjaaGreatDoor
open Go.RowKit Lead

theorem shless_b (n d n' d' : Int) (b : Bool) (w : World) (hb : decide (wrap64 (n * d') < wrap64 (n' * d)) = b) :
    Calls Tryz.prog 133 #[.agg #[.int .i64 n, .int .i64 d], .agg #[.int .i64 n', .int .i64 d']] w fun e w' => e = .returned (.bool b) ∧ Below w.heap.size w w' :=
  shless_any n d n' d' _ _ b w rfl rfl hb

set_option maxHeartbeats 1000000 in
set_option maxRecDepth 100000 in
theorem shcross_any (axn axd ayn ayd bxn bxd byn byd pxn pxd pyn pyd s : Int) (l1 l2 : Bool) (w : World)
    (h1 : decide (wrap64 (pyn * ayd) < wrap64 (ayn * pyd)) = l1) (h2 : decide (wrap64 (pyn * byd) < wrap64 (byn * pyd)) = l2)
    (hs : wrap64 (wrap64 (wrap64 (wrap64 (wrap64 (wrap64 (bxn * axd) - wrap64 (axn * bxd)) * wrap64 (wrap64 (pyn * ayd) - wrap64 (ayn * pyd))) * byd) * pxd) - wrap64 (wrap64 (wrap64 (wrap64 (wrap64 (pxn * axd) - wrap64 (axn * pxd)) * wrap64 (wrap64 (byn * ayd) - wrap64 (ayn * byd))) * bxd) * pyd)) = s) :
    Calls Tryz.prog 111 #[.agg #[.int .i64 axn, .int .i64 axd, .int .i64 ayn, .int .i64 ayd], .agg #[.int .i64 bxn, .int .i64 bxd, .int .i64 byn, .int .i64 byd], .agg #[.int .i64 pxn, .int .i64 pxd, .int .i64 pyn, .int .i64 pyd]] w fun e w' => e = .returned (.int .i64 (crossB l1 l2 s)) ∧ Below w.heap.size w w' := by
  have H_hs := Lib.hid hs
  clear hs
  have H_h1 := Lib.hid h1
  clear h1
  have H_h2 := Lib.hid h2
  clear h2
  go_enter Tryz.func111, Tryz.ntmps111
  go_wp2_with fail
  go_region_held3 (fun W => Below w.heap.size w W ∧ w.heap.size + 1 + 1 < W.heap.size ∧ (∀ j, W.cell? ⟨w.heap.size, j, none⟩ = #[Value.int .i64 axn, .int .i64 axd, .int .i64 ayn, .int .i64 ayd][j]?) ∧ (∀ j, W.cell? ⟨w.heap.size + 1, j, none⟩ = #[Value.int .i64 bxn, .int .i64 bxd, .int .i64 byn, .int .i64 byd][j]?) ∧ (∀ j, W.cell? ⟨w.heap.size + 1 + 1, j, none⟩ = #[Value.int .i64 pxn, .int .i64 pxd, .int .i64 pyn, .int .i64 pyd][j]?)) (first | exact own3_start _ _ _ _ _ | exact own3_step (by assumption) (by assumption))
    (first | (go_at_call 133; (with_reducible refine (shless_b _ _ _ _ l1 _ H_h1.out).mono ?_); rintro e w' ⟨rfl, hbb⟩) | (go_at_call 133; (with_reducible refine (shless_b _ _ _ _ l2 _ H_h2.out).mono ?_); rintro e w' ⟨rfl, hbb⟩))
  clear hbb
  rename_i hh
  obtain ⟨hb, hz, o1, o2, o3⟩ := hh
  generalize hW : w' = W at *
  clear hW
  cases l1 <;> cases l2
  · go_wp2_with fail
    go_ret
    exact ⟨rfl, hb⟩
  · by_cases h0 : 0 < s
    · go_wp2_with fail
      refine call_below (w := w) (by repeat' (first | (with_reducible first | exact bwR _ _ | assumption | refine bdn ?_ | refine bwA ?_ ?_ _ | refine bwD ?_ | refine bwS ?_ ?_ _) | omega | (simp <;> omega))) (fun HB => shside_any _ _ _ _ _ _ _ _ _ _ _ _ s _ H_hs.out) ?_
      intro w1 hb1 hz1 c1 d1
      have t1 := hb1.size
      clear c1 d1 hz1
      go_wp2_with fail
      go_returns
      exact ⟨by unfold crossB; rw [if_pos ⟨rfl, rfl, h0⟩]; rfl, by repeat' (first | (with_reducible first | exact bwR _ _ | assumption | refine bdn ?_ | refine bwA ?_ ?_ _ | refine bwD ?_ | refine bwS ?_ ?_ _) | omega | (simp <;> omega))⟩
    · go_wp2_with fail
      refine call_below (w := w) (by repeat' (first | (with_reducible first | exact bwR _ _ | assumption | refine bdn ?_ | refine bwA ?_ ?_ _ | refine bwD ?_ | refine bwS ?_ ?_ _) | omega | (simp <;> omega))) (fun HB => shside_any _ _ _ _ _ _ _ _ _ _ _ _ s _ H_hs.out) ?_
      intro w1 hb1 hz1 c1 d1
      have t1 := hb1.size
      clear c1 d1 hz1
      go_wp2_with fail
      go_returns
      exact ⟨by unfold crossB; rw [if_neg (by omega), if_neg (by simp)]; rfl, by repeat' (first | (with_reducible first | exact bwR _ _ | assumption | refine bdn ?_ | refine bwA ?_ ?_ _ | refine bwD ?_ | refine bwS ?_ ?_ _) | omega | (simp <;> omega))⟩
  · by_cases h0 : s < 0
    · go_wp2_with fail
      refine call_below (w := w) (by repeat' (first | (with_reducible first | exact bwR _ _ | assumption | refine bdn ?_ | refine bwA ?_ ?_ _ | refine bwD ?_ | refine bwS ?_ ?_ _) | omega | (simp <;> omega))) (fun HB => shside_any _ _ _ _ _ _ _ _ _ _ _ _ s _ H_hs.out) ?_
      intro w1 hb1 hz1 c1 d1
      have t1 := hb1.size
      clear c1 d1 hz1
      go_wp2_with fail
      go_returns
      exact ⟨by unfold crossB; rw [if_neg (by simp), if_pos ⟨rfl, rfl, h0⟩]; rfl, by repeat' (first | (with_reducible first | exact bwR _ _ | assumption | refine bdn ?_ | refine bwA ?_ ?_ _ | refine bwD ?_ | refine bwS ?_ ?_ _) | omega | (simp <;> omega))⟩
    · go_wp2_with fail
      refine call_below (w := w) (by repeat' (first | (with_reducible first | exact bwR _ _ | assumption | refine bdn ?_ | refine bwA ?_ ?_ _ | refine bwD ?_ | refine bwS ?_ ?_ _) | omega | (simp <;> omega))) (fun HB => shside_any _ _ _ _ _ _ _ _ _ _ _ _ s _ H_hs.out) ?_
      intro w1 hb1 hz1 c1 d1
      have t1 := hb1.size
      clear c1 d1 hz1
      go_wp2_with fail
      go_returns
      exact ⟨by unfold crossB; rw [if_neg (by simp), if_neg (by omega)]; rfl, by repeat' (first | (with_reducible first | exact bwR _ _ | assumption | refine bdn ?_ | refine bwA ?_ ?_ _ | refine bwD ?_ | refine bwS ?_ ?_ _) | omega | (simp <;> omega))⟩
  · go_wp2_with fail
    go_ret
    exact ⟨rfl, hb⟩
end Go.Proofs.YtpdaenldmgpkjaaGreatDoor

/-
  Walks over package shape: small, point.
-/
namespace Go.Proofs.YtpdaenldmgpkjaaGreatDoor
open Go.RowKit Lead

set_option maxHeartbeats 400000 in
theorem shsmall_b (n d : Int) (b : Bool) (w : World) (hr : Right n d) (hb : shSml n d = b) :
    Calls Tryz.prog 89 #[.agg #[.int .i64 n, .int .i64 d]] w fun e w' => e = .returned (.bool b) ∧ Below w.heap.size w w' := by
  have h1 := hr.d0
  have h2 := hr.d1
  rcases shSml_cases hb with ⟨h3, rfl⟩ | ⟨h3, h4, rfl⟩ | ⟨h3, h4, h5, rfl⟩ | ⟨h3, h4, h5, rfl⟩ <;> clear hb hr
  all_goals
    go_enter Tryz.func89, Tryz.ntmps89
    go_wp2_with fail
    go_returns
    exact ⟨rfl, by repeat' (first | (with_reducible first | exact bwR _ _ | assumption | refine bdn ?_ | refine bwA ?_ ?_ _ | refine bwD ?_ | refine bwS ?_ ?_ _) | omega | (simp <;> omega))⟩

set_option maxHeartbeats 1000000 in
theorem shpoint_any (ea : Nat → Addr) (xn xd yn yd : Int) (w : World) (h1 : I64 xn) (h2 : I64 xd) (h3 : I64 yn) (h4 : I64 yd) (hShape : w.cell? ⟨2, 0, none⟩ = some (.iface 308 (.pointer (some (ea 3))))) (hBound : w.cell? ⟨0, 0, none⟩ = some (.iface 308 (.pointer (some (ea 2))))) :
    Calls Tryz.prog 60 #[.agg #[.int .i64 xn, .int .i64 xd, .int .i64 yn, .int .i64 yd]] w fun e w' => e = .returned (evl 308 ea (ptC xn xd yn yd)) ∧ Below w.heap.size w w' := by
  have zhShape := zlt hShape
  have xhShape := zlts hShape
  have yhShape := zne hShape
  have zhBound := zlt hBound
  have xhBound := zlts hBound
  have yhBound := zne hBound
  rcases ptC_cases xn xd yn yd with ⟨h5, hc⟩ | ⟨h5, h6, hc⟩ | ⟨h5, h6, h7, hc⟩ | ⟨h5, h6, h7, h8, hc⟩ | ⟨h5, h6, h7, h8, hc⟩
  · have H_hc := Lib.hid hc
    clear hc
    go_enter Tryz.func60, Tryz.ntmps60
    go_wp2_with fail
    refine wp_loop_rounds 1 ?_
    rw [rounds_succ]
    go_wp2_with fail
    refine call_below (w := w) (by repeat' (first | (with_reducible first | exact bwR _ _ | assumption | refine bdn ?_ | refine bwA ?_ ?_ _ | refine bwD ?_ | refine bwS ?_ ?_ _) | omega | (simp <;> omega))) (fun HB => fcheck_n ea xn xd _ h1 h2 (gkeep HB hShape rfl) (gkeep HB hBound rfl) h5) ?_
    intro w1 hb1 hz1 c1 d1
    have t1 := hb1.size
    clear c1 d1 hz1
    go_wp2_with fail
    go_returns
    exact ⟨by rw [H_hc.out, evl_n h5]; try rfl, by repeat' (first | (with_reducible first | exact bwR _ _ | assumption | refine bdn ?_ | refine bwA ?_ ?_ _ | refine bwD ?_ | refine bwS ?_ ?_ _) | omega | (simp <;> omega))⟩
  · have H_hc := Lib.hid hc
    clear hc
    have H_h5 := Lib.hid h5
    clear h5
    go_enter Tryz.func60, Tryz.ntmps60
    go_wp2_with fail
    refine wp_loop_rounds 2 ?_
    rw [rounds_succ]
    go_wp2_with fail
    refine call_below (w := w) (by repeat' (first | (with_reducible first | exact bwR _ _ | assumption | refine bdn ?_ | refine bwA ?_ ?_ _ | refine bwD ?_ | refine bwS ?_ ?_ _) | omega | (simp <;> omega))) (fun HB => fcheck_0 ea xn xd _ h1 h2 (gkeep HB hShape rfl) (gkeep HB hBound rfl) H_h5.out) ?_
    intro w1 hb1 hz1 c1 d1
    have t1 := hb1.size
    have hBound_1 := gkeep hb1 hBound rfl
    have zhBound_1 := zlt hBound_1
    have xhBound_1 := zlts hBound_1
    have yhBound_1 := zne hBound_1
    try simp only [szA] at hz1 c1 d1
    try simp only [szD] at hz1 c1 d1
    try simp only [szS] at hz1 c1 d1
    try simp only [World.heap_drewN] at hz1 c1 d1
    have s1_0 : w.heap.size + 1 < w1.heap.size := by omega
    have o1_0 := fun j => c1 (w.heap.size + 1) j (by omega)
    have f1_0 := fun j => d1 (w.heap.size + 1) j (by omega)
    clear c1 d1 hz1
    go_wp2_with fail
    rw [rounds_succ]
    go_wp2_with fail
    refine call_below (w := w) (by repeat' (first | (with_reducible first | exact bwR _ _ | assumption | refine bdn ?_ | refine bwA ?_ ?_ _ | refine bwD ?_ | refine bwS ?_ ?_ _) | omega | (simp <;> omega))) (fun HB => fcheck_n ea yn yd _ h3 h4 (gkeep HB hShape rfl) (gkeep HB hBound rfl) h6) ?_
    intro w2 hb2 hz2 c2 d2
    have t2 := hb2.size
    clear c2 d2 hz2
    go_wp2_with fail
    go_returns
    exact ⟨by rw [H_hc.out, evl_n h6]; try rfl, by repeat' (first | (with_reducible first | exact bwR _ _ | assumption | refine bdn ?_ | refine bwA ?_ ?_ _ | refine bwD ?_ | refine bwS ?_ ?_ _) | omega | (simp <;> omega))⟩
  all_goals
    have r1 := chk_0 h5
    have r2 := chk_0 h6
  · have H_hc := Lib.hid hc
    clear hc
    have H_h5 := Lib.hid h5
    clear h5
    have H_h6 := Lib.hid h6
    clear h6
    have H_h7 := Lib.hid h7
    clear h7
    go_enter Tryz.func60, Tryz.ntmps60
    go_wp2_with fail
    refine wp_loop_rounds 3 ?_
    rw [rounds_succ]
    go_wp2_with fail
    refine call_below (w := w) (by repeat' (first | (with_reducible first | exact bwR _ _ | assumption | refine bdn ?_ | refine bwA ?_ ?_ _ | refine bwD ?_ | refine bwS ?_ ?_ _) | omega | (simp <;> omega))) (fun HB => fcheck_0 ea xn xd _ h1 h2 (gkeep HB hShape rfl) (gkeep HB hBound rfl) H_h5.out) ?_
    intro w1 hb1 hz1 c1 d1
    have t1 := hb1.size
    have hBound_1 := gkeep hb1 hBound rfl
    have zhBound_1 := zlt hBound_1
    have xhBound_1 := zlts hBound_1
    have yhBound_1 := zne hBound_1
    try simp only [szA] at hz1 c1 d1
    try simp only [szD] at hz1 c1 d1
    try simp only [szS] at hz1 c1 d1
    try simp only [World.heap_drewN] at hz1 c1 d1
    have s1_0 : w.heap.size < w1.heap.size := by omega
    have o1_0 := fun j => c1 (w.heap.size) j (by omega)
    have f1_0 := fun j => d1 (w.heap.size) j (by omega)
    have s1_1 : w.heap.size + 1 < w1.heap.size := by omega
    have o1_1 := fun j => c1 (w.heap.size + 1) j (by omega)
    have f1_1 := fun j => d1 (w.heap.size + 1) j (by omega)
    clear c1 d1 hz1
    go_wp2_with fail
    rw [rounds_succ]
    go_wp2_with fail
    refine call_below (w := w) (by repeat' (first | (with_reducible first | exact bwR _ _ | assumption | refine bdn ?_ | refine bwA ?_ ?_ _ | refine bwD ?_ | refine bwS ?_ ?_ _) | omega | (simp <;> omega))) (fun HB => fcheck_0 ea yn yd _ h3 h4 (gkeep HB hShape rfl) (gkeep HB hBound rfl) H_h6.out) ?_
    intro w2 hb2 hz2 c2 d2
    have t2 := hb2.size
    have hBound_2 := gkeep hb2 hBound rfl
    have zhBound_2 := zlt hBound_2
    have xhBound_2 := zlts hBound_2
    have yhBound_2 := zne hBound_2
    try simp only [szA] at hz2 c2 d2
    try simp only [szD] at hz2 c2 d2
    try simp only [szS] at hz2 c2 d2
    try simp only [World.heap_drewN] at hz2 c2 d2
    have s2_0 : w.heap.size < w2.heap.size := by omega
    have o2_0 := fun j => c2 (w.heap.size) j (by omega)
    have f2_0 := fun j => d2 (w.heap.size) j (by omega)
    clear c2 d2 hz2
    go_wp2_with fail
    rw [rounds_succ]
    go_wp2_with fail
    refine call_below (w := w) (by repeat' (first | (with_reducible first | exact bwR _ _ | assumption | refine bdn ?_ | refine bwA ?_ ?_ _ | refine bwD ?_ | refine bwS ?_ ?_ _) | omega | (simp <;> omega))) (fun HB => shsmall_b xn xd false _ r1 H_h7.out) ?_
    intro w3 hb3 hz3 c3 d3
    have t3 := hb3.size
    have hBound_3 := gkeep hb3 hBound rfl
    have zhBound_3 := zlt hBound_3
    have xhBound_3 := zlts hBound_3
    have yhBound_3 := zne hBound_3
    try simp only [szA] at hz3 c3 d3
    try simp only [szD] at hz3 c3 d3
    try simp only [szS] at hz3 c3 d3
    try simp only [World.heap_drewN] at hz3 c3 d3
    have s3_0 : w.heap.size < w3.heap.size := by omega
    have o3_0 := fun j => c3 (w.heap.size) j (by omega)
    have f3_0 := fun j => d3 (w.heap.size) j (by omega)
    clear c3 d3 hz3
    go_wp2_with fail
    go_returns
    exact ⟨by rw [H_hc.out, evl_n (by decide)]; try rfl, by repeat' (first | (with_reducible first | exact bwR _ _ | assumption | refine bdn ?_ | refine bwA ?_ ?_ _ | refine bwD ?_ | refine bwS ?_ ?_ _) | omega | (simp <;> omega))⟩
  · have H_hc := Lib.hid hc
    clear hc
    have H_h5 := Lib.hid h5
    clear h5
    have H_h6 := Lib.hid h6
    clear h6
    have H_h7 := Lib.hid h7
    clear h7
    have H_h8 := Lib.hid h8
    clear h8
    go_enter Tryz.func60, Tryz.ntmps60
    go_wp2_with fail
    refine wp_loop_rounds 3 ?_
    rw [rounds_succ]
    go_wp2_with fail
    refine call_below (w := w) (by repeat' (first | (with_reducible first | exact bwR _ _ | assumption | refine bdn ?_ | refine bwA ?_ ?_ _ | refine bwD ?_ | refine bwS ?_ ?_ _) | omega | (simp <;> omega))) (fun HB => fcheck_0 ea xn xd _ h1 h2 (gkeep HB hShape rfl) (gkeep HB hBound rfl) H_h5.out) ?_
    intro w1 hb1 hz1 c1 d1
    have t1 := hb1.size
    have hBound_1 := gkeep hb1 hBound rfl
    have zhBound_1 := zlt hBound_1
    have xhBound_1 := zlts hBound_1
    have yhBound_1 := zne hBound_1
    try simp only [szA] at hz1 c1 d1
    try simp only [szD] at hz1 c1 d1
    try simp only [szS] at hz1 c1 d1
    try simp only [World.heap_drewN] at hz1 c1 d1
    have s1_0 : w.heap.size < w1.heap.size := by omega
    have o1_0 := fun j => c1 (w.heap.size) j (by omega)
    have f1_0 := fun j => d1 (w.heap.size) j (by omega)
    have s1_1 : w.heap.size + 1 < w1.heap.size := by omega
    have o1_1 := fun j => c1 (w.heap.size + 1) j (by omega)
    have f1_1 := fun j => d1 (w.heap.size + 1) j (by omega)
    clear c1 d1 hz1
    go_wp2_with fail
    rw [rounds_succ]
    go_wp2_with fail
    refine call_below (w := w) (by repeat' (first | (with_reducible first | exact bwR _ _ | assumption | refine bdn ?_ | refine bwA ?_ ?_ _ | refine bwD ?_ | refine bwS ?_ ?_ _) | omega | (simp <;> omega))) (fun HB => fcheck_0 ea yn yd _ h3 h4 (gkeep HB hShape rfl) (gkeep HB hBound rfl) H_h6.out) ?_
    intro w2 hb2 hz2 c2 d2
    have t2 := hb2.size
    have hBound_2 := gkeep hb2 hBound rfl
    have zhBound_2 := zlt hBound_2
    have xhBound_2 := zlts hBound_2
    have yhBound_2 := zne hBound_2
    try simp only [szA] at hz2 c2 d2
    try simp only [szD] at hz2 c2 d2
    try simp only [szS] at hz2 c2 d2
    try simp only [World.heap_drewN] at hz2 c2 d2
    have s2_0 : w.heap.size < w2.heap.size := by omega
    have o2_0 := fun j => c2 (w.heap.size) j (by omega)
    have f2_0 := fun j => d2 (w.heap.size) j (by omega)
    clear c2 d2 hz2
    go_wp2_with fail
    rw [rounds_succ]
    go_wp2_with fail
    refine call_below (w := w) (by repeat' (first | (with_reducible first | exact bwR _ _ | assumption | refine bdn ?_ | refine bwA ?_ ?_ _ | refine bwD ?_ | refine bwS ?_ ?_ _) | omega | (simp <;> omega))) (fun HB => shsmall_b xn xd true _ r1 H_h7.out) ?_
    intro w3 hb3 hz3 c3 d3
    have t3 := hb3.size
    have hBound_3 := gkeep hb3 hBound rfl
    have zhBound_3 := zlt hBound_3
    have xhBound_3 := zlts hBound_3
    have yhBound_3 := zne hBound_3
    try simp only [szA] at hz3 c3 d3
    try simp only [szD] at hz3 c3 d3
    try simp only [szS] at hz3 c3 d3
    try simp only [World.heap_drewN] at hz3 c3 d3
    have s3_0 : w.heap.size < w3.heap.size := by omega
    have o3_0 := fun j => c3 (w.heap.size) j (by omega)
    have f3_0 := fun j => d3 (w.heap.size) j (by omega)
    clear c3 d3 hz3
    go_wp2_with fail
    refine call_below (w := w) (by repeat' (first | (with_reducible first | exact bwR _ _ | assumption | refine bdn ?_ | refine bwA ?_ ?_ _ | refine bwD ?_ | refine bwS ?_ ?_ _) | omega | (simp <;> omega))) (fun HB => shsmall_b yn yd false _ r2 H_h8.out) ?_
    intro w4 hb4 hz4 c4 d4
    have t4 := hb4.size
    have hBound_4 := gkeep hb4 hBound rfl
    have zhBound_4 := zlt hBound_4
    have xhBound_4 := zlts hBound_4
    have yhBound_4 := zne hBound_4
    try simp only [szA] at hz4 c4 d4
    try simp only [szD] at hz4 c4 d4
    try simp only [szS] at hz4 c4 d4
    try simp only [World.heap_drewN] at hz4 c4 d4
    have s4_0 : w.heap.size < w4.heap.size := by omega
    have o4_0 := fun j => c4 (w.heap.size) j (by omega)
    have f4_0 := fun j => d4 (w.heap.size) j (by omega)
    clear c4 d4 hz4
    go_wp2_with fail
    go_returns
    exact ⟨by rw [H_hc.out, evl_n (by decide)]; try rfl, by repeat' (first | (with_reducible first | exact bwR _ _ | assumption | refine bdn ?_ | refine bwA ?_ ?_ _ | refine bwD ?_ | refine bwS ?_ ?_ _) | omega | (simp <;> omega))⟩
  · have H_hc := Lib.hid hc
    clear hc
    have H_h5 := Lib.hid h5
    clear h5
    have H_h6 := Lib.hid h6
    clear h6
    have H_h7 := Lib.hid h7
    clear h7
    have H_h8 := Lib.hid h8
    clear h8
    go_enter Tryz.func60, Tryz.ntmps60
    go_wp2_with fail
    refine wp_loop_rounds 3 ?_
    rw [rounds_succ]
    go_wp2_with fail
    refine call_below (w := w) (by repeat' (first | (with_reducible first | exact bwR _ _ | assumption | refine bdn ?_ | refine bwA ?_ ?_ _ | refine bwD ?_ | refine bwS ?_ ?_ _) | omega | (simp <;> omega))) (fun HB => fcheck_0 ea xn xd _ h1 h2 (gkeep HB hShape rfl) (gkeep HB hBound rfl) H_h5.out) ?_
    intro w1 hb1 hz1 c1 d1
    have t1 := hb1.size
    have hBound_1 := gkeep hb1 hBound rfl
    have zhBound_1 := zlt hBound_1
    have xhBound_1 := zlts hBound_1
    have yhBound_1 := zne hBound_1
    try simp only [szA] at hz1 c1 d1
    try simp only [szD] at hz1 c1 d1
    try simp only [szS] at hz1 c1 d1
    try simp only [World.heap_drewN] at hz1 c1 d1
    have s1_0 : w.heap.size < w1.heap.size := by omega
    have o1_0 := fun j => c1 (w.heap.size) j (by omega)
    have f1_0 := fun j => d1 (w.heap.size) j (by omega)
    have s1_1 : w.heap.size + 1 < w1.heap.size := by omega
    have o1_1 := fun j => c1 (w.heap.size + 1) j (by omega)
    have f1_1 := fun j => d1 (w.heap.size + 1) j (by omega)
    clear c1 d1 hz1
    go_wp2_with fail
    rw [rounds_succ]
    go_wp2_with fail
    refine call_below (w := w) (by repeat' (first | (with_reducible first | exact bwR _ _ | assumption | refine bdn ?_ | refine bwA ?_ ?_ _ | refine bwD ?_ | refine bwS ?_ ?_ _) | omega | (simp <;> omega))) (fun HB => fcheck_0 ea yn yd _ h3 h4 (gkeep HB hShape rfl) (gkeep HB hBound rfl) H_h6.out) ?_
    intro w2 hb2 hz2 c2 d2
    have t2 := hb2.size
    have hBound_2 := gkeep hb2 hBound rfl
    have zhBound_2 := zlt hBound_2
    have xhBound_2 := zlts hBound_2
    have yhBound_2 := zne hBound_2
    try simp only [szA] at hz2 c2 d2
    try simp only [szD] at hz2 c2 d2
    try simp only [szS] at hz2 c2 d2
    try simp only [World.heap_drewN] at hz2 c2 d2
    have s2_0 : w.heap.size < w2.heap.size := by omega
    have o2_0 := fun j => c2 (w.heap.size) j (by omega)
    have f2_0 := fun j => d2 (w.heap.size) j (by omega)
    clear c2 d2 hz2
    go_wp2_with fail
    rw [rounds_succ]
    go_wp2_with fail
    refine call_below (w := w) (by repeat' (first | (with_reducible first | exact bwR _ _ | assumption | refine bdn ?_ | refine bwA ?_ ?_ _ | refine bwD ?_ | refine bwS ?_ ?_ _) | omega | (simp <;> omega))) (fun HB => shsmall_b xn xd true _ r1 H_h7.out) ?_
    intro w3 hb3 hz3 c3 d3
    have t3 := hb3.size
    have hBound_3 := gkeep hb3 hBound rfl
    have zhBound_3 := zlt hBound_3
    have xhBound_3 := zlts hBound_3
    have yhBound_3 := zne hBound_3
    try simp only [szA] at hz3 c3 d3
    try simp only [szD] at hz3 c3 d3
    try simp only [szS] at hz3 c3 d3
    try simp only [World.heap_drewN] at hz3 c3 d3
    have s3_0 : w.heap.size < w3.heap.size := by omega
    have o3_0 := fun j => c3 (w.heap.size) j (by omega)
    have f3_0 := fun j => d3 (w.heap.size) j (by omega)
    clear c3 d3 hz3
    go_wp2_with fail
    refine call_below (w := w) (by repeat' (first | (with_reducible first | exact bwR _ _ | assumption | refine bdn ?_ | refine bwA ?_ ?_ _ | refine bwD ?_ | refine bwS ?_ ?_ _) | omega | (simp <;> omega))) (fun HB => shsmall_b yn yd true _ r2 H_h8.out) ?_
    intro w4 hb4 hz4 c4 d4
    have t4 := hb4.size
    have hBound_4 := gkeep hb4 hBound rfl
    have zhBound_4 := zlt hBound_4
    have xhBound_4 := zlts hBound_4
    have yhBound_4 := zne hBound_4
    try simp only [szA] at hz4 c4 d4
    try simp only [szD] at hz4 c4 d4
    try simp only [szS] at hz4 c4 d4
    try simp only [World.heap_drewN] at hz4 c4 d4
    have s4_0 : w.heap.size < w4.heap.size := by omega
    have o4_0 := fun j => c4 (w.heap.size) j (by omega)
    have f4_0 := fun j => d4 (w.heap.size) j (by omega)
    clear c4 d4 hz4
    go_wp2_with fail
    go_returns
    exact ⟨by rw [H_hc.out, evl_0 rfl]; try rfl, by repeat' (first | (with_reducible first | exact bwR _ _ | assumption | refine bdn ?_ | refine bwA ?_ ?_ _ | refine bwD ?_ | refine bwS ?_ ?_ _) | omega | (simp <;> omega))⟩
end Go.Proofs.YtpdaenldmgpkjaaGreatDoor

/-
  Walks over package shape: Check.
-/
namespace Go.Proofs.YtpdaenldmgpkjaaGreatDoor
open Go.RowKit Lead

theorem shpoint_0 (ea : Nat → Addr) (xn xd yn yd : Int) (w : World) (h1 : I64 xn) (h2 : I64 xd) (h3 : I64 yn) (h4 : I64 yd) (hShape : w.cell? ⟨2, 0, none⟩ = some (.iface 308 (.pointer (some (ea 3))))) (hBound : w.cell? ⟨0, 0, none⟩ = some (.iface 308 (.pointer (some (ea 2))))) (h : ptC xn xd yn yd = 0) :
    Calls Tryz.prog 60 #[.agg #[.int .i64 xn, .int .i64 xd, .int .i64 yn, .int .i64 yd]] w fun e w' => e = .returned .nilIface ∧ Below w.heap.size w w' :=
  (shpoint_any ea xn xd yn yd w h1 h2 h3 h4 hShape hBound).mono fun e w' ⟨h5, h6⟩ => ⟨by rw [h5, evl_0 h], h6⟩
theorem shpoint_n (ea : Nat → Addr) (xn xd yn yd : Int) (w : World) (h1 : I64 xn) (h2 : I64 xd) (h3 : I64 yn) (h4 : I64 yd) (hShape : w.cell? ⟨2, 0, none⟩ = some (.iface 308 (.pointer (some (ea 3))))) (hBound : w.cell? ⟨0, 0, none⟩ = some (.iface 308 (.pointer (some (ea 2))))) (h : ptC xn xd yn yd ≠ 0) :
    Calls Tryz.prog 60 #[.agg #[.int .i64 xn, .int .i64 xd, .int .i64 yn, .int .i64 yd]] w fun e w' => e = .returned (.iface 308 (.pointer (some (ea (ptC xn xd yn yd))))) ∧ Below w.heap.size w w' :=
  (shpoint_any ea xn xd yn yd w h1 h2 h3 h4 hShape hBound).mono fun e w' ⟨h5, h6⟩ => ⟨by rw [h5, evl_n h], h6⟩

set_option maxHeartbeats 1000000 in
theorem shcheck_any (ea : Nat → Addr) (ps : List Pt) (oa : Option Addr) (len cap : Nat) (w : World) (hs : SlP w oa len cap ps) (hShape : w.cell? ⟨2, 0, none⟩ = some (.iface 308 (.pointer (some (ea 3))))) (hBound : w.cell? ⟨0, 0, none⟩ = some (.iface 308 (.pointer (some (ea 2))))) :
    Calls Tryz.prog 51 #[.agg #[.slice oa len cap]] w (RetE 308 119 ea (shC ps) w) := by
  have zhShape := zlt hShape
  have xhShape := zlts hShape
  have yhShape := zne hShape
  have zhBound := zlt hBound
  have xhBound := zlts hBound
  have yhBound := zne hBound
  obtain ⟨hl, hlc, hm, hI, hcase⟩ := hs
  unfold maxLen at hm
  by_cases h30 : 30 < len
  · have hc : shC ps = (2, none) := by unfold shC; rw [if_pos (by omega)]
    clear hcase
    have H_hc := Lib.hid hc
    clear hc
    have H_hl := Lib.hid hl
    clear hl
    have h30' : (30 : Int) < len := by omega
    go_enter Tryz.func51, Tryz.ntmps51
    go_wp2_with fail
    go_returns
    exact ⟨_, rfl, by rw [H_hc.out]; rfl, by repeat' (first | (with_reducible first | exact bwR _ _ | assumption | refine bdn ?_ | refine bwA ?_ ?_ _ | refine bwD ?_ | refine bwS ?_ ?_ _) | omega | (simp <;> omega))⟩
  have hc : shC ps = firstBad ps 0 := by unfold shC; rw [if_neg (by omega)]
  rcases hcase with ⟨rfl, hl0, rfl⟩ | ⟨b, off, rfl, hbl, hp⟩
  · have hc2 : shC ps = (0, none) := by
      rw [hc, List.length_eq_zero_iff.1 (show ps.length = 0 by omega)]; rfl
    subst hl0
    clear hc
    have H_hc2 := Lib.hid hc2
    clear hc2
    have H_hl := Lib.hid hl
    clear hl
    go_enter Tryz.func51, Tryz.ntmps51
    go_wp2_with fail
    refine wp_loop_rounds 1 ?_
    rw [rounds_succ]
    go_wp2_with fail
    go_returns
    exact ⟨_, rfl, by rw [H_hc2.out]; rfl, by repeat' (first | (with_reducible first | exact bwR _ _ | assumption | refine bdn ?_ | refine bwA ?_ ?_ _ | refine bwD ?_ | refine bwS ?_ ?_ _) | omega | (simp <;> omega))⟩
  · have H_hc := Lib.hid hc
    clear hc
    have H_hl := Lib.hid hl
    clear hl
    have H_hp := Lib.hid hp
    clear hp
    go_enter Tryz.func51, Tryz.ntmps51
    go_wp2_with fail
    go_loopw [14] (fun i wr => ∃ k : Nat, k ≤ len ∧ i = .int .i64 k ∧ firstBad ps 0 = firstBad (ps.drop k) k ∧ Below w.heap.size w wr) (fun i _ => len - (intOf i).toNat)
    case atStart => exact ⟨0, Nat.zero_le _, rfl, rfl, by repeat' (first | (with_reducible first | exact bwR _ _ | assumption | refine bdn ?_ | refine bwA ?_ ?_ _ | refine bwD ?_ | refine bwS ?_ ?_ _) | omega | (simp <;> omega))⟩
    case round =>
      obtain ⟨k, hk, rfl, hfb, hB⟩ := hrel
      have hzr := hB.size
      by_cases hlt : k < len
      · have hk' : k < ps.length := by have := H_hl.out; omega
        have q0 := gkeep hB (H_hp.out.c0 k hk') rfl
        have q1 := gkeep hB (H_hp.out.c1 k hk') rfl
        have q2 := gkeep hB (H_hp.out.c2 k hk') rfl
        have q3 := gkeep hB (H_hp.out.c3 k hk') rfl
        have hIk := hI _ (List.getElem_mem hk')
        have hst := firstBad_step hk'
        have hhit := firstBad_hit hk'
        obtain ⟨p, hpk⟩ : ∃ p, ps[k] = p := ⟨_, rfl⟩
        rw [hpk] at q0 q1 q2 q3 hIk hst hhit
        clear hpk
        obtain ⟨xn, xd, yn, yd⟩ := p
        simp only at q0 q1 q2 q3
        by_cases hpc : ptC xn xd yn yd = 0
        · have hst' := hst hpc
          have H_hst' := Lib.hid hst'
          clear hst'
          have H_hfb := Lib.hid hfb
          clear hfb
          have H_hpc := Lib.hid hpc
          clear hpc
          clear hst hhit
          go_wp2_with fail
          refine call_below (w := w) (by repeat' (first | (with_reducible first | exact bwR _ _ | assumption | refine bdn ?_ | refine bwA ?_ ?_ _ | refine bwD ?_ | refine bwS ?_ ?_ _) | omega | (simp <;> omega))) (fun HB => shpoint_0 ea xn xd yn yd _ hIk.xn hIk.xd hIk.yn hIk.yd (gkeep HB hShape rfl) (gkeep HB hBound rfl) H_hpc.out) ?_
          intro w1 hb1 hz1 c1 d1
          have t1 := hb1.size
          clear c1 d1 hz1
          go_wp2_with fail
          go_roundw
          case rel => exact ⟨k + 1, by omega, by go_num, H_hfb.out.trans H_hst'.out, hb1⟩
          case measure => simp [intOf]; omega
        · have hhit' := hhit hpc
          have H_hhit' := Lib.hid hhit'
          clear hhit'
          have H_hfb := Lib.hid hfb
          clear hfb
          clear hst hhit
          go_wp2_with fail
          refine call_below (w := w) (by repeat' (first | (with_reducible first | exact bwR _ _ | assumption | refine bdn ?_ | refine bwA ?_ ?_ _ | refine bwD ?_ | refine bwS ?_ ?_ _) | omega | (simp <;> omega))) (fun HB => shpoint_n ea xn xd yn yd _ hIk.xn hIk.xd hIk.yn hIk.yd (gkeep HB hShape rfl) (gkeep HB hBound rfl) hpc) ?_
          intro w1 hb1 hz1 c1 d1
          have t1 := hb1.size
          clear c1 d1 hz1
          go_wp2_with fail
          go_returns
          refine ⟨_, rfl, ?_, by repeat' (first | (with_reducible first | exact bwR _ _ | assumption | refine bdn ?_ | refine bwA ?_ ?_ _ | refine bwD ?_ | refine bwS ?_ ?_ _) | omega | (simp <;> omega))⟩
          rw [H_hc.out, H_hfb.out, H_hhit'.out]
          exact ⟨hpc, _, hb1.size, rfl, by simp, by simp [Pt.c]⟩
      · have hfe : shC ps = (0, none) := by rw [H_hc.out, hfb, firstBad_end (by have := H_hl.out; omega)]
        have H_hfe := Lib.hid hfe
        clear hfe
        have H_hfb := Lib.hid hfb
        clear hfb
        go_wp2_with fail
        go_returns
        exact ⟨_, rfl, by rw [H_hfe.out]; rfl, by repeat' (first | (with_reducible first | exact bwR _ _ | assumption | refine bdn ?_ | refine bwA ?_ ?_ _ | refine bwD ?_ | refine bwS ?_ ?_ _) | omega | (simp <;> omega))⟩
end Go.Proofs.YtpdaenldmgpkjaaGreatDoor
