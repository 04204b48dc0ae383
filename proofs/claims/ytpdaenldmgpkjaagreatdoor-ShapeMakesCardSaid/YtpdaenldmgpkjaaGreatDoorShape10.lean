/-
  Walks over package shape: Box, where the sums are right.
-/
import Derived.Test.YtpdaenldmgpkjaaGreatDoorShape9
namespace Go.Proofs.YtpdaenldmgpkjaaGreatDoor
open Go.RowKit Lead

set_option maxHeartbeats 4000000 in
theorem shbox_ok (ea : Nat → Addr) (x y u h : Fr) (w : World) (hx : x.I) (hy : y.I) (hu : u.I) (hh : h.I) (hShape : w.cell? ⟨2, 0, none⟩ = some (.iface 308 (.pointer (some (ea 3))))) (hBound : w.cell? ⟨0, 0, none⟩ = some (.iface 308 (.pointer (some (ea 2))))) (h5 : x.c = 0) (h6 : y.c = 0) (h7 : u.c = 0) (h8 : h.c = 0) (h9 : x.addC u = 0) (h10 : y.addC h = 0) :
    Calls Tryz.prog 23 #[.agg #[.int .i64 x.n, .int .i64 x.d], .agg #[.int .i64 y.n, .int .i64 y.d], .agg #[.int .i64 u.n, .int .i64 u.d], .agg #[.int .i64 h.n, .int .i64 h.d]] w (RetPE 308 119 ea 102 (boxC x y u h) (boxL x y u h) w) := by
  have zhShape := zlt hShape
  have xhShape := zlts hShape
  have yhShape := zne hShape
  have zhBound := zlt hBound
  have xhBound := zlts hBound
  have yhBound := zne hBound
  have hPI := boxP_I hx hy h9 h10
  obtain ⟨hx1, hx2⟩ := hx
  obtain ⟨hy1, hy2⟩ := hy
  obtain ⟨hu1, hu2⟩ := hu
  obtain ⟨hh1, hh2⟩ := hh
  have bx := chk_0 h5
  have by' := chk_0 h6
  have bu := chk_0 h7
  have bh := chk_0 h8
  have b1 : bothC x.n x.d u.n u.d = 0 := (if_pos h5).trans h7
  have b2 : bothC y.n y.d h.n h.d = 0 := (if_pos h6).trans h8
  have o1 : opC x.n x.d u.n u.d (addN x u) (addD x u) = x.addC u := by unfold opC; exact if_pos b1
  have o2 : opC y.n y.d h.n h.d (addN y h) (addD y h) = y.addC h := by unfold opC; exact if_pos b2
  have hc : boxC x y u h = shC (boxP x y u h) := by unfold boxC; rw [if_neg (by omega), if_neg (by omega), if_neg (by omega), if_neg (by omega), if_neg (by omega)]
  have hL0 : shC (boxP x y u h) = (0, none) → boxL x y u h = boxP x y u h := fun h0 => by unfold boxL; rw [hc, if_pos h0]
  have hLn : (shC (boxP x y u h)).1 ≠ 0 → boxL x y u h = [] := fun h0 => by unfold boxL; rw [hc, if_neg (fun h1 => h0 (by rw [h1]))]
  have H_hc := Lib.hid hc
  clear hc
  have H_hL0 := Lib.hid hL0
  clear hL0
  have H_hLn := Lib.hid hLn
  clear hLn
  have H_h5 := Lib.hid h5
  clear h5
  have H_h6 := Lib.hid h6
  clear h6
  have H_h7 := Lib.hid h7
  clear h7
  have H_h8 := Lib.hid h8
  clear h8
  have H_h9 := Lib.hid h9
  clear h9
  have H_h10 := Lib.hid h10
  clear h10
  have H_bx := Lib.hid bx
  clear bx
  have H_by' := Lib.hid by'
  clear by'
  have H_bu := Lib.hid bu
  clear bu
  have H_bh := Lib.hid bh
  clear bh
  have H_b1 := Lib.hid b1
  clear b1
  have H_b2 := Lib.hid b2
  clear b2
  have H_o1 := Lib.hid o1
  clear o1
  have H_o2 := Lib.hid o2
  clear o2
  have H_hPI := Lib.hid hPI
  clear hPI
  go_enter Tryz.func23, Tryz.ntmps23
  go_wp2_with fail
  refine wp_loop_rounds 5 ?_
  rw [rounds_succ]
  go_wp2_with fail
  refine call_below (w := w) (by repeat' (first | (with_reducible first | exact bwR _ _ | assumption | refine bdn ?_ | refine bwA ?_ ?_ _ | refine bwD ?_ | refine bwS ?_ ?_ _) | omega | (simp <;> omega))) (fun HB => fcheck_0 ea x.n x.d _ hx1 hx2 (gkeep HB hShape rfl) (gkeep HB hBound rfl) H_h5.out) ?_
  intro w1 hb1 hz1 c1 d1
  have t1 := hb1.size
  try simp only [szA] at hz1 c1 d1
  try simp only [szD] at hz1 c1 d1
  try simp only [szS] at hz1 c1 d1
  try simp only [World.heap_drewN] at hz1 c1 d1
  have s1_0 : w.heap.size < w1.heap.size := by omega
  have o1_0 := fun j => c1 (w.heap.size) j (by omega)
  have f1_0 := fun j => d1 (w.heap.size) j (by omega)
  have s1_1 : w.heap.size + 1 < w1.heap.size := by omega
  have o1_1 := fun j => c1 (w.heap.size + 1) j (by omega)
  have f1_1 := fun j => d1 (w.heap.size + 1) j (by omega)
  have s1_2 : w.heap.size + 1 + 1 < w1.heap.size := by omega
  have o1_2 := fun j => c1 (w.heap.size + 1 + 1) j (by omega)
  have f1_2 := fun j => d1 (w.heap.size + 1 + 1) j (by omega)
  have s1_3 : w.heap.size + 1 + 1 + 1 < w1.heap.size := by omega
  have o1_3 := fun j => c1 (w.heap.size + 1 + 1 + 1) j (by omega)
  have f1_3 := fun j => d1 (w.heap.size + 1 + 1 + 1) j (by omega)
  have s1_4 : w.heap.size + 1 + 1 + 1 + 1 < w1.heap.size := by omega
  have o1_4 := fun j => c1 (w.heap.size + 1 + 1 + 1 + 1) j (by omega)
  have f1_4 := fun j => d1 (w.heap.size + 1 + 1 + 1 + 1) j (by omega)
  have s1_5 : w.heap.size + 1 + 1 + 1 + 1 + 1 < w1.heap.size := by omega
  have o1_5 := fun j => c1 (w.heap.size + 1 + 1 + 1 + 1 + 1) j (by omega)
  have f1_5 := fun j => d1 (w.heap.size + 1 + 1 + 1 + 1 + 1) j (by omega)
  clear c1 d1 hz1
  go_wp2_with fail
  rw [rounds_succ]
  go_wp2_with fail
  refine call_below (w := w) (by repeat' (first | (with_reducible first | exact bwR _ _ | assumption | refine bdn ?_ | refine bwA ?_ ?_ _ | refine bwD ?_ | refine bwS ?_ ?_ _) | omega | (simp <;> omega))) (fun HB => fcheck_0 ea y.n y.d _ hy1 hy2 (gkeep HB hShape rfl) (gkeep HB hBound rfl) H_h6.out) ?_
  intro w2 hb2 hz2 c2 d2
  have t2 := hb2.size
  try simp only [szA] at hz2 c2 d2
  try simp only [szD] at hz2 c2 d2
  try simp only [szS] at hz2 c2 d2
  try simp only [World.heap_drewN] at hz2 c2 d2
  have s2_0 : w.heap.size < w2.heap.size := by omega
  have o2_0 := fun j => c2 (w.heap.size) j (by omega)
  have f2_0 := fun j => d2 (w.heap.size) j (by omega)
  have s2_1 : w.heap.size + 1 < w2.heap.size := by omega
  have o2_1 := fun j => c2 (w.heap.size + 1) j (by omega)
  have f2_1 := fun j => d2 (w.heap.size + 1) j (by omega)
  have s2_2 : w.heap.size + 1 + 1 < w2.heap.size := by omega
  have o2_2 := fun j => c2 (w.heap.size + 1 + 1) j (by omega)
  have f2_2 := fun j => d2 (w.heap.size + 1 + 1) j (by omega)
  have s2_3 : w.heap.size + 1 + 1 + 1 < w2.heap.size := by omega
  have o2_3 := fun j => c2 (w.heap.size + 1 + 1 + 1) j (by omega)
  have f2_3 := fun j => d2 (w.heap.size + 1 + 1 + 1) j (by omega)
  have s2_4 : w.heap.size + 1 + 1 + 1 + 1 < w2.heap.size := by omega
  have o2_4 := fun j => c2 (w.heap.size + 1 + 1 + 1 + 1) j (by omega)
  have f2_4 := fun j => d2 (w.heap.size + 1 + 1 + 1 + 1) j (by omega)
  have s2_5 : w.heap.size + 1 + 1 + 1 + 1 + 1 < w2.heap.size := by omega
  have o2_5 := fun j => c2 (w.heap.size + 1 + 1 + 1 + 1 + 1) j (by omega)
  have f2_5 := fun j => d2 (w.heap.size + 1 + 1 + 1 + 1 + 1) j (by omega)
  clear c2 d2 hz2
  go_wp2_with fail
  rw [rounds_succ]
  go_wp2_with fail
  refine call_below (w := w) (by repeat' (first | (with_reducible first | exact bwR _ _ | assumption | refine bdn ?_ | refine bwA ?_ ?_ _ | refine bwD ?_ | refine bwS ?_ ?_ _) | omega | (simp <;> omega))) (fun HB => fcheck_0 ea u.n u.d _ hu1 hu2 (gkeep HB hShape rfl) (gkeep HB hBound rfl) H_h7.out) ?_
  intro w3 hb3 hz3 c3 d3
  have t3 := hb3.size
  try simp only [szA] at hz3 c3 d3
  try simp only [szD] at hz3 c3 d3
  try simp only [szS] at hz3 c3 d3
  try simp only [World.heap_drewN] at hz3 c3 d3
  have s3_0 : w.heap.size < w3.heap.size := by omega
  have o3_0 := fun j => c3 (w.heap.size) j (by omega)
  have f3_0 := fun j => d3 (w.heap.size) j (by omega)
  have s3_1 : w.heap.size + 1 < w3.heap.size := by omega
  have o3_1 := fun j => c3 (w.heap.size + 1) j (by omega)
  have f3_1 := fun j => d3 (w.heap.size + 1) j (by omega)
  have s3_2 : w.heap.size + 1 + 1 < w3.heap.size := by omega
  have o3_2 := fun j => c3 (w.heap.size + 1 + 1) j (by omega)
  have f3_2 := fun j => d3 (w.heap.size + 1 + 1) j (by omega)
  have s3_3 : w.heap.size + 1 + 1 + 1 < w3.heap.size := by omega
  have o3_3 := fun j => c3 (w.heap.size + 1 + 1 + 1) j (by omega)
  have f3_3 := fun j => d3 (w.heap.size + 1 + 1 + 1) j (by omega)
  have s3_4 : w.heap.size + 1 + 1 + 1 + 1 < w3.heap.size := by omega
  have o3_4 := fun j => c3 (w.heap.size + 1 + 1 + 1 + 1) j (by omega)
  have f3_4 := fun j => d3 (w.heap.size + 1 + 1 + 1 + 1) j (by omega)
  have s3_5 : w.heap.size + 1 + 1 + 1 + 1 + 1 < w3.heap.size := by omega
  have o3_5 := fun j => c3 (w.heap.size + 1 + 1 + 1 + 1 + 1) j (by omega)
  have f3_5 := fun j => d3 (w.heap.size + 1 + 1 + 1 + 1 + 1) j (by omega)
  clear c3 d3 hz3
  go_wp2_with fail
  rw [rounds_succ]
  go_wp2_with fail
  refine call_below (w := w) (by repeat' (first | (with_reducible first | exact bwR _ _ | assumption | refine bdn ?_ | refine bwA ?_ ?_ _ | refine bwD ?_ | refine bwS ?_ ?_ _) | omega | (simp <;> omega))) (fun HB => fcheck_0 ea h.n h.d _ hh1 hh2 (gkeep HB hShape rfl) (gkeep HB hBound rfl) H_h8.out) ?_
  intro w4 hb4 hz4 c4 d4
  have t4 := hb4.size
  try simp only [szA] at hz4 c4 d4
  try simp only [szD] at hz4 c4 d4
  try simp only [szS] at hz4 c4 d4
  try simp only [World.heap_drewN] at hz4 c4 d4
  have s4_0 : w.heap.size < w4.heap.size := by omega
  have o4_0 := fun j => c4 (w.heap.size) j (by omega)
  have f4_0 := fun j => d4 (w.heap.size) j (by omega)
  have s4_1 : w.heap.size + 1 < w4.heap.size := by omega
  have o4_1 := fun j => c4 (w.heap.size + 1) j (by omega)
  have f4_1 := fun j => d4 (w.heap.size + 1) j (by omega)
  have s4_2 : w.heap.size + 1 + 1 < w4.heap.size := by omega
  have o4_2 := fun j => c4 (w.heap.size + 1 + 1) j (by omega)
  have f4_2 := fun j => d4 (w.heap.size + 1 + 1) j (by omega)
  have s4_3 : w.heap.size + 1 + 1 + 1 < w4.heap.size := by omega
  have o4_3 := fun j => c4 (w.heap.size + 1 + 1 + 1) j (by omega)
  have f4_3 := fun j => d4 (w.heap.size + 1 + 1 + 1) j (by omega)
  have s4_4 : w.heap.size + 1 + 1 + 1 + 1 < w4.heap.size := by omega
  have o4_4 := fun j => c4 (w.heap.size + 1 + 1 + 1 + 1) j (by omega)
  have f4_4 := fun j => d4 (w.heap.size + 1 + 1 + 1 + 1) j (by omega)
  have s4_5 : w.heap.size + 1 + 1 + 1 + 1 + 1 < w4.heap.size := by omega
  have o4_5 := fun j => c4 (w.heap.size + 1 + 1 + 1 + 1 + 1) j (by omega)
  have f4_5 := fun j => d4 (w.heap.size + 1 + 1 + 1 + 1 + 1) j (by omega)
  clear c4 d4 hz4
  go_wp2_with fail
  rw [rounds_succ]
  go_wp2_with fail
  refine call_fr0 (w := w) (by repeat' (first | (with_reducible first | exact bwR _ _ | assumption | refine bdn ?_ | refine bwA ?_ ?_ _ | refine bwD ?_ | refine bwS ?_ ?_ _) | omega | (simp <;> omega))) (fun HB => fadd_any ea x.n x.d u.n u.d (addN x u) (addD x u) _ hx1 hx2 hu1 hu2 (gkeep HB hShape rfl) (gkeep HB hBound rfl) rfl rfl) (by rw [H_o1.out]; exact H_h9.out) ?_
  intro w5 hb5 hz5 c5 d5 hW5
  have t5 := hb5.size
  have hBound_5 := gkeep hb5 hBound rfl
  have zhBound_5 := zlt hBound_5
  have xhBound_5 := zlts hBound_5
  have yhBound_5 := zne hBound_5
  try simp only [szA] at hz5 c5 d5
  try simp only [szD] at hz5 c5 d5
  try simp only [szS] at hz5 c5 d5
  try simp only [World.heap_drewN] at hz5 c5 d5
  have s5_0 : w.heap.size < w5.heap.size := by omega
  have o5_0 := fun j => c5 (w.heap.size) j (by omega)
  have f5_0 := fun j => d5 (w.heap.size) j (by omega)
  have s5_1 : w.heap.size + 1 < w5.heap.size := by omega
  have o5_1 := fun j => c5 (w.heap.size + 1) j (by omega)
  have f5_1 := fun j => d5 (w.heap.size + 1) j (by omega)
  have s5_2 : w.heap.size + 1 + 1 < w5.heap.size := by omega
  have o5_2 := fun j => c5 (w.heap.size + 1 + 1) j (by omega)
  have f5_2 := fun j => d5 (w.heap.size + 1 + 1) j (by omega)
  have s5_3 : w.heap.size + 1 + 1 + 1 < w5.heap.size := by omega
  have o5_3 := fun j => c5 (w.heap.size + 1 + 1 + 1) j (by omega)
  have f5_3 := fun j => d5 (w.heap.size + 1 + 1 + 1) j (by omega)
  have s5_4 : w.heap.size + 1 + 1 + 1 + 1 < w5.heap.size := by omega
  have o5_4 := fun j => c5 (w.heap.size + 1 + 1 + 1 + 1) j (by omega)
  have f5_4 := fun j => d5 (w.heap.size + 1 + 1 + 1 + 1) j (by omega)
  clear c5 d5 hz5 hW5
  go_wp2_with fail
  refine call_fr0 (w := w) (by repeat' (first | (with_reducible first | exact bwR _ _ | assumption | refine bdn ?_ | refine bwA ?_ ?_ _ | refine bwD ?_ | refine bwS ?_ ?_ _) | omega | (simp <;> omega))) (fun HB => fadd_any ea y.n y.d h.n h.d (addN y h) (addD y h) _ hy1 hy2 hh1 hh2 (gkeep HB hShape rfl) (gkeep HB hBound rfl) rfl rfl) (by rw [H_o2.out]; exact H_h10.out) ?_
  intro w6 hb6 hz6 c6 d6 hW6
  have t6 := hb6.size
  have hBound_6 := gkeep hb6 hBound rfl
  have zhBound_6 := zlt hBound_6
  have xhBound_6 := zlts hBound_6
  have yhBound_6 := zne hBound_6
  try simp only [szA] at hz6 c6 d6
  try simp only [szD] at hz6 c6 d6
  try simp only [szS] at hz6 c6 d6
  try simp only [World.heap_drewN] at hz6 c6 d6
  have s6_0 : w.heap.size < w6.heap.size := by omega
  have o6_0 := fun j => c6 (w.heap.size) j (by omega)
  have f6_0 := fun j => d6 (w.heap.size) j (by omega)
  have s6_1 : w.heap.size + 1 < w6.heap.size := by omega
  have o6_1 := fun j => c6 (w.heap.size + 1) j (by omega)
  have f6_1 := fun j => d6 (w.heap.size + 1) j (by omega)
  have s6_2 : w.heap.size + 1 + 1 < w6.heap.size := by omega
  have o6_2 := fun j => c6 (w.heap.size + 1 + 1) j (by omega)
  have f6_2 := fun j => d6 (w.heap.size + 1 + 1) j (by omega)
  have s6_3 : w.heap.size + 1 + 1 + 1 < w6.heap.size := by omega
  have o6_3 := fun j => c6 (w.heap.size + 1 + 1 + 1) j (by omega)
  have f6_3 := fun j => d6 (w.heap.size + 1 + 1 + 1) j (by omega)
  have s6_4 : w.heap.size + 1 + 1 + 1 + 1 < w6.heap.size := by omega
  have o6_4 := fun j => c6 (w.heap.size + 1 + 1 + 1 + 1) j (by omega)
  have f6_4 := fun j => d6 (w.heap.size + 1 + 1 + 1 + 1) j (by omega)
  have s6_5 : w5.heap.size < w6.heap.size := by omega
  have o6_5 := fun j => c6 (w5.heap.size) j (by omega)
  have f6_5 := fun j => d6 (w5.heap.size) j (by omega)
  clear c6 d6 hz6 hW6
  go_wp2_with fail
  have H_own := Lib.hid (((own_lit1 w6 (.cells #[.int .i64 (y.add h).n, .int .i64 (y.add h).d] 49) 102 (boxP x y u h) (show (4 : Nat) ≤ maxLen by unfold maxLen; decide)).alloc (.cells #[.slice (some ⟨w6.heap.size + 1, 0, none⟩) 4 4] 54)))
  refine call_ew (w := w) (by repeat' (first | (with_reducible first | exact bwR _ _ | assumption | refine bdn ?_ | refine bwA ?_ ?_ _ | refine bwD ?_ | refine bwS ?_ ?_ _) | omega | (simp <;> omega))) (fun HB => shcheck_any ea (boxP x y u h) _ _ _ _ (slp_lit w6 _ _ 102 (boxP x y u h) (show (4 : Nat) ≤ maxLen by unfold maxLen; decide) H_hPI.out) (gkeep HB hShape rfl) (gkeep HB hBound rfl)) ?_
  intro x7 w7 hx7 hb7 hz7 c7 d7 hW7
  have t7 := hb7.size
  simp only [World.size_alloc] at hz7 hx7 c7 d7
  have s7_0 : w.heap.size + 1 + 1 + 1 + 1 < w7.heap.size := by omega
  have o7_0 := fun j => c7 (w.heap.size + 1 + 1 + 1 + 1) j (by omega)
  have f7_0 := fun j => d7 (w.heap.size + 1 + 1 + 1 + 1) j (by omega)
  have s7_1 : w6.heap.size + 1 + 1 < w7.heap.size := by omega
  have o7_1 := fun j => c7 (w6.heap.size + 1 + 1) j (by omega)
  have q1 : w1.cell? ⟨w.heap.size + 1 + 1 + 1 + 1, 0, none⟩ = some (.slice none 0 0) := (o1_4 0).trans (by go_simp)
  have q2 := (o2_4 0).trans (galloc q1 _)
  have q3 := (o3_4 0).trans (galloc q2 _)
  have q4 := (o4_4 0).trans (galloc q3 _)
  have q5 := (o5_4 0).trans q4
  have q6 := (o6_4 0).trans (galloc q5 _)
  have q7 := (o7_0 0).trans (galloc (galloc (galloc q6 _) _) _)
  clear c7 d7 q1 q2 q3 q4 q5 q6
  have hown7 : OwnP w7 w6.heap.size 102 (.slice (some ⟨w6.heap.size + 1, 0, none⟩) 4 4) (boxP x y u h) := H_own.out.keep hW7
  clear hW7 H_own
  rcases shC_some (boxP x y u h) with hs | hs
  · obtain rfl := hx7.nil hs
    have H_hs := Lib.hid hs
    clear hs
    have H_hown7 := Lib.hid hown7
    clear hown7
    clear hx7
    go_wp2_with fail
    refine bodyPost_ret (by simp [results, Tryz.results23, go_sem, *]; try rfl) rfl ?_
    refine ⟨_, _, rfl, ?_, ?_, by repeat' (first | (with_reducible first | exact bwR _ _ | assumption | refine bdn ?_ | refine bwA ?_ ?_ _ | refine bwD ?_ | refine bwS ?_ ?_ _) | omega | (simp <;> omega))⟩
    · rw [H_hc.out, H_hs.out]; exact (evl_0 rfl).symm
    · rw [H_hL0.out H_hs.out]
      exact own_base (own_set H_hown7.out _ _ (by simp; omega)) (by omega)
  · obtain ⟨t, ad, rfl⟩ := hx7.some hs
    have H_hs := Lib.hid hs
    clear hs
    have H_hown7 := Lib.hid hown7
    clear hown7
    have H_hx7 := Lib.hid hx7
    clear hx7
    go_wp2_with fail
    refine bodyPost_ret (by simp [results, Tryz.results23, go_sem, *]; try rfl) rfl ?_
    refine ⟨_, _, rfl, ?_, by rw [H_hLn.out H_hs.out]; exact OwnP.nil _ _ _, by repeat' (first | (with_reducible first | exact bwR _ _ | assumption | refine bdn ?_ | refine bwA ?_ ?_ _ | refine bwD ?_ | refine bwS ?_ ?_ _) | omega | (simp <;> omega))⟩
    rw [H_hc.out]
    exact H_hx7.out.set _ _ (by simp; omega) (by omega)

theorem shbox_any (ea : Nat → Addr) (x y u h : Fr) (w : World) (hx : x.I) (hy : y.I) (hu : u.I) (hh : h.I) (hShape : w.cell? ⟨2, 0, none⟩ = some (.iface 308 (.pointer (some (ea 3))))) (hBound : w.cell? ⟨0, 0, none⟩ = some (.iface 308 (.pointer (some (ea 2))))) :
    Calls Tryz.prog 23 #[.agg #[.int .i64 x.n, .int .i64 x.d], .agg #[.int .i64 y.n, .int .i64 y.d], .agg #[.int .i64 u.n, .int .i64 u.d], .agg #[.int .i64 h.n, .int .i64 h.d]] w (RetPE 308 119 ea 102 (boxC x y u h) (boxL x y u h) w) := by
  by_cases hok : x.c = 0 ∧ y.c = 0 ∧ u.c = 0 ∧ h.c = 0 ∧ x.addC u = 0 ∧ y.addC h = 0
  · obtain ⟨h5, h6, h7, h8, h9, h10⟩ := hok
    exact shbox_ok ea x y u h w hx hy hu hh hShape hBound h5 h6 h7 h8 h9 h10
  · exact shbox_err ea x y u h w hx hy hu hh hShape hBound hok
end Go.Proofs.YtpdaenldmgpkjaaGreatDoor
