/-
  Several texts as one: Frac1, Frac2, Frac3, Frac4, Frac5, Fop.
-/
import Derived.Test.YtpdaenldmgpkjaaGreatDoorRows
import Derived.Test.YtpdaenldmgpkjaaGreatDoorPa
/-
  Walks over package frac: divisor, small.
-/
namespace Go.Proofs.YtpdaenldmgpkjaaGreatDoor
open Go.RowKit Lead

set_option maxHeartbeats 400000 in
theorem fsmall_any (a : Int) (w : World) :
    Calls Tryz.prog 81 #[.int .i64 a] w fun e w' => e = .returned (.bool (decide (-1073741824 ≤ a ∧ a ≤ 1073741824))) ∧ w = w' := by
  go_enter Tryz.func81, Tryz.ntmps81
  go_wp2
  all_goals
    go_ret
    refine ⟨?_, rfl⟩
    congr 2
    simp
    omega

set_option maxHeartbeats 400000 in
theorem fdivisor_any (a b : Int) (w : World) (ha : I64 a) (hb : I64 b) :
    Calls Tryz.prog 80 #[.int .i64 a, .int .i64 b] w fun e w' => e = .returned (.int .i64 (wrap64 (Int.gcd a b))) ∧ ∃ n, w' = w.drewN n := by
  go_enter Tryz.func80, Tryz.ntmps80
  go_wp2
  go_loopw [0, 1] (fun s t wr => ∃ x y : Int, s = .int .i64 x ∧ t = .int .i64 y ∧ I64 x ∧ I64 y ∧ Int.gcd x y = Int.gcd a b ∧ ∃ n, wr = w.drewN n) (fun _ t _ => (intOf t).natAbs)
  case atStart => exact ⟨a, b, rfl, rfl, ha, hb, rfl, 0, rfl⟩
  case round =>
    obtain ⟨x, y, rfl, rfl, hx, hy, hg, n, rfl⟩ := hrel
    have HG : Hid (Int.gcd x y = Int.gcd a b) := hg
    clear hg
    by_cases h0 : y = 0
    · subst h0
      go_wp2
      · have h := max_neg' hx (by assumption)
        go_ret
        exact ⟨by rw [← HG.out, h]; rfl, n, rfl⟩
      · have h := max_neg hx (by assumption)
        go_ret
        exact ⟨by rw [← HG.out, h]; rfl, n, rfl⟩
    · have hy' : (y == 0) = false := by simpa using h0
      go_wp2
      go_region
      go_wp2
      go_roundw
      case rel => exact ⟨y, x.tmod y, rfl, rfl, hy, tmod_i64 hy h0, gcd_step.trans HG.out, n + 1, rfl⟩
      case measure => exact tmod_lt h0
end Go.Proofs.YtpdaenldmgpkjaaGreatDoor

/-
  Walks over package frac: Check, both.
-/
namespace Go.Proofs.YtpdaenldmgpkjaaGreatDoor
open Go.RowKit Lead

theorem fsmall_t (a : Int) (w : World) (h : sml a = true) : Calls Tryz.prog 81 #[.int .i64 a] w fun e w' => e = .returned (.bool true) ∧ w = w' :=
  (fsmall_any a w).mono fun e w' ⟨h1, h2⟩ => ⟨by rw [h1]; exact congrArg (fun b => Ending.returned (Value.bool b)) h, h2⟩
theorem fsmall_f (a : Int) (w : World) (h : sml a = false) : Calls Tryz.prog 81 #[.int .i64 a] w fun e w' => e = .returned (.bool false) ∧ w = w' :=
  (fsmall_any a w).mono fun e w' ⟨h1, h2⟩ => ⟨by rw [h1]; exact congrArg (fun b => Ending.returned (Value.bool b)) h, h2⟩

theorem fdivisor_1 (a b : Int) (w : World) (ha : I64 a) (hb : I64 b) (h1 : 1 ≤ b) (h : Int.gcd a b = 1) :
    Calls Tryz.prog 80 #[.int .i64 a, .int .i64 b] w fun e w' => e = .returned (.int .i64 1) ∧ ∃ n, w' = w.drewN n :=
  (fdivisor_any a b w ha hb).mono fun e w' ⟨h2, h3⟩ => ⟨by rw [h2, gcd_wrap1 h1 hb, h]; rfl, h3⟩
theorem fdivisor_n (a b : Int) (w : World) (ha : I64 a) (hb : I64 b) (h1 : 1 ≤ b) :
    Calls Tryz.prog 80 #[.int .i64 a, .int .i64 b] w fun e w' => e = .returned (.int .i64 (Int.gcd a b : Nat)) ∧ ∃ n, w' = w.drewN n :=
  (fdivisor_any a b w ha hb).mono fun e w' ⟨h2, h3⟩ => ⟨by rw [h2, gcd_wrap1 h1 hb], h3⟩

theorem fdivisor_g (a b g : Int) (w : World) (ha : I64 a) (hb : B62 b) (h1 : b ≠ 0) (hg : (Int.gcd a b : Int) = g) :
    Calls Tryz.prog 80 #[.int .i64 a, .int .i64 b] w fun e w' => e = .returned (.int .i64 g) ∧ ∃ n, w' = w.drewN n :=
  (fdivisor_any a b w ha hb.i64).mono fun e w' ⟨h2, h3⟩ => ⟨by rw [h2, gcd_wrapB hb h1, hg], h3⟩

set_option maxHeartbeats 400000 in
theorem fcheck_any (ea : Nat → Addr) (n d : Int) (w : World) (hn : I64 n) (hd : I64 d)
    (hS : w.cell? ⟨2, 0, none⟩ = some (.iface 308 (.pointer (some (ea 3)))))
    (hB : w.cell? ⟨0, 0, none⟩ = some (.iface 308 (.pointer (some (ea 2))))) :
    Calls Tryz.prog 54 #[.agg #[.int .i64 n, .int .i64 d]] w fun e w' =>
      e = .returned (evl 308 ea (chk n d)) ∧ Below w.heap.size w w' := by
  have z1 := zlt hS
  have z2 := zlt hB
  rcases chk_cases n d with ⟨h1, hc⟩ | ⟨h1, h2, hc⟩ | ⟨h1, h2, h3, hc⟩ | ⟨h1, h2, h3, h4, hc⟩ | ⟨h1, h2, h3, h4, hc⟩ <;> (rw [hc]; clear hc)
  · go_enter Tryz.func54, Tryz.ntmps54
    go_wp2
    go_ret
    exact ⟨rfl, by (try refine bdn ?_); go_grown⟩
  · have h1' : ¬ d < 1 := by omega
    have h2' : (((Int.gcd n d : Nat) : Int) != 1) = true := by rw [bne_iff_ne]; omega
    clear h2
    go_enter Tryz.func54, Tryz.ntmps54
    go_wp2_with (first | (go_at_call 80; refine (fdivisor_n _ _ _ hn hd h1).mono ?_; rintro e w' ⟨rfl, n1, rfl⟩))
    go_ret
    exact ⟨rfl, by (try refine bdn ?_); go_grown⟩
  · have h1' : ¬ d < 1 := by omega
    go_enter Tryz.func54, Tryz.ntmps54
    go_wp2_with (first | (go_at_call 80; refine (fdivisor_1 _ _ _ hn hd h1 h2).mono ?_; rintro e w' ⟨rfl, n1, rfl⟩) | (go_at_call 81; refine (fsmall_f _ _ h3).mono ?_; rintro e w' ⟨rfl, rfl⟩))
    go_ret
    exact ⟨rfl, by (try refine bdn ?_); go_grown⟩
  · have h1' : ¬ d < 1 := by omega
    go_enter Tryz.func54, Tryz.ntmps54
    go_wp2_with fail
    refine (fdivisor_1 _ _ _ hn hd h1 h2).mono ?_
    rintro e w' ⟨rfl, n1, rfl⟩
    go_wp2_with fail
    refine (fsmall_t _ _ h3).mono ?_
    rintro e w' ⟨rfl, rfl⟩
    go_wp2_with fail
    refine (fsmall_f _ _ h4).mono ?_
    rintro e w' ⟨rfl, rfl⟩
    go_wp2_with fail
    go_ret
    exact ⟨rfl, by (try refine bdn ?_); go_grown⟩
  · have h1' : ¬ d < 1 := by omega
    go_enter Tryz.func54, Tryz.ntmps54
    go_wp2_with fail
    refine (fdivisor_1 _ _ _ hn hd h1 h2).mono ?_
    rintro e w' ⟨rfl, n1, rfl⟩
    go_wp2_with fail
    refine (fsmall_t _ _ h3).mono ?_
    rintro e w' ⟨rfl, rfl⟩
    go_wp2_with fail
    refine (fsmall_t _ _ h4).mono ?_
    rintro e w' ⟨rfl, rfl⟩
    go_wp2_with fail
    go_ret
    exact ⟨rfl, by (try refine bdn ?_); go_grown⟩

theorem fcheck_0 (ea : Nat → Addr) (n d : Int) (w : World) (hn : I64 n) (hd : I64 d)
    (hS : w.cell? ⟨2, 0, none⟩ = some (.iface 308 (.pointer (some (ea 3)))))
    (hB : w.cell? ⟨0, 0, none⟩ = some (.iface 308 (.pointer (some (ea 2))))) (hc : chk n d = 0) :
    Calls Tryz.prog 54 #[.agg #[.int .i64 n, .int .i64 d]] w fun e w' => e = .returned .nilIface ∧ Below w.heap.size w w' :=
  (fcheck_any ea n d w hn hd hS hB).mono fun e w' ⟨h1, h2⟩ => ⟨by rw [h1, evl_0 hc], h2⟩
theorem fcheck_n (ea : Nat → Addr) (n d : Int) (w : World) (hn : I64 n) (hd : I64 d)
    (hS : w.cell? ⟨2, 0, none⟩ = some (.iface 308 (.pointer (some (ea 3)))))
    (hB : w.cell? ⟨0, 0, none⟩ = some (.iface 308 (.pointer (some (ea 2))))) (hc : chk n d ≠ 0) :
    Calls Tryz.prog 54 #[.agg #[.int .i64 n, .int .i64 d]] w fun e w' => e = .returned (.iface 308 (.pointer (some (ea (chk n d))))) ∧ Below w.heap.size w w' :=
  (fcheck_any ea n d w hn hd hS hB).mono fun e w' ⟨h1, h2⟩ => ⟨by rw [h1, evl_n hc], h2⟩

set_option maxHeartbeats 400000 in
theorem fboth_any (ea : Nat → Addr) (n d n' d' : Int) (w : World) (hn : I64 n) (hd : I64 d) (hn' : I64 n') (hd' : I64 d')
    (hS : w.cell? ⟨2, 0, none⟩ = some (.iface 308 (.pointer (some (ea 3)))))
    (hB : w.cell? ⟨0, 0, none⟩ = some (.iface 308 (.pointer (some (ea 2))))) :
    Calls Tryz.prog 82 #[.agg #[.int .i64 n, .int .i64 d], .agg #[.int .i64 n', .int .i64 d']] w fun e w' =>
      e = .returned (evl 308 ea (if chk n d = 0 then chk n' d' else chk n d)) ∧ Below w.heap.size w w' := by
  have z1 := zlt hS
  have z2 := zlt hB
  by_cases hc : chk n d = 0
  · rw [if_pos hc]
    have HC := Lib.hid hc; clear hc
    go_enter Tryz.func82, Tryz.ntmps82
    go_wp2_with fail
    refine call_below (w := w) (by go_grown) (fun HB => fcheck_0 ea n d _ hn hd (gkeep HB hS rfl) (gkeep HB hB rfl) HC.out) ?_
    intro w1 hb1 hz1 c1 d1
    have hS1 := gkeep hb1 hS rfl
    have hB1 := gkeep hb1 hB rfl
    have z1' := zlt hS1
    have z2' := zlt hB1
    simp only [World.size_alloc] at hz1 c1 d1
    have s1 : w.heap.size < w1.heap.size := by omega
    have o1 := fun j => c1 w.heap.size j (by omega)
    have s2 : w.heap.size + 1 < w1.heap.size := by omega
    have o2 := fun j => c1 (w.heap.size + 1) j (by omega)
    clear c1 d1 hz1
    go_wp2_with fail
    refine call_below (w := w) (by go_grown) (fun HB => fcheck_any ea n' d' _ hn' hd' (gkeep HB hS rfl) (gkeep HB hB rfl)) ?_
    intro w2 hb2 hz2 c2 d2
    go_wp2_with fail
    go_returns
    exact ⟨rfl, by assumption⟩
  · rw [if_neg hc]
    have HC := Lib.hid hc; clear hc
    go_enter Tryz.func82, Tryz.ntmps82
    go_wp2_with fail
    refine call_below (w := w) (by go_grown) (fun HB => fcheck_n ea n d _ hn hd (gkeep HB hS rfl) (gkeep HB hB rfl) HC.out) ?_
    intro w1 hb1 hz1 c1 d1
    go_wp2_with fail
    go_returns
    exact ⟨by rw [evl_n HC.out]; rfl, by assumption⟩
end Go.Proofs.YtpdaenldmgpkjaaGreatDoor

/-
  Walks over package frac: lowest, Add, Sub, Mul, Div, Cmp.
-/
namespace Go.Proofs.YtpdaenldmgpkjaaGreatDoor
open Go.RowKit Lead

theorem fsmall_b (a : Int) (b : Bool) (w : World) (h : sml a = b) : Calls Tryz.prog 81 #[.int .i64 a] w fun e w' => e = .returned (.bool b) ∧ w = w' :=
  (fsmall_any a w).mono fun e w' ⟨h1, h2⟩ => ⟨by rw [h1]; exact congrArg (fun b => Ending.returned (Value.bool b)) h, h2⟩

set_option maxHeartbeats 400000 in
theorem flowest_any (ea : Nat → Addr) (n d : Int) (w : World) (hn : B62 n) (hd : B62 d) (h0 : d ≠ 0) (hBound : w.cell? ⟨0, 0, none⟩ = some (.iface 308 (.pointer (some (ea 2))))) :
    Calls Tryz.prog 83 #[.int .i64 n, .int .i64 d] w fun e w' =>
      e = .returned (frV 308 ea (lowC n d) (lowN n d) (lowD n d)) ∧ Below w.heap.size w w' := by
  have zhBound := zlt hBound
  have xhBound := zlts hBound
  have yhBound := zne hBound
  obtain ⟨g, hg⟩ : ∃ g : Int, (Int.gcd n d : Int) = g := ⟨_, rfl⟩
  obtain ⟨hg1, hgb⟩ := gcd_b62 (n := n) hd h0
  rw [hg] at hg1 hgb
  have wq : wrap64 (n.tdiv (lowG n d)) = lowN n d := wrap_tdiv hn
  have wr : wrap64 (d.tdiv (lowG n d)) = lowD n d := wrap_tdiv hd
  have wg0 := neg_wrapB hgb
  have hs : (1 ≤ d ∧ lowG n d = g) ∨ (d < 0 ∧ lowG n d = -g) := by
    unfold lowG; rw [hg]
    by_cases h : d < 0
    · exact .inr ⟨h, if_pos h⟩
    · exact .inl ⟨by omega, if_neg h⟩
  rcases hs with ⟨h1, h2⟩ | ⟨h1, h2⟩
  · rw [h2] at wq wr
    have h1' : ¬ d < 0 := by omega
    have hg0 : (g == 0) = false := by simp; omega
    rcases lowC_cases n d with ⟨h3, hc⟩ | ⟨h3, h4, hc⟩ | ⟨h3, h4, hc⟩
    · have H_hg := Lib.hid hg
      clear hg
      have H_h2 := Lib.hid h2
      clear h2
      have H_hc := Lib.hid hc
      clear hc
      have H_h3 := Lib.hid h3
      clear h3
      go_enter Tryz.func83, Tryz.ntmps83
      go_wp2_with fail
      refine (fdivisor_g _ _ _ _ hn.i64 hd h0 H_hg.out).mono ?_
      rintro _ _ ⟨rfl, _, rfl⟩
      go_wp2_with fail
      go_region
      go_wp2_with fail
      refine (fsmall_b _ _ _ H_h3.out).mono ?_
      rintro _ _ ⟨rfl, rfl⟩
      go_wp2_with fail
      go_region
      all_goals
        go_wp2_with fail
        go_returns
        exact ⟨by rw [frV_n (by rw [H_hc.out]; decide), H_hc.out], by repeat' (first | (with_reducible first | exact bwR _ _ | assumption | refine bdn ?_ | refine bwA ?_ ?_ _ | refine bwD ?_ | refine bwS ?_ ?_ _) | omega | (simp <;> omega))⟩
    · have H_hg := Lib.hid hg
      clear hg
      have H_h2 := Lib.hid h2
      clear h2
      have H_hc := Lib.hid hc
      clear hc
      have H_h3 := Lib.hid h3
      clear h3
      have H_h4 := Lib.hid h4
      clear h4
      go_enter Tryz.func83, Tryz.ntmps83
      go_wp2_with fail
      refine (fdivisor_g _ _ _ _ hn.i64 hd h0 H_hg.out).mono ?_
      rintro _ _ ⟨rfl, _, rfl⟩
      go_wp2_with fail
      go_region
      go_wp2_with fail
      refine (fsmall_b _ _ _ H_h3.out).mono ?_
      rintro _ _ ⟨rfl, rfl⟩
      go_wp2_with fail
      refine (fsmall_b _ _ _ H_h4.out).mono ?_
      rintro _ _ ⟨rfl, rfl⟩
      go_wp2_with fail
      go_region
      all_goals
        go_wp2_with fail
        go_returns
        exact ⟨by rw [frV_n (by rw [H_hc.out]; decide), H_hc.out], by repeat' (first | (with_reducible first | exact bwR _ _ | assumption | refine bdn ?_ | refine bwA ?_ ?_ _ | refine bwD ?_ | refine bwS ?_ ?_ _) | omega | (simp <;> omega))⟩
    · have H_hg := Lib.hid hg
      clear hg
      have H_h2 := Lib.hid h2
      clear h2
      have H_hc := Lib.hid hc
      clear hc
      have H_h3 := Lib.hid h3
      clear h3
      have H_h4 := Lib.hid h4
      clear h4
      go_enter Tryz.func83, Tryz.ntmps83
      go_wp2_with fail
      refine (fdivisor_g _ _ _ _ hn.i64 hd h0 H_hg.out).mono ?_
      rintro _ _ ⟨rfl, _, rfl⟩
      go_wp2_with fail
      go_region
      go_wp2_with fail
      refine (fsmall_b _ _ _ H_h3.out).mono ?_
      rintro _ _ ⟨rfl, rfl⟩
      go_wp2_with fail
      refine (fsmall_b _ _ _ H_h4.out).mono ?_
      rintro _ _ ⟨rfl, rfl⟩
      go_wp2_with fail
      go_returns
      exact ⟨by rw [frV_0 H_hc.out], by repeat' (first | (with_reducible first | exact bwR _ _ | assumption | refine bdn ?_ | refine bwA ?_ ?_ _ | refine bwD ?_ | refine bwS ?_ ?_ _) | omega | (simp <;> omega))⟩
  · obtain ⟨m, hm⟩ : ∃ m : Int, -g = m := ⟨_, rfl⟩
    rw [h2] at wq wr
    rw [hm] at wq wr h2
    have wg : wrap64 (-g) = m := wg0.trans hm
    have hm1 : m ≤ -1 := by omega
    have hg0 : (m == 0) = false := by simp; omega
    clear hm wg0
    rcases lowC_cases n d with ⟨h3, hc⟩ | ⟨h3, h4, hc⟩ | ⟨h3, h4, hc⟩
    · have H_hg := Lib.hid hg
      clear hg
      have H_h2 := Lib.hid h2
      clear h2
      have H_hc := Lib.hid hc
      clear hc
      have H_h3 := Lib.hid h3
      clear h3
      go_enter Tryz.func83, Tryz.ntmps83
      go_wp2_with fail
      refine (fdivisor_g _ _ _ _ hn.i64 hd h0 H_hg.out).mono ?_
      rintro _ _ ⟨rfl, _, rfl⟩
      go_wp2_with fail
      go_region
      go_wp2_with fail
      refine (fsmall_b _ _ _ H_h3.out).mono ?_
      rintro _ _ ⟨rfl, rfl⟩
      go_wp2_with fail
      go_region
      all_goals
        go_wp2_with fail
        go_returns
        exact ⟨by rw [frV_n (by rw [H_hc.out]; decide), H_hc.out], by repeat' (first | (with_reducible first | exact bwR _ _ | assumption | refine bdn ?_ | refine bwA ?_ ?_ _ | refine bwD ?_ | refine bwS ?_ ?_ _) | omega | (simp <;> omega))⟩
    · have H_hg := Lib.hid hg
      clear hg
      have H_h2 := Lib.hid h2
      clear h2
      have H_hc := Lib.hid hc
      clear hc
      have H_h3 := Lib.hid h3
      clear h3
      have H_h4 := Lib.hid h4
      clear h4
      go_enter Tryz.func83, Tryz.ntmps83
      go_wp2_with fail
      refine (fdivisor_g _ _ _ _ hn.i64 hd h0 H_hg.out).mono ?_
      rintro _ _ ⟨rfl, _, rfl⟩
      go_wp2_with fail
      go_region
      go_wp2_with fail
      refine (fsmall_b _ _ _ H_h3.out).mono ?_
      rintro _ _ ⟨rfl, rfl⟩
      go_wp2_with fail
      refine (fsmall_b _ _ _ H_h4.out).mono ?_
      rintro _ _ ⟨rfl, rfl⟩
      go_wp2_with fail
      go_region
      all_goals
        go_wp2_with fail
        go_returns
        exact ⟨by rw [frV_n (by rw [H_hc.out]; decide), H_hc.out], by repeat' (first | (with_reducible first | exact bwR _ _ | assumption | refine bdn ?_ | refine bwA ?_ ?_ _ | refine bwD ?_ | refine bwS ?_ ?_ _) | omega | (simp <;> omega))⟩
    · have H_hg := Lib.hid hg
      clear hg
      have H_h2 := Lib.hid h2
      clear h2
      have H_hc := Lib.hid hc
      clear hc
      have H_h3 := Lib.hid h3
      clear h3
      have H_h4 := Lib.hid h4
      clear h4
      go_enter Tryz.func83, Tryz.ntmps83
      go_wp2_with fail
      refine (fdivisor_g _ _ _ _ hn.i64 hd h0 H_hg.out).mono ?_
      rintro _ _ ⟨rfl, _, rfl⟩
      go_wp2_with fail
      go_region
      go_wp2_with fail
      refine (fsmall_b _ _ _ H_h3.out).mono ?_
      rintro _ _ ⟨rfl, rfl⟩
      go_wp2_with fail
      refine (fsmall_b _ _ _ H_h4.out).mono ?_
      rintro _ _ ⟨rfl, rfl⟩
      go_wp2_with fail
      go_returns
      exact ⟨by rw [frV_0 H_hc.out], by repeat' (first | (with_reducible first | exact bwR _ _ | assumption | refine bdn ?_ | refine bwA ?_ ?_ _ | refine bwD ?_ | refine bwS ?_ ?_ _) | omega | (simp <;> omega))⟩
end Go.Proofs.YtpdaenldmgpkjaaGreatDoor

/-
  Walks over package frac: Add, Sub, Mul, Div, Cmp.
-/
namespace Go.Proofs.YtpdaenldmgpkjaaGreatDoor
open Go.RowKit Lead

theorem fboth_0 (ea : Nat → Addr) (n d n' d' : Int) (w : World) (hn : I64 n) (hd : I64 d) (hn' : I64 n') (hd' : I64 d') (hShape : w.cell? ⟨2, 0, none⟩ = some (.iface 308 (.pointer (some (ea 3))))) (hBound : w.cell? ⟨0, 0, none⟩ = some (.iface 308 (.pointer (some (ea 2))))) (h : bothC n d n' d' = 0) :
    Calls Tryz.prog 82 #[.agg #[.int .i64 n, .int .i64 d], .agg #[.int .i64 n', .int .i64 d']] w fun e w' => e = .returned .nilIface ∧ Below w.heap.size w w' :=
  (fboth_any ea n d n' d' w hn hd hn' hd' hShape hBound).mono fun e w' ⟨h1, h2⟩ => ⟨by rw [h1]; exact congrArg Ending.returned (evl_0 h), h2⟩
theorem fboth_n (ea : Nat → Addr) (n d n' d' : Int) (w : World) (hn : I64 n) (hd : I64 d) (hn' : I64 n') (hd' : I64 d') (hShape : w.cell? ⟨2, 0, none⟩ = some (.iface 308 (.pointer (some (ea 3))))) (hBound : w.cell? ⟨0, 0, none⟩ = some (.iface 308 (.pointer (some (ea 2))))) (h : bothC n d n' d' ≠ 0) :
    Calls Tryz.prog 82 #[.agg #[.int .i64 n, .int .i64 d], .agg #[.int .i64 n', .int .i64 d']] w fun e w' => e = .returned (.iface 308 (.pointer (some (ea (bothC n d n' d'))))) ∧ Below w.heap.size w w' :=
  (fboth_any ea n d n' d' w hn hd hn' hd' hShape hBound).mono fun e w' ⟨h1, h2⟩ => ⟨by rw [h1]; exact congrArg Ending.returned (evl_n h), h2⟩

theorem flowest_0 (ea : Nat → Addr) (n d : Int) (w : World) (hn : B62 n) (hd : B62 d) (h0 : d ≠ 0) (hBound : w.cell? ⟨0, 0, none⟩ = some (.iface 308 (.pointer (some (ea 2))))) (h : lowC n d = 0) :
    Calls Tryz.prog 83 #[.int .i64 n, .int .i64 d] w fun e w' => e = .returned (.tuple #[.agg #[.int .i64 (lowN n d), .int .i64 (lowD n d)], .nilIface]) ∧ Below w.heap.size w w' :=
  (flowest_any ea n d w hn hd h0 hBound).mono fun e w' ⟨h1, h2⟩ => ⟨by rw [h1, frV_0 h], h2⟩
theorem flowest_n (ea : Nat → Addr) (n d : Int) (w : World) (hn : B62 n) (hd : B62 d) (h0 : d ≠ 0) (hBound : w.cell? ⟨0, 0, none⟩ = some (.iface 308 (.pointer (some (ea 2))))) (h : lowC n d = 2) :
    Calls Tryz.prog 83 #[.int .i64 n, .int .i64 d] w fun e w' => e = .returned (.tuple #[.agg #[.int .i64 0, .int .i64 0], .iface 308 (.pointer (some (ea 2)))]) ∧ Below w.heap.size w w' :=
  (flowest_any ea n d w hn hd h0 hBound).mono fun e w' ⟨h1, h2⟩ => ⟨by rw [h1, frV_n (by omega), h], h2⟩

set_option maxHeartbeats 400000 in
theorem fadd_any (ea : Nat → Addr) (n d n' d' x y : Int) (w : World) (hn : I64 n) (hd : I64 d) (hn' : I64 n') (hd' : I64 d') (hShape : w.cell? ⟨2, 0, none⟩ = some (.iface 308 (.pointer (some (ea 3))))) (hBound : w.cell? ⟨0, 0, none⟩ = some (.iface 308 (.pointer (some (ea 2))))) (hx : n * d' + n' * d = x) (hy : d * d' = y) :
    Calls Tryz.prog 55 #[.agg #[.int .i64 n, .int .i64 d], .agg #[.int .i64 n', .int .i64 d']] w fun e w' =>
      e = .returned (frV 308 ea (opC n d n' d' x y) (lowN x y) (lowD x y)) ∧ Below w.heap.size w w' := by
  have zhShape := zlt hShape
  have xhShape := zlts hShape
  have yhShape := zne hShape
  have zhBound := zlt hBound
  have xhBound := zlts hBound
  have yhBound := zne hBound
  rcases opC_cases n d n' d' x y with ⟨h1, hc⟩ | ⟨h1, hc⟩
  · have H_hc := Lib.hid hc
    clear hc
    have H_hx := Lib.hid hx
    clear hx
    have H_hy := Lib.hid hy
    clear hy
    go_enter Tryz.func55, Tryz.ntmps55
    go_wp2_with fail
    refine call_below (w := w) (by repeat' (first | (with_reducible first | exact bwR _ _ | assumption | refine bdn ?_ | refine bwA ?_ ?_ _ | refine bwD ?_ | refine bwS ?_ ?_ _) | omega | (simp <;> omega))) (fun HB => fboth_n ea n d n' d' _ hn hd hn' hd' (gkeep HB hShape rfl) (gkeep HB hBound rfl) h1) ?_
    intro w1 hb1 hz1 c1 d1
    have t1 := hb1.size
    have hBound_1 := gkeep hb1 hBound rfl
    have zhBound_1 := zlt hBound_1
    have xhBound_1 := zlts hBound_1
    have yhBound_1 := zne hBound_1
    try simp only [szA] at hz1 c1 d1
    try simp only [szD] at hz1 c1 d1
    try simp only [szS] at hz1 c1 d1
    try simp only [World.heap_drewN] at hz1 c1 d1
    have s1_0 : w.heap.size + 1 + 1 < w1.heap.size := by omega
    have o1_0 := fun j => c1 (w.heap.size + 1 + 1) j (by omega)
    have f1_0 := fun j => d1 (w.heap.size + 1 + 1) j (by omega)
    clear c1 d1 hz1
    go_wp2_with fail
    refine bodyPost_ret (by simp [results, Tryz.results55, go_sem, *]; try rfl) rfl ?_
    exact ⟨by rw [H_hc.out, frV_n h1], by repeat' (first | (with_reducible first | exact bwR _ _ | assumption | refine bdn ?_ | refine bwA ?_ ?_ _ | refine bwD ?_ | refine bwS ?_ ?_ _) | omega | (simp <;> omega))⟩
  · obtain ⟨s1, s2⟩ := bothC_0 h1
    obtain ⟨p1, p2, e1, e2, e3, e4, H1, H2, H3⟩ := add_facts s1 s2; replace e3 := e3.trans hx; replace e4 := e4.trans hy
    rw [hx] at H1
    rw [hy] at H2 H3
    have H_H3 := Lib.hid H3
    clear H3 s1 s2
    rcases lowC_cases x y with ⟨_, hl⟩ | ⟨_, _, hl⟩ | ⟨_, _, hl⟩
    · have H_h1 := Lib.hid h1
      clear h1
      have H_hc := Lib.hid hc
      clear hc
      have H_hx := Lib.hid hx
      clear hx
      have H_hy := Lib.hid hy
      clear hy
      have H_hl := Lib.hid hl
      clear hl
      go_enter Tryz.func55, Tryz.ntmps55
      go_wp2_with fail
      refine call_below (w := w) (by repeat' (first | (with_reducible first | exact bwR _ _ | assumption | refine bdn ?_ | refine bwA ?_ ?_ _ | refine bwD ?_ | refine bwS ?_ ?_ _) | omega | (simp <;> omega))) (fun HB => fboth_0 ea n d n' d' _ hn hd hn' hd' (gkeep HB hShape rfl) (gkeep HB hBound rfl) H_h1.out) ?_
      intro w1 hb1 hz1 c1 d1
      have t1 := hb1.size
      have hBound_1 := gkeep hb1 hBound rfl
      have zhBound_1 := zlt hBound_1
      have xhBound_1 := zlts hBound_1
      have yhBound_1 := zne hBound_1
      try simp only [szA] at hz1 c1 d1
      try simp only [szD] at hz1 c1 d1
      try simp only [szS] at hz1 c1 d1
      try simp only [World.heap_drewN] at hz1 c1 d1
      have s1_0 : w.heap.size < w1.heap.size := by omega
      have o1_0 := fun j => c1 (w.heap.size) j (by omega)
      have f1_0 := fun j => d1 (w.heap.size) j (by omega)
      have s1_1 : w.heap.size + 1 < w1.heap.size := by omega
      have o1_1 := fun j => c1 (w.heap.size + 1) j (by omega)
      have f1_1 := fun j => d1 (w.heap.size + 1) j (by omega)
      have s1_2 : w.heap.size + 1 + 1 < w1.heap.size := by omega
      have o1_2 := fun j => c1 (w.heap.size + 1 + 1) j (by omega)
      have f1_2 := fun j => d1 (w.heap.size + 1 + 1) j (by omega)
      clear c1 d1 hz1
      go_wp2_with fail
      refine call_below (w := w) (by repeat' (first | (with_reducible first | exact bwR _ _ | assumption | refine bdn ?_ | refine bwA ?_ ?_ _ | refine bwD ?_ | refine bwS ?_ ?_ _) | omega | (simp <;> omega))) (fun HB => flowest_n ea _ _ _ H1 H2 H_H3.out (gkeep HB hBound rfl) H_hl.out) ?_
      intro w2 hb2 hz2 c2 d2
      have t2 := hb2.size
      have hBound_2 := gkeep hb2 hBound rfl
      have zhBound_2 := zlt hBound_2
      have xhBound_2 := zlts hBound_2
      have yhBound_2 := zne hBound_2
      try simp only [szA] at hz2 c2 d2
      try simp only [szD] at hz2 c2 d2
      try simp only [szS] at hz2 c2 d2
      try simp only [World.heap_drewN] at hz2 c2 d2
      have s2_0 : w.heap.size + 1 + 1 < w2.heap.size := by omega
      have o2_0 := fun j => c2 (w.heap.size + 1 + 1) j (by omega)
      have f2_0 := fun j => d2 (w.heap.size + 1 + 1) j (by omega)
      clear c2 d2 hz2
      go_wp2_with fail
      refine bodyPost_ret (by simp [results, Tryz.results55, go_sem, *]; try rfl) rfl ?_
      exact ⟨by rw [H_hc.out, H_hl.out, frV_n (by decide)], by repeat' (first | (with_reducible first | exact bwR _ _ | assumption | refine bdn ?_ | refine bwA ?_ ?_ _ | refine bwD ?_ | refine bwS ?_ ?_ _) | omega | (simp <;> omega))⟩
    · have H_h1 := Lib.hid h1
      clear h1
      have H_hc := Lib.hid hc
      clear hc
      have H_hx := Lib.hid hx
      clear hx
      have H_hy := Lib.hid hy
      clear hy
      have H_hl := Lib.hid hl
      clear hl
      go_enter Tryz.func55, Tryz.ntmps55
      go_wp2_with fail
      refine call_below (w := w) (by repeat' (first | (with_reducible first | exact bwR _ _ | assumption | refine bdn ?_ | refine bwA ?_ ?_ _ | refine bwD ?_ | refine bwS ?_ ?_ _) | omega | (simp <;> omega))) (fun HB => fboth_0 ea n d n' d' _ hn hd hn' hd' (gkeep HB hShape rfl) (gkeep HB hBound rfl) H_h1.out) ?_
      intro w1 hb1 hz1 c1 d1
      have t1 := hb1.size
      have hBound_1 := gkeep hb1 hBound rfl
      have zhBound_1 := zlt hBound_1
      have xhBound_1 := zlts hBound_1
      have yhBound_1 := zne hBound_1
      try simp only [szA] at hz1 c1 d1
      try simp only [szD] at hz1 c1 d1
      try simp only [szS] at hz1 c1 d1
      try simp only [World.heap_drewN] at hz1 c1 d1
      have s1_0 : w.heap.size < w1.heap.size := by omega
      have o1_0 := fun j => c1 (w.heap.size) j (by omega)
      have f1_0 := fun j => d1 (w.heap.size) j (by omega)
      have s1_1 : w.heap.size + 1 < w1.heap.size := by omega
      have o1_1 := fun j => c1 (w.heap.size + 1) j (by omega)
      have f1_1 := fun j => d1 (w.heap.size + 1) j (by omega)
      have s1_2 : w.heap.size + 1 + 1 < w1.heap.size := by omega
      have o1_2 := fun j => c1 (w.heap.size + 1 + 1) j (by omega)
      have f1_2 := fun j => d1 (w.heap.size + 1 + 1) j (by omega)
      clear c1 d1 hz1
      go_wp2_with fail
      refine call_below (w := w) (by repeat' (first | (with_reducible first | exact bwR _ _ | assumption | refine bdn ?_ | refine bwA ?_ ?_ _ | refine bwD ?_ | refine bwS ?_ ?_ _) | omega | (simp <;> omega))) (fun HB => flowest_n ea _ _ _ H1 H2 H_H3.out (gkeep HB hBound rfl) H_hl.out) ?_
      intro w2 hb2 hz2 c2 d2
      have t2 := hb2.size
      have hBound_2 := gkeep hb2 hBound rfl
      have zhBound_2 := zlt hBound_2
      have xhBound_2 := zlts hBound_2
      have yhBound_2 := zne hBound_2
      try simp only [szA] at hz2 c2 d2
      try simp only [szD] at hz2 c2 d2
      try simp only [szS] at hz2 c2 d2
      try simp only [World.heap_drewN] at hz2 c2 d2
      have s2_0 : w.heap.size + 1 + 1 < w2.heap.size := by omega
      have o2_0 := fun j => c2 (w.heap.size + 1 + 1) j (by omega)
      have f2_0 := fun j => d2 (w.heap.size + 1 + 1) j (by omega)
      clear c2 d2 hz2
      go_wp2_with fail
      refine bodyPost_ret (by simp [results, Tryz.results55, go_sem, *]; try rfl) rfl ?_
      exact ⟨by rw [H_hc.out, H_hl.out, frV_n (by decide)], by repeat' (first | (with_reducible first | exact bwR _ _ | assumption | refine bdn ?_ | refine bwA ?_ ?_ _ | refine bwD ?_ | refine bwS ?_ ?_ _) | omega | (simp <;> omega))⟩
    · have H_h1 := Lib.hid h1
      clear h1
      have H_hc := Lib.hid hc
      clear hc
      have H_hx := Lib.hid hx
      clear hx
      have H_hy := Lib.hid hy
      clear hy
      have H_hl := Lib.hid hl
      clear hl
      go_enter Tryz.func55, Tryz.ntmps55
      go_wp2_with fail
      refine call_below (w := w) (by repeat' (first | (with_reducible first | exact bwR _ _ | assumption | refine bdn ?_ | refine bwA ?_ ?_ _ | refine bwD ?_ | refine bwS ?_ ?_ _) | omega | (simp <;> omega))) (fun HB => fboth_0 ea n d n' d' _ hn hd hn' hd' (gkeep HB hShape rfl) (gkeep HB hBound rfl) H_h1.out) ?_
      intro w1 hb1 hz1 c1 d1
      have t1 := hb1.size
      have hBound_1 := gkeep hb1 hBound rfl
      have zhBound_1 := zlt hBound_1
      have xhBound_1 := zlts hBound_1
      have yhBound_1 := zne hBound_1
      try simp only [szA] at hz1 c1 d1
      try simp only [szD] at hz1 c1 d1
      try simp only [szS] at hz1 c1 d1
      try simp only [World.heap_drewN] at hz1 c1 d1
      have s1_0 : w.heap.size < w1.heap.size := by omega
      have o1_0 := fun j => c1 (w.heap.size) j (by omega)
      have f1_0 := fun j => d1 (w.heap.size) j (by omega)
      have s1_1 : w.heap.size + 1 < w1.heap.size := by omega
      have o1_1 := fun j => c1 (w.heap.size + 1) j (by omega)
      have f1_1 := fun j => d1 (w.heap.size + 1) j (by omega)
      have s1_2 : w.heap.size + 1 + 1 < w1.heap.size := by omega
      have o1_2 := fun j => c1 (w.heap.size + 1 + 1) j (by omega)
      have f1_2 := fun j => d1 (w.heap.size + 1 + 1) j (by omega)
      clear c1 d1 hz1
      go_wp2_with fail
      refine call_below (w := w) (by repeat' (first | (with_reducible first | exact bwR _ _ | assumption | refine bdn ?_ | refine bwA ?_ ?_ _ | refine bwD ?_ | refine bwS ?_ ?_ _) | omega | (simp <;> omega))) (fun HB => flowest_0 ea _ _ _ H1 H2 H_H3.out (gkeep HB hBound rfl) H_hl.out) ?_
      intro w2 hb2 hz2 c2 d2
      have t2 := hb2.size
      have hBound_2 := gkeep hb2 hBound rfl
      have zhBound_2 := zlt hBound_2
      have xhBound_2 := zlts hBound_2
      have yhBound_2 := zne hBound_2
      try simp only [szA] at hz2 c2 d2
      try simp only [szD] at hz2 c2 d2
      try simp only [szS] at hz2 c2 d2
      try simp only [World.heap_drewN] at hz2 c2 d2
      have s2_0 : w.heap.size + 1 + 1 < w2.heap.size := by omega
      have o2_0 := fun j => c2 (w.heap.size + 1 + 1) j (by omega)
      have f2_0 := fun j => d2 (w.heap.size + 1 + 1) j (by omega)
      clear c2 d2 hz2
      go_wp2_with fail
      refine bodyPost_ret (by simp [results, Tryz.results55, go_sem, *]; try rfl) rfl ?_
      exact ⟨by rw [H_hc.out, H_hl.out, frV_0 rfl], by repeat' (first | (with_reducible first | exact bwR _ _ | assumption | refine bdn ?_ | refine bwA ?_ ?_ _ | refine bwD ?_ | refine bwS ?_ ?_ _) | omega | (simp <;> omega))⟩
set_option maxHeartbeats 400000 in
theorem fmul_any (ea : Nat → Addr) (n d n' d' x y : Int) (w : World) (hn : I64 n) (hd : I64 d) (hn' : I64 n') (hd' : I64 d') (hShape : w.cell? ⟨2, 0, none⟩ = some (.iface 308 (.pointer (some (ea 3))))) (hBound : w.cell? ⟨0, 0, none⟩ = some (.iface 308 (.pointer (some (ea 2))))) (hx : n * n' = x) (hy : d * d' = y) :
    Calls Tryz.prog 144 #[.agg #[.int .i64 n, .int .i64 d], .agg #[.int .i64 n', .int .i64 d']] w fun e w' =>
      e = .returned (frV 308 ea (opC n d n' d' x y) (lowN x y) (lowD x y)) ∧ Below w.heap.size w w' := by
  have zhShape := zlt hShape
  have xhShape := zlts hShape
  have yhShape := zne hShape
  have zhBound := zlt hBound
  have xhBound := zlts hBound
  have yhBound := zne hBound
  rcases opC_cases n d n' d' x y with ⟨h1, hc⟩ | ⟨h1, hc⟩
  · have H_hc := Lib.hid hc
    clear hc
    have H_hx := Lib.hid hx
    clear hx
    have H_hy := Lib.hid hy
    clear hy
    go_enter Tryz.func144, Tryz.ntmps144
    go_wp2_with fail
    refine call_below (w := w) (by repeat' (first | (with_reducible first | exact bwR _ _ | assumption | refine bdn ?_ | refine bwA ?_ ?_ _ | refine bwD ?_ | refine bwS ?_ ?_ _) | omega | (simp <;> omega))) (fun HB => fboth_n ea n d n' d' _ hn hd hn' hd' (gkeep HB hShape rfl) (gkeep HB hBound rfl) h1) ?_
    intro w1 hb1 hz1 c1 d1
    have t1 := hb1.size
    have hBound_1 := gkeep hb1 hBound rfl
    have zhBound_1 := zlt hBound_1
    have xhBound_1 := zlts hBound_1
    have yhBound_1 := zne hBound_1
    try simp only [szA] at hz1 c1 d1
    try simp only [szD] at hz1 c1 d1
    try simp only [szS] at hz1 c1 d1
    try simp only [World.heap_drewN] at hz1 c1 d1
    have s1_0 : w.heap.size + 1 + 1 < w1.heap.size := by omega
    have o1_0 := fun j => c1 (w.heap.size + 1 + 1) j (by omega)
    have f1_0 := fun j => d1 (w.heap.size + 1 + 1) j (by omega)
    clear c1 d1 hz1
    go_wp2_with fail
    refine bodyPost_ret (by simp [results, Tryz.results144, go_sem, *]; try rfl) rfl ?_
    exact ⟨by rw [H_hc.out, frV_n h1], by repeat' (first | (with_reducible first | exact bwR _ _ | assumption | refine bdn ?_ | refine bwA ?_ ?_ _ | refine bwD ?_ | refine bwS ?_ ?_ _) | omega | (simp <;> omega))⟩
  · obtain ⟨s1, s2⟩ := bothC_0 h1
    obtain ⟨e3, e4, H1, H2, H3⟩ := mul_facts s1 s2; replace e3 := e3.trans hx; replace e4 := e4.trans hy
    rw [hx] at H1
    rw [hy] at H2 H3
    have H_H3 := Lib.hid H3
    clear H3 s1 s2
    rcases lowC_cases x y with ⟨_, hl⟩ | ⟨_, _, hl⟩ | ⟨_, _, hl⟩
    · have H_h1 := Lib.hid h1
      clear h1
      have H_hc := Lib.hid hc
      clear hc
      have H_hx := Lib.hid hx
      clear hx
      have H_hy := Lib.hid hy
      clear hy
      have H_hl := Lib.hid hl
      clear hl
      go_enter Tryz.func144, Tryz.ntmps144
      go_wp2_with fail
      refine call_below (w := w) (by repeat' (first | (with_reducible first | exact bwR _ _ | assumption | refine bdn ?_ | refine bwA ?_ ?_ _ | refine bwD ?_ | refine bwS ?_ ?_ _) | omega | (simp <;> omega))) (fun HB => fboth_0 ea n d n' d' _ hn hd hn' hd' (gkeep HB hShape rfl) (gkeep HB hBound rfl) H_h1.out) ?_
      intro w1 hb1 hz1 c1 d1
      have t1 := hb1.size
      have hBound_1 := gkeep hb1 hBound rfl
      have zhBound_1 := zlt hBound_1
      have xhBound_1 := zlts hBound_1
      have yhBound_1 := zne hBound_1
      try simp only [szA] at hz1 c1 d1
      try simp only [szD] at hz1 c1 d1
      try simp only [szS] at hz1 c1 d1
      try simp only [World.heap_drewN] at hz1 c1 d1
      have s1_0 : w.heap.size < w1.heap.size := by omega
      have o1_0 := fun j => c1 (w.heap.size) j (by omega)
      have f1_0 := fun j => d1 (w.heap.size) j (by omega)
      have s1_1 : w.heap.size + 1 < w1.heap.size := by omega
      have o1_1 := fun j => c1 (w.heap.size + 1) j (by omega)
      have f1_1 := fun j => d1 (w.heap.size + 1) j (by omega)
      have s1_2 : w.heap.size + 1 + 1 < w1.heap.size := by omega
      have o1_2 := fun j => c1 (w.heap.size + 1 + 1) j (by omega)
      have f1_2 := fun j => d1 (w.heap.size + 1 + 1) j (by omega)
      clear c1 d1 hz1
      go_wp2_with fail
      refine call_below (w := w) (by repeat' (first | (with_reducible first | exact bwR _ _ | assumption | refine bdn ?_ | refine bwA ?_ ?_ _ | refine bwD ?_ | refine bwS ?_ ?_ _) | omega | (simp <;> omega))) (fun HB => flowest_n ea _ _ _ H1 H2 H_H3.out (gkeep HB hBound rfl) H_hl.out) ?_
      intro w2 hb2 hz2 c2 d2
      have t2 := hb2.size
      have hBound_2 := gkeep hb2 hBound rfl
      have zhBound_2 := zlt hBound_2
      have xhBound_2 := zlts hBound_2
      have yhBound_2 := zne hBound_2
      try simp only [szA] at hz2 c2 d2
      try simp only [szD] at hz2 c2 d2
      try simp only [szS] at hz2 c2 d2
      try simp only [World.heap_drewN] at hz2 c2 d2
      have s2_0 : w.heap.size + 1 + 1 < w2.heap.size := by omega
      have o2_0 := fun j => c2 (w.heap.size + 1 + 1) j (by omega)
      have f2_0 := fun j => d2 (w.heap.size + 1 + 1) j (by omega)
      clear c2 d2 hz2
      go_wp2_with fail
      refine bodyPost_ret (by simp [results, Tryz.results144, go_sem, *]; try rfl) rfl ?_
      exact ⟨by rw [H_hc.out, H_hl.out, frV_n (by decide)], by repeat' (first | (with_reducible first | exact bwR _ _ | assumption | refine bdn ?_ | refine bwA ?_ ?_ _ | refine bwD ?_ | refine bwS ?_ ?_ _) | omega | (simp <;> omega))⟩
    · have H_h1 := Lib.hid h1
      clear h1
      have H_hc := Lib.hid hc
      clear hc
      have H_hx := Lib.hid hx
      clear hx
      have H_hy := Lib.hid hy
      clear hy
      have H_hl := Lib.hid hl
      clear hl
      go_enter Tryz.func144, Tryz.ntmps144
      go_wp2_with fail
      refine call_below (w := w) (by repeat' (first | (with_reducible first | exact bwR _ _ | assumption | refine bdn ?_ | refine bwA ?_ ?_ _ | refine bwD ?_ | refine bwS ?_ ?_ _) | omega | (simp <;> omega))) (fun HB => fboth_0 ea n d n' d' _ hn hd hn' hd' (gkeep HB hShape rfl) (gkeep HB hBound rfl) H_h1.out) ?_
      intro w1 hb1 hz1 c1 d1
      have t1 := hb1.size
      have hBound_1 := gkeep hb1 hBound rfl
      have zhBound_1 := zlt hBound_1
      have xhBound_1 := zlts hBound_1
      have yhBound_1 := zne hBound_1
      try simp only [szA] at hz1 c1 d1
      try simp only [szD] at hz1 c1 d1
      try simp only [szS] at hz1 c1 d1
      try simp only [World.heap_drewN] at hz1 c1 d1
      have s1_0 : w.heap.size < w1.heap.size := by omega
      have o1_0 := fun j => c1 (w.heap.size) j (by omega)
      have f1_0 := fun j => d1 (w.heap.size) j (by omega)
      have s1_1 : w.heap.size + 1 < w1.heap.size := by omega
      have o1_1 := fun j => c1 (w.heap.size + 1) j (by omega)
      have f1_1 := fun j => d1 (w.heap.size + 1) j (by omega)
      have s1_2 : w.heap.size + 1 + 1 < w1.heap.size := by omega
      have o1_2 := fun j => c1 (w.heap.size + 1 + 1) j (by omega)
      have f1_2 := fun j => d1 (w.heap.size + 1 + 1) j (by omega)
      clear c1 d1 hz1
      go_wp2_with fail
      refine call_below (w := w) (by repeat' (first | (with_reducible first | exact bwR _ _ | assumption | refine bdn ?_ | refine bwA ?_ ?_ _ | refine bwD ?_ | refine bwS ?_ ?_ _) | omega | (simp <;> omega))) (fun HB => flowest_n ea _ _ _ H1 H2 H_H3.out (gkeep HB hBound rfl) H_hl.out) ?_
      intro w2 hb2 hz2 c2 d2
      have t2 := hb2.size
      have hBound_2 := gkeep hb2 hBound rfl
      have zhBound_2 := zlt hBound_2
      have xhBound_2 := zlts hBound_2
      have yhBound_2 := zne hBound_2
      try simp only [szA] at hz2 c2 d2
      try simp only [szD] at hz2 c2 d2
      try simp only [szS] at hz2 c2 d2
      try simp only [World.heap_drewN] at hz2 c2 d2
      have s2_0 : w.heap.size + 1 + 1 < w2.heap.size := by omega
      have o2_0 := fun j => c2 (w.heap.size + 1 + 1) j (by omega)
      have f2_0 := fun j => d2 (w.heap.size + 1 + 1) j (by omega)
      clear c2 d2 hz2
      go_wp2_with fail
      refine bodyPost_ret (by simp [results, Tryz.results144, go_sem, *]; try rfl) rfl ?_
      exact ⟨by rw [H_hc.out, H_hl.out, frV_n (by decide)], by repeat' (first | (with_reducible first | exact bwR _ _ | assumption | refine bdn ?_ | refine bwA ?_ ?_ _ | refine bwD ?_ | refine bwS ?_ ?_ _) | omega | (simp <;> omega))⟩
    · have H_h1 := Lib.hid h1
      clear h1
      have H_hc := Lib.hid hc
      clear hc
      have H_hx := Lib.hid hx
      clear hx
      have H_hy := Lib.hid hy
      clear hy
      have H_hl := Lib.hid hl
      clear hl
      go_enter Tryz.func144, Tryz.ntmps144
      go_wp2_with fail
      refine call_below (w := w) (by repeat' (first | (with_reducible first | exact bwR _ _ | assumption | refine bdn ?_ | refine bwA ?_ ?_ _ | refine bwD ?_ | refine bwS ?_ ?_ _) | omega | (simp <;> omega))) (fun HB => fboth_0 ea n d n' d' _ hn hd hn' hd' (gkeep HB hShape rfl) (gkeep HB hBound rfl) H_h1.out) ?_
      intro w1 hb1 hz1 c1 d1
      have t1 := hb1.size
      have hBound_1 := gkeep hb1 hBound rfl
      have zhBound_1 := zlt hBound_1
      have xhBound_1 := zlts hBound_1
      have yhBound_1 := zne hBound_1
      try simp only [szA] at hz1 c1 d1
      try simp only [szD] at hz1 c1 d1
      try simp only [szS] at hz1 c1 d1
      try simp only [World.heap_drewN] at hz1 c1 d1
      have s1_0 : w.heap.size < w1.heap.size := by omega
      have o1_0 := fun j => c1 (w.heap.size) j (by omega)
      have f1_0 := fun j => d1 (w.heap.size) j (by omega)
      have s1_1 : w.heap.size + 1 < w1.heap.size := by omega
      have o1_1 := fun j => c1 (w.heap.size + 1) j (by omega)
      have f1_1 := fun j => d1 (w.heap.size + 1) j (by omega)
      have s1_2 : w.heap.size + 1 + 1 < w1.heap.size := by omega
      have o1_2 := fun j => c1 (w.heap.size + 1 + 1) j (by omega)
      have f1_2 := fun j => d1 (w.heap.size + 1 + 1) j (by omega)
      clear c1 d1 hz1
      go_wp2_with fail
      refine call_below (w := w) (by repeat' (first | (with_reducible first | exact bwR _ _ | assumption | refine bdn ?_ | refine bwA ?_ ?_ _ | refine bwD ?_ | refine bwS ?_ ?_ _) | omega | (simp <;> omega))) (fun HB => flowest_0 ea _ _ _ H1 H2 H_H3.out (gkeep HB hBound rfl) H_hl.out) ?_
      intro w2 hb2 hz2 c2 d2
      have t2 := hb2.size
      have hBound_2 := gkeep hb2 hBound rfl
      have zhBound_2 := zlt hBound_2
      have xhBound_2 := zlts hBound_2
      have yhBound_2 := zne hBound_2
      try simp only [szA] at hz2 c2 d2
      try simp only [szD] at hz2 c2 d2
      try simp only [szS] at hz2 c2 d2
      try simp only [World.heap_drewN] at hz2 c2 d2
      have s2_0 : w.heap.size + 1 + 1 < w2.heap.size := by omega
      have o2_0 := fun j => c2 (w.heap.size + 1 + 1) j (by omega)
      have f2_0 := fun j => d2 (w.heap.size + 1 + 1) j (by omega)
      clear c2 d2 hz2
      go_wp2_with fail
      refine bodyPost_ret (by simp [results, Tryz.results144, go_sem, *]; try rfl) rfl ?_
      exact ⟨by rw [H_hc.out, H_hl.out, frV_0 rfl], by repeat' (first | (with_reducible first | exact bwR _ _ | assumption | refine bdn ?_ | refine bwA ?_ ?_ _ | refine bwD ?_ | refine bwS ?_ ?_ _) | omega | (simp <;> omega))⟩
end Go.Proofs.YtpdaenldmgpkjaaGreatDoor

/-
  Walks over package frac: Div, Cmp.
-/
namespace Go.Proofs.YtpdaenldmgpkjaaGreatDoor
open Go.RowKit Lead

end Go.Proofs.YtpdaenldmgpkjaaGreatDoor

/-
  Walks over package frac: its acts, told by fractions.
-/
namespace Lead
open Go Go.RowKit
theorem call_frx {P : Program} {f : FuncId} {args : Array Value} {w W : World} {R : Ending → World → Prop} {T : Nat} {ea : Nat → Addr} {c : Nat} {q r : Int} (hB : Below w.heap.size w W)
    (h : Below w.heap.size w W → Calls P f args W fun e w' => e = .returned (frV T ea c q r) ∧ Below W.heap.size W w')
    (k : ∀ q' r' x w1, Below w.heap.size w w1 → W.heap.size ≤ w1.heap.size → (∀ b o, b < W.heap.size → w1.cell? ⟨b, o, none⟩ = W.cell? ⟨b, o, none⟩) →
      (∀ b o, b < W.heap.size → w1.frozen? ⟨b, o, none⟩ = W.frozen? ⟨b, o, none⟩) → Below W.heap.size W w1 → R (.returned (.tuple #[.agg #[.int .i64 q', .int .i64 r'], x])) w1) : Calls P f args W R :=
  (h hB).mono fun en w1 ⟨he, hb⟩ => by
    subst he
    unfold frV
    split <;> exact k _ _ _ w1 (hB.trans (hb.mono hB.size)) hb.size (bcell hb).1 (bcell hb).2 hb
def Fr.addK (a b : Fr) : Nat := opC a.n a.d b.n b.d (addN a b) (addD a b)
def Fr.subK (a b : Fr) : Nat := opC a.n a.d b.n b.d (subN a b) (addD a b)
def Fr.mulK (a b : Fr) : Nat := opC a.n a.d b.n b.d (mulN a b) (addD a b)
def Fr.divK (a b : Fr) : Nat := divC a.n a.d b.n b.d (divN a b) (divD a b)
theorem opC_0 {n d n' d' x y : Int} (h : opC n d n' d' x y = 0) : Right n d ∧ Right n' d' ∧ lowC x y = 0 := by
  rcases opC_cases n d n' d' x y with ⟨h1, h2⟩ | ⟨h1, h2⟩
  · exact absurd (h2.symm.trans h) h1
  · exact ⟨(bothC_0 h1).1, (bothC_0 h1).2, h2.symm.trans h⟩
theorem both_R {a b : Fr} (h1 : a.R) (h2 : b.R) : bothC a.n a.d b.n b.d = 0 := (if_pos (chk_right h1)).trans (chk_right h2)
theorem opC_ok {a b : Fr} {x y : Int} (h1 : a.R) (h2 : b.R) (h : lowC x y = 0) : opC a.n a.d b.n b.d x y = 0 := (if_pos (both_R h1 h2)).trans h
theorem Fr.R.i {a : Fr} (h : a.R) : a.I := ⟨Right.ni h, Right.di h⟩
end Lead
namespace Go.Proofs.YtpdaenldmgpkjaaGreatDoor
open Go.RowKit Lead

theorem fadd_f (ea : Nat → Addr) (a b x : Fr) (w : World) (ia : a.I) (ib : b.I) (hShape : w.cell? ⟨2, 0, none⟩ = some (.iface 308 (.pointer (some (ea 3))))) (hBound : w.cell? ⟨0, 0, none⟩ = some (.iface 308 (.pointer (some (ea 2))))) (hx : a.add b = x) :
    Calls Tryz.prog 55 #[.agg #[.int .i64 a.n, .int .i64 a.d], .agg #[.int .i64 b.n, .int .i64 b.d]] w fun e w' =>
      e = .returned (frV 308 ea (a.addK b) x.n x.d) ∧ Below w.heap.size w w' := by
  subst hx
  exact fadd_any ea a.n a.d b.n b.d (addN a b) (addD a b) w ia.n ia.d ib.n ib.d hShape hBound rfl rfl
theorem fmul_f (ea : Nat → Addr) (a b x : Fr) (w : World) (ia : a.I) (ib : b.I) (hShape : w.cell? ⟨2, 0, none⟩ = some (.iface 308 (.pointer (some (ea 3))))) (hBound : w.cell? ⟨0, 0, none⟩ = some (.iface 308 (.pointer (some (ea 2))))) (hx : a.mul b = x) :
    Calls Tryz.prog 144 #[.agg #[.int .i64 a.n, .int .i64 a.d], .agg #[.int .i64 b.n, .int .i64 b.d]] w fun e w' =>
      e = .returned (frV 308 ea (a.mulK b) x.n x.d) ∧ Below w.heap.size w w' := by
  subst hx
  exact fmul_any ea a.n a.d b.n b.d (mulN a b) (addD a b) w ia.n ia.d ib.n ib.d hShape hBound rfl rfl
end Go.Proofs.YtpdaenldmgpkjaaGreatDoor
