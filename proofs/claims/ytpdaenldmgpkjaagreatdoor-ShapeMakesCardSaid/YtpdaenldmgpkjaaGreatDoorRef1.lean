/-
  Walks over the document's answer: fractions, points.
-/
import Derived.Test.YtpdaenldmgpkjaaGreatDoorFa
import Derived.Test.YtpdaenldmgpkjaaGreatDoorPa
namespace Go.Proofs.YtpdaenldmgpkjaaGreatDoor
open Go.RowKit Lead

set_option maxHeartbeats 400000 in
theorem rdivisor_any (a b : Int) (w : World) (ha : I64 a) (hb : I64 b) :
    Calls Tryz.prog 84 #[.int .i64 a, .int .i64 b] w fun e w' => e = .returned (.int .i64 (wrap64 (Int.gcd a b))) ∧ ∃ n, w' = w.drewN n := by
  go_enter Tryz.func84, Tryz.ntmps84
  go_wp2
  go_loopw [0, 1] (fun s t wr => ∃ x y : Int, s = .int .i64 x ∧ t = .int .i64 y ∧ I64 x ∧ I64 y ∧ Int.gcd x y = Int.gcd a b ∧ ∃ n, wr = w.drewN n) (fun _ t _ => (intOf t).natAbs)
  case atStart => exact ⟨a, b, rfl, rfl, ha, hb, rfl, 0, rfl⟩
  case round =>
    obtain ⟨x, y, rfl, rfl, hx, hy, hg, n, rfl⟩ := hrel
    have HG : Hid (Int.gcd x y = Int.gcd a b) := hg
    clear hg
    by_cases h0 : y = 0
    · subst h0
      by_cases hx0 : x < 0
      · have e : ((Int.gcd x 0 : Nat) : Int) = -x := by rw [Int.gcd_zero_right]; omega
        go_wp2
        go_ret
        exact ⟨by rw [← HG.out, e]; rfl, n, rfl⟩
      · have e : ((Int.gcd x 0 : Nat) : Int) = x := by rw [Int.gcd_zero_right]; omega
        have e2 : wrap64 x = x := by apply IntWalk.wrap64_in; unfold I64 at hx; omega
        clear hx
        go_wp2
        go_ret
        exact ⟨by rw [← HG.out, e, e2]; rfl, n, rfl⟩
    · have hy' : (y == 0) = false := by simpa using h0
      go_wp2
      go_roundw
      case rel => exact ⟨y, x.tmod y, rfl, rfl, hy, tmod_i64 hy h0, gcd_step.trans HG.out, n, rfl⟩
      case measure => exact tmod_lt h0

theorem rdivisor_1 (a b : Int) (w : World) (ha : I64 a) (hb : I64 b) (h1 : 1 ≤ b) (h : Int.gcd a b = 1) :
    Calls Tryz.prog 84 #[.int .i64 a, .int .i64 b] w fun e w' => e = .returned (.int .i64 1) ∧ ∃ n, w' = w.drewN n :=
  (rdivisor_any a b w ha hb).mono fun e w' ⟨h2, h3⟩ => ⟨by rw [h2, gcd_wrap1 h1 hb, h]; rfl, h3⟩
theorem rdivisor_n (a b : Int) (w : World) (ha : I64 a) (hb : I64 b) (h1 : 1 ≤ b) :
    Calls Tryz.prog 84 #[.int .i64 a, .int .i64 b] w fun e w' => e = .returned (.int .i64 (Int.gcd a b)) ∧ ∃ n, w' = w.drewN n :=
  (rdivisor_any a b w ha hb).mono fun e w' ⟨h2, h3⟩ => ⟨by rw [h2, gcd_wrap1 h1 hb], h3⟩

set_option maxHeartbeats 400000 in
theorem rsmall_b (a : Int) (b : Bool) (w : World) (h : sml a = b) :
    Calls Tryz.prog 85 #[.int .i64 a] w fun e w' => e = .returned (.bool b) ∧ w = w' := by
  subst h
  go_enter Tryz.func85, Tryz.ntmps85
  go_wp2
  all_goals
    go_ret
    refine ⟨?_, rfl⟩
    unfold sml
    congr 2
    simp
    omega

set_option maxHeartbeats 400000 in
theorem rfracerror_any (n d : Int) (w : World) (hn : I64 n) (hd : I64 d) :
    Calls Tryz.prog 56 #[.agg #[.int .i64 n, .int .i64 d]] w fun e w' => e = .returned (.int .i64 (chk n d)) ∧ Below w.heap.size w w' := by
  rcases chk_cases n d with ⟨h1, hc⟩ | ⟨h1, h2, hc⟩ | ⟨h1, h2, h3, hc⟩ | ⟨h1, h2, h3, h4, hc⟩ | ⟨h1, h2, h3, h4, hc⟩ <;> (rw [hc]; clear hc)
  · go_enter Tryz.func56, Tryz.ntmps56
    go_wp2_with fail
    go_returns
    exact ⟨rfl, by repeat' (first | (with_reducible first | exact bwR _ _ | assumption | refine bdn ?_ | refine bwA ?_ ?_ _ | refine bwD ?_ | refine bwS ?_ ?_ _) | omega | (simp <;> omega))⟩
  · have h1' : ¬ d < 1 := by omega
    have h2' : (((Int.gcd n d : Nat) : Int) != 1) = true := by rw [bne_iff_ne]; omega
    clear h2
    go_enter Tryz.func56, Tryz.ntmps56
    go_wp2_with fail
    refine (rdivisor_n _ _ _ hn hd h1).mono ?_
    rintro _ _ ⟨rfl, _, rfl⟩
    go_wp2_with fail
    go_returns
    exact ⟨rfl, by repeat' (first | (with_reducible first | exact bwR _ _ | assumption | refine bdn ?_ | refine bwA ?_ ?_ _ | refine bwD ?_ | refine bwS ?_ ?_ _) | omega | (simp <;> omega))⟩
  · have h1' : ¬ d < 1 := by omega
    by_cases h4 : sml d = true
    · go_enter Tryz.func56, Tryz.ntmps56
      go_wp2_with fail
      refine (rdivisor_1 _ _ _ hn hd h1 h2).mono ?_
      rintro _ _ ⟨rfl, _, rfl⟩
      go_wp2_with fail
      refine (rsmall_b _ _ _ h3).mono ?_
      rintro _ _ ⟨rfl, rfl⟩
      go_wp2_with fail
      refine (rsmall_b _ _ _ h4).mono ?_
      rintro _ _ ⟨rfl, rfl⟩
      go_wp2_with fail
      go_returns
      exact ⟨rfl, by repeat' (first | (with_reducible first | exact bwR _ _ | assumption | refine bdn ?_ | refine bwA ?_ ?_ _ | refine bwD ?_ | refine bwS ?_ ?_ _) | omega | (simp <;> omega))⟩
    · have h4 := Bool.eq_false_iff.2 h4
      go_enter Tryz.func56, Tryz.ntmps56
      go_wp2_with fail
      refine (rdivisor_1 _ _ _ hn hd h1 h2).mono ?_
      rintro _ _ ⟨rfl, _, rfl⟩
      go_wp2_with fail
      refine (rsmall_b _ _ _ h3).mono ?_
      rintro _ _ ⟨rfl, rfl⟩
      go_wp2_with fail
      refine (rsmall_b _ _ _ h4).mono ?_
      rintro _ _ ⟨rfl, rfl⟩
      go_wp2_with fail
      go_returns
      exact ⟨rfl, by repeat' (first | (with_reducible first | exact bwR _ _ | assumption | refine bdn ?_ | refine bwA ?_ ?_ _ | refine bwD ?_ | refine bwS ?_ ?_ _) | omega | (simp <;> omega))⟩
  · have h1' : ¬ d < 1 := by omega
    go_enter Tryz.func56, Tryz.ntmps56
    go_wp2_with fail
    refine (rdivisor_1 _ _ _ hn hd h1 h2).mono ?_
    rintro _ _ ⟨rfl, _, rfl⟩
    go_wp2_with fail
    refine (rsmall_b _ _ _ h3).mono ?_
    rintro _ _ ⟨rfl, rfl⟩
    go_wp2_with fail
    refine (rsmall_b _ _ _ h4).mono ?_
    rintro _ _ ⟨rfl, rfl⟩
    go_wp2_with fail
    go_returns
    exact ⟨rfl, by repeat' (first | (with_reducible first | exact bwR _ _ | assumption | refine bdn ?_ | refine bwA ?_ ?_ _ | refine bwD ?_ | refine bwS ?_ ?_ _) | omega | (simp <;> omega))⟩
  · have h1' : ¬ d < 1 := by omega
    go_enter Tryz.func56, Tryz.ntmps56
    go_wp2_with fail
    refine (rdivisor_1 _ _ _ hn hd h1 h2).mono ?_
    rintro _ _ ⟨rfl, _, rfl⟩
    go_wp2_with fail
    refine (rsmall_b _ _ _ h3).mono ?_
    rintro _ _ ⟨rfl, rfl⟩
    go_wp2_with fail
    refine (rsmall_b _ _ _ h4).mono ?_
    rintro _ _ ⟨rfl, rfl⟩
    go_wp2_with fail
    go_returns
    exact ⟨rfl, by repeat' (first | (with_reducible first | exact bwR _ _ | assumption | refine bdn ?_ | refine bwA ?_ ?_ _ | refine bwD ?_ | refine bwS ?_ ?_ _) | omega | (simp <;> omega))⟩

end Go.Proofs.YtpdaenldmgpkjaaGreatDoor
