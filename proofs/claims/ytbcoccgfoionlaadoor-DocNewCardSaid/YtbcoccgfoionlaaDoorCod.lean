/-
  Walks over the statements' helper 'coded'.
-/
import Derived.Test.YtbcoccgfoionlaaDoorCode2

namespace Go.Proofs.YtbcoccgfoionlaaDoor
open Go.RowKit Lead

set_option maxHeartbeats 1000000 in
theorem coded1_s (ea : Nat → Addr) (c : Nat) (w : World) (h1 : 1 ≤ c) (h2 : c ≤ 11) (hS : Sents ea w) :
    Calls Tryd.prog 10 #[.iface 168 (.pointer (some (ea c))), .int .i64 c] w fun e w' => e = .returned (.bool true) ∧ Below w.heap.size w w' := by
  have H_hS := Lib.hid hS
  clear hS
  go_enter Tryd.func10, Tryd.ntmps10
  go_wp2_with fail
  refine call_bel (w := w) (by repeat' (first | (with_reducible first | exact bwR _ _ | assumption | refine bdn ?_ | refine bwA ?_ ?_ _ | refine bwD ?_ | refine bwS ?_ ?_ _) | omega | (simp <;> omega))) (fun HB => code_sent ea c _ h1 h2 (H_hS.out.keep HB rfl)) ?_
  intro w1 hb1 hz1 c1 d1 hW1
  have t1 := hb1.size
  clear c1 d1 hz1 hW1
  go_wp2_with fail
  go_returns
  exact ⟨rfl, by repeat' (first | (with_reducible first | exact bwR _ _ | assumption | refine bdn ?_ | refine bwA ?_ ?_ _ | refine bwD ?_ | refine bwS ?_ ?_ _) | omega | (simp <;> omega))⟩
set_option maxHeartbeats 1000000 in
theorem coded1_0 (w : World) :
    Calls Tryd.prog 10 #[.nilIface, .int .i64 0] w fun e w' => e = .returned (.bool true) ∧ Below w.heap.size w w' := by
  go_enter Tryd.func10, Tryd.ntmps10
  go_wp2_with fail
  refine call_bel (w := w) (by repeat' (first | (with_reducible first | exact bwR _ _ | assumption | refine bdn ?_ | refine bwA ?_ ?_ _ | refine bwD ?_ | refine bwS ?_ ?_ _) | omega | (simp <;> omega))) (fun HB => code_nil _) ?_
  intro w1 hb1 hz1 c1 d1 hW1
  have t1 := hb1.size
  clear c1 d1 hz1 hW1
  go_wp2_with fail
  go_returns
  exact ⟨rfl, by repeat' (first | (with_reducible first | exact bwR _ _ | assumption | refine bdn ?_ | refine bwA ?_ ?_ _ | refine bwD ?_ | refine bwS ?_ ?_ _) | omega | (simp <;> omega))⟩
theorem coded1_t (ea : Nat → Addr) (c : Nat) (w : World) (h2 : c ≤ 11) (hS : Sents ea w) :
    Calls Tryd.prog 10 #[evl 168 ea c, .int .i64 c] w fun e w' => e = .returned (.bool true) ∧ Below w.heap.size w w' := by
  by_cases h0 : c = 0
  · subst h0; exact coded1_0 w
  · rw [evl_n h0]; exact coded1_s ea c w (by omega) h2 hS
end Go.Proofs.YtbcoccgfoionlaaDoor
