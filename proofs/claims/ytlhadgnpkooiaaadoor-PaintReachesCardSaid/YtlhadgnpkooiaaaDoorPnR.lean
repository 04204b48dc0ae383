/-
  The statement PaintReaches: its walk.
-/
import Derived.Test.YtlhadgnpkooiaaaDoorPnQ
namespace Lead
open Go Go.RowKit
theorem longB_no {l : List Pc} (h : longB l = false) : l.length ≤ 8 ∧ ∀ p ∈ l, p.len ≤ 40 ∧ p.fill.size ≤ 60 ∧ p.rule.size ≤ 60 := by
  unfold longB at h
  rw [Bool.or_eq_false_iff] at h
  refine ⟨by have := h.1; simp at this; exact this, fun p hp => ?_⟩
  have h2 := List.any_eq_false.1 h.2 p hp
  unfold longP at h2
  simp at h2
  omega
theorem cells_take (l : List Pk) (n y : Nat) : ∀ h, y < h → ((cellsP l n h).drop (y * n)).take n = rowP l y (dots n) := by
  intro h
  induction h with
  | zero => intro hy; omega
  | succ h ih =>
    intro hy
    rw [cellsP_step]
    have hlen := cellsP_len l n h
    by_cases hh : y = h
    · subst hh
      rw [List.drop_append_of_le_length (by omega), List.drop_of_length_le (by omega), List.nil_append]
      exact List.take_of_length_le (by rw [rowP_len]; simp [dots])
    · have hy' : y < h := by omega
      have hle : (y + 1) * n ≤ h * n := Nat.mul_le_mul_right _ hy'
      rw [Nat.succ_mul] at hle
      rw [List.drop_append_of_le_length (by omega), List.take_append_of_le_length (by rw [List.length_drop]; omega)]
      exact ih hy'
end Lead
namespace Go.Proofs.YtlhadgnpkooiaaaDoor
open Go.RowKit Lead
set_option maxHeartbeats 1000000 in
theorem pr_far (ea : Nat → Addr) (l : List Pc) (oa : Option Addr) (len cap : Nat) (zw zh zy : Int) (w : World) (hs : ArgPc w oa len cap l) (hP : PGs ea w)
    (hno : longB l = true ∨ (longB l = false ∧ (zw < 1 ∨ (1 ≤ zw ∧ 12 < zw) ∨ (1 ≤ zw ∧ zw ≤ 12 ∧ (zh < 1 ∨ (1 ≤ zh ∧ 12 < zh) ∨ (1 ≤ zh ∧ zh ≤ 12 ∧ (zy < 0 ∨ (0 ≤ zy ∧ zh ≤ zy)))))))) :
    Calls Tryd.prog 3 #[.slice oa len cap, .int .i64 zw, .int .i64 zh, .int .i64 zy] w fun e w' => e = .returned (.bool true) ∧ Below w.heap.size w w' := by
  rcases hno with h | ⟨h, h1 | ⟨h1, h2⟩ | ⟨h1, h2, h3 | ⟨h3, h4⟩ | ⟨h3, h4, h5 | ⟨h5, h6⟩⟩⟩⟩
  all_goals
    have H_hs := Lib.hid hs
    clear hs
    have H_hP := Lib.hid hP
    clear hP
    have H_h := Lib.hid h
    clear h
    go_enter Tryd.func3, Tryd.ntmps3
    go_wp2_with fail
    refine call_bel (w := w) (by repeat' (first | (with_reducible first | exact bwR _ _ | assumption | refine bdn ?_ | refine bwA ?_ ?_ _ | refine bwD ?_ | refine bwS ?_ ?_ _) | omega | (simp <;> omega))) (fun HB => painted_any ea _ (H_hP.out.keep HB rfl)) ?_
    intro w1 hb1 hz1 c1 d1 hW1
    have t1 := hb1.size
    clear c1 d1 hz1 hW1
    go_wp2_with fail
    refine call_bel (w := w) (by repeat' (first | (with_reducible first | exact bwR _ _ | assumption | refine bdn ?_ | refine bwA ?_ ?_ _ | refine bwD ?_ | refine bwS ?_ ?_ _) | omega | (simp <;> omega))) (fun HB => longpieces_any l oa len cap _ _ (H_hs.out.keep HB rfl) H_h.out) ?_
    intro w2 hb2 hz2 c2 d2 hW2
    have t2 := hb2.size
    clear c2 d2 hz2 hW2
    go_wp2_with fail
    go_returns
    exact ⟨rfl, by repeat' (first | (with_reducible first | exact bwR _ _ | assumption | refine bdn ?_ | refine bwA ?_ ?_ _ | refine bwD ?_ | refine bwS ?_ ?_ _) | omega | (simp <;> omega))⟩
end Go.Proofs.YtlhadgnpkooiaaaDoor
