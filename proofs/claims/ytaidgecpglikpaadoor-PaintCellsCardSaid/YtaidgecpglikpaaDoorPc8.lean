/-
  The statement PaintCells: where it says nothing.
-/
import Derived.Test.YtaidgecpglikpaaDoorPc3
import Derived.Test.YtaidgecpglikpaaDoorPc4
import Derived.Test.YtaidgecpglikpaaDoorPc7
import Derived.Test.YtaidgecpglikpaaDoorPnR
import Derived.Test.YtaidgecpglikpaaDoorFaul
import Derived.Test.YtaidgecpglikpaaDoorHolds2
import Derived.Deep.DeepCutAuto
import Derived.Deep.CutRange
namespace Go.Proofs.YtaidgecpglikpaaDoor
open Go.RowKit Lead
theorem chkP_le (l : List Pk) : ∀ k, (chkP l k).1 ≤ 11 := by
  induction l with
  | nil => intro k; exact Nat.zero_le _
  | cons x r ih =>
    intro k
    show (if pkC x = 0 then chkP r (k + 1) else (pkC x, some k)).1 ≤ 11
    by_cases h : pkC x = 0
    · rw [if_pos h]; exact ih _
    · rw [if_neg h]
      show pkC x ≤ 11
      unfold pkC
      have := shC_le x.ps
      split
      · split <;> omega
      · exact this
theorem Sents.pg {ea : Nat → Addr} {w : World} (h : Sents ea w) : PGs ea w := ⟨h.c2, h.c3, h.c10, h.c11, h.hdl⟩
set_option maxHeartbeats 2000000 in
set_option maxRecDepth 100000 in
theorem pc_far (ea : Nat → Addr) (l : List Pc) (oa : Option Addr) (len cap : Nat) (zw zh zy : Int) (w : World) (hs : ArgPc w oa len cap l) (hP : PGs ea w)
    (hno : longB l = true ∨ (longB l = false ∧ ((15 < zw ∧ zw ≤ 40) ∨ (¬ 15 < zw ∧ 15 < zh ∧ zh ≤ 40) ∨ (40 < zw ∧ 15 < zh ∧ zh ≤ 40)))) :
    Calls Tryd.prog 3 #[.slice oa len cap, .int .i64 zw, .int .i64 zh, .int .i64 zy] w fun e w' => e = .returned (.bool true) ∧ Below w.heap.size w w' := by
  rcases hno with h | ⟨h, ⟨h1, h2⟩ | ⟨h1, h2, h3⟩ | ⟨h1, h2, h3⟩⟩
  all_goals
    have H_hs := Lib.hid hs
    clear hs
    have H_hP := Lib.hid hP
    clear hP
    have H_h := Lib.hid h
    clear h
    go_enter Tryd.func3, Tryd.ntmps3
    go_wp2_with fail
    refine call_bel (w := w) (by repeat' (first | (with_reducible first | exact bwR _ _ | assumption | refine bdn ?_ | refine bwA ?_ ?_ _ | refine bwD ?_ | refine bwS ?_ ?_ _) | omega | (simp <;> omega))) (fun HB => painted_any ea _ (H_hP.out.keep HB rfl)) ?_
    intro w1 hb1 hz1 c1 d1 hW1
    have t1 := hb1.size
    clear c1 d1 hz1 hW1
    go_wp2_with fail
    refine call_bel (w := w) (by repeat' (first | (with_reducible first | exact bwR _ _ | assumption | refine bdn ?_ | refine bwA ?_ ?_ _ | refine bwD ?_ | refine bwS ?_ ?_ _) | omega | (simp <;> omega))) (fun HB => longpieces_any l oa len cap _ _ (H_hs.out.keep HB rfl) H_h.out) ?_
    intro w2 hb2 hz2 c2 d2 hW2
    have t2 := hb2.size
    clear c2 d2 hz2 hW2
    go_wp2_with fail
    go_returns
    exact ⟨rfl, by repeat' (first | (with_reducible first | exact bwR _ _ | assumption | refine bdn ?_ | refine bwA ?_ ?_ _ | refine bwD ?_ | refine bwS ?_ ?_ _) | omega | (simp <;> omega))⟩
end Go.Proofs.YtaidgecpglikpaaDoor
