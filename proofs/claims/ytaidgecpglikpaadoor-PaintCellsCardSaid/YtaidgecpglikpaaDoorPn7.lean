/-
  Walks over package paint: Row.
-/
import Derived.Test.YtaidgecpglikpaaDoorPn6
namespace Go.Proofs.YtaidgecpglikpaaDoor
open Go.RowKit Lead
set_option maxHeartbeats 1000000 in
set_option maxRecDepth 100000 in
theorem rowf_ok (ea : Nat → Addr) (l : List Pc) (oa : Option Addr) (len cap n y : Nat) (w : World) (hs : SlPc w oa len cap l) (hP : PGs ea w) (h1 : 1 ≤ n) (h40 : n ≤ 40) (hy : y < 40) (hok : chkP (l.map Pc.k) 0 = (0, none)) :
    Calls Tryd.prog 16 #[.slice oa len cap, .int .i64 n, .int .i64 y] w fun e w' => ∃ g, e = .returned (.tuple #[.slice (some ⟨g, 0, none⟩) n n, .nilIface]) ∧ w.heap.size ≤ g ∧ w'.heap[g]? = some (.cells (strs (rowP (l.map Pc.k) y (dots n))) 9 (0, 0)) ∧ Below w.heap.size w w' := by
  have hBound := hP.c2
  have hShape := hP.c3
  have hZero := hP.c11
  have zhShape := zlt hShape
  have xhShape := zlts hShape
  have yhShape := zne hShape
  have zhBound := zlt hBound
  have xhBound := zlts hBound
  have yhBound := zne hBound
  have zhZero := zlt hZero
  have xhZero := zlts hZero
  have yhZero := zne hZero
  have g1 : ¬ (y : Int) < 0 := by omega
  have g2 : ¬ (40 : Int) ≤ (y : Int) := by omega
  have hall : ∀ x ∈ l, pkC x.k = 0 := fun x hx => chkP_ok hok _ (List.mem_map.2 ⟨x, hx, rfl⟩)
  have hsd : (decide (1 ≤ (n : Int)) && decide ((n : Int) ≤ 40)) = true := by simp; omega
  have H_hs := Lib.hid hs
  clear hs
  have H_hP := Lib.hid hP
  clear hP
  have H_hok := Lib.hid hok
  clear hok
  have H_hall := Lib.hid hall
  clear hall
  have H_hsd := Lib.hid hsd
  clear hsd
  go_enter Tryd.func16, Tryd.ntmps16
  go_wp2_with fail
  refine call_bel (w := w) (by repeat' (first | (with_reducible first | exact bwR _ _ | assumption | refine bdn ?_ | refine bwA ?_ ?_ _ | refine bwD ?_ | refine bwS ?_ ?_ _) | omega | (simp <;> omega))) (fun HB => side_any n true _ H_hsd.out) ?_
  intro w1 hb1 hz1 c1 d1 hW1
  have t1 := hb1.size
  clear c1 d1 hz1 hW1
  go_wp2_with fail
  refine call_ew (w := w) (by repeat' (first | (with_reducible first | exact bwR _ _ | assumption | refine bdn ?_ | refine bwA ?_ ?_ _ | refine bwD ?_ | refine bwS ?_ ?_ _) | omega | (simp <;> omega))) (fun HB => check_any ea l oa len cap _ (H_hs.out.keep HB rfl) (H_hP.out.keep HB rfl)) ?_
  rw [H_hok.out]
  intro x2 w2 hx2 hb2 hz2 c2 d2 hW2
  have t2 := hb2.size
  clear c2 d2 hz2 hW2
  obtain rfl := hx2.nil rfl
  clear hx2
  go_wp2_with fail
  refine (row_any ea l oa len cap n y _ (H_hs.out.keep hb2 rfl) H_hall.out h1 h40 hy (gkeep hb2 hShape rfl) (gkeep hb2 hBound rfl) (gkeep hb2 hZero rfl)).mono ?_
  rintro _ w3 ⟨g, rfl, hg, hh, hb3⟩
  have hB3 := hb2.trans (hb3.mono t2)
  have H_hh := Lib.hid hh
  clear hh
  go_wp2_with fail
  go_returns
  exact ⟨g, rfl, by omega, H_hh.out, hB3⟩
set_option maxHeartbeats 1000000 in
theorem rowf_err (ea : Nat → Addr) (l : List Pc) (oa : Option Addr) (len cap n y : Nat) (w : World) (hs : SlPc w oa len cap l) (hP : PGs ea w) (h1 : 1 ≤ n) (h40 : n ≤ 40) (hy : y < 40) (hno : (chkP (l.map Pc.k) 0).1 ≠ 0) :
    Calls Tryd.prog 16 #[.slice oa len cap, .int .i64 n, .int .i64 y] w fun e w' => ∃ t a, e = .returned (.tuple #[.slice none 0 0, .iface t (.pointer (some a))]) ∧ Below w.heap.size w w' := by
  have g1 : ¬ (y : Int) < 0 := by omega
  have g2 : ¬ (40 : Int) ≤ (y : Int) := by omega
  have hsd : (decide (1 ≤ (n : Int)) && decide ((n : Int) ≤ 40)) = true := by simp; omega
  have H_hs := Lib.hid hs
  clear hs
  have H_hP := Lib.hid hP
  clear hP
  have H_hno := Lib.hid hno
  clear hno
  have H_hsd := Lib.hid hsd
  clear hsd
  go_enter Tryd.func16, Tryd.ntmps16
  go_wp2_with fail
  refine call_bel (w := w) (by repeat' (first | (with_reducible first | exact bwR _ _ | assumption | refine bdn ?_ | refine bwA ?_ ?_ _ | refine bwD ?_ | refine bwS ?_ ?_ _) | omega | (simp <;> omega))) (fun HB => side_any n true _ H_hsd.out) ?_
  intro w1 hb1 hz1 c1 d1 hW1
  have t1 := hb1.size
  clear c1 d1 hz1 hW1
  go_wp2_with fail
  refine call_ew (w := w) (by repeat' (first | (with_reducible first | exact bwR _ _ | assumption | refine bdn ?_ | refine bwA ?_ ?_ _ | refine bwD ?_ | refine bwS ?_ ?_ _) | omega | (simp <;> omega))) (fun HB => check_any ea l oa len cap _ (H_hs.out.keep HB rfl) (H_hP.out.keep HB rfl)) ?_
  intro x2 w2 hx2 hb2 hz2 c2 d2 hW2
  have t2 := hb2.size
  clear c2 d2 hz2 hW2
  obtain ⟨t2', a2, rfl⟩ := hx2.some H_hno.out
  clear hx2
  go_wp2_with fail
  go_returns
  exact ⟨_, _, rfl, by repeat' (first | (with_reducible first | exact bwR _ _ | assumption | refine bdn ?_ | refine bwA ?_ ?_ _ | refine bwD ?_ | refine bwS ?_ ?_ _) | omega | (simp <;> omega))⟩
end Go.Proofs.YtaidgecpglikpaaDoor
