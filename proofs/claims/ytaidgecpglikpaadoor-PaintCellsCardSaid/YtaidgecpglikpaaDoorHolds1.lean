/-
  Walks: HoldsOf; Holds by another rule.
-/
import Derived.Test.YtaidgecpglikpaaDoorRef5
import Derived.Test.YtaidgecpglikpaaDoorShape8
namespace Go.Proofs.YtaidgecpglikpaaDoor
open Go.RowKit Lead

set_option maxHeartbeats 1000000 in
theorem rholds_even (ps : List Pt) (p : Pt) (oa : Option Addr) (len cap : Nat) (w : World) (hs : SlP w oa len cap ps) (hok : crC ps p = (0, none)) :
    Calls Tryd.prog 33 #[.slice oa len cap, .agg #[.int .i64 p.xn, .int .i64 p.xd, .int .i64 p.yn, .int .i64 p.yd], .string ⟨#[101, 118, 101, 110]⟩] w fun e w' => e = .returned (.bool (((crL ps p).length : Int) % 2 == 1)) ∧ Below w.heap.size w w' := by
  obtain ⟨m, hm⟩ : ∃ m, (crL ps p).length = m := ⟨_, rfl⟩
  obtain ⟨s, hsu⟩ : ∃ m, (crL ps p).sum = m := ⟨_, rfl⟩
  have hm' : ((crL ps p).length : Int) = (m : Int) := by omega
  have g1 : (m : Int).tmod 2 = (m : Int) % 2 := Int.tmod_eq_emod_of_nonneg (by omega)
  have H_hs := Lib.hid hs
  clear hs
  have H_hok := Lib.hid hok
  clear hok
  have H_hm := Lib.hid hm
  clear hm
  have H_hm' := Lib.hid hm'
  clear hm'
  have H_hsu := Lib.hid hsu
  clear hsu
  go_enter Tryd.func33, Tryd.ntmps33
  go_wp2_with fail
  refine call_bel (w := w) (by repeat' (first | (with_reducible first | exact bwR _ _ | assumption | refine bdn ?_ | refine bwA ?_ ?_ _ | refine bwD ?_ | refine bwS ?_ ?_ _) | omega | (simp <;> omega))) (fun HB => rcrossings_any ps p oa len cap m s _ (H_hs.out.keep HB rfl) H_hok.out H_hm'.out H_hsu.out) ?_
  intro w1 hb1 hz1 c1 d1 hW1
  have t1 := hb1.size
  try simp only [szA] at hz1 c1 d1
  try simp only [szD] at hz1 c1 d1
  try simp only [szS] at hz1 c1 d1
  try simp only [World.heap_drewN] at hz1 c1 d1
  try simp only [szA] at hz1 c1 d1
  try simp only [szD] at hz1 c1 d1
  try simp only [szS] at hz1 c1 d1
  have s1_0 : w.heap.size < w1.heap.size := by omega
  have o1_0 := fun j => c1 (w.heap.size) j (by omega)
  have f1_0 := fun j => d1 (w.heap.size) j (by omega)
  clear c1 d1 hz1 hW1
  go_wp2_with fail
  go_returns
  exact ⟨by rw [H_hm.out]; rfl, by repeat' (first | (with_reducible first | exact bwR _ _ | assumption | refine bdn ?_ | refine bwA ?_ ?_ _ | refine bwD ?_ | refine bwS ?_ ?_ _) | omega | (simp <;> omega))⟩
set_option maxHeartbeats 1000000 in
theorem rholds_wind (ps : List Pt) (p : Pt) (oa : Option Addr) (len cap : Nat) (w : World) (hs : SlP w oa len cap ps) (hok : crC ps p = (0, none)) :
    Calls Tryd.prog 33 #[.slice oa len cap, .agg #[.int .i64 p.xn, .int .i64 p.xd, .int .i64 p.yn, .int .i64 p.yd], .string ⟨#[119, 105, 110, 100]⟩] w fun e w' => e = .returned (.bool ((crL ps p).sum != 0)) ∧ Below w.heap.size w w' := by
  obtain ⟨m, hm⟩ : ∃ m : Int, ((crL ps p).length : Int) = m := ⟨_, rfl⟩
  obtain ⟨s, hsu⟩ : ∃ m, (crL ps p).sum = m := ⟨_, rfl⟩
  have H_hs := Lib.hid hs
  clear hs
  have H_hok := Lib.hid hok
  clear hok
  have H_hm := Lib.hid hm
  clear hm
  have H_hsu := Lib.hid hsu
  clear hsu
  go_enter Tryd.func33, Tryd.ntmps33
  go_wp2_with fail
  refine call_bel (w := w) (by repeat' (first | (with_reducible first | exact bwR _ _ | assumption | refine bdn ?_ | refine bwA ?_ ?_ _ | refine bwD ?_ | refine bwS ?_ ?_ _) | omega | (simp <;> omega))) (fun HB => rcrossings_any ps p oa len cap m s _ (H_hs.out.keep HB rfl) H_hok.out H_hm.out H_hsu.out) ?_
  intro w1 hb1 hz1 c1 d1 hW1
  have t1 := hb1.size
  try simp only [szA] at hz1 c1 d1
  try simp only [szD] at hz1 c1 d1
  try simp only [szS] at hz1 c1 d1
  try simp only [World.heap_drewN] at hz1 c1 d1
  try simp only [szA] at hz1 c1 d1
  try simp only [szD] at hz1 c1 d1
  try simp only [szS] at hz1 c1 d1
  have s1_0 : w.heap.size < w1.heap.size := by omega
  have o1_0 := fun j => c1 (w.heap.size) j (by omega)
  have f1_0 := fun j => d1 (w.heap.size) j (by omega)
  clear c1 d1 hz1 hW1
  go_wp2_with fail
  go_returns
  exact ⟨by rw [H_hsu.out]; rfl, by repeat' (first | (with_reducible first | exact bwR _ _ | assumption | refine bdn ?_ | refine bwA ?_ ?_ _ | refine bwD ?_ | refine bwS ?_ ?_ _) | omega | (simp <;> omega))⟩
set_option maxHeartbeats 1000000 in
theorem shholds_other (ea : Nat → Addr) (oa : Option Addr) (len cap : Nat) (p : Pt) (s : ByteArray) (w : World) (h1 : (s.toList == [119, 105, 110, 100]) = false) (h2 : (s.toList == [101, 118, 101, 110]) = false) (hValue : w.cell? ⟨1, 0, none⟩ = some (.iface 181 (.pointer (some (ea 10))))) :
    Calls Tryd.prog 44 #[.agg #[.slice oa len cap], .agg #[.int .i64 p.xn, .int .i64 p.xd, .int .i64 p.yn, .int .i64 p.yd], .string s] w (RetBE 181 92 ea (10, none) false w) := by
  have zhValue := zlt hValue
  have xhValue := zlts hValue
  have yhValue := zne hValue
  go_enter Tryd.func44, Tryd.ntmps44
  go_wp2_with fail
  go_region
  all_goals
    go_wp2_with fail
    go_returns
    exact ⟨_, rfl, rfl, by repeat' (first | (with_reducible first | exact bwR _ _ | assumption | refine bdn ?_ | refine bwA ?_ ?_ _ | refine bwD ?_ | refine bwS ?_ ?_ _) | omega | (simp <;> omega))⟩
end Go.Proofs.YtaidgecpglikpaaDoor
