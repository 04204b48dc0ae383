/-
  Walks over package move: the two closures of Back.
-/
import Derived.Test.YtbekidefgdijkaaGreatDoorMv6
import Derived.Test.YtbekidefgdijkaaGreatDoorWay
namespace Lead
open Go Go.RowKit
theorem but_of_below {s : Nat} {t : TypeId} {v : Value} {w W W' : World} (hb : Below W.heap.size W W') (h : But s t v w W) : But s t v W W' := (But.refl h.at').below hb
end Lead
namespace Go.Proofs.YtbekidefgdijkaaGreatDoor
open Go.RowKit Lead

theorem mminus_any (a : Fr) (w : World) (ra : a.R) : Calls Tryz.prog 64 #[.agg #[.int .i64 a.n, .int .i64 a.d]] w fun e w' => e = .returned (.agg #[.int .i64 a.neg.n, .int .i64 a.neg.d]) ∧ Below w.heap.size w w' := by
  have h1 : wrap64 (-a.n) = -a.n := w60 (by have := ra.n0; have := ra.n1; omega)
  go_enter Tryz.func64, Tryz.ntmps64
  go_wp2_with fail
  refine bodyPost_ret (by simp [results, Tryz.results64, go_sem, *]; try rfl) rfl ?_
  exact ⟨rfl, by repeat' (first | (with_reducible exact Below.refl _ _) | (with_reducible assumption) | (with_reducible refine bdn ?_) | (with_reducible refine Below.alloc ?_ ?_ _) | (with_reducible refine Below.drew ?_) | (with_reducible refine Below.setCell ?_ ?_ _) | omega | (simp <;> omega))⟩

set_option maxHeartbeats 1000000 in
theorem mby_any (ea : Nat → Addr) (e e' s bs bd : Nat) (a d v : Fr) (w : World) (hv : dV e (a.divK d) (a.div d) = v) (he' : dE e (a.divK d) = e') (ia : a.I) (id : d.I)
    (hs0 : w.heap[s]? = some (.cells #[evl 218 ea e] 105 (0, 0))) (hsg : 20 ≤ s) (hG : Gs true ea w) (hbs : w.cell? ⟨bs, 0, none⟩ = some (.pointer (some ⟨s, 0, none⟩))) (hd0 : w.cell? ⟨bd, 0, none⟩ = some (.int .i64 d.n)) (hd1 : w.cell? ⟨bd, 1, none⟩ = some (.int .i64 d.d)) :
    Calls Tryz.prog 65 #[.agg #[.int .i64 a.n, .int .i64 a.d], .pointer (some ⟨bs, 0, none⟩), .pointer (some ⟨bd, 0, none⟩)] w fun en w' => en = .returned (.agg #[.int .i64 v.n, .int .i64 v.d]) ∧ But s 105 (evl 218 ea e') w w' := by
  have hc := cell_of_one hs0
  have hf := free_of_one hs0
  have hl := lt_of_block hs0
  have z1 := zlt hbs
  have z2 := zlts hbs
  have z3 := zne hbs
  have z4 := zlt hd0
  have z5 := zlts hd0
  have z6 := zne hd0
  have hnw_0 : ¬ w.heap.size = s := by omega
  have hmw_0 : ¬ s = w.heap.size := by omega
  have hnw_1 : ¬ w.heap.size + 1 = s := by omega
  have hmw_1 : ¬ s = w.heap.size + 1 := by omega
  have hlw_1 : s < w.heap.size + 1 := by omega
  have hnw_2 : ¬ w.heap.size + 1 + 1 = s := by omega
  have hmw_2 : ¬ s = w.heap.size + 1 + 1 := by omega
  have hlw_2 : s < w.heap.size + 1 + 1 := by omega
  have hnw_3 : ¬ w.heap.size + 1 + 1 + 1 = s := by omega
  have hmw_3 : ¬ s = w.heap.size + 1 + 1 + 1 := by omega
  have hlw_3 : s < w.heap.size + 1 + 1 + 1 := by omega
  have hnw_4 : ¬ w.heap.size + 1 + 1 + 1 + 1 = s := by omega
  have hmw_4 : ¬ s = w.heap.size + 1 + 1 + 1 + 1 := by omega
  have hlw_4 : s < w.heap.size + 1 + 1 + 1 + 1 := by omega
  have hnw_5 : ¬ w.heap.size + 1 + 1 + 1 + 1 + 1 = s := by omega
  have hmw_5 : ¬ s = w.heap.size + 1 + 1 + 1 + 1 + 1 := by omega
  have hlw_5 : s < w.heap.size + 1 + 1 + 1 + 1 + 1 := by omega
  have hb0 := But.refl hs0
  have H_hv := Lib.hid hv
  clear hv
  have H_he' := Lib.hid he'
  clear he'
  have H_hs0 := Lib.hid hs0
  clear hs0
  have H_hG := Lib.hid hG
  clear hG
  have H_ia := Lib.hid ia
  clear ia
  have H_id := Lib.hid id
  clear id
  go_enter Tryz.func65, Tryz.ntmps65
  go_wp2_with fail
  refine call_s2 (w := w) (s := s) (t := 105) (by repeat' (first | (with_reducible assumption) | (with_reducible exact But.refl (by assumption)) | (with_reducible refine But.drewN ?_) | (with_reducible refine But.alloc ?_ _) | (with_reducible refine But.drew ?_) | (with_reducible refine But.setCell ?_ ?_ _) | omega | (simp <;> omega))) (fun HB => sdo_div ea e (a.divK d) e' s a d (a.div d) v _ H_hv.out H_he'.out (fdivF ea a d H_ia.out H_id.out) HB.at' hsg (H_hG.out.but HB hsg)) ?_
  intro w1 hb1 hz1 c1 d1 hW1
  have t1 := hb1.size
  have hs1 := hb1.here
  have hf1 := hb1.free
  have ha1 := hb1.at'
  have hl1 : s < w1.heap.size := Nat.lt_of_lt_of_le hb1.lt t1
  have hnw1_0 : ¬ w1.heap.size = s := by omega
  have hmw1_0 : ¬ s = w1.heap.size := by omega
  have hnw1_1 : ¬ w1.heap.size + 1 = s := by omega
  have hmw1_1 : ¬ s = w1.heap.size + 1 := by omega
  have hlw1_1 : s < w1.heap.size + 1 := by omega
  have hnw1_2 : ¬ w1.heap.size + 1 + 1 = s := by omega
  have hmw1_2 : ¬ s = w1.heap.size + 1 + 1 := by omega
  have hlw1_2 : s < w1.heap.size + 1 + 1 := by omega
  try simp only [World.size_alloc] at hz1 c1 d1
  try simp only [World.size_drew] at hz1 c1 d1
  try simp only [World.size_setCell] at hz1 c1 d1
  try simp only [World.heap_drewN] at hz1 c1 d1
  try simp only [World.size_alloc] at hz1 c1 d1
  try simp only [World.size_drew] at hz1 c1 d1
  try simp only [World.size_setCell] at hz1 c1 d1
  have s1_0 : w.heap.size < w1.heap.size := by omega
  have o1_0 := fun j => c1 (w.heap.size) j (by omega) (by omega)
  have f1_0 := fun j => d1 (w.heap.size) j (by omega) (by omega)
  have s1_1 : w.heap.size + 1 < w1.heap.size := by omega
  have o1_1 := fun j => c1 (w.heap.size + 1) j (by omega) (by omega)
  have f1_1 := fun j => d1 (w.heap.size + 1) j (by omega) (by omega)
  clear c1 d1 hz1
  go_wp2_with fail
  refine bodyPost_ret (by simp [results, Tryz.results65, go_sem, *]; try rfl) rfl ?_
  exact ⟨rfl, by repeat' (first | (with_reducible assumption) | (with_reducible exact But.refl (by assumption)) | (with_reducible refine But.drewN ?_) | (with_reducible refine But.alloc ?_ _) | (with_reducible refine But.drew ?_) | (with_reducible refine But.setCell ?_ ?_ _) | omega | (simp <;> omega))⟩
end Go.Proofs.YtbekidefgdijkaaGreatDoor
