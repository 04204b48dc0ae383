/-
  Walks over the document's answer to chapter 9: ShapeFault, HoldsOf at points within a piece; PaintFault.
-/
import Derived.Test.YtaidgecpglikpaaDoorPc1
import Derived.Test.YtaidgecpglikpaaDoorPn10
import Derived.Test.YtaidgecpglikpaaDoorPn4
import Derived.Test.YtaidgecpglikpaaDoorRef4
import Derived.Test.YtaidgecpglikpaaDoorHolds1
namespace Go.Proofs.YtaidgecpglikpaaDoor
open Go.RowKit Lead
theorem rshapefault_zero (oa : Option Addr) (cap : Nat) (w : World) :
    Calls Tryd.prog 27 #[.slice oa 0 cap] w fun e w' => e = .returned (.agg #[.int .i64 0, .int .i64 (-1)]) ∧ Below w.heap.size w w' := by
  go_enter Tryd.func27, Tryd.ntmps27
  go_wp2_with fail
  refine wp_loop_rounds 1 ?_
  rw [rounds_succ]
  go_wp2_with fail
  refine call_below (w := w) (by repeat' (first | (with_reducible first | exact bwR _ _ | assumption | refine bdn ?_ | refine bwA ?_ ?_ _ | refine bwD ?_ | refine bwS ?_ ?_ _) | omega | (simp <;> omega))) (fun HB => rfine_any _) ?_
  intro w1 hb1 hz1 c1 d1
  have t1 := hb1.size
  try simp only [szA] at hz1 c1 d1
  try simp only [szD] at hz1 c1 d1
  try simp only [szS] at hz1 c1 d1
  try simp only [World.heap_drewN] at hz1 c1 d1
  try simp only [szA] at hz1 c1 d1
  try simp only [szD] at hz1 c1 d1
  try simp only [szS] at hz1 c1 d1
  have s1_0 : w.heap.size < w1.heap.size := by omega
  have o1_0 := fun j => c1 (w.heap.size) j (by omega)
  have f1_0 := fun j => d1 (w.heap.size) j (by omega)
  clear c1 d1 hz1
  go_wp2_with fail
  refine bodyPost_ret (by simp [results, Tryd.results27, go_sem, *]; try rfl) rfl ?_
  exact ⟨rfl, by repeat' (first | (with_reducible first | exact bwR _ _ | assumption | refine bdn ?_ | refine bwA ?_ ?_ _ | refine bwD ?_ | refine bwS ?_ ?_ _) | omega | (simp <;> omega))⟩
theorem rshapefault_q (ps : List Pt) (oa : Option Addr) (len cap : Nat) (c at' : Int) (w : World) (hs : SlQ w oa len cap ps) (hc1 : ((shC ps).1 : Int) = c) (hc2 : atI (shC ps).2 = at') :
    Calls Tryd.prog 27 #[.slice oa len cap] w fun e w' => e = .returned (.agg #[.int .i64 c, .int .i64 at']) ∧ Below w.heap.size w w' := by
  rcases hs with hs | ⟨rfl, rfl⟩
  · exact rshapefault_c ps oa len cap c at' w hs hc1 hc2
  · obtain rfl : (0 : Int) = c := hc1
    obtain rfl : (-1 : Int) = at' := hc2
    exact rshapefault_zero oa cap w
theorem rcrossings_zero (oa : Option Addr) (cap : Nat) (p : Pt) (w : World) :
    Calls Tryd.prog 49 #[.slice oa 0 cap, .agg #[.int .i64 p.xn, .int .i64 p.xd, .int .i64 p.yn, .int .i64 p.yd]] w fun e w' => e = .returned (.tuple #[.int .i64 0, .int .i64 0]) ∧ Below w.heap.size w w' := by
  go_enter Tryd.func49, Tryd.ntmps49
  go_wp2_with fail
  refine wp_loop_rounds 1 ?_
  rw [rounds_succ]
  go_wp2_with fail
  go_returns
  exact ⟨rfl, by repeat' (first | (with_reducible first | exact bwR _ _ | assumption | refine bdn ?_ | refine bwA ?_ ?_ _ | refine bwD ?_ | refine bwS ?_ ?_ _) | omega | (simp <;> omega))⟩
set_option maxHeartbeats 1000000 in
theorem rholds_zero (oa : Option Addr) (cap : Nat) (p : Pt) (rule : ByteArray) (w : World) :
    Calls Tryd.prog 33 #[.slice oa 0 cap, .agg #[.int .i64 p.xn, .int .i64 p.xd, .int .i64 p.yn, .int .i64 p.yd], .string rule] w fun e w' => e = .returned (.bool false) ∧ Below w.heap.size w w' := by
  go_enter Tryd.func33, Tryd.ntmps33
  go_wp2_with fail
  refine call_bel (w := w) (by repeat' (first | (with_reducible first | exact bwR _ _ | assumption | refine bdn ?_ | refine bwA ?_ ?_ _ | refine bwD ?_ | refine bwS ?_ ?_ _) | omega | (simp <;> omega))) (fun HB => rcrossings_zero oa cap p _) ?_
  intro w1 hb1 hz1 c1 d1 hW1
  have t1 := hb1.size
  try simp only [szA] at hz1 c1 d1
  try simp only [szD] at hz1 c1 d1
  try simp only [szS] at hz1 c1 d1
  try simp only [World.heap_drewN] at hz1 c1 d1
  try simp only [szA] at hz1 c1 d1
  try simp only [szD] at hz1 c1 d1
  try simp only [szS] at hz1 c1 d1
  have s1_0 : w.heap.size < w1.heap.size := by omega
  have o1_0 := fun j => c1 (w.heap.size) j (by omega)
  have f1_0 := fun j => d1 (w.heap.size) j (by omega)
  clear c1 d1 hz1 hW1
  go_wp2_with fail
  all_goals
    go_returns
    exact ⟨rfl, by repeat' (first | (with_reducible first | exact bwR _ _ | assumption | refine bdn ?_ | refine bwA ?_ ?_ _ | refine bwD ?_ | refine bwS ?_ ?_ _) | omega | (simp <;> omega))⟩
theorem hitB_nil (fill rule : ByteArray) (pt : Pt) : hitB ⟨[], fill, rule⟩ pt = false := by
  have h : crL [] pt = [] := by unfold crL; split <;> simp [crsTo]
  unfold hitB
  rw [h]
  split <;> simp
/-- HoldsOf at a right piece's points. -/
theorem rholds_q (ps : List Pt) (oa : Option Addr) (len cap : Nat) (rule fill : ByteArray) (pt : Pt) (b : Bool) (w : World) (hs : SlQ w oa len cap ps) (hk : pkC ⟨ps, fill, rule⟩ = 0) (hpt : PtOk pt) (hb : hitB ⟨ps, fill, rule⟩ pt = b) :
    Calls Tryd.prog 33 #[.slice oa len cap, .agg #[.int .i64 pt.xn, .int .i64 pt.xd, .int .i64 pt.yn, .int .i64 pt.yd], .string rule] w fun e w' => e = .returned (.bool b) ∧ Below w.heap.size w w' := by
  rcases hs with hs | ⟨rfl, rfl⟩
  · obtain ⟨h1, h2⟩ := pk_ok hk
    obtain ⟨h30, _, hall⟩ := shC_ok h1
    have hc := crC_ok hall hpt h30
    rcases rule_of h2 with rfl | rfl
    · rw [hit_wind] at hb
      have h := rholds_wind ps pt oa len cap w hs hc
      rw [hb] at h; exact h
    · rw [hit_even] at hb
      have h := rholds_even ps pt oa len cap w hs hc
      rw [hb] at h; exact h
  · rw [hitB_nil] at hb
    subst hb
    exact rholds_zero oa cap pt rule w
set_option maxHeartbeats 2000000 in
set_option maxRecDepth 100000 in
theorem rpaintfault_any (l : List Pc) (oa : Option Addr) (len cap : Nat) (c at' : Int) (w : World) (hs : ArgPc w oa len cap l) (h8 : len ≤ 8) (hc1 : ((chkP (l.map Pc.k) 0).1 : Int) = c) (hc2 : atI (chkP (l.map Pc.k) 0).2 = at') :
    Calls Tryd.prog 9 #[.slice oa len cap] w fun e w' => e = .returned (.agg #[.int .i64 c, .int .i64 at']) ∧ Below w.heap.size w w' := by
  obtain ⟨hl, hlc, hm, hSl, hcase⟩ := hs
  have H_hl := Lib.hid hl
  clear hl
  have H_hSl := Lib.hid hSl
  clear hSl
  have H_hcase := Lib.hid hcase
  clear hcase
  have H_hc1 := Lib.hid hc1
  clear hc1
  have H_hc2 := Lib.hid hc2
  clear hc2
  go_enter Tryd.func9, Tryd.ntmps9
  go_wp2_with fail
  obtain ⟨wq, hwq⟩ : ∃ u, w.alloc (.cells #[.int .i64 0, .int .i64 0] 35) = u := ⟨_, rfl⟩
  have hBq : Below w.heap.size w wq := by rw [← hwq]; exact by repeat' (first | (with_reducible first | exact bwR _ _ | assumption | refine bdn ?_ | refine bwA ?_ ?_ _ | refine bwD ?_ | refine bwS ?_ ?_ _) | omega | (simp <;> omega))
  have zq : wq.heap.size = w.heap.size + 1 := by rw [← hwq]; simp
  have k0 : ∀ j, wq.cell? ⟨w.heap.size, j, none⟩ = (#[.int .i64 0, .int .i64 0] : Array Value)[j]? := fun j => by rw [← hwq, World.cell?_alloc_new]
  have f0 : ∀ j, wq.frozen? ⟨w.heap.size, j, none⟩ = false := fun j => by rw [← hwq]; exact World.frozen?_alloc_new _ _ _ _
  rw [hwq]
  clear hwq
  go_loopw [3] (fun t3 wr => ∃ k : Nat, k ≤ len ∧ t3 = .int .i64 k ∧ chkP (l.map Pc.k) 0 = chkP ((l.drop k).map Pc.k) k ∧ Below wq.heap.size wq wr) (fun t3 _ => len - (intOf t3).toNat)
  case atStart => exact ⟨0, Nat.zero_le _, rfl, by simp, Below.refl _ _⟩
  case round =>
    obtain ⟨k, hk, rfl, hch, hB⟩ := hrel
    have hzr := hB.size
    have hbr : Below w.heap.size w wr := below_via hBq hB
    have r0 := fun j => (hB.cell (p := ⟨w.heap.size, j, none⟩) (show w.heap.size < wq.heap.size by omega)).trans (k0 j)
    have x0 := fun j => (hB.frozen (p := ⟨w.heap.size, j, none⟩) (show w.heap.size < wq.heap.size by omega)).trans (f0 j)
    have z0 : w.heap.size < wr.heap.size := by omega
    by_cases hlt : k < len
    · have hk' : k < l.length := by have := H_hl.out; omega
      obtain ⟨b, off, rfl, hbl, hrow⟩ : ∃ b off, oa = some ⟨b, off, none⟩ ∧ b < w.heap.size ∧ RowIn EPc w b off l := by
        rcases H_hcase.out with ⟨_, h, _⟩ | h
        · omega
        · exact h
      obtain ⟨q0, q1, q2, q3, q4⟩ := pc_cells (hrow.keep hbr hbl) hk'
      have hSk := (H_hSl.out _ (List.getElem_mem hk')).keep hbr rfl
      have hgo := fun h => chkP_go (l := l) (k := k) hk' h
      have hit := fun h => chkP_hit (l := l) (k := k) hk' h
      obtain ⟨p, hpe⟩ : ∃ p, l[k] = p := ⟨_, rfl⟩
      rw [hpe] at q0 q1 q2 q3 q4 hSk hgo hit
      clear hpe hrow
      obtain ⟨node, poa, plen, pcap, ps, fill, rule, level⟩ := p
      simp only at q0 q1 q2 q3 q4 hSk
      have hbb : b < wr.heap.size := by omega
      obtain ⟨c1, a1, hsc⟩ : ∃ c a, shC ps = (c, a) := ⟨_, _, rfl⟩
      have hpk : pkC (⟨ps, fill, rule⟩ : Pk) = if c1 = 0 then (if ruleB rule = true then 0 else 10) else c1 := by unfold pkC; rw [hsc]
      have hf := rshapefault_q ps poa plen pcap c1 (atI a1) wr hSk (by rw [hsc]) (by rw [hsc])
      clear hSk
      have H_hch := Lib.hid hch
      clear hch
      have H_hgo := Lib.hid hgo
      clear hgo
      have H_hit := Lib.hid hit
      clear hit
      have H_hf := Lib.hid hf
      clear hf
      have H_hpk := Lib.hid hpk
      clear hpk
      go_wp2_with fail
      refine H_hf.out.mono ?_
      rintro _ w1 ⟨rfl, hB1⟩
      have t1 := hB1.size
      have hb1 : Below w.heap.size w w1 := below_via hbr hB1
      have s0 := fun j => (hB1.cell (p := ⟨w.heap.size, j, none⟩) z0).trans (r0 j)
      have y0 := fun j => (hB1.frozen (p := ⟨w.heap.size, j, none⟩) z0).trans (x0 j)
      have p3 := (hB1.cell (p := ⟨b, off + k * 5 + 3, none⟩) hbb).trans q3
      have z1 : w.heap.size < w1.heap.size := by omega
      have hb1' : b < w1.heap.size := by omega
      have hB1q : Below wq.heap.size wq w1 := below_via hB hB1
      clear q0 q1 q2 q3 q4 r0 x0 H_hf
      obtain ⟨gf, hgf⟩ : ∃ u, w1.heap.size = u := ⟨_, rfl⟩
      obtain ⟨r1, hr1⟩ : ∃ r, (rule.toList == [119, 105, 110, 100]) = r := ⟨_, rfl⟩
      obtain ⟨r2, hr2⟩ : ∃ r, (rule.toList == [101, 118, 101, 110]) = r := ⟨_, rfl⟩
      have hrb : ruleB rule = (r1 || r2) := by unfold ruleB bWind bEven; rw [hr1, hr2]
      rw [hrb] at H_hpk
      clear hrb hgf
      by_cases h0 : c1 = 0
      · subst h0
        have hpk0 : pkC ⟨ps, fill, rule⟩ = if (r1 || r2) = true then 0 else 10 := by rw [H_hpk.out]; rfl
        clear H_hpk
        have H_hpk0 := Lib.hid hpk0
        clear hpk0
        rcases r1 with _ | _ <;> rcases r2 with _ | _
        · have hpk : pkC ⟨ps, fill, rule⟩ = 10 := H_hpk0.out
          have hcc : chkP (l.map Pc.k) 0 = (10, some k) := H_hch.out.trans ((H_hit.out (by show pkC ⟨ps, fill, rule⟩ ≠ 0; rw [hpk]; decide)).trans (by rw [show Pc.k ⟨node, poa, plen, pcap, ps, fill, rule, level⟩ = ⟨ps, fill, rule⟩ from rfl, hpk]))
          rw [hcc] at H_hc1 H_hc2
          obtain rfl : (10 : Int) = c := H_hc1.out
          obtain rfl : (k : Int) = at' := H_hc2.out
          clear hcc
          have H_hpk := Lib.hid hpk
          clear hpk
          go_wp2_with fail
          go_wp2_with fail
          refine bodyPost_ret (by simp [results, Tryd.results9, go_sem, *]; try rfl) rfl ?_
          exact ⟨rfl, by repeat' (first | (with_reducible first | exact bwR _ _ | assumption | refine bdn ?_ | refine bwA ?_ ?_ _ | refine bwD ?_ | refine bwS ?_ ?_ _) | omega | (simp <;> omega))⟩
        all_goals
          have hpk : pkC ⟨ps, fill, rule⟩ = 0 := H_hpk0.out
          have hnx := H_hch.out.trans (H_hgo.out hpk)
          have H_hpk := Lib.hid hpk
          clear hpk
          have H_hnx := Lib.hid hnx
          clear hnx
          go_wp2_with fail
          go_roundw
          case rel => exact ⟨k + 1, by omega, by go_num, H_hnx.out, by repeat' (first | (with_reducible first | exact bwR _ _ | assumption | refine bdn ?_ | refine bwA ?_ ?_ _ | refine bwD ?_ | refine bwS ?_ ?_ _) | omega | (simp <;> omega))⟩
          case measure => simp [intOf]; omega
      · have hpk : pkC ⟨ps, fill, rule⟩ = c1 := by rw [H_hpk.out]; exact if_neg h0
        have hcc : chkP (l.map Pc.k) 0 = (c1, some k) := H_hch.out.trans ((H_hit.out (by show pkC ⟨ps, fill, rule⟩ ≠ 0; rw [hpk]; exact h0)).trans (by rw [show Pc.k ⟨node, poa, plen, pcap, ps, fill, rule, level⟩ = ⟨ps, fill, rule⟩ from rfl, hpk]))
        rw [hcc] at H_hc1 H_hc2
        obtain rfl : (c1 : Int) = c := H_hc1.out
        obtain rfl : (k : Int) = at' := H_hc2.out
        have g1 : (0 : Int) < (c1 : Int) := by omega
        clear hcc
        have H_hpk := Lib.hid hpk
        clear hpk
        go_wp2_with fail
        go_wp2_with fail
        refine bodyPost_ret (by simp [results, Tryd.results9, go_sem, *]; try rfl) rfl ?_
        exact ⟨rfl, by repeat' (first | (with_reducible first | exact bwR _ _ | assumption | refine bdn ?_ | refine bwA ?_ ?_ _ | refine bwD ?_ | refine bwS ?_ ?_ _) | omega | (simp <;> omega))⟩
    · obtain rfl : k = len := by omega
      have e : l.drop k = [] := List.drop_of_length_le (by have := H_hl.out; omega)
      rw [e] at hch
      have hch' : chkP (l.map Pc.k) 0 = (0, none) := hch
      rw [hch'] at H_hc1 H_hc2
      obtain rfl : (0 : Int) = c := H_hc1.out
      obtain rfl : (-1 : Int) = at' := H_hc2.out
      clear e hch hch'
      go_wp2_with fail
      refine call_bel (w := w) (by repeat' (first | (with_reducible first | exact bwR _ _ | assumption | refine bdn ?_ | refine bwA ?_ ?_ _ | refine bwD ?_ | refine bwS ?_ ?_ _) | omega | (simp <;> omega))) (fun HB => rfine_any _) ?_
      intro w1 hb1 hz1 c1 d1 hW1
      have t1 := hb1.size
      try simp only [szA] at hz1 c1 d1
      try simp only [szD] at hz1 c1 d1
      try simp only [szS] at hz1 c1 d1
      try simp only [World.heap_drewN] at hz1 c1 d1
      try simp only [szA] at hz1 c1 d1
      try simp only [szD] at hz1 c1 d1
      try simp only [szS] at hz1 c1 d1
      have s1_0 : w.heap.size < w1.heap.size := by omega
      have o1_0 := fun j => c1 (w.heap.size) j (by omega)
      have f1_0 := fun j => d1 (w.heap.size) j (by omega)
      clear c1 d1 hz1 hW1
      go_wp2_with fail
      refine bodyPost_ret (by simp [results, Tryd.results9, go_sem, *]; try rfl) rfl ?_
      exact ⟨rfl, by repeat' (first | (with_reducible first | exact bwR _ _ | assumption | refine bdn ?_ | refine bwA ?_ ?_ _ | refine bwD ?_ | refine bwS ?_ ?_ _) | omega | (simp <;> omega))⟩
end Go.Proofs.YtaidgecpglikpaaDoor
