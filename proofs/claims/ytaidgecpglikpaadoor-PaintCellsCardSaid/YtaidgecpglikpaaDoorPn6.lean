/-
  Walks over package paint: check, Row.
-/
import Derived.Test.YtaidgecpglikpaaDoorPn5
import Derived.Test.YtaidgecpglikpaaDoorAs2
import Derived.Test.YtaidgecpglikpaaDoorSa
namespace Lead
open Go Go.RowKit
theorem chkP_go {l : List Pc} {k : Nat} (h : k < l.length) (h0 : pkC l[k].k = 0) : chkP ((l.drop k).map Pc.k) k = chkP ((l.drop (k + 1)).map Pc.k) (k + 1) := by
  rw [List.drop_eq_getElem_cons h]; exact if_pos h0
theorem chkP_hit {l : List Pc} {k : Nat} (h : k < l.length) (h0 : pkC l[k].k ≠ 0) : chkP ((l.drop k).map Pc.k) k = (pkC l[k].k, some k) := by
  rw [List.drop_eq_getElem_cons h]; exact if_neg h0
/-- The variables that package paint's functions read. -/
structure PG (T : TypeId) (gB gS gV gZ gE : Nat) (ea : Nat → Addr) (h : Value) (w : World) : Prop where
  c2 : w.cell? ⟨gB, 0, none⟩ = some (.iface T (.pointer (some (ea 2))))
  c3 : w.cell? ⟨gS, 0, none⟩ = some (.iface T (.pointer (some (ea 3))))
  c10 : w.cell? ⟨gV, 0, none⟩ = some (.iface T (.pointer (some (ea 10))))
  c11 : w.cell? ⟨gZ, 0, none⟩ = some (.iface T (.pointer (some (ea 11))))
  hdl : w.cell? ⟨gE, 0, none⟩ = some h
theorem PG.keep {T : TypeId} {gB gS gV gZ gE : Nat} {ea : Nat → Addr} {h : Value} {w w' : World} {B : Nat} (g : PG T gB gS gV gZ gE ea h w) (hb : Below B w w') (hB : B = w.heap.size) : PG T gB gS gV gZ gE ea h w' :=
  ⟨gkeep hb g.c2 hB, gkeep hb g.c3 hB, gkeep hb g.c10 hB, gkeep hb g.c11 hB, gkeep hb g.hdl hB⟩
end Lead
namespace Go.Proofs.YtaidgecpglikpaaDoor
open Go.RowKit Lead
/-- The variables of package paint, in this program. -/
abbrev PGs (ea : Nat → Addr) (w : World) : Prop := PG 181 0 3 1 10 11 ea (.iface 139 (.agg #[.pointer (some ⟨12, 29, none⟩)])) w
set_option maxHeartbeats 400000 in
theorem as_nil (t : Addr) (w : World) :
    Calls Tryd.prog 42 #[.nilIface, .iface 94 (.pointer (some t))] w fun ev w' => ev = .returned (.bool false) ∧ Below w.heap.size w w' := by
  go_enter Tryd.func42, Tryd.ntmps42
  go_wp2_with fail
  go_returns
  exact ⟨rfl, Below.refl _ _⟩
set_option maxHeartbeats 4000000 in
set_option maxRecDepth 100000 in
theorem check_any (ea : Nat → Addr) (l : List Pc) (oa : Option Addr) (len cap : Nat) (w : World) (hs : SlPc w oa len cap l) (hP : PGs ea w) :
    Calls Tryd.prog 24 #[.slice oa len cap] w (RetE 181 92 ea (chkP (l.map Pc.k) 0) w) := by
  have hBound := hP.c2
  have hShape := hP.c3
  have hValue := hP.c10
  have zhShape := zlt hShape
  have xhShape := zlts hShape
  have yhShape := zne hShape
  have zhBound := zlt hBound
  have xhBound := zlts hBound
  have yhBound := zne hBound
  have zhValue := zlt hValue
  have xhValue := zlts hValue
  have yhValue := zne hValue
  obtain ⟨hl, hlc, hm, hSl, hcase⟩ := hs
  unfold maxLen at hm
  obtain ⟨c, hcc⟩ : ∃ c, chkP (l.map Pc.k) 0 = c := ⟨_, rfl⟩
  rw [hcc]
  have H_hl := Lib.hid hl
  clear hl
  have H_hSl := Lib.hid hSl
  clear hSl
  have H_hcase := Lib.hid hcase
  clear hcase
  have H_hP := Lib.hid hP
  clear hP
  have H_hcc := Lib.hid hcc
  clear hcc
  go_enter Tryd.func24, Tryd.ntmps24
  go_wp2_with fail
  go_loopw [9] (fun t9 wr => ∃ k : Nat, k ≤ len ∧ t9 = .int .i64 k ∧ c = chkP ((l.drop k).map Pc.k) k ∧ Below w.heap.size w wr) (fun t9 _ => len - (intOf t9).toNat)
  case atStart => exact ⟨0, Nat.zero_le _, rfl, H_hcc.out.symm, by repeat' (first | (with_reducible first | exact bwR _ _ | assumption | refine bdn ?_ | refine bwA ?_ ?_ _ | refine bwD ?_ | refine bwS ?_ ?_ _) | omega | (simp <;> omega))⟩
  case round =>
    obtain ⟨k, hk, rfl, hcv, hB⟩ := hrel
    have hzr := hB.size
    by_cases hlt : k < len
    · have hk' : k < l.length := by have := H_hl.out; omega
      obtain ⟨b', off, rfl, hbl, hp⟩ : ∃ b off, oa = some ⟨b, off, none⟩ ∧ b < w.heap.size ∧ RowIn EPc w b off l := by
        rcases H_hcase.out with ⟨_, h, _⟩ | h
        · omega
        · exact h
      obtain ⟨q0, q1, q2, q3, q4⟩ := pc_cells (hp.keep hB hbl) hk'
      have hgo := fun h => hcv.trans (chkP_go hk' h)
      have hhit := fun h => hcv.trans (chkP_hit hk' h)
      have hsl := H_hSl.out _ (List.getElem_mem hk')
      obtain ⟨p, hpe⟩ : ∃ p, l[k] = p := ⟨_, rfl⟩
      rw [hpe] at q0 q1 q2 q3 q4 hgo hhit hsl
      clear hpe hp hcv
      obtain ⟨node, poa, plen, pcap, ps, fill, rule, level⟩ := p
      simp only at q0 q1 q2 q3 q4 hsl
      have hgo : pkC ⟨ps, fill, rule⟩ = 0 → c = chkP ((l.drop (k + 1)).map Pc.k) (k + 1) := hgo
      have hhit : pkC ⟨ps, fill, rule⟩ ≠ 0 → c = (pkC ⟨ps, fill, rule⟩, some k) := hhit
      obtain ⟨sc, hsc⟩ : ∃ c, shC ps = c := ⟨_, rfl⟩
      have hpkc : pkC ⟨ps, fill, rule⟩ = if sc.1 = 0 then (if ruleB rule = true then 0 else 10) else sc.1 := by unfold pkC; rw [← hsc]
      have hscs := shC_some ps
      rw [hsc] at hscs
      obtain ⟨B4, hB4⟩ : ∃ u, wr.heap.size = u := ⟨_, rfl⟩
      have H_hsl := Lib.hid hsl
      clear hsl
      have H_hsc := Lib.hid hsc
      clear hsc
      have H_hpkc := Lib.hid hpkc
      clear hpkc
      have H_hgo := Lib.hid hgo
      clear hgo
      have H_hhit := Lib.hid hhit
      clear hhit
      have H_hscs := Lib.hid hscs
      clear hscs
      clear hB4
      clear B4
      go_wp2_with fail
      refine call_ew (w := w) (by repeat' (first | (with_reducible first | exact bwR _ _ | assumption | refine bdn ?_ | refine bwA ?_ ?_ _ | refine bwD ?_ | refine bwS ?_ ?_ _) | omega | (simp <;> omega))) (fun HB => shcheck_any ea ps poa plen pcap _ (H_hsl.out.keep HB rfl) (gkeep HB hShape rfl) (gkeep HB hBound rfl)) ?_
      rw [H_hsc.out]
      intro x1 w1 hx1 hb1 hz1 c1 d1 hW1
      have t1 := hb1.size
      have e1_r : Below wr.heap.size wr w1 := below_via (by repeat' (first | (with_reducible first | exact bwR _ _ | assumption | refine bdn ?_ | refine bwA ?_ ?_ _ | refine bwD ?_ | refine bwS ?_ ?_ _) | omega | (simp <;> omega))) hW1
      have te1_r := e1_r.size
      try simp only [szA] at hz1 c1 d1
      try simp only [szD] at hz1 c1 d1
      try simp only [szS] at hz1 c1 d1
      try simp only [World.heap_drewN] at hz1 c1 d1
      try simp only [szA] at hz1 c1 d1
      try simp only [szD] at hz1 c1 d1
      try simp only [szS] at hz1 c1 d1
      have s1_0 : wr.heap.size < w1.heap.size := by omega
      have o1_0 := fun j => c1 (wr.heap.size) j (by omega)
      have f1_0 := fun j => d1 (wr.heap.size) j (by omega)
      clear c1 d1 hz1 hW1
      rcases H_hscs.out with h0 | h0
      · obtain rfl := hx1.nil h0
        clear hx1
        have hpk0 : pkC ⟨ps, fill, rule⟩ = if ruleB rule = true then 0 else 10 := by rw [H_hpkc.out, h0]; rfl
        obtain ⟨r1, hr1⟩ : ∃ r, (rule.toList == [119, 105, 110, 100]) = r := ⟨_, rfl⟩
        obtain ⟨r2, hr2⟩ : ∃ r, (rule.toList == [101, 118, 101, 110]) = r := ⟨_, rfl⟩
        have hrb : ruleB rule = (r1 || r2) := by unfold ruleB bWind bEven; rw [hr1, hr2]
        rw [hrb] at hpk0
        clear hrb h0
        have H_hpk0 := Lib.hid hpk0
        clear hpk0
        go_wp2_with fail
        refine call_bel (w := w) (by repeat' (first | (with_reducible first | exact bwR _ _ | assumption | refine bdn ?_ | refine bwA ?_ ?_ _ | refine bwD ?_ | refine bwS ?_ ?_ _) | omega | (simp <;> omega))) (fun HB => as_nil ⟨w1.heap.size, 0, none⟩ _) ?_
        intro w2 hb2 hz2 c2 d2 hW2
        have t2 := hb2.size
        have hValue_2 := gkeep hb2 hValue rfl
        have zhValue_2 := zlt hValue_2
        have xhValue_2 := zlts hValue_2
        have yhValue_2 := zne hValue_2
        have e2_r : Below wr.heap.size wr w2 := below_via (by repeat' (first | (with_reducible first | exact bwR _ _ | assumption | refine bdn ?_ | refine bwA ?_ ?_ _ | refine bwD ?_ | refine bwS ?_ ?_ _) | omega | (simp <;> omega))) hW2
        have te2_r := e2_r.size
        try simp only [szA] at hz2 c2 d2
        try simp only [szD] at hz2 c2 d2
        try simp only [szS] at hz2 c2 d2
        try simp only [World.heap_drewN] at hz2 c2 d2
        try simp only [szA] at hz2 c2 d2
        try simp only [szD] at hz2 c2 d2
        try simp only [szS] at hz2 c2 d2
        have s2_0 : wr.heap.size < w2.heap.size := by omega
        have o2_0 := fun j => c2 (wr.heap.size) j (by omega)
        have f2_0 := fun j => d2 (wr.heap.size) j (by omega)
        clear c2 d2 hz2 hW2
        rcases r1 with _ | _ <;> rcases r2 with _ | _
        · have hpk : pkC ⟨ps, fill, rule⟩ = 10 := H_hpk0.out
          have H_hpk := Lib.hid hpk
          clear hpk
          go_wp2_with fail
          go_returns
          refine ⟨_, rfl, ?_, by repeat' (first | (with_reducible first | exact bwR _ _ | assumption | refine bdn ?_ | refine bwA ?_ ?_ _ | refine bwD ?_ | refine bwS ?_ ?_ _) | omega | (simp <;> omega))⟩
          rw [H_hhit.out (by rw [H_hpk.out]; exact (show (10 : Nat) ≠ 0 by decide)), H_hpk.out]
          exact ⟨(show (10 : Nat) ≠ 0 by decide), _, by first | omega | (simp <;> omega), rfl, by simp, by simp⟩
        all_goals
          have hpk : pkC ⟨ps, fill, rule⟩ = 0 := H_hpk0.out
          have H_hpk := Lib.hid hpk
          clear hpk
          go_wp2_with fail
          go_roundw
          case rel =>
            refine ⟨k + 1, by omega, by go_num, ?_, by repeat' (first | (with_reducible first | exact bwR _ _ | assumption | refine bdn ?_ | refine bwA ?_ ?_ _ | refine bwD ?_ | refine bwS ?_ ?_ _) | omega | (simp <;> omega))⟩
            exact H_hgo.out H_hpk.out
          case measure => simp [intOf]; omega
      · obtain ⟨s1, s2⟩ := sc
        have hs1 : s1 ≠ 0 := h0
        have hpk : pkC ⟨ps, fill, rule⟩ = s1 := by rw [H_hpkc.out]; exact if_neg hs1
        cases s2 with
        | none =>
          obtain rfl : x1 = .iface 181 (.pointer (some (ea s1))) := Eq.trans hx1 (evl_n hs1)
          clear hx1 h0
          have H_hpk := Lib.hid hpk
          clear hpk
          go_wp2_with fail
          refine call_bel (w := w) (by repeat' (first | (with_reducible first | exact bwR _ _ | assumption | refine bdn ?_ | refine bwA ?_ ?_ _ | refine bwD ?_ | refine bwS ?_ ?_ _) | omega | (simp <;> omega))) (fun HB => as_miss' (ea s1) ⟨w1.heap.size, 0, none⟩ (.pointer none) _ (H_hP.out.keep HB rfl).hdl (by rw [World.cell?_alloc_new]; rfl)) ?_
          intro w2 hb2 hz2 c2 d2 hW2
          have t2 := hb2.size
          have e2_r : Below wr.heap.size wr w2 := below_via (by repeat' (first | (with_reducible first | exact bwR _ _ | assumption | refine bdn ?_ | refine bwA ?_ ?_ _ | refine bwD ?_ | refine bwS ?_ ?_ _) | omega | (simp <;> omega))) hW2
          have te2_r := e2_r.size
          try simp only [szA] at hz2 c2 d2
          try simp only [szD] at hz2 c2 d2
          try simp only [szS] at hz2 c2 d2
          try simp only [World.heap_drewN] at hz2 c2 d2
          try simp only [szA] at hz2 c2 d2
          try simp only [szD] at hz2 c2 d2
          try simp only [szS] at hz2 c2 d2
          have s2_0 : wr.heap.size < w2.heap.size := by omega
          have o2_0 := fun j => c2 (wr.heap.size) j (by omega)
          have f2_0 := fun j => d2 (wr.heap.size) j (by omega)
          clear c2 d2 hz2 hW2
          go_wp2_with fail
          go_returns
          refine ⟨_, rfl, ?_, by repeat' (first | (with_reducible first | exact bwR _ _ | assumption | refine bdn ?_ | refine bwA ?_ ?_ _ | refine bwD ?_ | refine bwS ?_ ?_ _) | omega | (simp <;> omega))⟩
          rw [H_hhit.out (by rw [H_hpk.out]; exact hs1), H_hpk.out]
          exact ⟨hs1, _, by first | omega | (simp <;> omega), rfl, by simp, by simp⟩
        | some i =>
          obtain ⟨_, bf, hlo, rfl, c0, c1⟩ := hx1
          have hbf := World.block_lt_of_cell? w1 _ c0
          clear h0
          have H_hpk := Lib.hid hpk
          clear hpk
          go_wp2_with fail
          have HB : Below w.heap.size w (w1.alloc (.cells #[.pointer none] 92)) := by repeat' (first | (with_reducible first | exact bwR _ _ | assumption | refine bdn ?_ | refine bwA ?_ ?_ _ | refine bwD ?_ | refine bwS ?_ ?_ _) | omega | (simp <;> omega))
          refine (as_hit' ⟨bf, 0, none⟩ ⟨w1.heap.size, 0, none⟩ (.pointer none) _ (H_hP.out.keep HB rfl).hdl (by rw [World.cell?_alloc_new]; rfl) (World.frozen?_alloc_new _ _ _ _)).mono ?_
          rintro _ w2 ⟨rfl, hA2, hp2⟩
          have hb2 : Below w.heap.size w w2 := HB.trans (hA2.mono (show w.heap.size ≤ w1.heap.size by omega))
          have d0 : w2.cell? ⟨bf, 0, none⟩ = some (.int .i64 i) := by rw [hA2.cell (p := ⟨bf, 0, none⟩) hbf, World.cell?_alloc_past _ _ _ hbf]; exact c0
          have d1 : w2.cell? ⟨bf, 1, none⟩ = some (.iface 181 (.pointer (some (ea s1)))) := by rw [hA2.cell (p := ⟨bf, 1, none⟩) hbf, World.cell?_alloc_past _ _ _ hbf]; exact c1
          have t2 := hb2.size
          clear HB hA2 c0 c1 o1_0 f1_0
          go_wp2_with fail
          go_returns
          refine ⟨_, rfl, ?_, by repeat' (first | (with_reducible first | exact bwR _ _ | assumption | refine bdn ?_ | refine bwA ?_ ?_ _ | refine bwD ?_ | refine bwS ?_ ?_ _) | omega | (simp <;> omega))⟩
          rw [H_hhit.out (by rw [H_hpk.out]; exact hs1), H_hpk.out]
          exact ⟨hs1, _, by first | omega | (simp <;> omega), rfl, by simp, by simp⟩
    · have e : l.drop k = [] := List.drop_of_length_le (by have := H_hl.out; omega)
      rw [e] at hcv
      have hcv' : c = (0, none) := hcv
      clear e hcv
      have H_hcv' := Lib.hid hcv'
      clear hcv'
      go_wp2_with fail
      go_returns
      exact ⟨_, rfl, by rw [H_hcv'.out]; rfl, by repeat' (first | (with_reducible first | exact bwR _ _ | assumption | refine bdn ?_ | refine bwA ?_ ?_ _ | refine bwD ?_ | refine bwS ?_ ?_ _) | omega | (simp <;> omega))⟩
end Go.Proofs.YtaidgecpglikpaaDoor
