/-
  Walks over the document's answer: a fraction out of a text: two pieces; all together.
-/
import Derived.Test.YtpdaenldmgpkjaaGreatDoorDec5
namespace Go.Proofs.YtpdaenldmgpkjaaGreatDoor
open Go.RowKit Lead

set_option maxHeartbeats 4000000 in
theorem rfracof_2 (s : ByteArray) (h t : List UInt8) (w : World) (hs : s.size ≤ 100000) (h0 : 0 < s.size) (hss : cutL 47 s.data.toList = [h, t]) (hm : h.head? = some 45 ↔ s.data.toList.head? = some 45) (hP : rdP s.data.toList = (numS h).bind fun n => if numOf t 10 < 0 ∨ numOf t 10 = 1 then none else some (n, numOf t 10)) :
    Calls Tryz.prog 53 #[.string s] w fun e w' => e = .returned (frN (rdC s.data.toList) (rdN s.data.toList) (rdD s.data.toList)) ∧ Below w.heap.size w w' := by
  have gz : (0 : Int) < (s.size : Int) := by omega
  rw [head_at h0] at hm
  obtain ⟨x, hx⟩ : ∃ x : ByteArray, (⟨h.toArray⟩ : ByteArray) = x := ⟨_, rfl⟩
  obtain ⟨y, hy⟩ : ∃ y : ByteArray, (⟨t.toArray⟩ : ByteArray) = y := ⟨_, rfl⟩
  obtain ⟨d, hdt⟩ : ∃ d, numOf t 10 = d := ⟨_, rfl⟩
  have hd : numOf y.data.toList 10 = d := by rw [← hy]; exact hdt
  have hdb := numOf_lt (l := t) (most := 10) (by decide)
  rw [hdt] at hP hdb
  by_cases hmi : s[0] = 45
  · have gm : (((s[0]).toNat : Int) == 45) = true := by rw [hmi]; rfl
    have hh : h.head? = some 45 := hm.2 (by rw [hmi])
    have hxs : 1 ≤ x.size := by
      rw [← hx]
      cases h with
      | nil => cases hh
      | cons a r => show 1 ≤ (a :: r).toArray.size; simp
    have hxt : (x.extract 1 x.size).data.toList = h.drop 1 := by rw [← hx, minus_tail hh]
    have gx : (1 : Int) ≤ (x.size : Int) := by omega
    obtain ⟨n1, hn1⟩ : ∃ n, numOf (h.drop 1) 10 = n := ⟨_, rfl⟩
    have hn : numOf (x.extract 1 x.size).data.toList 10 = n1 := by rw [hxt]; exact hn1
    have hb := numOf_lt (l := h.drop 1) (most := 10) (by decide)
    rw [hn1] at hb
    unfold numS at hP
    rw [if_pos hh, hn1] at hP
    by_cases hp : 1 ≤ n1
    · rw [if_pos hp] at hP
      replace hP : rdP s.data.toList = if d < 0 ∨ d = 1 then none else some ((-n1), d) := hP
      have gn1 : ¬ n1 < 0 := by omega
      have gn : (n1 == 0) = false := by rw [beq_eq_false_iff_ne]; omega
      have e1 : wrap64 (-n1) = -n1 := by apply IntWalk.wrap64_in; omega
      by_cases hdbad : d < 0 ∨ d = 1
      · rw [if_pos hdbad] at hP
        rcases hdbad with hd1 | hd1
        · have H_hy := Lib.hid hy
          clear hy
          have H_hdt := Lib.hid hdt
          clear hdt
          have H_hd := Lib.hid hd
          clear hd
          have H_hP := Lib.hid hP
          clear hP
          have H_hn := Lib.hid hn
          clear hn
          have H_hn1 := Lib.hid hn1
          clear hn1
          have H_hx := Lib.hid hx
          clear hx
          have H_hss := Lib.hid hss
          clear hss
          have H_hm := Lib.hid hm
          clear hm
          have H_hmi := Lib.hid hmi
          clear hmi
          have H_hh := Lib.hid hh
          clear hh
          have H_hxt := Lib.hid hxt
          clear hxt
          go_enter Tryz.func53, Tryz.ntmps53
          go_wp2_with fail
          refine call_ss (w := w) (by repeat' (first | (with_reducible first | exact bwR _ _ | assumption | refine bdn ?_ | refine bwA ?_ ?_ _ | refine bwD ?_ | refine bwS ?_ ?_ _) | omega | (simp <;> omega))) (fun HB => rcut_47 s _ hs _ H_hss.out) (by simp) rfl ?_
          intro gg1 cap1 w1 hg1 hgl1 hcl1 hb1 hz1 c1 d1 hW1
          have t1 := hb1.size
          try simp only [szA] at hz1 c1 d1
          try simp only [szD] at hz1 c1 d1
          try simp only [szS] at hz1 c1 d1
          try simp only [World.heap_drewN] at hz1 c1 d1
          try simp only [szA] at hz1 c1 d1
          try simp only [szD] at hz1 c1 d1
          try simp only [szS] at hz1 c1 d1
          have s1_0 : w.heap.size < w1.heap.size := by omega
          have o1_0 := fun j => c1 (w.heap.size) j (by omega)
          have f1_0 := fun j => d1 (w.heap.size) j (by omega)
          clear c1 d1 hz1 hW1
          have q0 := hcl1 0 (by simp)
          have q1 := hcl1 1 (by simp)
          simp only [List.getElem_cons_zero] at q0
          rw [H_hx.out] at q0
          simp only [List.getElem_cons_succ, List.getElem_cons_zero] at q1
          rw [H_hy.out] at q1
          clear hcl1
          go_wp2_with fail
          refine call_bel (w := w) (by repeat' (first | (with_reducible first | exact bwR _ _ | assumption | refine bdn ?_ | refine bwA ?_ ?_ _ | refine bwD ?_ | refine bwS ?_ ?_ _) | omega | (simp <;> omega))) (fun HB => rnum_s _ n1 _ H_hn.out) ?_
          intro w2 hb2 hz2 c2 d2 hW2
          have t2 := hb2.size
          try simp only [szA] at hz2 c2 d2
          try simp only [szD] at hz2 c2 d2
          try simp only [szS] at hz2 c2 d2
          try simp only [World.heap_drewN] at hz2 c2 d2
          try simp only [szA] at hz2 c2 d2
          try simp only [szD] at hz2 c2 d2
          try simp only [szS] at hz2 c2 d2
          have s2_0 : w.heap.size < w2.heap.size := by omega
          have o2_0 := fun j => c2 (w.heap.size) j (by omega)
          have f2_0 := fun j => d2 (w.heap.size) j (by omega)
          have s2_1 : gg1 < w2.heap.size := by omega
          have o2_1 := fun j => c2 (gg1) j (by omega)
          have f2_1 := fun j => d2 (gg1) j (by omega)
          clear c2 d2 hz2 hW2
          go_wp2_with fail
          refine call_bel (w := w) (by repeat' (first | (with_reducible first | exact bwR _ _ | assumption | refine bdn ?_ | refine bwA ?_ ?_ _ | refine bwD ?_ | refine bwS ?_ ?_ _) | omega | (simp <;> omega))) (fun HB => rnum_s _ d _ H_hd.out) ?_
          intro w3 hb3 hz3 c3 d3 hW3
          have t3 := hb3.size
          have e3_2 : Below w2.heap.size w2 w3 := below_via (by repeat' (first | (with_reducible first | exact bwR _ _ | assumption | refine bdn ?_ | refine bwA ?_ ?_ _ | refine bwD ?_ | refine bwS ?_ ?_ _) | omega | (simp <;> omega))) hW3
          have te3_2 := e3_2.size
          try simp only [szA] at hz3 c3 d3
          try simp only [szD] at hz3 c3 d3
          try simp only [szS] at hz3 c3 d3
          try simp only [World.heap_drewN] at hz3 c3 d3
          try simp only [szA] at hz3 c3 d3
          try simp only [szD] at hz3 c3 d3
          try simp only [szS] at hz3 c3 d3
          have s3_0 : w.heap.size < w3.heap.size := by omega
          have o3_0 := fun j => c3 (w.heap.size) j (by omega)
          have f3_0 := fun j => d3 (w.heap.size) j (by omega)
          have s3_1 : gg1 < w3.heap.size := by omega
          have o3_1 := fun j => c3 (gg1) j (by omega)
          have f3_1 := fun j => d3 (gg1) j (by omega)
          have s3_2 : w2.heap.size < w3.heap.size := by omega
          have o3_2 := fun j => c3 (w2.heap.size) j (by omega)
          have f3_2 := fun j => d3 (w2.heap.size) j (by omega)
          clear c3 d3 hz3 hW3
          go_wp2_with fail
          refine bodyPost_ret (by simp [results, Tryz.results53, go_sem, *]; try rfl) rfl ?_
          exact ⟨by rw [(rd_none H_hP.out), frN_n (by decide)]; rfl, by repeat' (first | (with_reducible first | exact bwR _ _ | assumption | refine bdn ?_ | refine bwA ?_ ?_ _ | refine bwD ?_ | refine bwS ?_ ?_ _) | omega | (simp <;> omega))⟩
        · have gd : ¬ d < 0 := by omega
          have gd1 : (d == 1) = true := by rw [hd1]; rfl
          have H_hy := Lib.hid hy
          clear hy
          have H_hdt := Lib.hid hdt
          clear hdt
          have H_hd := Lib.hid hd
          clear hd
          have H_hP := Lib.hid hP
          clear hP
          have H_hn := Lib.hid hn
          clear hn
          have H_hn1 := Lib.hid hn1
          clear hn1
          have H_hx := Lib.hid hx
          clear hx
          have H_hss := Lib.hid hss
          clear hss
          have H_hm := Lib.hid hm
          clear hm
          have H_hmi := Lib.hid hmi
          clear hmi
          have H_hh := Lib.hid hh
          clear hh
          have H_hxt := Lib.hid hxt
          clear hxt
          have H_hd1 := Lib.hid hd1
          clear hd1
          go_enter Tryz.func53, Tryz.ntmps53
          go_wp2_with fail
          refine call_ss (w := w) (by repeat' (first | (with_reducible first | exact bwR _ _ | assumption | refine bdn ?_ | refine bwA ?_ ?_ _ | refine bwD ?_ | refine bwS ?_ ?_ _) | omega | (simp <;> omega))) (fun HB => rcut_47 s _ hs _ H_hss.out) (by simp) rfl ?_
          intro gg1 cap1 w1 hg1 hgl1 hcl1 hb1 hz1 c1 d1 hW1
          have t1 := hb1.size
          try simp only [szA] at hz1 c1 d1
          try simp only [szD] at hz1 c1 d1
          try simp only [szS] at hz1 c1 d1
          try simp only [World.heap_drewN] at hz1 c1 d1
          try simp only [szA] at hz1 c1 d1
          try simp only [szD] at hz1 c1 d1
          try simp only [szS] at hz1 c1 d1
          have s1_0 : w.heap.size < w1.heap.size := by omega
          have o1_0 := fun j => c1 (w.heap.size) j (by omega)
          have f1_0 := fun j => d1 (w.heap.size) j (by omega)
          clear c1 d1 hz1 hW1
          have q0 := hcl1 0 (by simp)
          have q1 := hcl1 1 (by simp)
          simp only [List.getElem_cons_zero] at q0
          rw [H_hx.out] at q0
          simp only [List.getElem_cons_succ, List.getElem_cons_zero] at q1
          rw [H_hy.out] at q1
          clear hcl1
          go_wp2_with fail
          refine call_bel (w := w) (by repeat' (first | (with_reducible first | exact bwR _ _ | assumption | refine bdn ?_ | refine bwA ?_ ?_ _ | refine bwD ?_ | refine bwS ?_ ?_ _) | omega | (simp <;> omega))) (fun HB => rnum_s _ n1 _ H_hn.out) ?_
          intro w2 hb2 hz2 c2 d2 hW2
          have t2 := hb2.size
          try simp only [szA] at hz2 c2 d2
          try simp only [szD] at hz2 c2 d2
          try simp only [szS] at hz2 c2 d2
          try simp only [World.heap_drewN] at hz2 c2 d2
          try simp only [szA] at hz2 c2 d2
          try simp only [szD] at hz2 c2 d2
          try simp only [szS] at hz2 c2 d2
          have s2_0 : w.heap.size < w2.heap.size := by omega
          have o2_0 := fun j => c2 (w.heap.size) j (by omega)
          have f2_0 := fun j => d2 (w.heap.size) j (by omega)
          have s2_1 : gg1 < w2.heap.size := by omega
          have o2_1 := fun j => c2 (gg1) j (by omega)
          have f2_1 := fun j => d2 (gg1) j (by omega)
          clear c2 d2 hz2 hW2
          go_wp2_with fail
          refine call_bel (w := w) (by repeat' (first | (with_reducible first | exact bwR _ _ | assumption | refine bdn ?_ | refine bwA ?_ ?_ _ | refine bwD ?_ | refine bwS ?_ ?_ _) | omega | (simp <;> omega))) (fun HB => rnum_s _ d _ H_hd.out) ?_
          intro w3 hb3 hz3 c3 d3 hW3
          have t3 := hb3.size
          have e3_2 : Below w2.heap.size w2 w3 := below_via (by repeat' (first | (with_reducible first | exact bwR _ _ | assumption | refine bdn ?_ | refine bwA ?_ ?_ _ | refine bwD ?_ | refine bwS ?_ ?_ _) | omega | (simp <;> omega))) hW3
          have te3_2 := e3_2.size
          try simp only [szA] at hz3 c3 d3
          try simp only [szD] at hz3 c3 d3
          try simp only [szS] at hz3 c3 d3
          try simp only [World.heap_drewN] at hz3 c3 d3
          try simp only [szA] at hz3 c3 d3
          try simp only [szD] at hz3 c3 d3
          try simp only [szS] at hz3 c3 d3
          have s3_0 : w.heap.size < w3.heap.size := by omega
          have o3_0 := fun j => c3 (w.heap.size) j (by omega)
          have f3_0 := fun j => d3 (w.heap.size) j (by omega)
          have s3_1 : gg1 < w3.heap.size := by omega
          have o3_1 := fun j => c3 (gg1) j (by omega)
          have f3_1 := fun j => d3 (gg1) j (by omega)
          have s3_2 : w2.heap.size < w3.heap.size := by omega
          have o3_2 := fun j => c3 (w2.heap.size) j (by omega)
          have f3_2 := fun j => d3 (w2.heap.size) j (by omega)
          clear c3 d3 hz3 hW3
          go_wp2_with fail
          refine bodyPost_ret (by simp [results, Tryz.results53, go_sem, *]; try rfl) rfl ?_
          exact ⟨by rw [(rd_none H_hP.out), frN_n (by decide)]; rfl, by repeat' (first | (with_reducible first | exact bwR _ _ | assumption | refine bdn ?_ | refine bwA ?_ ?_ _ | refine bwD ?_ | refine bwS ?_ ?_ _) | omega | (simp <;> omega))⟩
      · rw [if_neg hdbad] at hP
        have gd : ¬ d < 0 := by omega
        have gd1 : (d == 1) = false := by rw [beq_eq_false_iff_ne]; omega
        have gdb : d < 10000000000 := by omega
        have H_hy := Lib.hid hy
        clear hy
        have H_hdt := Lib.hid hdt
        clear hdt
        have H_hd := Lib.hid hd
        clear hd
        have H_hn1 := Lib.hid hn1
        clear hn1
        have H_hx := Lib.hid hx
        clear hx
        have H_hss := Lib.hid hss
        clear hss
        have H_hm := Lib.hid hm
        clear hm
        have H_hmi := Lib.hid hmi
        clear hmi
        have H_hh := Lib.hid hh
        clear hh
        have H_hxt := Lib.hid hxt
        clear hxt
        have H_hdbad := Lib.hid hdbad
        clear hdbad
        rcases Nat.eq_zero_or_pos (chk (-n1) d) with hc | hc
        · have hR := (rd_some hP)
          have H_hc := Lib.hid hc
          clear hc
          have H_hR := Lib.hid hR
          clear hR
          have H_hP := Lib.hid hP
          clear hP
          have H_hn := Lib.hid hn
          clear hn
          go_enter Tryz.func53, Tryz.ntmps53
          go_wp2_with fail
          refine call_ss (w := w) (by repeat' (first | (with_reducible first | exact bwR _ _ | assumption | refine bdn ?_ | refine bwA ?_ ?_ _ | refine bwD ?_ | refine bwS ?_ ?_ _) | omega | (simp <;> omega))) (fun HB => rcut_47 s _ hs _ H_hss.out) (by simp) rfl ?_
          intro gg1 cap1 w1 hg1 hgl1 hcl1 hb1 hz1 c1 d1 hW1
          have t1 := hb1.size
          try simp only [szA] at hz1 c1 d1
          try simp only [szD] at hz1 c1 d1
          try simp only [szS] at hz1 c1 d1
          try simp only [World.heap_drewN] at hz1 c1 d1
          try simp only [szA] at hz1 c1 d1
          try simp only [szD] at hz1 c1 d1
          try simp only [szS] at hz1 c1 d1
          have s1_0 : w.heap.size < w1.heap.size := by omega
          have o1_0 := fun j => c1 (w.heap.size) j (by omega)
          have f1_0 := fun j => d1 (w.heap.size) j (by omega)
          clear c1 d1 hz1 hW1
          have q0 := hcl1 0 (by simp)
          have q1 := hcl1 1 (by simp)
          simp only [List.getElem_cons_zero] at q0
          rw [H_hx.out] at q0
          simp only [List.getElem_cons_succ, List.getElem_cons_zero] at q1
          rw [H_hy.out] at q1
          clear hcl1
          go_wp2_with fail
          refine call_bel (w := w) (by repeat' (first | (with_reducible first | exact bwR _ _ | assumption | refine bdn ?_ | refine bwA ?_ ?_ _ | refine bwD ?_ | refine bwS ?_ ?_ _) | omega | (simp <;> omega))) (fun HB => rnum_s _ n1 _ H_hn.out) ?_
          intro w2 hb2 hz2 c2 d2 hW2
          have t2 := hb2.size
          try simp only [szA] at hz2 c2 d2
          try simp only [szD] at hz2 c2 d2
          try simp only [szS] at hz2 c2 d2
          try simp only [World.heap_drewN] at hz2 c2 d2
          try simp only [szA] at hz2 c2 d2
          try simp only [szD] at hz2 c2 d2
          try simp only [szS] at hz2 c2 d2
          have s2_0 : w.heap.size < w2.heap.size := by omega
          have o2_0 := fun j => c2 (w.heap.size) j (by omega)
          have f2_0 := fun j => d2 (w.heap.size) j (by omega)
          have s2_1 : gg1 < w2.heap.size := by omega
          have o2_1 := fun j => c2 (gg1) j (by omega)
          have f2_1 := fun j => d2 (gg1) j (by omega)
          clear c2 d2 hz2 hW2
          go_wp2_with fail
          refine call_bel (w := w) (by repeat' (first | (with_reducible first | exact bwR _ _ | assumption | refine bdn ?_ | refine bwA ?_ ?_ _ | refine bwD ?_ | refine bwS ?_ ?_ _) | omega | (simp <;> omega))) (fun HB => rnum_s _ d _ H_hd.out) ?_
          intro w3 hb3 hz3 c3 d3 hW3
          have t3 := hb3.size
          have e3_2 : Below w2.heap.size w2 w3 := below_via (by repeat' (first | (with_reducible first | exact bwR _ _ | assumption | refine bdn ?_ | refine bwA ?_ ?_ _ | refine bwD ?_ | refine bwS ?_ ?_ _) | omega | (simp <;> omega))) hW3
          have te3_2 := e3_2.size
          try simp only [szA] at hz3 c3 d3
          try simp only [szD] at hz3 c3 d3
          try simp only [szS] at hz3 c3 d3
          try simp only [World.heap_drewN] at hz3 c3 d3
          try simp only [szA] at hz3 c3 d3
          try simp only [szD] at hz3 c3 d3
          try simp only [szS] at hz3 c3 d3
          have s3_0 : w.heap.size < w3.heap.size := by omega
          have o3_0 := fun j => c3 (w.heap.size) j (by omega)
          have f3_0 := fun j => d3 (w.heap.size) j (by omega)
          have s3_1 : gg1 < w3.heap.size := by omega
          have o3_1 := fun j => c3 (gg1) j (by omega)
          have f3_1 := fun j => d3 (gg1) j (by omega)
          have s3_2 : w2.heap.size < w3.heap.size := by omega
          have o3_2 := fun j => c3 (w2.heap.size) j (by omega)
          have f3_2 := fun j => d3 (w2.heap.size) j (by omega)
          clear c3 d3 hz3 hW3
          go_wp2_with fail
          refine call_bel (w := w) (by repeat' (first | (with_reducible first | exact bwR _ _ | assumption | refine bdn ?_ | refine bwA ?_ ?_ _ | refine bwD ?_ | refine bwS ?_ ?_ _) | omega | (simp <;> omega))) (fun HB => rfracerror_0 (-n1) d _ H_hc.out (by unfold I64; omega) (by unfold I64; omega)) ?_
          intro w4 hb4 hz4 c4 d4 hW4
          have t4 := hb4.size
          have e4_2 : Below w2.heap.size w2 w4 := below_via (by repeat' (first | (with_reducible first | exact bwR _ _ | assumption | refine bdn ?_ | refine bwA ?_ ?_ _ | refine bwD ?_ | refine bwS ?_ ?_ _) | omega | (simp <;> omega))) hW4
          have te4_2 := e4_2.size
          try simp only [szA] at hz4 c4 d4
          try simp only [szD] at hz4 c4 d4
          try simp only [szS] at hz4 c4 d4
          try simp only [World.heap_drewN] at hz4 c4 d4
          try simp only [szA] at hz4 c4 d4
          try simp only [szD] at hz4 c4 d4
          try simp only [szS] at hz4 c4 d4
          have s4_0 : w.heap.size < w4.heap.size := by omega
          have o4_0 := fun j => c4 (w.heap.size) j (by omega)
          have f4_0 := fun j => d4 (w.heap.size) j (by omega)
          have s4_1 : w2.heap.size < w4.heap.size := by omega
          have o4_1 := fun j => c4 (w2.heap.size) j (by omega)
          have f4_1 := fun j => d4 (w2.heap.size) j (by omega)
          clear c4 d4 hz4 hW4
          go_wp2_with fail
          refine bodyPost_ret (by simp [results, Tryz.results53, go_sem, *]; try rfl) rfl ?_
          exact ⟨by rw [H_hR.out.1, H_hR.out.2.1, H_hR.out.2.2, frN_0 H_hc.out], by repeat' (first | (with_reducible first | exact bwR _ _ | assumption | refine bdn ?_ | refine bwA ?_ ?_ _ | refine bwD ?_ | refine bwS ?_ ?_ _) | omega | (simp <;> omega))⟩
        · have hR := (rd_some hP)
          obtain ⟨c, hcc⟩ : ∃ c, chk (-n1) d = c := ⟨_, rfl⟩
          rw [hcc] at hc
          have hc0 : (0 : Int) < (c : Int) := by omega
          have hcc' : (chk (-n1) d : Int) = (c : Int) := by rw [hcc]
          have H_hR := Lib.hid hR
          clear hR
          have H_hP := Lib.hid hP
          clear hP
          have H_hn := Lib.hid hn
          clear hn
          have H_hcc := Lib.hid hcc
          clear hcc
          have H_hcc' := Lib.hid hcc'
          clear hcc'
          go_enter Tryz.func53, Tryz.ntmps53
          go_wp2_with fail
          refine call_ss (w := w) (by repeat' (first | (with_reducible first | exact bwR _ _ | assumption | refine bdn ?_ | refine bwA ?_ ?_ _ | refine bwD ?_ | refine bwS ?_ ?_ _) | omega | (simp <;> omega))) (fun HB => rcut_47 s _ hs _ H_hss.out) (by simp) rfl ?_
          intro gg1 cap1 w1 hg1 hgl1 hcl1 hb1 hz1 c1 d1 hW1
          have t1 := hb1.size
          try simp only [szA] at hz1 c1 d1
          try simp only [szD] at hz1 c1 d1
          try simp only [szS] at hz1 c1 d1
          try simp only [World.heap_drewN] at hz1 c1 d1
          try simp only [szA] at hz1 c1 d1
          try simp only [szD] at hz1 c1 d1
          try simp only [szS] at hz1 c1 d1
          have s1_0 : w.heap.size < w1.heap.size := by omega
          have o1_0 := fun j => c1 (w.heap.size) j (by omega)
          have f1_0 := fun j => d1 (w.heap.size) j (by omega)
          clear c1 d1 hz1 hW1
          have q0 := hcl1 0 (by simp)
          have q1 := hcl1 1 (by simp)
          simp only [List.getElem_cons_zero] at q0
          rw [H_hx.out] at q0
          simp only [List.getElem_cons_succ, List.getElem_cons_zero] at q1
          rw [H_hy.out] at q1
          clear hcl1
          go_wp2_with fail
          refine call_bel (w := w) (by repeat' (first | (with_reducible first | exact bwR _ _ | assumption | refine bdn ?_ | refine bwA ?_ ?_ _ | refine bwD ?_ | refine bwS ?_ ?_ _) | omega | (simp <;> omega))) (fun HB => rnum_s _ n1 _ H_hn.out) ?_
          intro w2 hb2 hz2 c2 d2 hW2
          have t2 := hb2.size
          try simp only [szA] at hz2 c2 d2
          try simp only [szD] at hz2 c2 d2
          try simp only [szS] at hz2 c2 d2
          try simp only [World.heap_drewN] at hz2 c2 d2
          try simp only [szA] at hz2 c2 d2
          try simp only [szD] at hz2 c2 d2
          try simp only [szS] at hz2 c2 d2
          have s2_0 : w.heap.size < w2.heap.size := by omega
          have o2_0 := fun j => c2 (w.heap.size) j (by omega)
          have f2_0 := fun j => d2 (w.heap.size) j (by omega)
          have s2_1 : gg1 < w2.heap.size := by omega
          have o2_1 := fun j => c2 (gg1) j (by omega)
          have f2_1 := fun j => d2 (gg1) j (by omega)
          clear c2 d2 hz2 hW2
          go_wp2_with fail
          refine call_bel (w := w) (by repeat' (first | (with_reducible first | exact bwR _ _ | assumption | refine bdn ?_ | refine bwA ?_ ?_ _ | refine bwD ?_ | refine bwS ?_ ?_ _) | omega | (simp <;> omega))) (fun HB => rnum_s _ d _ H_hd.out) ?_
          intro w3 hb3 hz3 c3 d3 hW3
          have t3 := hb3.size
          have e3_2 : Below w2.heap.size w2 w3 := below_via (by repeat' (first | (with_reducible first | exact bwR _ _ | assumption | refine bdn ?_ | refine bwA ?_ ?_ _ | refine bwD ?_ | refine bwS ?_ ?_ _) | omega | (simp <;> omega))) hW3
          have te3_2 := e3_2.size
          try simp only [szA] at hz3 c3 d3
          try simp only [szD] at hz3 c3 d3
          try simp only [szS] at hz3 c3 d3
          try simp only [World.heap_drewN] at hz3 c3 d3
          try simp only [szA] at hz3 c3 d3
          try simp only [szD] at hz3 c3 d3
          try simp only [szS] at hz3 c3 d3
          have s3_0 : w.heap.size < w3.heap.size := by omega
          have o3_0 := fun j => c3 (w.heap.size) j (by omega)
          have f3_0 := fun j => d3 (w.heap.size) j (by omega)
          have s3_1 : gg1 < w3.heap.size := by omega
          have o3_1 := fun j => c3 (gg1) j (by omega)
          have f3_1 := fun j => d3 (gg1) j (by omega)
          have s3_2 : w2.heap.size < w3.heap.size := by omega
          have o3_2 := fun j => c3 (w2.heap.size) j (by omega)
          have f3_2 := fun j => d3 (w2.heap.size) j (by omega)
          clear c3 d3 hz3 hW3
          go_wp2_with fail
          refine call_bel (w := w) (by repeat' (first | (with_reducible first | exact bwR _ _ | assumption | refine bdn ?_ | refine bwA ?_ ?_ _ | refine bwD ?_ | refine bwS ?_ ?_ _) | omega | (simp <;> omega))) (fun HB => rfracerror_c (-n1) d c _ H_hcc'.out (by unfold I64; omega) (by unfold I64; omega)) ?_
          intro w4 hb4 hz4 c4 d4 hW4
          have t4 := hb4.size
          have e4_2 : Below w2.heap.size w2 w4 := below_via (by repeat' (first | (with_reducible first | exact bwR _ _ | assumption | refine bdn ?_ | refine bwA ?_ ?_ _ | refine bwD ?_ | refine bwS ?_ ?_ _) | omega | (simp <;> omega))) hW4
          have te4_2 := e4_2.size
          try simp only [szA] at hz4 c4 d4
          try simp only [szD] at hz4 c4 d4
          try simp only [szS] at hz4 c4 d4
          try simp only [World.heap_drewN] at hz4 c4 d4
          try simp only [szA] at hz4 c4 d4
          try simp only [szD] at hz4 c4 d4
          try simp only [szS] at hz4 c4 d4
          have s4_0 : w.heap.size < w4.heap.size := by omega
          have o4_0 := fun j => c4 (w.heap.size) j (by omega)
          have f4_0 := fun j => d4 (w.heap.size) j (by omega)
          have s4_1 : w2.heap.size < w4.heap.size := by omega
          have o4_1 := fun j => c4 (w2.heap.size) j (by omega)
          have f4_1 := fun j => d4 (w2.heap.size) j (by omega)
          clear c4 d4 hz4 hW4
          go_wp2_with fail
          refine bodyPost_ret (by simp [results, Tryz.results53, go_sem, *]; try rfl) rfl ?_
          exact ⟨by rw [H_hR.out.1, H_hR.out.2.1, H_hR.out.2.2, H_hcc.out, frN_n (by omega)], by repeat' (first | (with_reducible first | exact bwR _ _ | assumption | refine bdn ?_ | refine bwA ?_ ?_ _ | refine bwD ?_ | refine bwS ?_ ?_ _) | omega | (simp <;> omega))⟩
    · rw [if_neg hp] at hP
      replace hP : rdP s.data.toList = none := hP
      by_cases hneg : n1 < 0
      · have H_hy := Lib.hid hy
        clear hy
        have H_hdt := Lib.hid hdt
        clear hdt
        have H_hd := Lib.hid hd
        clear hd
        have H_hP := Lib.hid hP
        clear hP
        have H_hn := Lib.hid hn
        clear hn
        have H_hn1 := Lib.hid hn1
        clear hn1
        have H_hx := Lib.hid hx
        clear hx
        have H_hss := Lib.hid hss
        clear hss
        have H_hm := Lib.hid hm
        clear hm
        have H_hmi := Lib.hid hmi
        clear hmi
        have H_hh := Lib.hid hh
        clear hh
        have H_hxt := Lib.hid hxt
        clear hxt
        go_enter Tryz.func53, Tryz.ntmps53
        go_wp2_with fail
        refine call_ss (w := w) (by repeat' (first | (with_reducible first | exact bwR _ _ | assumption | refine bdn ?_ | refine bwA ?_ ?_ _ | refine bwD ?_ | refine bwS ?_ ?_ _) | omega | (simp <;> omega))) (fun HB => rcut_47 s _ hs _ H_hss.out) (by simp) rfl ?_
        intro gg1 cap1 w1 hg1 hgl1 hcl1 hb1 hz1 c1 d1 hW1
        have t1 := hb1.size
        try simp only [szA] at hz1 c1 d1
        try simp only [szD] at hz1 c1 d1
        try simp only [szS] at hz1 c1 d1
        try simp only [World.heap_drewN] at hz1 c1 d1
        try simp only [szA] at hz1 c1 d1
        try simp only [szD] at hz1 c1 d1
        try simp only [szS] at hz1 c1 d1
        have s1_0 : w.heap.size < w1.heap.size := by omega
        have o1_0 := fun j => c1 (w.heap.size) j (by omega)
        have f1_0 := fun j => d1 (w.heap.size) j (by omega)
        clear c1 d1 hz1 hW1
        have q0 := hcl1 0 (by simp)
        have q1 := hcl1 1 (by simp)
        simp only [List.getElem_cons_zero] at q0
        rw [H_hx.out] at q0
        simp only [List.getElem_cons_succ, List.getElem_cons_zero] at q1
        rw [H_hy.out] at q1
        clear hcl1
        go_wp2_with fail
        refine call_bel (w := w) (by repeat' (first | (with_reducible first | exact bwR _ _ | assumption | refine bdn ?_ | refine bwA ?_ ?_ _ | refine bwD ?_ | refine bwS ?_ ?_ _) | omega | (simp <;> omega))) (fun HB => rnum_s _ n1 _ H_hn.out) ?_
        intro w2 hb2 hz2 c2 d2 hW2
        have t2 := hb2.size
        try simp only [szA] at hz2 c2 d2
        try simp only [szD] at hz2 c2 d2
        try simp only [szS] at hz2 c2 d2
        try simp only [World.heap_drewN] at hz2 c2 d2
        try simp only [szA] at hz2 c2 d2
        try simp only [szD] at hz2 c2 d2
        try simp only [szS] at hz2 c2 d2
        have s2_0 : w.heap.size < w2.heap.size := by omega
        have o2_0 := fun j => c2 (w.heap.size) j (by omega)
        have f2_0 := fun j => d2 (w.heap.size) j (by omega)
        clear c2 d2 hz2 hW2
        go_wp2_with fail
        refine bodyPost_ret (by simp [results, Tryz.results53, go_sem, *]; try rfl) rfl ?_
        exact ⟨by rw [(rd_none H_hP.out), frN_n (by decide)]; rfl, by repeat' (first | (with_reducible first | exact bwR _ _ | assumption | refine bdn ?_ | refine bwA ?_ ?_ _ | refine bwD ?_ | refine bwS ?_ ?_ _) | omega | (simp <;> omega))⟩
      · have gn : (n1 == 0) = true := by rw [beq_iff_eq]; omega
        have H_hy := Lib.hid hy
        clear hy
        have H_hdt := Lib.hid hdt
        clear hdt
        have H_hd := Lib.hid hd
        clear hd
        have H_hP := Lib.hid hP
        clear hP
        have H_hn := Lib.hid hn
        clear hn
        have H_hn1 := Lib.hid hn1
        clear hn1
        have H_hx := Lib.hid hx
        clear hx
        have H_hss := Lib.hid hss
        clear hss
        have H_hm := Lib.hid hm
        clear hm
        have H_hmi := Lib.hid hmi
        clear hmi
        have H_hh := Lib.hid hh
        clear hh
        have H_hxt := Lib.hid hxt
        clear hxt
        go_enter Tryz.func53, Tryz.ntmps53
        go_wp2_with fail
        refine call_ss (w := w) (by repeat' (first | (with_reducible first | exact bwR _ _ | assumption | refine bdn ?_ | refine bwA ?_ ?_ _ | refine bwD ?_ | refine bwS ?_ ?_ _) | omega | (simp <;> omega))) (fun HB => rcut_47 s _ hs _ H_hss.out) (by simp) rfl ?_
        intro gg1 cap1 w1 hg1 hgl1 hcl1 hb1 hz1 c1 d1 hW1
        have t1 := hb1.size
        try simp only [szA] at hz1 c1 d1
        try simp only [szD] at hz1 c1 d1
        try simp only [szS] at hz1 c1 d1
        try simp only [World.heap_drewN] at hz1 c1 d1
        try simp only [szA] at hz1 c1 d1
        try simp only [szD] at hz1 c1 d1
        try simp only [szS] at hz1 c1 d1
        have s1_0 : w.heap.size < w1.heap.size := by omega
        have o1_0 := fun j => c1 (w.heap.size) j (by omega)
        have f1_0 := fun j => d1 (w.heap.size) j (by omega)
        clear c1 d1 hz1 hW1
        have q0 := hcl1 0 (by simp)
        have q1 := hcl1 1 (by simp)
        simp only [List.getElem_cons_zero] at q0
        rw [H_hx.out] at q0
        simp only [List.getElem_cons_succ, List.getElem_cons_zero] at q1
        rw [H_hy.out] at q1
        clear hcl1
        go_wp2_with fail
        refine call_bel (w := w) (by repeat' (first | (with_reducible first | exact bwR _ _ | assumption | refine bdn ?_ | refine bwA ?_ ?_ _ | refine bwD ?_ | refine bwS ?_ ?_ _) | omega | (simp <;> omega))) (fun HB => rnum_s _ n1 _ H_hn.out) ?_
        intro w2 hb2 hz2 c2 d2 hW2
        have t2 := hb2.size
        try simp only [szA] at hz2 c2 d2
        try simp only [szD] at hz2 c2 d2
        try simp only [szS] at hz2 c2 d2
        try simp only [World.heap_drewN] at hz2 c2 d2
        try simp only [szA] at hz2 c2 d2
        try simp only [szD] at hz2 c2 d2
        try simp only [szS] at hz2 c2 d2
        have s2_0 : w.heap.size < w2.heap.size := by omega
        have o2_0 := fun j => c2 (w.heap.size) j (by omega)
        have f2_0 := fun j => d2 (w.heap.size) j (by omega)
        clear c2 d2 hz2 hW2
        go_wp2_with fail
        refine bodyPost_ret (by simp [results, Tryz.results53, go_sem, *]; try rfl) rfl ?_
        exact ⟨by rw [(rd_none H_hP.out), frN_n (by decide)]; rfl, by repeat' (first | (with_reducible first | exact bwR _ _ | assumption | refine bdn ?_ | refine bwA ?_ ?_ _ | refine bwD ?_ | refine bwS ?_ ?_ _) | omega | (simp <;> omega))⟩
  · have gm : (((s[0]).toNat : Int) == 45) = false := by
      rw [beq_eq_false_iff_ne]; intro e; exact hmi (UInt8.toNat_inj.1 (by show _ = 45; omega))
    have hh : ¬ h.head? = some 45 := fun e => hmi (Option.some.inj (hm.1 e))
    have hxt : x.data.toList = h := by rw [← hx]
    obtain ⟨n1, hn1⟩ : ∃ n, numOf h 10 = n := ⟨_, rfl⟩
    have hn : numOf x.data.toList 10 = n1 := by rw [hxt]; exact hn1
    have hb := numOf_lt (l := h) (most := 10) (by decide)
    rw [hn1] at hb
    unfold numS at hP
    rw [if_neg hh, hn1] at hP
    by_cases hp : 0 ≤ n1
    · rw [if_pos hp] at hP
      replace hP : rdP s.data.toList = if d < 0 ∨ d = 1 then none else some (n1, d) := hP
      have gn1 : ¬ n1 < 0 := by omega
      by_cases hdbad : d < 0 ∨ d = 1
      · rw [if_pos hdbad] at hP
        rcases hdbad with hd1 | hd1
        · have H_hy := Lib.hid hy
          clear hy
          have H_hdt := Lib.hid hdt
          clear hdt
          have H_hd := Lib.hid hd
          clear hd
          have H_hP := Lib.hid hP
          clear hP
          have H_hn := Lib.hid hn
          clear hn
          have H_hn1 := Lib.hid hn1
          clear hn1
          have H_hx := Lib.hid hx
          clear hx
          have H_hss := Lib.hid hss
          clear hss
          have H_hm := Lib.hid hm
          clear hm
          have H_hmi := Lib.hid hmi
          clear hmi
          have H_hh := Lib.hid hh
          clear hh
          have H_hxt := Lib.hid hxt
          clear hxt
          go_enter Tryz.func53, Tryz.ntmps53
          go_wp2_with fail
          refine call_ss (w := w) (by repeat' (first | (with_reducible first | exact bwR _ _ | assumption | refine bdn ?_ | refine bwA ?_ ?_ _ | refine bwD ?_ | refine bwS ?_ ?_ _) | omega | (simp <;> omega))) (fun HB => rcut_47 s _ hs _ H_hss.out) (by simp) rfl ?_
          intro gg1 cap1 w1 hg1 hgl1 hcl1 hb1 hz1 c1 d1 hW1
          have t1 := hb1.size
          try simp only [szA] at hz1 c1 d1
          try simp only [szD] at hz1 c1 d1
          try simp only [szS] at hz1 c1 d1
          try simp only [World.heap_drewN] at hz1 c1 d1
          try simp only [szA] at hz1 c1 d1
          try simp only [szD] at hz1 c1 d1
          try simp only [szS] at hz1 c1 d1
          have s1_0 : w.heap.size < w1.heap.size := by omega
          have o1_0 := fun j => c1 (w.heap.size) j (by omega)
          have f1_0 := fun j => d1 (w.heap.size) j (by omega)
          clear c1 d1 hz1 hW1
          have q0 := hcl1 0 (by simp)
          have q1 := hcl1 1 (by simp)
          simp only [List.getElem_cons_zero] at q0
          rw [H_hx.out] at q0
          simp only [List.getElem_cons_succ, List.getElem_cons_zero] at q1
          rw [H_hy.out] at q1
          clear hcl1
          go_wp2_with fail
          refine call_bel (w := w) (by repeat' (first | (with_reducible first | exact bwR _ _ | assumption | refine bdn ?_ | refine bwA ?_ ?_ _ | refine bwD ?_ | refine bwS ?_ ?_ _) | omega | (simp <;> omega))) (fun HB => rnum_s _ n1 _ H_hn.out) ?_
          intro w2 hb2 hz2 c2 d2 hW2
          have t2 := hb2.size
          try simp only [szA] at hz2 c2 d2
          try simp only [szD] at hz2 c2 d2
          try simp only [szS] at hz2 c2 d2
          try simp only [World.heap_drewN] at hz2 c2 d2
          try simp only [szA] at hz2 c2 d2
          try simp only [szD] at hz2 c2 d2
          try simp only [szS] at hz2 c2 d2
          have s2_0 : w.heap.size < w2.heap.size := by omega
          have o2_0 := fun j => c2 (w.heap.size) j (by omega)
          have f2_0 := fun j => d2 (w.heap.size) j (by omega)
          have s2_1 : gg1 < w2.heap.size := by omega
          have o2_1 := fun j => c2 (gg1) j (by omega)
          have f2_1 := fun j => d2 (gg1) j (by omega)
          clear c2 d2 hz2 hW2
          go_wp2_with fail
          refine call_bel (w := w) (by repeat' (first | (with_reducible first | exact bwR _ _ | assumption | refine bdn ?_ | refine bwA ?_ ?_ _ | refine bwD ?_ | refine bwS ?_ ?_ _) | omega | (simp <;> omega))) (fun HB => rnum_s _ d _ H_hd.out) ?_
          intro w3 hb3 hz3 c3 d3 hW3
          have t3 := hb3.size
          have e3_2 : Below w2.heap.size w2 w3 := below_via (by repeat' (first | (with_reducible first | exact bwR _ _ | assumption | refine bdn ?_ | refine bwA ?_ ?_ _ | refine bwD ?_ | refine bwS ?_ ?_ _) | omega | (simp <;> omega))) hW3
          have te3_2 := e3_2.size
          try simp only [szA] at hz3 c3 d3
          try simp only [szD] at hz3 c3 d3
          try simp only [szS] at hz3 c3 d3
          try simp only [World.heap_drewN] at hz3 c3 d3
          try simp only [szA] at hz3 c3 d3
          try simp only [szD] at hz3 c3 d3
          try simp only [szS] at hz3 c3 d3
          have s3_0 : w.heap.size < w3.heap.size := by omega
          have o3_0 := fun j => c3 (w.heap.size) j (by omega)
          have f3_0 := fun j => d3 (w.heap.size) j (by omega)
          have s3_1 : gg1 < w3.heap.size := by omega
          have o3_1 := fun j => c3 (gg1) j (by omega)
          have f3_1 := fun j => d3 (gg1) j (by omega)
          have s3_2 : w2.heap.size < w3.heap.size := by omega
          have o3_2 := fun j => c3 (w2.heap.size) j (by omega)
          have f3_2 := fun j => d3 (w2.heap.size) j (by omega)
          clear c3 d3 hz3 hW3
          go_wp2_with fail
          refine bodyPost_ret (by simp [results, Tryz.results53, go_sem, *]; try rfl) rfl ?_
          exact ⟨by rw [(rd_none H_hP.out), frN_n (by decide)]; rfl, by repeat' (first | (with_reducible first | exact bwR _ _ | assumption | refine bdn ?_ | refine bwA ?_ ?_ _ | refine bwD ?_ | refine bwS ?_ ?_ _) | omega | (simp <;> omega))⟩
        · have gd : ¬ d < 0 := by omega
          have gd1 : (d == 1) = true := by rw [hd1]; rfl
          have H_hy := Lib.hid hy
          clear hy
          have H_hdt := Lib.hid hdt
          clear hdt
          have H_hd := Lib.hid hd
          clear hd
          have H_hP := Lib.hid hP
          clear hP
          have H_hn := Lib.hid hn
          clear hn
          have H_hn1 := Lib.hid hn1
          clear hn1
          have H_hx := Lib.hid hx
          clear hx
          have H_hss := Lib.hid hss
          clear hss
          have H_hm := Lib.hid hm
          clear hm
          have H_hmi := Lib.hid hmi
          clear hmi
          have H_hh := Lib.hid hh
          clear hh
          have H_hxt := Lib.hid hxt
          clear hxt
          have H_hd1 := Lib.hid hd1
          clear hd1
          go_enter Tryz.func53, Tryz.ntmps53
          go_wp2_with fail
          refine call_ss (w := w) (by repeat' (first | (with_reducible first | exact bwR _ _ | assumption | refine bdn ?_ | refine bwA ?_ ?_ _ | refine bwD ?_ | refine bwS ?_ ?_ _) | omega | (simp <;> omega))) (fun HB => rcut_47 s _ hs _ H_hss.out) (by simp) rfl ?_
          intro gg1 cap1 w1 hg1 hgl1 hcl1 hb1 hz1 c1 d1 hW1
          have t1 := hb1.size
          try simp only [szA] at hz1 c1 d1
          try simp only [szD] at hz1 c1 d1
          try simp only [szS] at hz1 c1 d1
          try simp only [World.heap_drewN] at hz1 c1 d1
          try simp only [szA] at hz1 c1 d1
          try simp only [szD] at hz1 c1 d1
          try simp only [szS] at hz1 c1 d1
          have s1_0 : w.heap.size < w1.heap.size := by omega
          have o1_0 := fun j => c1 (w.heap.size) j (by omega)
          have f1_0 := fun j => d1 (w.heap.size) j (by omega)
          clear c1 d1 hz1 hW1
          have q0 := hcl1 0 (by simp)
          have q1 := hcl1 1 (by simp)
          simp only [List.getElem_cons_zero] at q0
          rw [H_hx.out] at q0
          simp only [List.getElem_cons_succ, List.getElem_cons_zero] at q1
          rw [H_hy.out] at q1
          clear hcl1
          go_wp2_with fail
          refine call_bel (w := w) (by repeat' (first | (with_reducible first | exact bwR _ _ | assumption | refine bdn ?_ | refine bwA ?_ ?_ _ | refine bwD ?_ | refine bwS ?_ ?_ _) | omega | (simp <;> omega))) (fun HB => rnum_s _ n1 _ H_hn.out) ?_
          intro w2 hb2 hz2 c2 d2 hW2
          have t2 := hb2.size
          try simp only [szA] at hz2 c2 d2
          try simp only [szD] at hz2 c2 d2
          try simp only [szS] at hz2 c2 d2
          try simp only [World.heap_drewN] at hz2 c2 d2
          try simp only [szA] at hz2 c2 d2
          try simp only [szD] at hz2 c2 d2
          try simp only [szS] at hz2 c2 d2
          have s2_0 : w.heap.size < w2.heap.size := by omega
          have o2_0 := fun j => c2 (w.heap.size) j (by omega)
          have f2_0 := fun j => d2 (w.heap.size) j (by omega)
          have s2_1 : gg1 < w2.heap.size := by omega
          have o2_1 := fun j => c2 (gg1) j (by omega)
          have f2_1 := fun j => d2 (gg1) j (by omega)
          clear c2 d2 hz2 hW2
          go_wp2_with fail
          refine call_bel (w := w) (by repeat' (first | (with_reducible first | exact bwR _ _ | assumption | refine bdn ?_ | refine bwA ?_ ?_ _ | refine bwD ?_ | refine bwS ?_ ?_ _) | omega | (simp <;> omega))) (fun HB => rnum_s _ d _ H_hd.out) ?_
          intro w3 hb3 hz3 c3 d3 hW3
          have t3 := hb3.size
          have e3_2 : Below w2.heap.size w2 w3 := below_via (by repeat' (first | (with_reducible first | exact bwR _ _ | assumption | refine bdn ?_ | refine bwA ?_ ?_ _ | refine bwD ?_ | refine bwS ?_ ?_ _) | omega | (simp <;> omega))) hW3
          have te3_2 := e3_2.size
          try simp only [szA] at hz3 c3 d3
          try simp only [szD] at hz3 c3 d3
          try simp only [szS] at hz3 c3 d3
          try simp only [World.heap_drewN] at hz3 c3 d3
          try simp only [szA] at hz3 c3 d3
          try simp only [szD] at hz3 c3 d3
          try simp only [szS] at hz3 c3 d3
          have s3_0 : w.heap.size < w3.heap.size := by omega
          have o3_0 := fun j => c3 (w.heap.size) j (by omega)
          have f3_0 := fun j => d3 (w.heap.size) j (by omega)
          have s3_1 : gg1 < w3.heap.size := by omega
          have o3_1 := fun j => c3 (gg1) j (by omega)
          have f3_1 := fun j => d3 (gg1) j (by omega)
          have s3_2 : w2.heap.size < w3.heap.size := by omega
          have o3_2 := fun j => c3 (w2.heap.size) j (by omega)
          have f3_2 := fun j => d3 (w2.heap.size) j (by omega)
          clear c3 d3 hz3 hW3
          go_wp2_with fail
          refine bodyPost_ret (by simp [results, Tryz.results53, go_sem, *]; try rfl) rfl ?_
          exact ⟨by rw [(rd_none H_hP.out), frN_n (by decide)]; rfl, by repeat' (first | (with_reducible first | exact bwR _ _ | assumption | refine bdn ?_ | refine bwA ?_ ?_ _ | refine bwD ?_ | refine bwS ?_ ?_ _) | omega | (simp <;> omega))⟩
      · rw [if_neg hdbad] at hP
        have gd : ¬ d < 0 := by omega
        have gd1 : (d == 1) = false := by rw [beq_eq_false_iff_ne]; omega
        have gdb : d < 10000000000 := by omega
        have H_hy := Lib.hid hy
        clear hy
        have H_hdt := Lib.hid hdt
        clear hdt
        have H_hd := Lib.hid hd
        clear hd
        have H_hn1 := Lib.hid hn1
        clear hn1
        have H_hx := Lib.hid hx
        clear hx
        have H_hss := Lib.hid hss
        clear hss
        have H_hm := Lib.hid hm
        clear hm
        have H_hmi := Lib.hid hmi
        clear hmi
        have H_hh := Lib.hid hh
        clear hh
        have H_hxt := Lib.hid hxt
        clear hxt
        have H_hdbad := Lib.hid hdbad
        clear hdbad
        rcases Nat.eq_zero_or_pos (chk n1 d) with hc | hc
        · have hR := (rd_some hP)
          have H_hc := Lib.hid hc
          clear hc
          have H_hR := Lib.hid hR
          clear hR
          have H_hP := Lib.hid hP
          clear hP
          have H_hn := Lib.hid hn
          clear hn
          go_enter Tryz.func53, Tryz.ntmps53
          go_wp2_with fail
          refine call_ss (w := w) (by repeat' (first | (with_reducible first | exact bwR _ _ | assumption | refine bdn ?_ | refine bwA ?_ ?_ _ | refine bwD ?_ | refine bwS ?_ ?_ _) | omega | (simp <;> omega))) (fun HB => rcut_47 s _ hs _ H_hss.out) (by simp) rfl ?_
          intro gg1 cap1 w1 hg1 hgl1 hcl1 hb1 hz1 c1 d1 hW1
          have t1 := hb1.size
          try simp only [szA] at hz1 c1 d1
          try simp only [szD] at hz1 c1 d1
          try simp only [szS] at hz1 c1 d1
          try simp only [World.heap_drewN] at hz1 c1 d1
          try simp only [szA] at hz1 c1 d1
          try simp only [szD] at hz1 c1 d1
          try simp only [szS] at hz1 c1 d1
          have s1_0 : w.heap.size < w1.heap.size := by omega
          have o1_0 := fun j => c1 (w.heap.size) j (by omega)
          have f1_0 := fun j => d1 (w.heap.size) j (by omega)
          clear c1 d1 hz1 hW1
          have q0 := hcl1 0 (by simp)
          have q1 := hcl1 1 (by simp)
          simp only [List.getElem_cons_zero] at q0
          rw [H_hx.out] at q0
          simp only [List.getElem_cons_succ, List.getElem_cons_zero] at q1
          rw [H_hy.out] at q1
          clear hcl1
          go_wp2_with fail
          refine call_bel (w := w) (by repeat' (first | (with_reducible first | exact bwR _ _ | assumption | refine bdn ?_ | refine bwA ?_ ?_ _ | refine bwD ?_ | refine bwS ?_ ?_ _) | omega | (simp <;> omega))) (fun HB => rnum_s _ n1 _ H_hn.out) ?_
          intro w2 hb2 hz2 c2 d2 hW2
          have t2 := hb2.size
          try simp only [szA] at hz2 c2 d2
          try simp only [szD] at hz2 c2 d2
          try simp only [szS] at hz2 c2 d2
          try simp only [World.heap_drewN] at hz2 c2 d2
          try simp only [szA] at hz2 c2 d2
          try simp only [szD] at hz2 c2 d2
          try simp only [szS] at hz2 c2 d2
          have s2_0 : w.heap.size < w2.heap.size := by omega
          have o2_0 := fun j => c2 (w.heap.size) j (by omega)
          have f2_0 := fun j => d2 (w.heap.size) j (by omega)
          have s2_1 : gg1 < w2.heap.size := by omega
          have o2_1 := fun j => c2 (gg1) j (by omega)
          have f2_1 := fun j => d2 (gg1) j (by omega)
          clear c2 d2 hz2 hW2
          go_wp2_with fail
          refine call_bel (w := w) (by repeat' (first | (with_reducible first | exact bwR _ _ | assumption | refine bdn ?_ | refine bwA ?_ ?_ _ | refine bwD ?_ | refine bwS ?_ ?_ _) | omega | (simp <;> omega))) (fun HB => rnum_s _ d _ H_hd.out) ?_
          intro w3 hb3 hz3 c3 d3 hW3
          have t3 := hb3.size
          have e3_2 : Below w2.heap.size w2 w3 := below_via (by repeat' (first | (with_reducible first | exact bwR _ _ | assumption | refine bdn ?_ | refine bwA ?_ ?_ _ | refine bwD ?_ | refine bwS ?_ ?_ _) | omega | (simp <;> omega))) hW3
          have te3_2 := e3_2.size
          try simp only [szA] at hz3 c3 d3
          try simp only [szD] at hz3 c3 d3
          try simp only [szS] at hz3 c3 d3
          try simp only [World.heap_drewN] at hz3 c3 d3
          try simp only [szA] at hz3 c3 d3
          try simp only [szD] at hz3 c3 d3
          try simp only [szS] at hz3 c3 d3
          have s3_0 : w.heap.size < w3.heap.size := by omega
          have o3_0 := fun j => c3 (w.heap.size) j (by omega)
          have f3_0 := fun j => d3 (w.heap.size) j (by omega)
          have s3_1 : gg1 < w3.heap.size := by omega
          have o3_1 := fun j => c3 (gg1) j (by omega)
          have f3_1 := fun j => d3 (gg1) j (by omega)
          have s3_2 : w2.heap.size < w3.heap.size := by omega
          have o3_2 := fun j => c3 (w2.heap.size) j (by omega)
          have f3_2 := fun j => d3 (w2.heap.size) j (by omega)
          clear c3 d3 hz3 hW3
          go_wp2_with fail
          refine call_bel (w := w) (by repeat' (first | (with_reducible first | exact bwR _ _ | assumption | refine bdn ?_ | refine bwA ?_ ?_ _ | refine bwD ?_ | refine bwS ?_ ?_ _) | omega | (simp <;> omega))) (fun HB => rfracerror_0 n1 d _ H_hc.out (by unfold I64; omega) (by unfold I64; omega)) ?_
          intro w4 hb4 hz4 c4 d4 hW4
          have t4 := hb4.size
          have e4_2 : Below w2.heap.size w2 w4 := below_via (by repeat' (first | (with_reducible first | exact bwR _ _ | assumption | refine bdn ?_ | refine bwA ?_ ?_ _ | refine bwD ?_ | refine bwS ?_ ?_ _) | omega | (simp <;> omega))) hW4
          have te4_2 := e4_2.size
          try simp only [szA] at hz4 c4 d4
          try simp only [szD] at hz4 c4 d4
          try simp only [szS] at hz4 c4 d4
          try simp only [World.heap_drewN] at hz4 c4 d4
          try simp only [szA] at hz4 c4 d4
          try simp only [szD] at hz4 c4 d4
          try simp only [szS] at hz4 c4 d4
          have s4_0 : w.heap.size < w4.heap.size := by omega
          have o4_0 := fun j => c4 (w.heap.size) j (by omega)
          have f4_0 := fun j => d4 (w.heap.size) j (by omega)
          have s4_1 : w2.heap.size < w4.heap.size := by omega
          have o4_1 := fun j => c4 (w2.heap.size) j (by omega)
          have f4_1 := fun j => d4 (w2.heap.size) j (by omega)
          clear c4 d4 hz4 hW4
          go_wp2_with fail
          refine bodyPost_ret (by simp [results, Tryz.results53, go_sem, *]; try rfl) rfl ?_
          exact ⟨by rw [H_hR.out.1, H_hR.out.2.1, H_hR.out.2.2, frN_0 H_hc.out], by repeat' (first | (with_reducible first | exact bwR _ _ | assumption | refine bdn ?_ | refine bwA ?_ ?_ _ | refine bwD ?_ | refine bwS ?_ ?_ _) | omega | (simp <;> omega))⟩
        · have hR := (rd_some hP)
          obtain ⟨c, hcc⟩ : ∃ c, chk n1 d = c := ⟨_, rfl⟩
          rw [hcc] at hc
          have hc0 : (0 : Int) < (c : Int) := by omega
          have hcc' : (chk n1 d : Int) = (c : Int) := by rw [hcc]
          have H_hR := Lib.hid hR
          clear hR
          have H_hP := Lib.hid hP
          clear hP
          have H_hn := Lib.hid hn
          clear hn
          have H_hcc := Lib.hid hcc
          clear hcc
          have H_hcc' := Lib.hid hcc'
          clear hcc'
          go_enter Tryz.func53, Tryz.ntmps53
          go_wp2_with fail
          refine call_ss (w := w) (by repeat' (first | (with_reducible first | exact bwR _ _ | assumption | refine bdn ?_ | refine bwA ?_ ?_ _ | refine bwD ?_ | refine bwS ?_ ?_ _) | omega | (simp <;> omega))) (fun HB => rcut_47 s _ hs _ H_hss.out) (by simp) rfl ?_
          intro gg1 cap1 w1 hg1 hgl1 hcl1 hb1 hz1 c1 d1 hW1
          have t1 := hb1.size
          try simp only [szA] at hz1 c1 d1
          try simp only [szD] at hz1 c1 d1
          try simp only [szS] at hz1 c1 d1
          try simp only [World.heap_drewN] at hz1 c1 d1
          try simp only [szA] at hz1 c1 d1
          try simp only [szD] at hz1 c1 d1
          try simp only [szS] at hz1 c1 d1
          have s1_0 : w.heap.size < w1.heap.size := by omega
          have o1_0 := fun j => c1 (w.heap.size) j (by omega)
          have f1_0 := fun j => d1 (w.heap.size) j (by omega)
          clear c1 d1 hz1 hW1
          have q0 := hcl1 0 (by simp)
          have q1 := hcl1 1 (by simp)
          simp only [List.getElem_cons_zero] at q0
          rw [H_hx.out] at q0
          simp only [List.getElem_cons_succ, List.getElem_cons_zero] at q1
          rw [H_hy.out] at q1
          clear hcl1
          go_wp2_with fail
          refine call_bel (w := w) (by repeat' (first | (with_reducible first | exact bwR _ _ | assumption | refine bdn ?_ | refine bwA ?_ ?_ _ | refine bwD ?_ | refine bwS ?_ ?_ _) | omega | (simp <;> omega))) (fun HB => rnum_s _ n1 _ H_hn.out) ?_
          intro w2 hb2 hz2 c2 d2 hW2
          have t2 := hb2.size
          try simp only [szA] at hz2 c2 d2
          try simp only [szD] at hz2 c2 d2
          try simp only [szS] at hz2 c2 d2
          try simp only [World.heap_drewN] at hz2 c2 d2
          try simp only [szA] at hz2 c2 d2
          try simp only [szD] at hz2 c2 d2
          try simp only [szS] at hz2 c2 d2
          have s2_0 : w.heap.size < w2.heap.size := by omega
          have o2_0 := fun j => c2 (w.heap.size) j (by omega)
          have f2_0 := fun j => d2 (w.heap.size) j (by omega)
          have s2_1 : gg1 < w2.heap.size := by omega
          have o2_1 := fun j => c2 (gg1) j (by omega)
          have f2_1 := fun j => d2 (gg1) j (by omega)
          clear c2 d2 hz2 hW2
          go_wp2_with fail
          refine call_bel (w := w) (by repeat' (first | (with_reducible first | exact bwR _ _ | assumption | refine bdn ?_ | refine bwA ?_ ?_ _ | refine bwD ?_ | refine bwS ?_ ?_ _) | omega | (simp <;> omega))) (fun HB => rnum_s _ d _ H_hd.out) ?_
          intro w3 hb3 hz3 c3 d3 hW3
          have t3 := hb3.size
          have e3_2 : Below w2.heap.size w2 w3 := below_via (by repeat' (first | (with_reducible first | exact bwR _ _ | assumption | refine bdn ?_ | refine bwA ?_ ?_ _ | refine bwD ?_ | refine bwS ?_ ?_ _) | omega | (simp <;> omega))) hW3
          have te3_2 := e3_2.size
          try simp only [szA] at hz3 c3 d3
          try simp only [szD] at hz3 c3 d3
          try simp only [szS] at hz3 c3 d3
          try simp only [World.heap_drewN] at hz3 c3 d3
          try simp only [szA] at hz3 c3 d3
          try simp only [szD] at hz3 c3 d3
          try simp only [szS] at hz3 c3 d3
          have s3_0 : w.heap.size < w3.heap.size := by omega
          have o3_0 := fun j => c3 (w.heap.size) j (by omega)
          have f3_0 := fun j => d3 (w.heap.size) j (by omega)
          have s3_1 : gg1 < w3.heap.size := by omega
          have o3_1 := fun j => c3 (gg1) j (by omega)
          have f3_1 := fun j => d3 (gg1) j (by omega)
          have s3_2 : w2.heap.size < w3.heap.size := by omega
          have o3_2 := fun j => c3 (w2.heap.size) j (by omega)
          have f3_2 := fun j => d3 (w2.heap.size) j (by omega)
          clear c3 d3 hz3 hW3
          go_wp2_with fail
          refine call_bel (w := w) (by repeat' (first | (with_reducible first | exact bwR _ _ | assumption | refine bdn ?_ | refine bwA ?_ ?_ _ | refine bwD ?_ | refine bwS ?_ ?_ _) | omega | (simp <;> omega))) (fun HB => rfracerror_c n1 d c _ H_hcc'.out (by unfold I64; omega) (by unfold I64; omega)) ?_
          intro w4 hb4 hz4 c4 d4 hW4
          have t4 := hb4.size
          have e4_2 : Below w2.heap.size w2 w4 := below_via (by repeat' (first | (with_reducible first | exact bwR _ _ | assumption | refine bdn ?_ | refine bwA ?_ ?_ _ | refine bwD ?_ | refine bwS ?_ ?_ _) | omega | (simp <;> omega))) hW4
          have te4_2 := e4_2.size
          try simp only [szA] at hz4 c4 d4
          try simp only [szD] at hz4 c4 d4
          try simp only [szS] at hz4 c4 d4
          try simp only [World.heap_drewN] at hz4 c4 d4
          try simp only [szA] at hz4 c4 d4
          try simp only [szD] at hz4 c4 d4
          try simp only [szS] at hz4 c4 d4
          have s4_0 : w.heap.size < w4.heap.size := by omega
          have o4_0 := fun j => c4 (w.heap.size) j (by omega)
          have f4_0 := fun j => d4 (w.heap.size) j (by omega)
          have s4_1 : w2.heap.size < w4.heap.size := by omega
          have o4_1 := fun j => c4 (w2.heap.size) j (by omega)
          have f4_1 := fun j => d4 (w2.heap.size) j (by omega)
          clear c4 d4 hz4 hW4
          go_wp2_with fail
          refine bodyPost_ret (by simp [results, Tryz.results53, go_sem, *]; try rfl) rfl ?_
          exact ⟨by rw [H_hR.out.1, H_hR.out.2.1, H_hR.out.2.2, H_hcc.out, frN_n (by omega)], by repeat' (first | (with_reducible first | exact bwR _ _ | assumption | refine bdn ?_ | refine bwA ?_ ?_ _ | refine bwD ?_ | refine bwS ?_ ?_ _) | omega | (simp <;> omega))⟩
    · rw [if_neg hp] at hP
      replace hP : rdP s.data.toList = none := hP
      have gn1 : n1 < 0 := by omega
      have H_hy := Lib.hid hy
      clear hy
      have H_hdt := Lib.hid hdt
      clear hdt
      have H_hd := Lib.hid hd
      clear hd
      have H_hP := Lib.hid hP
      clear hP
      have H_hn := Lib.hid hn
      clear hn
      have H_hn1 := Lib.hid hn1
      clear hn1
      have H_hx := Lib.hid hx
      clear hx
      have H_hss := Lib.hid hss
      clear hss
      have H_hm := Lib.hid hm
      clear hm
      have H_hmi := Lib.hid hmi
      clear hmi
      have H_hh := Lib.hid hh
      clear hh
      have H_hxt := Lib.hid hxt
      clear hxt
      go_enter Tryz.func53, Tryz.ntmps53
      go_wp2_with fail
      refine call_ss (w := w) (by repeat' (first | (with_reducible first | exact bwR _ _ | assumption | refine bdn ?_ | refine bwA ?_ ?_ _ | refine bwD ?_ | refine bwS ?_ ?_ _) | omega | (simp <;> omega))) (fun HB => rcut_47 s _ hs _ H_hss.out) (by simp) rfl ?_
      intro gg1 cap1 w1 hg1 hgl1 hcl1 hb1 hz1 c1 d1 hW1
      have t1 := hb1.size
      try simp only [szA] at hz1 c1 d1
      try simp only [szD] at hz1 c1 d1
      try simp only [szS] at hz1 c1 d1
      try simp only [World.heap_drewN] at hz1 c1 d1
      try simp only [szA] at hz1 c1 d1
      try simp only [szD] at hz1 c1 d1
      try simp only [szS] at hz1 c1 d1
      have s1_0 : w.heap.size < w1.heap.size := by omega
      have o1_0 := fun j => c1 (w.heap.size) j (by omega)
      have f1_0 := fun j => d1 (w.heap.size) j (by omega)
      clear c1 d1 hz1 hW1
      have q0 := hcl1 0 (by simp)
      have q1 := hcl1 1 (by simp)
      simp only [List.getElem_cons_zero] at q0
      rw [H_hx.out] at q0
      simp only [List.getElem_cons_succ, List.getElem_cons_zero] at q1
      rw [H_hy.out] at q1
      clear hcl1
      go_wp2_with fail
      refine call_bel (w := w) (by repeat' (first | (with_reducible first | exact bwR _ _ | assumption | refine bdn ?_ | refine bwA ?_ ?_ _ | refine bwD ?_ | refine bwS ?_ ?_ _) | omega | (simp <;> omega))) (fun HB => rnum_s _ n1 _ H_hn.out) ?_
      intro w2 hb2 hz2 c2 d2 hW2
      have t2 := hb2.size
      try simp only [szA] at hz2 c2 d2
      try simp only [szD] at hz2 c2 d2
      try simp only [szS] at hz2 c2 d2
      try simp only [World.heap_drewN] at hz2 c2 d2
      try simp only [szA] at hz2 c2 d2
      try simp only [szD] at hz2 c2 d2
      try simp only [szS] at hz2 c2 d2
      have s2_0 : w.heap.size < w2.heap.size := by omega
      have o2_0 := fun j => c2 (w.heap.size) j (by omega)
      have f2_0 := fun j => d2 (w.heap.size) j (by omega)
      clear c2 d2 hz2 hW2
      go_wp2_with fail
      refine bodyPost_ret (by simp [results, Tryz.results53, go_sem, *]; try rfl) rfl ?_
      exact ⟨by rw [(rd_none H_hP.out), frN_n (by decide)]; rfl, by repeat' (first | (with_reducible first | exact bwR _ _ | assumption | refine bdn ?_ | refine bwA ?_ ?_ _ | refine bwD ?_ | refine bwS ?_ ?_ _) | omega | (simp <;> omega))⟩

set_option maxHeartbeats 2000000 in
theorem rfracof_0 (s : ByteArray) (w : World) (h0 : s.size = 0) :
    Calls Tryz.prog 53 #[.string s] w fun e w' => e = .returned (.tuple #[.agg #[.int .i64 0, .int .i64 0], .int .i64 1]) ∧ Below w.heap.size w w' := by
  have hl : s.data.toList = [] := List.length_eq_zero_iff.1 (by simpa using h0)
  have hss : cutL 47 s.data.toList = [[]] := by rw [hl]; rfl
  have hs : s.size ≤ 100000 := by omega
  have gz : ¬ (0 : Int) < (s.size : Int) := by omega
  obtain ⟨x, hx⟩ : ∃ x : ByteArray, (⟨([] : List UInt8).toArray⟩ : ByteArray) = x := ⟨_, rfl⟩
  have hn : numOf x.data.toList 10 = -1 := by rw [← hx]; rfl
  have hz2 : decide (0 < s.size) = false := decide_eq_false (by omega)
  have H_hl := Lib.hid hl
  clear hl
  have H_hss := Lib.hid hss
  clear hss
  have H_hx := Lib.hid hx
  clear hx
  have H_hn := Lib.hid hn
  clear hn
  have H_h0 := Lib.hid h0
  clear h0
  go_enter Tryz.func53, Tryz.ntmps53
  go_wp2_with fail
  refine call_ss (w := w) (by repeat' (first | (with_reducible first | exact bwR _ _ | assumption | refine bdn ?_ | refine bwA ?_ ?_ _ | refine bwD ?_ | refine bwS ?_ ?_ _) | omega | (simp <;> omega))) (fun HB => rcut_47 s _ hs _ H_hss.out) (by simp) rfl ?_
  intro gg1 cap1 w1 hg1 hgl1 hcl1 hb1 hz1 c1 d1 hW1
  have t1 := hb1.size
  try simp only [szA] at hz1 c1 d1
  try simp only [szD] at hz1 c1 d1
  try simp only [szS] at hz1 c1 d1
  try simp only [World.heap_drewN] at hz1 c1 d1
  try simp only [szA] at hz1 c1 d1
  try simp only [szD] at hz1 c1 d1
  try simp only [szS] at hz1 c1 d1
  have s1_0 : w.heap.size < w1.heap.size := by omega
  have o1_0 := fun j => c1 (w.heap.size) j (by omega)
  have f1_0 := fun j => d1 (w.heap.size) j (by omega)
  clear c1 d1 hz1 hW1
  have q0 := hcl1 0 (by simp)
  simp only [List.getElem_cons_zero] at q0
  rw [H_hx.out] at q0
  clear hcl1
  go_wp2_with fail
  refine call_bel (w := w) (by repeat' (first | (with_reducible first | exact bwR _ _ | assumption | refine bdn ?_ | refine bwA ?_ ?_ _ | refine bwD ?_ | refine bwS ?_ ?_ _) | omega | (simp <;> omega))) (fun HB => rnum_s _ (-1) _ H_hn.out) ?_
  intro w2 hb2 hz2 c2 d2 hW2
  have t2 := hb2.size
  try simp only [szA] at hz2 c2 d2
  try simp only [szD] at hz2 c2 d2
  try simp only [szS] at hz2 c2 d2
  try simp only [World.heap_drewN] at hz2 c2 d2
  try simp only [szA] at hz2 c2 d2
  try simp only [szD] at hz2 c2 d2
  try simp only [szS] at hz2 c2 d2
  have s2_0 : w.heap.size < w2.heap.size := by omega
  have o2_0 := fun j => c2 (w.heap.size) j (by omega)
  have f2_0 := fun j => d2 (w.heap.size) j (by omega)
  clear c2 d2 hz2 hW2
  go_wp2_with fail
  refine bodyPost_ret (by simp [results, Tryz.results53, go_sem, *]; try rfl) rfl ?_
  exact ⟨rfl, by repeat' (first | (with_reducible first | exact bwR _ _ | assumption | refine bdn ?_ | refine bwA ?_ ?_ _ | refine bwD ?_ | refine bwS ?_ ?_ _) | omega | (simp <;> omega))⟩

theorem rfracof_any (s : ByteArray) (w : World) (hs : s.size ≤ 100000) :
    Calls Tryz.prog 53 #[.string s] w fun e w' => e = .returned (frN (rdC s.data.toList) (rdN s.data.toList) (rdD s.data.toList)) ∧ Below w.heap.size w w' := by
  by_cases h0 : s.size = 0
  · have hl : s.data.toList = [] := List.length_eq_zero_iff.1 (by simpa using h0)
    have hP : rdP s.data.toList = none := by rw [hl]; rfl
    exact (rfracof_0 s w h0).mono fun e w' ⟨h1, h2⟩ => ⟨by rw [h1, rd_none hP, frN_n (by decide)]; rfl, h2⟩
  · rcases rd_cases s.data.toList with ⟨h1, hP⟩ | ⟨h, h1, h2, hP⟩ | ⟨h, t, h1, h2, hP⟩
    · exact (rfracof_3 s w hs h1).mono fun e w' ⟨h1, h2⟩ => ⟨by rw [h1, rd_none hP, frN_n (by decide)]; rfl, h2⟩
    · exact rfracof_1 s h w hs (by omega) h1 h2 hP
    · exact rfracof_2 s h t w hs (by omega) h1 h2 hP
end Go.Proofs.YtpdaenldmgpkjaaGreatDoor
