/-
  Walks over the document's answer: a fraction out of a text.
-/
import Derived.Test.YtpdaenldmgpkjaaGreatDoorDa
import Derived.Test.YtpdaenldmgpkjaaGreatDoorDec3
import Derived.Test.YtpdaenldmgpkjaaGreatDoorCut1
import Derived.Test.YtpdaenldmgpkjaaGreatDoorRef2
namespace Lead
open Go Go.RowKit
theorem OwnS.form {w : World} {base : Nat} {e : TypeId} {v : Value} {ss : List (List UInt8)} (h : OwnS w base e v ss) (hne : ss ≠ []) :
    ∃ g cap, v = .slice (some ⟨g, 0, none⟩) ss.length cap ∧ base ≤ g ∧ g < w.heap.size ∧ ∀ j (hj : j < ss.length), w.cell? ⟨g, j, none⟩ = some (.string ⟨ss[j].toArray⟩) := by
  obtain ⟨h1, h2⟩ := h
  rcases h2 with ⟨h2, h3⟩ | ⟨g, cap, cur, h3, h4, h5, h6, h7, h8, h9⟩
  · exact absurd (List.length_eq_zero_iff.1 h3) hne
  · have hown : w.ownsRow base e 1 (.slice (some ⟨g, 0, none⟩) ss.length cap) ss.length (ss.map fun l => .string ⟨l.toArray⟩) := ⟨h1, .inr ⟨g, cap, cur, rfl, h4, h5, h6, h7, h8, h9⟩⟩
    have hg : g < w.heap.size := by
      rcases Nat.lt_or_ge g w.heap.size with h | h
      · exact h
      · rw [Array.getElem?_eq_none h] at h5; exact absurd h5 (by simp)
    refine ⟨g, cap, h3, h4, hg, fun j hj => ?_⟩
    rw [hown.cellAt j (by omega), List.getElem?_map, List.getElem?_eq_getElem hj]
    rfl
theorem call_ss {P : Program} {f : FuncId} {args : Array Value} {w W : World} {R : Ending → World → Prop} {e : TypeId} {ss : List (List UInt8)} (hB : Below w.heap.size w W)
    (h : Below w.heap.size w W → Calls P f args W (RetSs e ss W)) (hne : ss ≠ []) {n : Nat} (hn : ss.length = n)
    (k : ∀ g cap w1, W.heap.size ≤ g → g < w1.heap.size → (∀ j (hj : j < ss.length), w1.cell? ⟨g, j, none⟩ = some (.string ⟨ss[j].toArray⟩)) → Below w.heap.size w w1 → W.heap.size ≤ w1.heap.size → (∀ b o, b < W.heap.size → w1.cell? ⟨b, o, none⟩ = W.cell? ⟨b, o, none⟩) →
      (∀ b o, b < W.heap.size → w1.frozen? ⟨b, o, none⟩ = W.frozen? ⟨b, o, none⟩) → Below W.heap.size W w1 → R (.returned (.slice (some ⟨g, 0, none⟩) n cap)) w1) : Calls P f args W R :=
  (h hB).mono fun en w1 ⟨v, he, hv, hb⟩ => by
    subst he
    obtain ⟨g, cap, rfl, h1, h2, h3⟩ := hv.form hne
    subst hn
    exact k g cap w1 h1 h2 h3 (hB.trans (hb.mono hB.size)) hb.size (bcell hb).1 (bcell hb).2 hb
theorem cutL_ne (y : UInt8) (l : List UInt8) : cutL y l ≠ [] := by rw [cutL_R]; exact cutR_ne y l
theorem minus_tail {h : List UInt8} (hm : h.head? = some 45) : (⟨h.toArray⟩ : ByteArray).extract 1 (⟨h.toArray⟩ : ByteArray).size = ⟨(h.drop 1).toArray⟩ := by
  rw [ext_list _ _ _ (by
    cases h with
    | nil => cases hm
    | cons a r => show 1 ≤ (a :: r).toArray.size; simp)]
  congr 2
  show List.drop 1 (List.take h.toArray.size h) = _
  rw [List.take_of_length_le (by simp)]
end Lead
namespace Go.Proofs.YtpdaenldmgpkjaaGreatDoor
open Go.RowKit Lead

theorem rcut_47 (s : ByteArray) (w : World) (hs : s.size ≤ 100000) (ss : List (List UInt8)) (hss : cutL 47 s.data.toList = ss) :
    Calls Tryz.prog 52 #[.string s, .int .u8 47] w (RetSs 9 ss w) := by
  rw [← hss]; exact rcut_any s 47 w hs
theorem rnum_s (s : ByteArray) (n : Int) (w : World) (hn : numOf s.data.toList 10 = n) :
    Calls Tryz.prog 79 #[.string s, .int .i64 10] w fun e w' => e = .returned (.int .i64 n) ∧ Below w.heap.size w w' := by
  rw [← hn]; exact rnumber_any s 10 w (by decide)
theorem rnum_10 (l : List UInt8) (n : Int) (w : World) (hn : numOf l 10 = n) :
    Calls Tryz.prog 79 #[.string ⟨l.toArray⟩, .int .i64 10] w fun e w' => e = .returned (.int .i64 n) ∧ Below w.heap.size w w' := by
  rw [← hn]
  have := rnumber_any ⟨l.toArray⟩ 10 w (by decide)
  exact this

set_option maxHeartbeats 2000000 in
theorem rfracof_3 (s : ByteArray) (w : World) (hs : s.size ≤ 100000) (h2 : 2 < (cutL 47 s.data.toList).length) :
    Calls Tryz.prog 53 #[.string s] w fun e w' => e = .returned (.tuple #[.agg #[.int .i64 0, .int .i64 0], .int .i64 1]) ∧ Below w.heap.size w w' := by
  obtain ⟨ss, hss⟩ : ∃ ss, cutL 47 s.data.toList = ss := ⟨_, rfl⟩
  have hne := cutL_ne 47 s.data.toList
  rw [hss] at h2 hne
  have g1 : (2 : Int) < (ss.length : Int) := by omega
  have H_hss := Lib.hid hss
  clear hss
  have H_hne := Lib.hid hne
  clear hne
  go_enter Tryz.func53, Tryz.ntmps53
  go_wp2_with fail
  refine call_ss (w := w) (by repeat' (first | (with_reducible first | exact bwR _ _ | assumption | refine bdn ?_ | refine bwA ?_ ?_ _ | refine bwD ?_ | refine bwS ?_ ?_ _) | omega | (simp <;> omega))) (fun HB => rcut_47 s _ hs ss H_hss.out) H_hne.out rfl ?_
  intro g1' cap1 w1 hg1 hg1l hcl hb1 hz1 c1 d1 hW1
  have H_hcl := Lib.hid hcl
  simp only [World.size_alloc] at hz1 c1 d1
  have s1_0 : w.heap.size < w1.heap.size := by omega
  have o1_0 := fun j => c1 (w.heap.size) j (by omega)
  have f1_0 := fun j => d1 (w.heap.size) j (by omega)
  clear hcl c1 d1 hW1
  go_wp2_with fail
  refine bodyPost_ret (by simp [results, Tryz.results53, go_sem, *]; try rfl) rfl ?_
  exact ⟨rfl, by repeat' (first | (with_reducible first | exact bwR _ _ | assumption | refine bdn ?_ | refine bwA ?_ ?_ _ | refine bwD ?_ | refine bwS ?_ ?_ _) | omega | (simp <;> omega))⟩

set_option maxHeartbeats 4000000 in
theorem rfracof_1 (s : ByteArray) (h : List UInt8) (w : World) (hs : s.size ≤ 100000) (h0 : 0 < s.size) (hss : cutL 47 s.data.toList = [h]) (hm : h.head? = some 45 ↔ s.data.toList.head? = some 45) (hP : rdP s.data.toList = (numS h).map fun n => (n, 1)) :
    Calls Tryz.prog 53 #[.string s] w fun e w' => e = .returned (frN (rdC s.data.toList) (rdN s.data.toList) (rdD s.data.toList)) ∧ Below w.heap.size w w' := by
  have gz : (0 : Int) < (s.size : Int) := by omega
  rw [head_at h0] at hm
  obtain ⟨x, hx⟩ : ∃ x : ByteArray, (⟨h.toArray⟩ : ByteArray) = x := ⟨_, rfl⟩
  by_cases hmi : s[0] = 45
  · have gm : (((s[0]).toNat : Int) == 45) = true := by rw [hmi]; rfl
    have hh : h.head? = some 45 := hm.2 (by rw [hmi])
    have hxs : 1 ≤ x.size := by
      rw [← hx]
      cases h with
      | nil => cases hh
      | cons a r => show 1 ≤ (a :: r).toArray.size; simp
    have hxt : (x.extract 1 x.size).data.toList = h.drop 1 := by rw [← hx, minus_tail hh]
    have gx : (1 : Int) ≤ (x.size : Int) := by omega
    obtain ⟨n1, hn1⟩ : ∃ n, numOf (h.drop 1) 10 = n := ⟨_, rfl⟩
    have hn : numOf (x.extract 1 x.size).data.toList 10 = n1 := by rw [hxt]; exact hn1
    have hb := numOf_lt (l := h.drop 1) (most := 10) (by decide)
    rw [hn1] at hb
    unfold numS at hP
    rw [if_pos hh, hn1] at hP
    by_cases hp : 1 ≤ n1
    · rw [if_pos hp] at hP
      replace hP : rdP s.data.toList = some (-n1, 1) := hP
      have gn1 : ¬ n1 < 0 := by omega
      have gn : (n1 == 0) = false := by rw [beq_eq_false_iff_ne]; omega
      have e1 : wrap64 (-n1) = -n1 := by apply IntWalk.wrap64_in; omega
      have H_hn1 := Lib.hid hn1
      clear hn1
      have H_hx := Lib.hid hx
      clear hx
      have H_hss := Lib.hid hss
      clear hss
      have H_hm := Lib.hid hm
      clear hm
      have H_hmi := Lib.hid hmi
      clear hmi
      have H_hh := Lib.hid hh
      clear hh
      have H_hxt := Lib.hid hxt
      clear hxt
      rcases Nat.eq_zero_or_pos (chk (-n1) 1) with hc | hc
      · have hR := (rd_some hP)
        have H_hc := Lib.hid hc
        clear hc
        have H_hR := Lib.hid hR
        clear hR
        have H_hP := Lib.hid hP
        clear hP
        have H_hn := Lib.hid hn
        clear hn
        go_enter Tryz.func53, Tryz.ntmps53
        go_wp2_with fail
        refine call_ss (w := w) (by repeat' (first | (with_reducible first | exact bwR _ _ | assumption | refine bdn ?_ | refine bwA ?_ ?_ _ | refine bwD ?_ | refine bwS ?_ ?_ _) | omega | (simp <;> omega))) (fun HB => rcut_47 s _ hs _ H_hss.out) (by simp) rfl ?_
        intro gg1 cap1 w1 hg1 hgl1 hcl1 hb1 hz1 c1 d1 hW1
        have t1 := hb1.size
        try simp only [szA] at hz1 c1 d1
        try simp only [szD] at hz1 c1 d1
        try simp only [szS] at hz1 c1 d1
        try simp only [World.heap_drewN] at hz1 c1 d1
        try simp only [szA] at hz1 c1 d1
        try simp only [szD] at hz1 c1 d1
        try simp only [szS] at hz1 c1 d1
        have s1_0 : w.heap.size < w1.heap.size := by omega
        have o1_0 := fun j => c1 (w.heap.size) j (by omega)
        have f1_0 := fun j => d1 (w.heap.size) j (by omega)
        clear c1 d1 hz1 hW1
        have q0 := hcl1 0 (by simp)
        have q1 := trivial
        simp only [List.getElem_cons_zero] at q0
        rw [H_hx.out] at q0
        clear hcl1
        go_wp2_with fail
        refine call_bel (w := w) (by repeat' (first | (with_reducible first | exact bwR _ _ | assumption | refine bdn ?_ | refine bwA ?_ ?_ _ | refine bwD ?_ | refine bwS ?_ ?_ _) | omega | (simp <;> omega))) (fun HB => rnum_s _ n1 _ H_hn.out) ?_
        intro w2 hb2 hz2 c2 d2 hW2
        have t2 := hb2.size
        try simp only [szA] at hz2 c2 d2
        try simp only [szD] at hz2 c2 d2
        try simp only [szS] at hz2 c2 d2
        try simp only [World.heap_drewN] at hz2 c2 d2
        try simp only [szA] at hz2 c2 d2
        try simp only [szD] at hz2 c2 d2
        try simp only [szS] at hz2 c2 d2
        have s2_0 : w.heap.size < w2.heap.size := by omega
        have o2_0 := fun j => c2 (w.heap.size) j (by omega)
        have f2_0 := fun j => d2 (w.heap.size) j (by omega)
        have s2_1 : gg1 < w2.heap.size := by omega
        have o2_1 := fun j => c2 (gg1) j (by omega)
        have f2_1 := fun j => d2 (gg1) j (by omega)
        clear c2 d2 hz2 hW2
        skip
        go_wp2_with fail
        refine call_bel (w := w) (by repeat' (first | (with_reducible first | exact bwR _ _ | assumption | refine bdn ?_ | refine bwA ?_ ?_ _ | refine bwD ?_ | refine bwS ?_ ?_ _) | omega | (simp <;> omega))) (fun HB => rfracerror_0 (-n1) 1 _ H_hc.out (by unfold I64; omega) (by unfold I64; decide)) ?_
        intro w4 hb4 hz4 c4 d4 hW4
        have t4 := hb4.size
        have e4_2 : Below w2.heap.size w2 w4 := below_via (by repeat' (first | (with_reducible first | exact bwR _ _ | assumption | refine bdn ?_ | refine bwA ?_ ?_ _ | refine bwD ?_ | refine bwS ?_ ?_ _) | omega | (simp <;> omega))) hW4
        have te4_2 := e4_2.size
        try simp only [szA] at hz4 c4 d4
        try simp only [szD] at hz4 c4 d4
        try simp only [szS] at hz4 c4 d4
        try simp only [World.heap_drewN] at hz4 c4 d4
        try simp only [szA] at hz4 c4 d4
        try simp only [szD] at hz4 c4 d4
        try simp only [szS] at hz4 c4 d4
        have s4_0 : w.heap.size < w4.heap.size := by omega
        have o4_0 := fun j => c4 (w.heap.size) j (by omega)
        have f4_0 := fun j => d4 (w.heap.size) j (by omega)
        have s4_1 : w2.heap.size < w4.heap.size := by omega
        have o4_1 := fun j => c4 (w2.heap.size) j (by omega)
        have f4_1 := fun j => d4 (w2.heap.size) j (by omega)
        clear c4 d4 hz4 hW4
        go_wp2_with fail
        refine bodyPost_ret (by simp [results, Tryz.results53, go_sem, *]; try rfl) rfl ?_
        exact ⟨by rw [H_hR.out.1, H_hR.out.2.1, H_hR.out.2.2, frN_0 H_hc.out], by repeat' (first | (with_reducible first | exact bwR _ _ | assumption | refine bdn ?_ | refine bwA ?_ ?_ _ | refine bwD ?_ | refine bwS ?_ ?_ _) | omega | (simp <;> omega))⟩
      · have hR := (rd_some hP)
        obtain ⟨c, hcc⟩ : ∃ c, chk (-n1) 1 = c := ⟨_, rfl⟩
        rw [hcc] at hc
        have hc0 : (0 : Int) < (c : Int) := by omega
        have hcc' : (chk (-n1) 1 : Int) = (c : Int) := by rw [hcc]
        have H_hR := Lib.hid hR
        clear hR
        have H_hP := Lib.hid hP
        clear hP
        have H_hn := Lib.hid hn
        clear hn
        have H_hcc := Lib.hid hcc
        clear hcc
        have H_hcc' := Lib.hid hcc'
        clear hcc'
        go_enter Tryz.func53, Tryz.ntmps53
        go_wp2_with fail
        refine call_ss (w := w) (by repeat' (first | (with_reducible first | exact bwR _ _ | assumption | refine bdn ?_ | refine bwA ?_ ?_ _ | refine bwD ?_ | refine bwS ?_ ?_ _) | omega | (simp <;> omega))) (fun HB => rcut_47 s _ hs _ H_hss.out) (by simp) rfl ?_
        intro gg1 cap1 w1 hg1 hgl1 hcl1 hb1 hz1 c1 d1 hW1
        have t1 := hb1.size
        try simp only [szA] at hz1 c1 d1
        try simp only [szD] at hz1 c1 d1
        try simp only [szS] at hz1 c1 d1
        try simp only [World.heap_drewN] at hz1 c1 d1
        try simp only [szA] at hz1 c1 d1
        try simp only [szD] at hz1 c1 d1
        try simp only [szS] at hz1 c1 d1
        have s1_0 : w.heap.size < w1.heap.size := by omega
        have o1_0 := fun j => c1 (w.heap.size) j (by omega)
        have f1_0 := fun j => d1 (w.heap.size) j (by omega)
        clear c1 d1 hz1 hW1
        have q0 := hcl1 0 (by simp)
        have q1 := trivial
        simp only [List.getElem_cons_zero] at q0
        rw [H_hx.out] at q0
        clear hcl1
        go_wp2_with fail
        refine call_bel (w := w) (by repeat' (first | (with_reducible first | exact bwR _ _ | assumption | refine bdn ?_ | refine bwA ?_ ?_ _ | refine bwD ?_ | refine bwS ?_ ?_ _) | omega | (simp <;> omega))) (fun HB => rnum_s _ n1 _ H_hn.out) ?_
        intro w2 hb2 hz2 c2 d2 hW2
        have t2 := hb2.size
        try simp only [szA] at hz2 c2 d2
        try simp only [szD] at hz2 c2 d2
        try simp only [szS] at hz2 c2 d2
        try simp only [World.heap_drewN] at hz2 c2 d2
        try simp only [szA] at hz2 c2 d2
        try simp only [szD] at hz2 c2 d2
        try simp only [szS] at hz2 c2 d2
        have s2_0 : w.heap.size < w2.heap.size := by omega
        have o2_0 := fun j => c2 (w.heap.size) j (by omega)
        have f2_0 := fun j => d2 (w.heap.size) j (by omega)
        have s2_1 : gg1 < w2.heap.size := by omega
        have o2_1 := fun j => c2 (gg1) j (by omega)
        have f2_1 := fun j => d2 (gg1) j (by omega)
        clear c2 d2 hz2 hW2
        skip
        go_wp2_with fail
        refine call_bel (w := w) (by repeat' (first | (with_reducible first | exact bwR _ _ | assumption | refine bdn ?_ | refine bwA ?_ ?_ _ | refine bwD ?_ | refine bwS ?_ ?_ _) | omega | (simp <;> omega))) (fun HB => rfracerror_c (-n1) 1 c _ H_hcc'.out (by unfold I64; omega) (by unfold I64; decide)) ?_
        intro w4 hb4 hz4 c4 d4 hW4
        have t4 := hb4.size
        have e4_2 : Below w2.heap.size w2 w4 := below_via (by repeat' (first | (with_reducible first | exact bwR _ _ | assumption | refine bdn ?_ | refine bwA ?_ ?_ _ | refine bwD ?_ | refine bwS ?_ ?_ _) | omega | (simp <;> omega))) hW4
        have te4_2 := e4_2.size
        try simp only [szA] at hz4 c4 d4
        try simp only [szD] at hz4 c4 d4
        try simp only [szS] at hz4 c4 d4
        try simp only [World.heap_drewN] at hz4 c4 d4
        try simp only [szA] at hz4 c4 d4
        try simp only [szD] at hz4 c4 d4
        try simp only [szS] at hz4 c4 d4
        have s4_0 : w.heap.size < w4.heap.size := by omega
        have o4_0 := fun j => c4 (w.heap.size) j (by omega)
        have f4_0 := fun j => d4 (w.heap.size) j (by omega)
        have s4_1 : w2.heap.size < w4.heap.size := by omega
        have o4_1 := fun j => c4 (w2.heap.size) j (by omega)
        have f4_1 := fun j => d4 (w2.heap.size) j (by omega)
        clear c4 d4 hz4 hW4
        go_wp2_with fail
        refine bodyPost_ret (by simp [results, Tryz.results53, go_sem, *]; try rfl) rfl ?_
        exact ⟨by rw [H_hR.out.1, H_hR.out.2.1, H_hR.out.2.2, H_hcc.out, frN_n (by omega)], by repeat' (first | (with_reducible first | exact bwR _ _ | assumption | refine bdn ?_ | refine bwA ?_ ?_ _ | refine bwD ?_ | refine bwS ?_ ?_ _) | omega | (simp <;> omega))⟩
    · rw [if_neg hp] at hP
      replace hP : rdP s.data.toList = none := hP
      by_cases hneg : n1 < 0
      · have H_hP := Lib.hid hP
        clear hP
        have H_hn := Lib.hid hn
        clear hn
        have H_hn1 := Lib.hid hn1
        clear hn1
        have H_hx := Lib.hid hx
        clear hx
        have H_hss := Lib.hid hss
        clear hss
        have H_hm := Lib.hid hm
        clear hm
        have H_hmi := Lib.hid hmi
        clear hmi
        have H_hh := Lib.hid hh
        clear hh
        have H_hxt := Lib.hid hxt
        clear hxt
        go_enter Tryz.func53, Tryz.ntmps53
        go_wp2_with fail
        refine call_ss (w := w) (by repeat' (first | (with_reducible first | exact bwR _ _ | assumption | refine bdn ?_ | refine bwA ?_ ?_ _ | refine bwD ?_ | refine bwS ?_ ?_ _) | omega | (simp <;> omega))) (fun HB => rcut_47 s _ hs _ H_hss.out) (by simp) rfl ?_
        intro gg1 cap1 w1 hg1 hgl1 hcl1 hb1 hz1 c1 d1 hW1
        have t1 := hb1.size
        try simp only [szA] at hz1 c1 d1
        try simp only [szD] at hz1 c1 d1
        try simp only [szS] at hz1 c1 d1
        try simp only [World.heap_drewN] at hz1 c1 d1
        try simp only [szA] at hz1 c1 d1
        try simp only [szD] at hz1 c1 d1
        try simp only [szS] at hz1 c1 d1
        have s1_0 : w.heap.size < w1.heap.size := by omega
        have o1_0 := fun j => c1 (w.heap.size) j (by omega)
        have f1_0 := fun j => d1 (w.heap.size) j (by omega)
        clear c1 d1 hz1 hW1
        have q0 := hcl1 0 (by simp)
        have q1 := trivial
        simp only [List.getElem_cons_zero] at q0
        rw [H_hx.out] at q0
        clear hcl1
        go_wp2_with fail
        refine call_bel (w := w) (by repeat' (first | (with_reducible first | exact bwR _ _ | assumption | refine bdn ?_ | refine bwA ?_ ?_ _ | refine bwD ?_ | refine bwS ?_ ?_ _) | omega | (simp <;> omega))) (fun HB => rnum_s _ n1 _ H_hn.out) ?_
        intro w2 hb2 hz2 c2 d2 hW2
        have t2 := hb2.size
        try simp only [szA] at hz2 c2 d2
        try simp only [szD] at hz2 c2 d2
        try simp only [szS] at hz2 c2 d2
        try simp only [World.heap_drewN] at hz2 c2 d2
        try simp only [szA] at hz2 c2 d2
        try simp only [szD] at hz2 c2 d2
        try simp only [szS] at hz2 c2 d2
        have s2_0 : w.heap.size < w2.heap.size := by omega
        have o2_0 := fun j => c2 (w.heap.size) j (by omega)
        have f2_0 := fun j => d2 (w.heap.size) j (by omega)
        clear c2 d2 hz2 hW2
        go_wp2_with fail
        refine bodyPost_ret (by simp [results, Tryz.results53, go_sem, *]; try rfl) rfl ?_
        exact ⟨by rw [(rd_none H_hP.out), frN_n (by decide)]; rfl, by repeat' (first | (with_reducible first | exact bwR _ _ | assumption | refine bdn ?_ | refine bwA ?_ ?_ _ | refine bwD ?_ | refine bwS ?_ ?_ _) | omega | (simp <;> omega))⟩
      · have gn : (n1 == 0) = true := by rw [beq_iff_eq]; omega
        have H_hP := Lib.hid hP
        clear hP
        have H_hn := Lib.hid hn
        clear hn
        have H_hn1 := Lib.hid hn1
        clear hn1
        have H_hx := Lib.hid hx
        clear hx
        have H_hss := Lib.hid hss
        clear hss
        have H_hm := Lib.hid hm
        clear hm
        have H_hmi := Lib.hid hmi
        clear hmi
        have H_hh := Lib.hid hh
        clear hh
        have H_hxt := Lib.hid hxt
        clear hxt
        go_enter Tryz.func53, Tryz.ntmps53
        go_wp2_with fail
        refine call_ss (w := w) (by repeat' (first | (with_reducible first | exact bwR _ _ | assumption | refine bdn ?_ | refine bwA ?_ ?_ _ | refine bwD ?_ | refine bwS ?_ ?_ _) | omega | (simp <;> omega))) (fun HB => rcut_47 s _ hs _ H_hss.out) (by simp) rfl ?_
        intro gg1 cap1 w1 hg1 hgl1 hcl1 hb1 hz1 c1 d1 hW1
        have t1 := hb1.size
        try simp only [szA] at hz1 c1 d1
        try simp only [szD] at hz1 c1 d1
        try simp only [szS] at hz1 c1 d1
        try simp only [World.heap_drewN] at hz1 c1 d1
        try simp only [szA] at hz1 c1 d1
        try simp only [szD] at hz1 c1 d1
        try simp only [szS] at hz1 c1 d1
        have s1_0 : w.heap.size < w1.heap.size := by omega
        have o1_0 := fun j => c1 (w.heap.size) j (by omega)
        have f1_0 := fun j => d1 (w.heap.size) j (by omega)
        clear c1 d1 hz1 hW1
        have q0 := hcl1 0 (by simp)
        have q1 := trivial
        simp only [List.getElem_cons_zero] at q0
        rw [H_hx.out] at q0
        clear hcl1
        go_wp2_with fail
        refine call_bel (w := w) (by repeat' (first | (with_reducible first | exact bwR _ _ | assumption | refine bdn ?_ | refine bwA ?_ ?_ _ | refine bwD ?_ | refine bwS ?_ ?_ _) | omega | (simp <;> omega))) (fun HB => rnum_s _ n1 _ H_hn.out) ?_
        intro w2 hb2 hz2 c2 d2 hW2
        have t2 := hb2.size
        try simp only [szA] at hz2 c2 d2
        try simp only [szD] at hz2 c2 d2
        try simp only [szS] at hz2 c2 d2
        try simp only [World.heap_drewN] at hz2 c2 d2
        try simp only [szA] at hz2 c2 d2
        try simp only [szD] at hz2 c2 d2
        try simp only [szS] at hz2 c2 d2
        have s2_0 : w.heap.size < w2.heap.size := by omega
        have o2_0 := fun j => c2 (w.heap.size) j (by omega)
        have f2_0 := fun j => d2 (w.heap.size) j (by omega)
        clear c2 d2 hz2 hW2
        go_wp2_with fail
        refine bodyPost_ret (by simp [results, Tryz.results53, go_sem, *]; try rfl) rfl ?_
        exact ⟨by rw [(rd_none H_hP.out), frN_n (by decide)]; rfl, by repeat' (first | (with_reducible first | exact bwR _ _ | assumption | refine bdn ?_ | refine bwA ?_ ?_ _ | refine bwD ?_ | refine bwS ?_ ?_ _) | omega | (simp <;> omega))⟩
  · have gm : (((s[0]).toNat : Int) == 45) = false := by
      rw [beq_eq_false_iff_ne]; intro e; exact hmi (UInt8.toNat_inj.1 (by show _ = 45; omega))
    have hh : ¬ h.head? = some 45 := fun e => hmi (Option.some.inj (hm.1 e))
    have hxt : x.data.toList = h := by rw [← hx]
    obtain ⟨n1, hn1⟩ : ∃ n, numOf h 10 = n := ⟨_, rfl⟩
    have hn : numOf x.data.toList 10 = n1 := by rw [hxt]; exact hn1
    have hb := numOf_lt (l := h) (most := 10) (by decide)
    rw [hn1] at hb
    unfold numS at hP
    rw [if_neg hh, hn1] at hP
    by_cases hp : 0 ≤ n1
    · rw [if_pos hp] at hP
      replace hP : rdP s.data.toList = some (n1, 1) := hP
      have gn1 : ¬ n1 < 0 := by omega
      have H_hn1 := Lib.hid hn1
      clear hn1
      have H_hx := Lib.hid hx
      clear hx
      have H_hss := Lib.hid hss
      clear hss
      have H_hm := Lib.hid hm
      clear hm
      have H_hmi := Lib.hid hmi
      clear hmi
      have H_hh := Lib.hid hh
      clear hh
      have H_hxt := Lib.hid hxt
      clear hxt
      rcases Nat.eq_zero_or_pos (chk n1 1) with hc | hc
      · have hR := (rd_some hP)
        have H_hc := Lib.hid hc
        clear hc
        have H_hR := Lib.hid hR
        clear hR
        have H_hP := Lib.hid hP
        clear hP
        have H_hn := Lib.hid hn
        clear hn
        go_enter Tryz.func53, Tryz.ntmps53
        go_wp2_with fail
        refine call_ss (w := w) (by repeat' (first | (with_reducible first | exact bwR _ _ | assumption | refine bdn ?_ | refine bwA ?_ ?_ _ | refine bwD ?_ | refine bwS ?_ ?_ _) | omega | (simp <;> omega))) (fun HB => rcut_47 s _ hs _ H_hss.out) (by simp) rfl ?_
        intro gg1 cap1 w1 hg1 hgl1 hcl1 hb1 hz1 c1 d1 hW1
        have t1 := hb1.size
        try simp only [szA] at hz1 c1 d1
        try simp only [szD] at hz1 c1 d1
        try simp only [szS] at hz1 c1 d1
        try simp only [World.heap_drewN] at hz1 c1 d1
        try simp only [szA] at hz1 c1 d1
        try simp only [szD] at hz1 c1 d1
        try simp only [szS] at hz1 c1 d1
        have s1_0 : w.heap.size < w1.heap.size := by omega
        have o1_0 := fun j => c1 (w.heap.size) j (by omega)
        have f1_0 := fun j => d1 (w.heap.size) j (by omega)
        clear c1 d1 hz1 hW1
        have q0 := hcl1 0 (by simp)
        have q1 := trivial
        simp only [List.getElem_cons_zero] at q0
        rw [H_hx.out] at q0
        clear hcl1
        go_wp2_with fail
        refine call_bel (w := w) (by repeat' (first | (with_reducible first | exact bwR _ _ | assumption | refine bdn ?_ | refine bwA ?_ ?_ _ | refine bwD ?_ | refine bwS ?_ ?_ _) | omega | (simp <;> omega))) (fun HB => rnum_s _ n1 _ H_hn.out) ?_
        intro w2 hb2 hz2 c2 d2 hW2
        have t2 := hb2.size
        try simp only [szA] at hz2 c2 d2
        try simp only [szD] at hz2 c2 d2
        try simp only [szS] at hz2 c2 d2
        try simp only [World.heap_drewN] at hz2 c2 d2
        try simp only [szA] at hz2 c2 d2
        try simp only [szD] at hz2 c2 d2
        try simp only [szS] at hz2 c2 d2
        have s2_0 : w.heap.size < w2.heap.size := by omega
        have o2_0 := fun j => c2 (w.heap.size) j (by omega)
        have f2_0 := fun j => d2 (w.heap.size) j (by omega)
        have s2_1 : gg1 < w2.heap.size := by omega
        have o2_1 := fun j => c2 (gg1) j (by omega)
        have f2_1 := fun j => d2 (gg1) j (by omega)
        clear c2 d2 hz2 hW2
        skip
        go_wp2_with fail
        refine call_bel (w := w) (by repeat' (first | (with_reducible first | exact bwR _ _ | assumption | refine bdn ?_ | refine bwA ?_ ?_ _ | refine bwD ?_ | refine bwS ?_ ?_ _) | omega | (simp <;> omega))) (fun HB => rfracerror_0 n1 1 _ H_hc.out (by unfold I64; omega) (by unfold I64; decide)) ?_
        intro w4 hb4 hz4 c4 d4 hW4
        have t4 := hb4.size
        have e4_2 : Below w2.heap.size w2 w4 := below_via (by repeat' (first | (with_reducible first | exact bwR _ _ | assumption | refine bdn ?_ | refine bwA ?_ ?_ _ | refine bwD ?_ | refine bwS ?_ ?_ _) | omega | (simp <;> omega))) hW4
        have te4_2 := e4_2.size
        try simp only [szA] at hz4 c4 d4
        try simp only [szD] at hz4 c4 d4
        try simp only [szS] at hz4 c4 d4
        try simp only [World.heap_drewN] at hz4 c4 d4
        try simp only [szA] at hz4 c4 d4
        try simp only [szD] at hz4 c4 d4
        try simp only [szS] at hz4 c4 d4
        have s4_0 : w.heap.size < w4.heap.size := by omega
        have o4_0 := fun j => c4 (w.heap.size) j (by omega)
        have f4_0 := fun j => d4 (w.heap.size) j (by omega)
        have s4_1 : w2.heap.size < w4.heap.size := by omega
        have o4_1 := fun j => c4 (w2.heap.size) j (by omega)
        have f4_1 := fun j => d4 (w2.heap.size) j (by omega)
        clear c4 d4 hz4 hW4
        go_wp2_with fail
        refine bodyPost_ret (by simp [results, Tryz.results53, go_sem, *]; try rfl) rfl ?_
        exact ⟨by rw [H_hR.out.1, H_hR.out.2.1, H_hR.out.2.2, frN_0 H_hc.out], by repeat' (first | (with_reducible first | exact bwR _ _ | assumption | refine bdn ?_ | refine bwA ?_ ?_ _ | refine bwD ?_ | refine bwS ?_ ?_ _) | omega | (simp <;> omega))⟩
      · have hR := (rd_some hP)
        obtain ⟨c, hcc⟩ : ∃ c, chk n1 1 = c := ⟨_, rfl⟩
        rw [hcc] at hc
        have hc0 : (0 : Int) < (c : Int) := by omega
        have hcc' : (chk n1 1 : Int) = (c : Int) := by rw [hcc]
        have H_hR := Lib.hid hR
        clear hR
        have H_hP := Lib.hid hP
        clear hP
        have H_hn := Lib.hid hn
        clear hn
        have H_hcc := Lib.hid hcc
        clear hcc
        have H_hcc' := Lib.hid hcc'
        clear hcc'
        go_enter Tryz.func53, Tryz.ntmps53
        go_wp2_with fail
        refine call_ss (w := w) (by repeat' (first | (with_reducible first | exact bwR _ _ | assumption | refine bdn ?_ | refine bwA ?_ ?_ _ | refine bwD ?_ | refine bwS ?_ ?_ _) | omega | (simp <;> omega))) (fun HB => rcut_47 s _ hs _ H_hss.out) (by simp) rfl ?_
        intro gg1 cap1 w1 hg1 hgl1 hcl1 hb1 hz1 c1 d1 hW1
        have t1 := hb1.size
        try simp only [szA] at hz1 c1 d1
        try simp only [szD] at hz1 c1 d1
        try simp only [szS] at hz1 c1 d1
        try simp only [World.heap_drewN] at hz1 c1 d1
        try simp only [szA] at hz1 c1 d1
        try simp only [szD] at hz1 c1 d1
        try simp only [szS] at hz1 c1 d1
        have s1_0 : w.heap.size < w1.heap.size := by omega
        have o1_0 := fun j => c1 (w.heap.size) j (by omega)
        have f1_0 := fun j => d1 (w.heap.size) j (by omega)
        clear c1 d1 hz1 hW1
        have q0 := hcl1 0 (by simp)
        have q1 := trivial
        simp only [List.getElem_cons_zero] at q0
        rw [H_hx.out] at q0
        clear hcl1
        go_wp2_with fail
        refine call_bel (w := w) (by repeat' (first | (with_reducible first | exact bwR _ _ | assumption | refine bdn ?_ | refine bwA ?_ ?_ _ | refine bwD ?_ | refine bwS ?_ ?_ _) | omega | (simp <;> omega))) (fun HB => rnum_s _ n1 _ H_hn.out) ?_
        intro w2 hb2 hz2 c2 d2 hW2
        have t2 := hb2.size
        try simp only [szA] at hz2 c2 d2
        try simp only [szD] at hz2 c2 d2
        try simp only [szS] at hz2 c2 d2
        try simp only [World.heap_drewN] at hz2 c2 d2
        try simp only [szA] at hz2 c2 d2
        try simp only [szD] at hz2 c2 d2
        try simp only [szS] at hz2 c2 d2
        have s2_0 : w.heap.size < w2.heap.size := by omega
        have o2_0 := fun j => c2 (w.heap.size) j (by omega)
        have f2_0 := fun j => d2 (w.heap.size) j (by omega)
        have s2_1 : gg1 < w2.heap.size := by omega
        have o2_1 := fun j => c2 (gg1) j (by omega)
        have f2_1 := fun j => d2 (gg1) j (by omega)
        clear c2 d2 hz2 hW2
        skip
        go_wp2_with fail
        refine call_bel (w := w) (by repeat' (first | (with_reducible first | exact bwR _ _ | assumption | refine bdn ?_ | refine bwA ?_ ?_ _ | refine bwD ?_ | refine bwS ?_ ?_ _) | omega | (simp <;> omega))) (fun HB => rfracerror_c n1 1 c _ H_hcc'.out (by unfold I64; omega) (by unfold I64; decide)) ?_
        intro w4 hb4 hz4 c4 d4 hW4
        have t4 := hb4.size
        have e4_2 : Below w2.heap.size w2 w4 := below_via (by repeat' (first | (with_reducible first | exact bwR _ _ | assumption | refine bdn ?_ | refine bwA ?_ ?_ _ | refine bwD ?_ | refine bwS ?_ ?_ _) | omega | (simp <;> omega))) hW4
        have te4_2 := e4_2.size
        try simp only [szA] at hz4 c4 d4
        try simp only [szD] at hz4 c4 d4
        try simp only [szS] at hz4 c4 d4
        try simp only [World.heap_drewN] at hz4 c4 d4
        try simp only [szA] at hz4 c4 d4
        try simp only [szD] at hz4 c4 d4
        try simp only [szS] at hz4 c4 d4
        have s4_0 : w.heap.size < w4.heap.size := by omega
        have o4_0 := fun j => c4 (w.heap.size) j (by omega)
        have f4_0 := fun j => d4 (w.heap.size) j (by omega)
        have s4_1 : w2.heap.size < w4.heap.size := by omega
        have o4_1 := fun j => c4 (w2.heap.size) j (by omega)
        have f4_1 := fun j => d4 (w2.heap.size) j (by omega)
        clear c4 d4 hz4 hW4
        go_wp2_with fail
        refine bodyPost_ret (by simp [results, Tryz.results53, go_sem, *]; try rfl) rfl ?_
        exact ⟨by rw [H_hR.out.1, H_hR.out.2.1, H_hR.out.2.2, H_hcc.out, frN_n (by omega)], by repeat' (first | (with_reducible first | exact bwR _ _ | assumption | refine bdn ?_ | refine bwA ?_ ?_ _ | refine bwD ?_ | refine bwS ?_ ?_ _) | omega | (simp <;> omega))⟩
    · rw [if_neg hp] at hP
      replace hP : rdP s.data.toList = none := hP
      have gn1 : n1 < 0 := by omega
      have H_hP := Lib.hid hP
      clear hP
      have H_hn := Lib.hid hn
      clear hn
      have H_hn1 := Lib.hid hn1
      clear hn1
      have H_hx := Lib.hid hx
      clear hx
      have H_hss := Lib.hid hss
      clear hss
      have H_hm := Lib.hid hm
      clear hm
      have H_hmi := Lib.hid hmi
      clear hmi
      have H_hh := Lib.hid hh
      clear hh
      have H_hxt := Lib.hid hxt
      clear hxt
      go_enter Tryz.func53, Tryz.ntmps53
      go_wp2_with fail
      refine call_ss (w := w) (by repeat' (first | (with_reducible first | exact bwR _ _ | assumption | refine bdn ?_ | refine bwA ?_ ?_ _ | refine bwD ?_ | refine bwS ?_ ?_ _) | omega | (simp <;> omega))) (fun HB => rcut_47 s _ hs _ H_hss.out) (by simp) rfl ?_
      intro gg1 cap1 w1 hg1 hgl1 hcl1 hb1 hz1 c1 d1 hW1
      have t1 := hb1.size
      try simp only [szA] at hz1 c1 d1
      try simp only [szD] at hz1 c1 d1
      try simp only [szS] at hz1 c1 d1
      try simp only [World.heap_drewN] at hz1 c1 d1
      try simp only [szA] at hz1 c1 d1
      try simp only [szD] at hz1 c1 d1
      try simp only [szS] at hz1 c1 d1
      have s1_0 : w.heap.size < w1.heap.size := by omega
      have o1_0 := fun j => c1 (w.heap.size) j (by omega)
      have f1_0 := fun j => d1 (w.heap.size) j (by omega)
      clear c1 d1 hz1 hW1
      have q0 := hcl1 0 (by simp)
      have q1 := trivial
      simp only [List.getElem_cons_zero] at q0
      rw [H_hx.out] at q0
      clear hcl1
      go_wp2_with fail
      refine call_bel (w := w) (by repeat' (first | (with_reducible first | exact bwR _ _ | assumption | refine bdn ?_ | refine bwA ?_ ?_ _ | refine bwD ?_ | refine bwS ?_ ?_ _) | omega | (simp <;> omega))) (fun HB => rnum_s _ n1 _ H_hn.out) ?_
      intro w2 hb2 hz2 c2 d2 hW2
      have t2 := hb2.size
      try simp only [szA] at hz2 c2 d2
      try simp only [szD] at hz2 c2 d2
      try simp only [szS] at hz2 c2 d2
      try simp only [World.heap_drewN] at hz2 c2 d2
      try simp only [szA] at hz2 c2 d2
      try simp only [szD] at hz2 c2 d2
      try simp only [szS] at hz2 c2 d2
      have s2_0 : w.heap.size < w2.heap.size := by omega
      have o2_0 := fun j => c2 (w.heap.size) j (by omega)
      have f2_0 := fun j => d2 (w.heap.size) j (by omega)
      clear c2 d2 hz2 hW2
      go_wp2_with fail
      refine bodyPost_ret (by simp [results, Tryz.results53, go_sem, *]; try rfl) rfl ?_
      exact ⟨by rw [(rd_none H_hP.out), frN_n (by decide)]; rfl, by repeat' (first | (with_reducible first | exact bwR _ _ | assumption | refine bdn ?_ | refine bwA ?_ ?_ _ | refine bwD ?_ | refine bwS ?_ ?_ _) | omega | (simp <;> omega))⟩
end Go.Proofs.YtpdaenldmgpkjaaGreatDoor
