/-
  Walks over the document's answer: lowest, FracDo.
-/
import Derived.Test.YtpdaenldmgpkjaaGreatDoorRef2
import Derived.Test.YtpdaenldmgpkjaaGreatDoorPa
import Derived.Test.YtpdaenldmgpkjaaGreatDoorCd
namespace Go.Proofs.YtpdaenldmgpkjaaGreatDoor
open Go.RowKit Lead

theorem rdivisor_g (a b g : Int) (w : World) (ha : I64 a) (hb : I64 b) (h1 : 1 ≤ b) (h : (Int.gcd a b : Int) = g) :
    Calls Tryz.prog 84 #[.int .i64 a, .int .i64 b] w fun e w' => e = .returned (.int .i64 g) ∧ ∃ n, w' = w.drewN n :=
  (rdivisor_n a b w ha hb h1).mono fun e w' ⟨h2, h3⟩ => ⟨by rw [h2, h], h3⟩

set_option maxHeartbeats 1000000 in
theorem rlowest_c (n d x y : Int) (c : Nat) (w : World) (hn : B62 n) (hd : B62 d) (h0 : d ≠ 0) (hx : I64 x) (hy : I64 y) (ex : lowN n d = x) (ey : lowD n d = y) (hc : chk x y = c) (hc2 : c ≠ 0 → c = 2) :
    Calls Tryz.prog 86 #[.int .i64 n, .int .i64 d] w fun e w' => e = .returned (frN c x y) ∧ Below w.heap.size w w' := by
  by_cases h1 : d < 0
  · obtain ⟨e1, e2⟩ := low_neg (n := n) h1
    rw [ex] at e1
    rw [ey] at e2
    have wn := neg_wrapB hn
    have wd := neg_wrapB hd
    have bn := hn.neg
    have bd := hd.neg
    have h1' : (1 : Int) ≤ -d := by omega
    obtain ⟨n', hn'⟩ : ∃ n', -n = n' := ⟨_, rfl⟩
    obtain ⟨d', hd'⟩ : ∃ d', -d = d' := ⟨_, rfl⟩
    rw [hn', hd'] at e1 e2
    have wn' : wrap64 (-n) = n' := wn.trans hn'
    have wd' : wrap64 (-d) = d' := wd.trans hd'
    rw [hn'] at bn
    rw [hd'] at bd h1'
    obtain ⟨g, hg⟩ : ∃ g : Int, (Int.gcd n' d' : Int) = g := ⟨_, rfl⟩
    have gb := (gcd_b62 (n := n') bd (by omega)).1
    rw [hg] at e1 e2 gb
    have g0 : (g == 0) = false := by simp; omega
    have f1 : wrap64 (n'.tdiv g) = x := (wrap_tdiv bn).trans e1
    have f2 : wrap64 (d'.tdiv g) = y := (wrap_tdiv bd).trans e2
    clear e1 e2 wn wd hn' hd'
    have H_ex := Lib.hid ex
    have H_ey := Lib.hid ey
    clear ex ey
    rcases Nat.eq_zero_or_pos c with hc0 | hc0
    · subst hc0
      have hcz : z0 0 x = x := z0_0 rfl
      have hcy : z0 0 y = y := z0_0 rfl
      have H_hc := Lib.hid hc
      clear hc
      have H_hg := Lib.hid hg
      clear hg
      have H_hcz := Lib.hid hcz
      clear hcz
      have H_hcy := Lib.hid hcy
      clear hcy
      go_enter Tryz.func86, Tryz.ntmps86
      go_wp2_with fail
      refine (rdivisor_g _ _ _ _ bn.i64 bd.i64 h1' H_hg.out).mono ?_
      rintro _ _ ⟨rfl, _, rfl⟩
      go_wp2_with fail
      go_region
      go_wp2_with fail
      refine call_below (w := w) (by repeat' (first | (with_reducible first | exact bwR _ _ | assumption | refine bdn ?_ | refine bwA ?_ ?_ _ | refine bwD ?_ | refine bwS ?_ ?_ _) | omega | (simp <;> omega))) (fun HB => rfracerror_0 x y _ H_hc.out hx hy) ?_
      intro w1 hb1 hz1 c1 d1
      have t1 := hb1.size
      try simp only [szA] at hz1 c1 d1
      try simp only [szD] at hz1 c1 d1
      try simp only [szS] at hz1 c1 d1
      try simp only [World.heap_drewN] at hz1 c1 d1
      try simp only [szA] at hz1 c1 d1
      try simp only [szD] at hz1 c1 d1
      try simp only [szS] at hz1 c1 d1
      have s1_0 : w.heap.size < w1.heap.size := by omega
      have o1_0 := fun j => c1 (w.heap.size) j (by omega)
      have f1_0 := fun j => d1 (w.heap.size) j (by omega)
      have s1_1 : w.heap.size + 1 < w1.heap.size := by omega
      have o1_1 := fun j => c1 (w.heap.size + 1) j (by omega)
      have f1_1 := fun j => d1 (w.heap.size + 1) j (by omega)
      clear c1 d1 hz1
      go_wp2_with fail
      refine bodyPost_ret (by simp [results, Tryz.results86, go_sem, *]; try rfl) rfl ?_
      exact ⟨by rw [frN_0 rfl], by repeat' (first | (with_reducible first | exact bwR _ _ | assumption | refine bdn ?_ | refine bwA ?_ ?_ _ | refine bwD ?_ | refine bwS ?_ ?_ _) | omega | (simp <;> omega))⟩
    · have hcz : (0 : Int) < (c : Int) := by omega
      have H_hc := Lib.hid hc
      clear hc
      have H_hg := Lib.hid hg
      clear hg
      have H_hc2 := Lib.hid hc2
      clear hc2
      go_enter Tryz.func86, Tryz.ntmps86
      go_wp2_with fail
      refine (rdivisor_g _ _ _ _ bn.i64 bd.i64 h1' H_hg.out).mono ?_
      rintro _ _ ⟨rfl, _, rfl⟩
      go_wp2_with fail
      go_region
      go_wp2_with fail
      refine call_below (w := w) (by repeat' (first | (with_reducible first | exact bwR _ _ | assumption | refine bdn ?_ | refine bwA ?_ ?_ _ | refine bwD ?_ | refine bwS ?_ ?_ _) | omega | (simp <;> omega))) (fun HB => rfracerror_c x y c _ (by rw [H_hc.out]) hx hy) ?_
      intro w1 hb1 hz1 c1 d1
      have t1 := hb1.size
      try simp only [szA] at hz1 c1 d1
      try simp only [szD] at hz1 c1 d1
      try simp only [szS] at hz1 c1 d1
      try simp only [World.heap_drewN] at hz1 c1 d1
      try simp only [szA] at hz1 c1 d1
      try simp only [szD] at hz1 c1 d1
      try simp only [szS] at hz1 c1 d1
      have s1_0 : w.heap.size < w1.heap.size := by omega
      have o1_0 := fun j => c1 (w.heap.size) j (by omega)
      have f1_0 := fun j => d1 (w.heap.size) j (by omega)
      have s1_1 : w.heap.size + 1 < w1.heap.size := by omega
      have o1_1 := fun j => c1 (w.heap.size + 1) j (by omega)
      have f1_1 := fun j => d1 (w.heap.size + 1) j (by omega)
      clear c1 d1 hz1
      go_wp2_with fail
      refine bodyPost_ret (by simp [results, Tryz.results86, go_sem, *]; try rfl) rfl ?_
      exact ⟨by rw [frN_n (by omega), H_hc2.out (by omega)]; rfl, by repeat' (first | (with_reducible first | exact bwR _ _ | assumption | refine bdn ?_ | refine bwA ?_ ?_ _ | refine bwD ?_ | refine bwS ?_ ?_ _) | omega | (simp <;> omega))⟩
  · obtain ⟨e1, e2⟩ := low_pos (n := n) h1
    rw [ex] at e1
    rw [ey] at e2
    obtain ⟨g, hg⟩ : ∃ g : Int, (Int.gcd n d : Int) = g := ⟨_, rfl⟩
    have gb := (gcd_b62 (n := n) hd h0).1
    rw [hg] at e1 e2 gb
    have g0 : (g == 0) = false := by simp; omega
    have f1 : wrap64 (n.tdiv g) = x := (wrap_tdiv hn).trans e1
    have f2 : wrap64 (d.tdiv g) = y := (wrap_tdiv hd).trans e2
    have h1' : 1 ≤ d := by omega
    clear e1 e2
    have H_ex := Lib.hid ex
    have H_ey := Lib.hid ey
    clear ex ey
    rcases Nat.eq_zero_or_pos c with hc0 | hc0
    · subst hc0
      have hcz : z0 0 x = x := z0_0 rfl
      have hcy : z0 0 y = y := z0_0 rfl
      have H_hc := Lib.hid hc
      clear hc
      have H_hg := Lib.hid hg
      clear hg
      have H_hcz := Lib.hid hcz
      clear hcz
      have H_hcy := Lib.hid hcy
      clear hcy
      go_enter Tryz.func86, Tryz.ntmps86
      go_wp2_with fail
      refine (rdivisor_g _ _ _ _ hn.i64 hd.i64 h1' H_hg.out).mono ?_
      rintro _ _ ⟨rfl, _, rfl⟩
      go_wp2_with fail
      go_region
      go_wp2_with fail
      refine call_below (w := w) (by repeat' (first | (with_reducible first | exact bwR _ _ | assumption | refine bdn ?_ | refine bwA ?_ ?_ _ | refine bwD ?_ | refine bwS ?_ ?_ _) | omega | (simp <;> omega))) (fun HB => rfracerror_0 x y _ H_hc.out hx hy) ?_
      intro w1 hb1 hz1 c1 d1
      have t1 := hb1.size
      try simp only [szA] at hz1 c1 d1
      try simp only [szD] at hz1 c1 d1
      try simp only [szS] at hz1 c1 d1
      try simp only [World.heap_drewN] at hz1 c1 d1
      try simp only [szA] at hz1 c1 d1
      try simp only [szD] at hz1 c1 d1
      try simp only [szS] at hz1 c1 d1
      have s1_0 : w.heap.size < w1.heap.size := by omega
      have o1_0 := fun j => c1 (w.heap.size) j (by omega)
      have f1_0 := fun j => d1 (w.heap.size) j (by omega)
      have s1_1 : w.heap.size + 1 < w1.heap.size := by omega
      have o1_1 := fun j => c1 (w.heap.size + 1) j (by omega)
      have f1_1 := fun j => d1 (w.heap.size + 1) j (by omega)
      clear c1 d1 hz1
      go_wp2_with fail
      refine bodyPost_ret (by simp [results, Tryz.results86, go_sem, *]; try rfl) rfl ?_
      exact ⟨by rw [frN_0 rfl], by repeat' (first | (with_reducible first | exact bwR _ _ | assumption | refine bdn ?_ | refine bwA ?_ ?_ _ | refine bwD ?_ | refine bwS ?_ ?_ _) | omega | (simp <;> omega))⟩
    · have hcz : (0 : Int) < (c : Int) := by omega
      have H_hc := Lib.hid hc
      clear hc
      have H_hg := Lib.hid hg
      clear hg
      have H_hc2 := Lib.hid hc2
      clear hc2
      go_enter Tryz.func86, Tryz.ntmps86
      go_wp2_with fail
      refine (rdivisor_g _ _ _ _ hn.i64 hd.i64 h1' H_hg.out).mono ?_
      rintro _ _ ⟨rfl, _, rfl⟩
      go_wp2_with fail
      go_region
      go_wp2_with fail
      refine call_below (w := w) (by repeat' (first | (with_reducible first | exact bwR _ _ | assumption | refine bdn ?_ | refine bwA ?_ ?_ _ | refine bwD ?_ | refine bwS ?_ ?_ _) | omega | (simp <;> omega))) (fun HB => rfracerror_c x y c _ (by rw [H_hc.out]) hx hy) ?_
      intro w1 hb1 hz1 c1 d1
      have t1 := hb1.size
      try simp only [szA] at hz1 c1 d1
      try simp only [szD] at hz1 c1 d1
      try simp only [szS] at hz1 c1 d1
      try simp only [World.heap_drewN] at hz1 c1 d1
      try simp only [szA] at hz1 c1 d1
      try simp only [szD] at hz1 c1 d1
      try simp only [szS] at hz1 c1 d1
      have s1_0 : w.heap.size < w1.heap.size := by omega
      have o1_0 := fun j => c1 (w.heap.size) j (by omega)
      have f1_0 := fun j => d1 (w.heap.size) j (by omega)
      have s1_1 : w.heap.size + 1 < w1.heap.size := by omega
      have o1_1 := fun j => c1 (w.heap.size + 1) j (by omega)
      have f1_1 := fun j => d1 (w.heap.size + 1) j (by omega)
      clear c1 d1 hz1
      go_wp2_with fail
      refine bodyPost_ret (by simp [results, Tryz.results86, go_sem, *]; try rfl) rfl ?_
      exact ⟨by rw [frN_n (by omega), H_hc2.out (by omega)]; rfl, by repeat' (first | (with_reducible first | exact bwR _ _ | assumption | refine bdn ?_ | refine bwA ?_ ?_ _ | refine bwD ?_ | refine bwS ?_ ?_ _) | omega | (simp <;> omega))⟩
theorem rlowest_any (n d : Int) (w : World) (hn : B62 n) (hd : B62 d) (h0 : d ≠ 0) :
    Calls Tryz.prog 86 #[.int .i64 n, .int .i64 d] w fun e w' => e = .returned (frN (lowC n d) (lowN n d) (lowD n d)) ∧ Below w.heap.size w w' :=
  rlowest_c n d _ _ _ w hn hd h0 (lowN_i64 hn) (lowD_i64 hd) rfl rfl (chk_low h0) (fun h => by
    rcases lowC_cases n d with ⟨_, h'⟩ | ⟨_, _, h'⟩ | ⟨_, _, h'⟩
    · exact h'
    · exact h'
    · exact absurd h' h)

set_option maxHeartbeats 1000000 in
theorem rdo_add (a b x : Fr) (w : World) (ia : a.I) (ib : b.I) (hx : a.add b = x) :
    Calls Tryz.prog 57 #[.int .u8 43, .agg #[.int .i64 a.n, .int .i64 a.d], .agg #[.int .i64 b.n, .int .i64 b.d]] w fun e w' =>
      e = .returned (frN (a.addK b) x.n x.d) ∧ Below w.heap.size w w' := by
  obtain ⟨ia1, ia2⟩ := ia
  obtain ⟨ib1, ib2⟩ := ib
  rcases both_cases a.n a.d b.n b.d with ⟨hca, hB⟩ | ⟨hca, hcb, hB⟩ | ⟨hca, hcb, hB⟩
  · obtain ⟨c, hc⟩ : ∃ c, chk a.n a.d = c := ⟨_, rfl⟩
    have hk : a.addK b = c := by rw [← hc, ← hB]; exact if_neg (by rw [hB]; exact hca)
    rw [hk]
    rw [hc] at hca
    have c0 : (0 : Int) < (c : Int) := by omega
    have c1 : ((c : Int) == 0) = false := by rw [beq_eq_false_iff_ne]; omega
    have H_hc := Lib.hid hc
    clear hc
    have H_hk := Lib.hid hk
    clear hk
    have H_hB := Lib.hid hB
    clear hB
    have H_hca := Lib.hid hca
    clear hca
    have H_hx := Lib.hid hx
    clear hx
    go_enter Tryz.func57, Tryz.ntmps57
    go_wp2_with fail
    refine call_below (w := w) (by repeat' (first | (with_reducible first | exact bwR _ _ | assumption | refine bdn ?_ | refine bwA ?_ ?_ _ | refine bwD ?_ | refine bwS ?_ ?_ _) | omega | (simp <;> omega))) (fun HB => rfracerror_c a.n a.d c _ (by rw [H_hc.out]) ia1 ia2) ?_
    intro w1 hb1 hz1 c1 d1
    have t1 := hb1.size
    try simp only [szA] at hz1 c1 d1
    try simp only [szD] at hz1 c1 d1
    try simp only [szS] at hz1 c1 d1
    try simp only [World.heap_drewN] at hz1 c1 d1
    try simp only [szA] at hz1 c1 d1
    try simp only [szD] at hz1 c1 d1
    try simp only [szS] at hz1 c1 d1
    have s1_0 : w.heap.size < w1.heap.size := by omega
    have o1_0 := fun j => c1 (w.heap.size) j (by omega)
    have f1_0 := fun j => d1 (w.heap.size) j (by omega)
    have s1_1 : w.heap.size + 1 < w1.heap.size := by omega
    have o1_1 := fun j => c1 (w.heap.size + 1) j (by omega)
    have f1_1 := fun j => d1 (w.heap.size + 1) j (by omega)
    have s1_2 : w.heap.size + 1 + 1 < w1.heap.size := by omega
    have o1_2 := fun j => c1 (w.heap.size + 1 + 1) j (by omega)
    have f1_2 := fun j => d1 (w.heap.size + 1 + 1) j (by omega)
    clear c1 d1 hz1
    go_wp2_with fail
    refine bodyPost_ret (by simp [results, Tryz.results57, go_sem, *]; try rfl) rfl ?_
    exact ⟨by rw [frN_n H_hca.out], by repeat' (first | (with_reducible first | exact bwR _ _ | assumption | refine bdn ?_ | refine bwA ?_ ?_ _ | refine bwD ?_ | refine bwS ?_ ?_ _) | omega | (simp <;> omega))⟩
  · obtain ⟨c, hc⟩ : ∃ c, chk b.n b.d = c := ⟨_, rfl⟩
    have hk : a.addK b = c := by rw [← hc, ← hB]; exact if_neg (by rw [hB]; exact hcb)
    rw [hk]
    rw [hc] at hcb
    have c0 : (0 : Int) < (c : Int) := by omega
    have H_hc := Lib.hid hc
    clear hc
    have H_hk := Lib.hid hk
    clear hk
    have H_hca := Lib.hid hca
    clear hca
    have H_hB := Lib.hid hB
    clear hB
    have H_hcb := Lib.hid hcb
    clear hcb
    have H_hx := Lib.hid hx
    clear hx
    go_enter Tryz.func57, Tryz.ntmps57
    go_wp2_with fail
    refine call_below (w := w) (by repeat' (first | (with_reducible first | exact bwR _ _ | assumption | refine bdn ?_ | refine bwA ?_ ?_ _ | refine bwD ?_ | refine bwS ?_ ?_ _) | omega | (simp <;> omega))) (fun HB => rfracerror_0 a.n a.d _ H_hca.out ia1 ia2) ?_
    intro w1 hb1 hz1 c1 d1
    have t1 := hb1.size
    try simp only [szA] at hz1 c1 d1
    try simp only [szD] at hz1 c1 d1
    try simp only [szS] at hz1 c1 d1
    try simp only [World.heap_drewN] at hz1 c1 d1
    try simp only [szA] at hz1 c1 d1
    try simp only [szD] at hz1 c1 d1
    try simp only [szS] at hz1 c1 d1
    have s1_0 : w.heap.size < w1.heap.size := by omega
    have o1_0 := fun j => c1 (w.heap.size) j (by omega)
    have f1_0 := fun j => d1 (w.heap.size) j (by omega)
    have s1_1 : w.heap.size + 1 < w1.heap.size := by omega
    have o1_1 := fun j => c1 (w.heap.size + 1) j (by omega)
    have f1_1 := fun j => d1 (w.heap.size + 1) j (by omega)
    have s1_2 : w.heap.size + 1 + 1 < w1.heap.size := by omega
    have o1_2 := fun j => c1 (w.heap.size + 1 + 1) j (by omega)
    have f1_2 := fun j => d1 (w.heap.size + 1 + 1) j (by omega)
    clear c1 d1 hz1
    go_wp2_with fail
    refine call_below (w := w) (by repeat' (first | (with_reducible first | exact bwR _ _ | assumption | refine bdn ?_ | refine bwA ?_ ?_ _ | refine bwD ?_ | refine bwS ?_ ?_ _) | omega | (simp <;> omega))) (fun HB => rfracerror_c b.n b.d c _ (by rw [H_hc.out]) ib1 ib2) ?_
    intro w2 hb2 hz2 c2 d2
    have t2 := hb2.size
    try simp only [szA] at hz2 c2 d2
    try simp only [szD] at hz2 c2 d2
    try simp only [szS] at hz2 c2 d2
    try simp only [World.heap_drewN] at hz2 c2 d2
    try simp only [szA] at hz2 c2 d2
    try simp only [szD] at hz2 c2 d2
    try simp only [szS] at hz2 c2 d2
    have s2_0 : w.heap.size < w2.heap.size := by omega
    have o2_0 := fun j => c2 (w.heap.size) j (by omega)
    have f2_0 := fun j => d2 (w.heap.size) j (by omega)
    have s2_1 : w.heap.size + 1 < w2.heap.size := by omega
    have o2_1 := fun j => c2 (w.heap.size + 1) j (by omega)
    have f2_1 := fun j => d2 (w.heap.size + 1) j (by omega)
    have s2_2 : w.heap.size + 1 + 1 < w2.heap.size := by omega
    have o2_2 := fun j => c2 (w.heap.size + 1 + 1) j (by omega)
    have f2_2 := fun j => d2 (w.heap.size + 1 + 1) j (by omega)
    clear c2 d2 hz2
    go_wp2_with fail
    refine bodyPost_ret (by simp [results, Tryz.results57, go_sem, *]; try rfl) rfl ?_
    exact ⟨by rw [frN_n H_hcb.out], by repeat' (first | (with_reducible first | exact bwR _ _ | assumption | refine bdn ?_ | refine bwA ?_ ?_ _ | refine bwD ?_ | refine bwS ?_ ?_ _) | omega | (simp <;> omega))⟩
  · have ra := chk_0 hca
    have rb := chk_0 hcb
    have hk : a.addK b = lowC (addN a b) (addD a b) := if_pos (both_R (a := a) (b := b) ra rb)
    subst hx
    rw [hk]
    obtain ⟨p1, p2, e1, e2, e3, e4, H1, H2, H3⟩ := add_facts ra rb
    obtain ⟨p, hp⟩ : ∃ p, addN a b = p := ⟨_, rfl⟩
    obtain ⟨q, hq⟩ : ∃ q, addD a b = q := ⟨_, rfl⟩
    replace e3 := e3.trans hp
    replace e4 := e4.trans hq
    replace H1 : B62 p := by rw [← hp]; exact H1
    replace H2 : B62 q := by rw [← hq]; exact H2
    replace H3 : q ≠ 0 := by rw [← hq]; exact H3
    have hv : a.add b = ⟨lowN p q, lowD p q⟩ := by rw [← hp, ← hq]; rfl
    rw [hv, hp, hq]
    have H_hk := Lib.hid hk
    clear hk
    have H_hp := Lib.hid hp
    clear hp
    have H_hq := Lib.hid hq
    clear hq
    have H_hv := Lib.hid hv
    clear hv
    have H_H3 := Lib.hid H3
    clear H3
    have H_hca := Lib.hid hca
    clear hca
    have H_hcb := Lib.hid hcb
    clear hcb
    have H_ra := Lib.hid ra
    clear ra
    have H_rb := Lib.hid rb
    clear rb
    have H_hB := Lib.hid hB
    clear hB
    go_enter Tryz.func57, Tryz.ntmps57
    go_wp2_with fail
    refine call_below (w := w) (by repeat' (first | (with_reducible first | exact bwR _ _ | assumption | refine bdn ?_ | refine bwA ?_ ?_ _ | refine bwD ?_ | refine bwS ?_ ?_ _) | omega | (simp <;> omega))) (fun HB => rfracerror_0 a.n a.d _ H_hca.out ia1 ia2) ?_
    intro w1 hb1 hz1 c1 d1
    have t1 := hb1.size
    try simp only [szA] at hz1 c1 d1
    try simp only [szD] at hz1 c1 d1
    try simp only [szS] at hz1 c1 d1
    try simp only [World.heap_drewN] at hz1 c1 d1
    try simp only [szA] at hz1 c1 d1
    try simp only [szD] at hz1 c1 d1
    try simp only [szS] at hz1 c1 d1
    have s1_0 : w.heap.size < w1.heap.size := by omega
    have o1_0 := fun j => c1 (w.heap.size) j (by omega)
    have f1_0 := fun j => d1 (w.heap.size) j (by omega)
    have s1_1 : w.heap.size + 1 < w1.heap.size := by omega
    have o1_1 := fun j => c1 (w.heap.size + 1) j (by omega)
    have f1_1 := fun j => d1 (w.heap.size + 1) j (by omega)
    have s1_2 : w.heap.size + 1 + 1 < w1.heap.size := by omega
    have o1_2 := fun j => c1 (w.heap.size + 1 + 1) j (by omega)
    have f1_2 := fun j => d1 (w.heap.size + 1 + 1) j (by omega)
    clear c1 d1 hz1
    go_wp2_with fail
    refine call_below (w := w) (by repeat' (first | (with_reducible first | exact bwR _ _ | assumption | refine bdn ?_ | refine bwA ?_ ?_ _ | refine bwD ?_ | refine bwS ?_ ?_ _) | omega | (simp <;> omega))) (fun HB => rfracerror_0 b.n b.d _ H_hcb.out ib1 ib2) ?_
    intro w2 hb2 hz2 c2 d2
    have t2 := hb2.size
    try simp only [szA] at hz2 c2 d2
    try simp only [szD] at hz2 c2 d2
    try simp only [szS] at hz2 c2 d2
    try simp only [World.heap_drewN] at hz2 c2 d2
    try simp only [szA] at hz2 c2 d2
    try simp only [szD] at hz2 c2 d2
    try simp only [szS] at hz2 c2 d2
    have s2_0 : w.heap.size < w2.heap.size := by omega
    have o2_0 := fun j => c2 (w.heap.size) j (by omega)
    have f2_0 := fun j => d2 (w.heap.size) j (by omega)
    have s2_1 : w.heap.size + 1 < w2.heap.size := by omega
    have o2_1 := fun j => c2 (w.heap.size + 1) j (by omega)
    have f2_1 := fun j => d2 (w.heap.size + 1) j (by omega)
    have s2_2 : w.heap.size + 1 + 1 < w2.heap.size := by omega
    have o2_2 := fun j => c2 (w.heap.size + 1 + 1) j (by omega)
    have f2_2 := fun j => d2 (w.heap.size + 1 + 1) j (by omega)
    clear c2 d2 hz2
    go_wp2_with fail
    refine call_below (w := w) (by repeat' (first | (with_reducible first | exact bwR _ _ | assumption | refine bdn ?_ | refine bwA ?_ ?_ _ | refine bwD ?_ | refine bwS ?_ ?_ _) | omega | (simp <;> omega))) (fun HB => rlowest_any p q _ H1 H2 H_H3.out) ?_
    intro w3 hb3 hz3 c3 d3
    have t3 := hb3.size
    try simp only [szA] at hz3 c3 d3
    try simp only [szD] at hz3 c3 d3
    try simp only [szS] at hz3 c3 d3
    try simp only [World.heap_drewN] at hz3 c3 d3
    try simp only [szA] at hz3 c3 d3
    try simp only [szD] at hz3 c3 d3
    try simp only [szS] at hz3 c3 d3
    have s3_0 : w.heap.size < w3.heap.size := by omega
    have o3_0 := fun j => c3 (w.heap.size) j (by omega)
    have f3_0 := fun j => d3 (w.heap.size) j (by omega)
    have s3_1 : w.heap.size + 1 < w3.heap.size := by omega
    have o3_1 := fun j => c3 (w.heap.size + 1) j (by omega)
    have f3_1 := fun j => d3 (w.heap.size + 1) j (by omega)
    have s3_2 : w.heap.size + 1 + 1 < w3.heap.size := by omega
    have o3_2 := fun j => c3 (w.heap.size + 1 + 1) j (by omega)
    have f3_2 := fun j => d3 (w.heap.size + 1 + 1) j (by omega)
    clear c3 d3 hz3
    rw [frN]
    go_wp2_with fail
    refine bodyPost_ret (by simp [results, Tryz.results57, go_sem, *]; try rfl) rfl ?_
    exact ⟨by rfl, by repeat' (first | (with_reducible first | exact bwR _ _ | assumption | refine bdn ?_ | refine bwA ?_ ?_ _ | refine bwD ?_ | refine bwS ?_ ?_ _) | omega | (simp <;> omega))⟩
set_option maxHeartbeats 1000000 in
theorem rdo_sub (a b x : Fr) (w : World) (ia : a.I) (ib : b.I) (hx : a.sub b = x) :
    Calls Tryz.prog 57 #[.int .u8 45, .agg #[.int .i64 a.n, .int .i64 a.d], .agg #[.int .i64 b.n, .int .i64 b.d]] w fun e w' =>
      e = .returned (frN (a.subK b) x.n x.d) ∧ Below w.heap.size w w' := by
  obtain ⟨ia1, ia2⟩ := ia
  obtain ⟨ib1, ib2⟩ := ib
  rcases both_cases a.n a.d b.n b.d with ⟨hca, hB⟩ | ⟨hca, hcb, hB⟩ | ⟨hca, hcb, hB⟩
  · obtain ⟨c, hc⟩ : ∃ c, chk a.n a.d = c := ⟨_, rfl⟩
    have hk : a.subK b = c := by rw [← hc, ← hB]; exact if_neg (by rw [hB]; exact hca)
    rw [hk]
    rw [hc] at hca
    have c0 : (0 : Int) < (c : Int) := by omega
    have c1 : ((c : Int) == 0) = false := by rw [beq_eq_false_iff_ne]; omega
    have H_hc := Lib.hid hc
    clear hc
    have H_hk := Lib.hid hk
    clear hk
    have H_hB := Lib.hid hB
    clear hB
    have H_hca := Lib.hid hca
    clear hca
    have H_hx := Lib.hid hx
    clear hx
    go_enter Tryz.func57, Tryz.ntmps57
    go_wp2_with fail
    refine call_below (w := w) (by repeat' (first | (with_reducible first | exact bwR _ _ | assumption | refine bdn ?_ | refine bwA ?_ ?_ _ | refine bwD ?_ | refine bwS ?_ ?_ _) | omega | (simp <;> omega))) (fun HB => rfracerror_c a.n a.d c _ (by rw [H_hc.out]) ia1 ia2) ?_
    intro w1 hb1 hz1 c1 d1
    have t1 := hb1.size
    try simp only [szA] at hz1 c1 d1
    try simp only [szD] at hz1 c1 d1
    try simp only [szS] at hz1 c1 d1
    try simp only [World.heap_drewN] at hz1 c1 d1
    try simp only [szA] at hz1 c1 d1
    try simp only [szD] at hz1 c1 d1
    try simp only [szS] at hz1 c1 d1
    have s1_0 : w.heap.size < w1.heap.size := by omega
    have o1_0 := fun j => c1 (w.heap.size) j (by omega)
    have f1_0 := fun j => d1 (w.heap.size) j (by omega)
    have s1_1 : w.heap.size + 1 < w1.heap.size := by omega
    have o1_1 := fun j => c1 (w.heap.size + 1) j (by omega)
    have f1_1 := fun j => d1 (w.heap.size + 1) j (by omega)
    have s1_2 : w.heap.size + 1 + 1 < w1.heap.size := by omega
    have o1_2 := fun j => c1 (w.heap.size + 1 + 1) j (by omega)
    have f1_2 := fun j => d1 (w.heap.size + 1 + 1) j (by omega)
    clear c1 d1 hz1
    go_wp2_with fail
    refine bodyPost_ret (by simp [results, Tryz.results57, go_sem, *]; try rfl) rfl ?_
    exact ⟨by rw [frN_n H_hca.out], by repeat' (first | (with_reducible first | exact bwR _ _ | assumption | refine bdn ?_ | refine bwA ?_ ?_ _ | refine bwD ?_ | refine bwS ?_ ?_ _) | omega | (simp <;> omega))⟩
  · obtain ⟨c, hc⟩ : ∃ c, chk b.n b.d = c := ⟨_, rfl⟩
    have hk : a.subK b = c := by rw [← hc, ← hB]; exact if_neg (by rw [hB]; exact hcb)
    rw [hk]
    rw [hc] at hcb
    have c0 : (0 : Int) < (c : Int) := by omega
    have H_hc := Lib.hid hc
    clear hc
    have H_hk := Lib.hid hk
    clear hk
    have H_hca := Lib.hid hca
    clear hca
    have H_hB := Lib.hid hB
    clear hB
    have H_hcb := Lib.hid hcb
    clear hcb
    have H_hx := Lib.hid hx
    clear hx
    go_enter Tryz.func57, Tryz.ntmps57
    go_wp2_with fail
    refine call_below (w := w) (by repeat' (first | (with_reducible first | exact bwR _ _ | assumption | refine bdn ?_ | refine bwA ?_ ?_ _ | refine bwD ?_ | refine bwS ?_ ?_ _) | omega | (simp <;> omega))) (fun HB => rfracerror_0 a.n a.d _ H_hca.out ia1 ia2) ?_
    intro w1 hb1 hz1 c1 d1
    have t1 := hb1.size
    try simp only [szA] at hz1 c1 d1
    try simp only [szD] at hz1 c1 d1
    try simp only [szS] at hz1 c1 d1
    try simp only [World.heap_drewN] at hz1 c1 d1
    try simp only [szA] at hz1 c1 d1
    try simp only [szD] at hz1 c1 d1
    try simp only [szS] at hz1 c1 d1
    have s1_0 : w.heap.size < w1.heap.size := by omega
    have o1_0 := fun j => c1 (w.heap.size) j (by omega)
    have f1_0 := fun j => d1 (w.heap.size) j (by omega)
    have s1_1 : w.heap.size + 1 < w1.heap.size := by omega
    have o1_1 := fun j => c1 (w.heap.size + 1) j (by omega)
    have f1_1 := fun j => d1 (w.heap.size + 1) j (by omega)
    have s1_2 : w.heap.size + 1 + 1 < w1.heap.size := by omega
    have o1_2 := fun j => c1 (w.heap.size + 1 + 1) j (by omega)
    have f1_2 := fun j => d1 (w.heap.size + 1 + 1) j (by omega)
    clear c1 d1 hz1
    go_wp2_with fail
    refine call_below (w := w) (by repeat' (first | (with_reducible first | exact bwR _ _ | assumption | refine bdn ?_ | refine bwA ?_ ?_ _ | refine bwD ?_ | refine bwS ?_ ?_ _) | omega | (simp <;> omega))) (fun HB => rfracerror_c b.n b.d c _ (by rw [H_hc.out]) ib1 ib2) ?_
    intro w2 hb2 hz2 c2 d2
    have t2 := hb2.size
    try simp only [szA] at hz2 c2 d2
    try simp only [szD] at hz2 c2 d2
    try simp only [szS] at hz2 c2 d2
    try simp only [World.heap_drewN] at hz2 c2 d2
    try simp only [szA] at hz2 c2 d2
    try simp only [szD] at hz2 c2 d2
    try simp only [szS] at hz2 c2 d2
    have s2_0 : w.heap.size < w2.heap.size := by omega
    have o2_0 := fun j => c2 (w.heap.size) j (by omega)
    have f2_0 := fun j => d2 (w.heap.size) j (by omega)
    have s2_1 : w.heap.size + 1 < w2.heap.size := by omega
    have o2_1 := fun j => c2 (w.heap.size + 1) j (by omega)
    have f2_1 := fun j => d2 (w.heap.size + 1) j (by omega)
    have s2_2 : w.heap.size + 1 + 1 < w2.heap.size := by omega
    have o2_2 := fun j => c2 (w.heap.size + 1 + 1) j (by omega)
    have f2_2 := fun j => d2 (w.heap.size + 1 + 1) j (by omega)
    clear c2 d2 hz2
    go_wp2_with fail
    refine bodyPost_ret (by simp [results, Tryz.results57, go_sem, *]; try rfl) rfl ?_
    exact ⟨by rw [frN_n H_hcb.out], by repeat' (first | (with_reducible first | exact bwR _ _ | assumption | refine bdn ?_ | refine bwA ?_ ?_ _ | refine bwD ?_ | refine bwS ?_ ?_ _) | omega | (simp <;> omega))⟩
  · have ra := chk_0 hca
    have rb := chk_0 hcb
    have hk : a.subK b = lowC (subN a b) (addD a b) := if_pos (both_R (a := a) (b := b) ra rb)
    subst hx
    rw [hk]
    obtain ⟨p1, p2, e1, e2, e3, e4, H1, H2, H3⟩ := sub_facts ra rb
    obtain ⟨p, hp⟩ : ∃ p, subN a b = p := ⟨_, rfl⟩
    obtain ⟨q, hq⟩ : ∃ q, addD a b = q := ⟨_, rfl⟩
    replace e3 := e3.trans hp
    replace e4 := e4.trans hq
    replace H1 : B62 p := by rw [← hp]; exact H1
    replace H2 : B62 q := by rw [← hq]; exact H2
    replace H3 : q ≠ 0 := by rw [← hq]; exact H3
    have hv : a.sub b = ⟨lowN p q, lowD p q⟩ := by rw [← hp, ← hq]; rfl
    rw [hv, hp, hq]
    have H_hk := Lib.hid hk
    clear hk
    have H_hp := Lib.hid hp
    clear hp
    have H_hq := Lib.hid hq
    clear hq
    have H_hv := Lib.hid hv
    clear hv
    have H_H3 := Lib.hid H3
    clear H3
    have H_hca := Lib.hid hca
    clear hca
    have H_hcb := Lib.hid hcb
    clear hcb
    have H_ra := Lib.hid ra
    clear ra
    have H_rb := Lib.hid rb
    clear rb
    have H_hB := Lib.hid hB
    clear hB
    go_enter Tryz.func57, Tryz.ntmps57
    go_wp2_with fail
    refine call_below (w := w) (by repeat' (first | (with_reducible first | exact bwR _ _ | assumption | refine bdn ?_ | refine bwA ?_ ?_ _ | refine bwD ?_ | refine bwS ?_ ?_ _) | omega | (simp <;> omega))) (fun HB => rfracerror_0 a.n a.d _ H_hca.out ia1 ia2) ?_
    intro w1 hb1 hz1 c1 d1
    have t1 := hb1.size
    try simp only [szA] at hz1 c1 d1
    try simp only [szD] at hz1 c1 d1
    try simp only [szS] at hz1 c1 d1
    try simp only [World.heap_drewN] at hz1 c1 d1
    try simp only [szA] at hz1 c1 d1
    try simp only [szD] at hz1 c1 d1
    try simp only [szS] at hz1 c1 d1
    have s1_0 : w.heap.size < w1.heap.size := by omega
    have o1_0 := fun j => c1 (w.heap.size) j (by omega)
    have f1_0 := fun j => d1 (w.heap.size) j (by omega)
    have s1_1 : w.heap.size + 1 < w1.heap.size := by omega
    have o1_1 := fun j => c1 (w.heap.size + 1) j (by omega)
    have f1_1 := fun j => d1 (w.heap.size + 1) j (by omega)
    have s1_2 : w.heap.size + 1 + 1 < w1.heap.size := by omega
    have o1_2 := fun j => c1 (w.heap.size + 1 + 1) j (by omega)
    have f1_2 := fun j => d1 (w.heap.size + 1 + 1) j (by omega)
    clear c1 d1 hz1
    go_wp2_with fail
    refine call_below (w := w) (by repeat' (first | (with_reducible first | exact bwR _ _ | assumption | refine bdn ?_ | refine bwA ?_ ?_ _ | refine bwD ?_ | refine bwS ?_ ?_ _) | omega | (simp <;> omega))) (fun HB => rfracerror_0 b.n b.d _ H_hcb.out ib1 ib2) ?_
    intro w2 hb2 hz2 c2 d2
    have t2 := hb2.size
    try simp only [szA] at hz2 c2 d2
    try simp only [szD] at hz2 c2 d2
    try simp only [szS] at hz2 c2 d2
    try simp only [World.heap_drewN] at hz2 c2 d2
    try simp only [szA] at hz2 c2 d2
    try simp only [szD] at hz2 c2 d2
    try simp only [szS] at hz2 c2 d2
    have s2_0 : w.heap.size < w2.heap.size := by omega
    have o2_0 := fun j => c2 (w.heap.size) j (by omega)
    have f2_0 := fun j => d2 (w.heap.size) j (by omega)
    have s2_1 : w.heap.size + 1 < w2.heap.size := by omega
    have o2_1 := fun j => c2 (w.heap.size + 1) j (by omega)
    have f2_1 := fun j => d2 (w.heap.size + 1) j (by omega)
    have s2_2 : w.heap.size + 1 + 1 < w2.heap.size := by omega
    have o2_2 := fun j => c2 (w.heap.size + 1 + 1) j (by omega)
    have f2_2 := fun j => d2 (w.heap.size + 1 + 1) j (by omega)
    clear c2 d2 hz2
    go_wp2_with fail
    refine call_below (w := w) (by repeat' (first | (with_reducible first | exact bwR _ _ | assumption | refine bdn ?_ | refine bwA ?_ ?_ _ | refine bwD ?_ | refine bwS ?_ ?_ _) | omega | (simp <;> omega))) (fun HB => rlowest_any p q _ H1 H2 H_H3.out) ?_
    intro w3 hb3 hz3 c3 d3
    have t3 := hb3.size
    try simp only [szA] at hz3 c3 d3
    try simp only [szD] at hz3 c3 d3
    try simp only [szS] at hz3 c3 d3
    try simp only [World.heap_drewN] at hz3 c3 d3
    try simp only [szA] at hz3 c3 d3
    try simp only [szD] at hz3 c3 d3
    try simp only [szS] at hz3 c3 d3
    have s3_0 : w.heap.size < w3.heap.size := by omega
    have o3_0 := fun j => c3 (w.heap.size) j (by omega)
    have f3_0 := fun j => d3 (w.heap.size) j (by omega)
    have s3_1 : w.heap.size + 1 < w3.heap.size := by omega
    have o3_1 := fun j => c3 (w.heap.size + 1) j (by omega)
    have f3_1 := fun j => d3 (w.heap.size + 1) j (by omega)
    have s3_2 : w.heap.size + 1 + 1 < w3.heap.size := by omega
    have o3_2 := fun j => c3 (w.heap.size + 1 + 1) j (by omega)
    have f3_2 := fun j => d3 (w.heap.size + 1 + 1) j (by omega)
    clear c3 d3 hz3
    rw [frN]
    go_wp2_with fail
    refine bodyPost_ret (by simp [results, Tryz.results57, go_sem, *]; try rfl) rfl ?_
    exact ⟨by rfl, by repeat' (first | (with_reducible first | exact bwR _ _ | assumption | refine bdn ?_ | refine bwA ?_ ?_ _ | refine bwD ?_ | refine bwS ?_ ?_ _) | omega | (simp <;> omega))⟩
set_option maxHeartbeats 1000000 in
theorem rdo_mul (a b x : Fr) (w : World) (ia : a.I) (ib : b.I) (hx : a.mul b = x) :
    Calls Tryz.prog 57 #[.int .u8 42, .agg #[.int .i64 a.n, .int .i64 a.d], .agg #[.int .i64 b.n, .int .i64 b.d]] w fun e w' =>
      e = .returned (frN (a.mulK b) x.n x.d) ∧ Below w.heap.size w w' := by
  obtain ⟨ia1, ia2⟩ := ia
  obtain ⟨ib1, ib2⟩ := ib
  rcases both_cases a.n a.d b.n b.d with ⟨hca, hB⟩ | ⟨hca, hcb, hB⟩ | ⟨hca, hcb, hB⟩
  · obtain ⟨c, hc⟩ : ∃ c, chk a.n a.d = c := ⟨_, rfl⟩
    have hk : a.mulK b = c := by rw [← hc, ← hB]; exact if_neg (by rw [hB]; exact hca)
    rw [hk]
    rw [hc] at hca
    have c0 : (0 : Int) < (c : Int) := by omega
    have c1 : ((c : Int) == 0) = false := by rw [beq_eq_false_iff_ne]; omega
    have H_hc := Lib.hid hc
    clear hc
    have H_hk := Lib.hid hk
    clear hk
    have H_hB := Lib.hid hB
    clear hB
    have H_hca := Lib.hid hca
    clear hca
    have H_hx := Lib.hid hx
    clear hx
    go_enter Tryz.func57, Tryz.ntmps57
    go_wp2_with fail
    refine call_below (w := w) (by repeat' (first | (with_reducible first | exact bwR _ _ | assumption | refine bdn ?_ | refine bwA ?_ ?_ _ | refine bwD ?_ | refine bwS ?_ ?_ _) | omega | (simp <;> omega))) (fun HB => rfracerror_c a.n a.d c _ (by rw [H_hc.out]) ia1 ia2) ?_
    intro w1 hb1 hz1 c1 d1
    have t1 := hb1.size
    try simp only [szA] at hz1 c1 d1
    try simp only [szD] at hz1 c1 d1
    try simp only [szS] at hz1 c1 d1
    try simp only [World.heap_drewN] at hz1 c1 d1
    try simp only [szA] at hz1 c1 d1
    try simp only [szD] at hz1 c1 d1
    try simp only [szS] at hz1 c1 d1
    have s1_0 : w.heap.size < w1.heap.size := by omega
    have o1_0 := fun j => c1 (w.heap.size) j (by omega)
    have f1_0 := fun j => d1 (w.heap.size) j (by omega)
    have s1_1 : w.heap.size + 1 < w1.heap.size := by omega
    have o1_1 := fun j => c1 (w.heap.size + 1) j (by omega)
    have f1_1 := fun j => d1 (w.heap.size + 1) j (by omega)
    have s1_2 : w.heap.size + 1 + 1 < w1.heap.size := by omega
    have o1_2 := fun j => c1 (w.heap.size + 1 + 1) j (by omega)
    have f1_2 := fun j => d1 (w.heap.size + 1 + 1) j (by omega)
    clear c1 d1 hz1
    go_wp2_with fail
    refine bodyPost_ret (by simp [results, Tryz.results57, go_sem, *]; try rfl) rfl ?_
    exact ⟨by rw [frN_n H_hca.out], by repeat' (first | (with_reducible first | exact bwR _ _ | assumption | refine bdn ?_ | refine bwA ?_ ?_ _ | refine bwD ?_ | refine bwS ?_ ?_ _) | omega | (simp <;> omega))⟩
  · obtain ⟨c, hc⟩ : ∃ c, chk b.n b.d = c := ⟨_, rfl⟩
    have hk : a.mulK b = c := by rw [← hc, ← hB]; exact if_neg (by rw [hB]; exact hcb)
    rw [hk]
    rw [hc] at hcb
    have c0 : (0 : Int) < (c : Int) := by omega
    have H_hc := Lib.hid hc
    clear hc
    have H_hk := Lib.hid hk
    clear hk
    have H_hca := Lib.hid hca
    clear hca
    have H_hB := Lib.hid hB
    clear hB
    have H_hcb := Lib.hid hcb
    clear hcb
    have H_hx := Lib.hid hx
    clear hx
    go_enter Tryz.func57, Tryz.ntmps57
    go_wp2_with fail
    refine call_below (w := w) (by repeat' (first | (with_reducible first | exact bwR _ _ | assumption | refine bdn ?_ | refine bwA ?_ ?_ _ | refine bwD ?_ | refine bwS ?_ ?_ _) | omega | (simp <;> omega))) (fun HB => rfracerror_0 a.n a.d _ H_hca.out ia1 ia2) ?_
    intro w1 hb1 hz1 c1 d1
    have t1 := hb1.size
    try simp only [szA] at hz1 c1 d1
    try simp only [szD] at hz1 c1 d1
    try simp only [szS] at hz1 c1 d1
    try simp only [World.heap_drewN] at hz1 c1 d1
    try simp only [szA] at hz1 c1 d1
    try simp only [szD] at hz1 c1 d1
    try simp only [szS] at hz1 c1 d1
    have s1_0 : w.heap.size < w1.heap.size := by omega
    have o1_0 := fun j => c1 (w.heap.size) j (by omega)
    have f1_0 := fun j => d1 (w.heap.size) j (by omega)
    have s1_1 : w.heap.size + 1 < w1.heap.size := by omega
    have o1_1 := fun j => c1 (w.heap.size + 1) j (by omega)
    have f1_1 := fun j => d1 (w.heap.size + 1) j (by omega)
    have s1_2 : w.heap.size + 1 + 1 < w1.heap.size := by omega
    have o1_2 := fun j => c1 (w.heap.size + 1 + 1) j (by omega)
    have f1_2 := fun j => d1 (w.heap.size + 1 + 1) j (by omega)
    clear c1 d1 hz1
    go_wp2_with fail
    refine call_below (w := w) (by repeat' (first | (with_reducible first | exact bwR _ _ | assumption | refine bdn ?_ | refine bwA ?_ ?_ _ | refine bwD ?_ | refine bwS ?_ ?_ _) | omega | (simp <;> omega))) (fun HB => rfracerror_c b.n b.d c _ (by rw [H_hc.out]) ib1 ib2) ?_
    intro w2 hb2 hz2 c2 d2
    have t2 := hb2.size
    try simp only [szA] at hz2 c2 d2
    try simp only [szD] at hz2 c2 d2
    try simp only [szS] at hz2 c2 d2
    try simp only [World.heap_drewN] at hz2 c2 d2
    try simp only [szA] at hz2 c2 d2
    try simp only [szD] at hz2 c2 d2
    try simp only [szS] at hz2 c2 d2
    have s2_0 : w.heap.size < w2.heap.size := by omega
    have o2_0 := fun j => c2 (w.heap.size) j (by omega)
    have f2_0 := fun j => d2 (w.heap.size) j (by omega)
    have s2_1 : w.heap.size + 1 < w2.heap.size := by omega
    have o2_1 := fun j => c2 (w.heap.size + 1) j (by omega)
    have f2_1 := fun j => d2 (w.heap.size + 1) j (by omega)
    have s2_2 : w.heap.size + 1 + 1 < w2.heap.size := by omega
    have o2_2 := fun j => c2 (w.heap.size + 1 + 1) j (by omega)
    have f2_2 := fun j => d2 (w.heap.size + 1 + 1) j (by omega)
    clear c2 d2 hz2
    go_wp2_with fail
    refine bodyPost_ret (by simp [results, Tryz.results57, go_sem, *]; try rfl) rfl ?_
    exact ⟨by rw [frN_n H_hcb.out], by repeat' (first | (with_reducible first | exact bwR _ _ | assumption | refine bdn ?_ | refine bwA ?_ ?_ _ | refine bwD ?_ | refine bwS ?_ ?_ _) | omega | (simp <;> omega))⟩
  · have ra := chk_0 hca
    have rb := chk_0 hcb
    have hk : a.mulK b = lowC (mulN a b) (addD a b) := if_pos (both_R (a := a) (b := b) ra rb)
    subst hx
    rw [hk]
    obtain ⟨e3, e4, H1, H2, H3⟩ := mul_facts ra rb
    obtain ⟨p, hp⟩ : ∃ p, mulN a b = p := ⟨_, rfl⟩
    obtain ⟨q, hq⟩ : ∃ q, addD a b = q := ⟨_, rfl⟩
    replace e3 := e3.trans hp
    replace e4 := e4.trans hq
    replace H1 : B62 p := by rw [← hp]; exact H1
    replace H2 : B62 q := by rw [← hq]; exact H2
    replace H3 : q ≠ 0 := by rw [← hq]; exact H3
    have hv : a.mul b = ⟨lowN p q, lowD p q⟩ := by rw [← hp, ← hq]; rfl
    rw [hv, hp, hq]
    have H_hk := Lib.hid hk
    clear hk
    have H_hp := Lib.hid hp
    clear hp
    have H_hq := Lib.hid hq
    clear hq
    have H_hv := Lib.hid hv
    clear hv
    have H_H3 := Lib.hid H3
    clear H3
    have H_hca := Lib.hid hca
    clear hca
    have H_hcb := Lib.hid hcb
    clear hcb
    have H_ra := Lib.hid ra
    clear ra
    have H_rb := Lib.hid rb
    clear rb
    have H_hB := Lib.hid hB
    clear hB
    go_enter Tryz.func57, Tryz.ntmps57
    go_wp2_with fail
    refine call_below (w := w) (by repeat' (first | (with_reducible first | exact bwR _ _ | assumption | refine bdn ?_ | refine bwA ?_ ?_ _ | refine bwD ?_ | refine bwS ?_ ?_ _) | omega | (simp <;> omega))) (fun HB => rfracerror_0 a.n a.d _ H_hca.out ia1 ia2) ?_
    intro w1 hb1 hz1 c1 d1
    have t1 := hb1.size
    try simp only [szA] at hz1 c1 d1
    try simp only [szD] at hz1 c1 d1
    try simp only [szS] at hz1 c1 d1
    try simp only [World.heap_drewN] at hz1 c1 d1
    try simp only [szA] at hz1 c1 d1
    try simp only [szD] at hz1 c1 d1
    try simp only [szS] at hz1 c1 d1
    have s1_0 : w.heap.size < w1.heap.size := by omega
    have o1_0 := fun j => c1 (w.heap.size) j (by omega)
    have f1_0 := fun j => d1 (w.heap.size) j (by omega)
    have s1_1 : w.heap.size + 1 < w1.heap.size := by omega
    have o1_1 := fun j => c1 (w.heap.size + 1) j (by omega)
    have f1_1 := fun j => d1 (w.heap.size + 1) j (by omega)
    have s1_2 : w.heap.size + 1 + 1 < w1.heap.size := by omega
    have o1_2 := fun j => c1 (w.heap.size + 1 + 1) j (by omega)
    have f1_2 := fun j => d1 (w.heap.size + 1 + 1) j (by omega)
    clear c1 d1 hz1
    go_wp2_with fail
    refine call_below (w := w) (by repeat' (first | (with_reducible first | exact bwR _ _ | assumption | refine bdn ?_ | refine bwA ?_ ?_ _ | refine bwD ?_ | refine bwS ?_ ?_ _) | omega | (simp <;> omega))) (fun HB => rfracerror_0 b.n b.d _ H_hcb.out ib1 ib2) ?_
    intro w2 hb2 hz2 c2 d2
    have t2 := hb2.size
    try simp only [szA] at hz2 c2 d2
    try simp only [szD] at hz2 c2 d2
    try simp only [szS] at hz2 c2 d2
    try simp only [World.heap_drewN] at hz2 c2 d2
    try simp only [szA] at hz2 c2 d2
    try simp only [szD] at hz2 c2 d2
    try simp only [szS] at hz2 c2 d2
    have s2_0 : w.heap.size < w2.heap.size := by omega
    have o2_0 := fun j => c2 (w.heap.size) j (by omega)
    have f2_0 := fun j => d2 (w.heap.size) j (by omega)
    have s2_1 : w.heap.size + 1 < w2.heap.size := by omega
    have o2_1 := fun j => c2 (w.heap.size + 1) j (by omega)
    have f2_1 := fun j => d2 (w.heap.size + 1) j (by omega)
    have s2_2 : w.heap.size + 1 + 1 < w2.heap.size := by omega
    have o2_2 := fun j => c2 (w.heap.size + 1 + 1) j (by omega)
    have f2_2 := fun j => d2 (w.heap.size + 1 + 1) j (by omega)
    clear c2 d2 hz2
    go_wp2_with fail
    refine call_below (w := w) (by repeat' (first | (with_reducible first | exact bwR _ _ | assumption | refine bdn ?_ | refine bwA ?_ ?_ _ | refine bwD ?_ | refine bwS ?_ ?_ _) | omega | (simp <;> omega))) (fun HB => rlowest_any p q _ H1 H2 H_H3.out) ?_
    intro w3 hb3 hz3 c3 d3
    have t3 := hb3.size
    try simp only [szA] at hz3 c3 d3
    try simp only [szD] at hz3 c3 d3
    try simp only [szS] at hz3 c3 d3
    try simp only [World.heap_drewN] at hz3 c3 d3
    try simp only [szA] at hz3 c3 d3
    try simp only [szD] at hz3 c3 d3
    try simp only [szS] at hz3 c3 d3
    have s3_0 : w.heap.size < w3.heap.size := by omega
    have o3_0 := fun j => c3 (w.heap.size) j (by omega)
    have f3_0 := fun j => d3 (w.heap.size) j (by omega)
    have s3_1 : w.heap.size + 1 < w3.heap.size := by omega
    have o3_1 := fun j => c3 (w.heap.size + 1) j (by omega)
    have f3_1 := fun j => d3 (w.heap.size + 1) j (by omega)
    have s3_2 : w.heap.size + 1 + 1 < w3.heap.size := by omega
    have o3_2 := fun j => c3 (w.heap.size + 1 + 1) j (by omega)
    have f3_2 := fun j => d3 (w.heap.size + 1 + 1) j (by omega)
    clear c3 d3 hz3
    rw [frN]
    go_wp2_with fail
    refine bodyPost_ret (by simp [results, Tryz.results57, go_sem, *]; try rfl) rfl ?_
    exact ⟨by rfl, by repeat' (first | (with_reducible first | exact bwR _ _ | assumption | refine bdn ?_ | refine bwA ?_ ?_ _ | refine bwD ?_ | refine bwS ?_ ?_ _) | omega | (simp <;> omega))⟩
set_option maxHeartbeats 1000000 in
theorem rdo_div (a b x : Fr) (w : World) (ia : a.I) (ib : b.I) (hx : a.div b = x) :
    Calls Tryz.prog 57 #[.int .u8 47, .agg #[.int .i64 a.n, .int .i64 a.d], .agg #[.int .i64 b.n, .int .i64 b.d]] w fun e w' =>
      e = .returned (frN (a.divK b) x.n x.d) ∧ Below w.heap.size w w' := by
  obtain ⟨ia1, ia2⟩ := ia
  obtain ⟨ib1, ib2⟩ := ib
  rcases both_cases a.n a.d b.n b.d with ⟨hca, hB⟩ | ⟨hca, hcb, hB⟩ | ⟨hca, hcb, hB⟩
  · obtain ⟨c, hc⟩ : ∃ c, chk a.n a.d = c := ⟨_, rfl⟩
    have hk : a.divK b = c := by rw [← hc, ← hB]; exact if_neg (by rw [hB]; exact hca)
    rw [hk]
    rw [hc] at hca
    have c0 : (0 : Int) < (c : Int) := by omega
    have c1 : ((c : Int) == 0) = false := by rw [beq_eq_false_iff_ne]; omega
    have H_hc := Lib.hid hc
    clear hc
    have H_hk := Lib.hid hk
    clear hk
    have H_hB := Lib.hid hB
    clear hB
    have H_hca := Lib.hid hca
    clear hca
    have H_hx := Lib.hid hx
    clear hx
    go_enter Tryz.func57, Tryz.ntmps57
    go_wp2_with fail
    refine call_below (w := w) (by repeat' (first | (with_reducible first | exact bwR _ _ | assumption | refine bdn ?_ | refine bwA ?_ ?_ _ | refine bwD ?_ | refine bwS ?_ ?_ _) | omega | (simp <;> omega))) (fun HB => rfracerror_c a.n a.d c _ (by rw [H_hc.out]) ia1 ia2) ?_
    intro w1 hb1 hz1 c1 d1
    have t1 := hb1.size
    try simp only [szA] at hz1 c1 d1
    try simp only [szD] at hz1 c1 d1
    try simp only [szS] at hz1 c1 d1
    try simp only [World.heap_drewN] at hz1 c1 d1
    try simp only [szA] at hz1 c1 d1
    try simp only [szD] at hz1 c1 d1
    try simp only [szS] at hz1 c1 d1
    have s1_0 : w.heap.size < w1.heap.size := by omega
    have o1_0 := fun j => c1 (w.heap.size) j (by omega)
    have f1_0 := fun j => d1 (w.heap.size) j (by omega)
    have s1_1 : w.heap.size + 1 < w1.heap.size := by omega
    have o1_1 := fun j => c1 (w.heap.size + 1) j (by omega)
    have f1_1 := fun j => d1 (w.heap.size + 1) j (by omega)
    have s1_2 : w.heap.size + 1 + 1 < w1.heap.size := by omega
    have o1_2 := fun j => c1 (w.heap.size + 1 + 1) j (by omega)
    have f1_2 := fun j => d1 (w.heap.size + 1 + 1) j (by omega)
    clear c1 d1 hz1
    go_wp2_with fail
    refine bodyPost_ret (by simp [results, Tryz.results57, go_sem, *]; try rfl) rfl ?_
    exact ⟨by rw [frN_n H_hca.out], by repeat' (first | (with_reducible first | exact bwR _ _ | assumption | refine bdn ?_ | refine bwA ?_ ?_ _ | refine bwD ?_ | refine bwS ?_ ?_ _) | omega | (simp <;> omega))⟩
  · obtain ⟨c, hc⟩ : ∃ c, chk b.n b.d = c := ⟨_, rfl⟩
    have hk : a.divK b = c := by rw [← hc, ← hB]; exact if_neg (by rw [hB]; exact hcb)
    rw [hk]
    rw [hc] at hcb
    have c0 : (0 : Int) < (c : Int) := by omega
    have H_hc := Lib.hid hc
    clear hc
    have H_hk := Lib.hid hk
    clear hk
    have H_hca := Lib.hid hca
    clear hca
    have H_hB := Lib.hid hB
    clear hB
    have H_hcb := Lib.hid hcb
    clear hcb
    have H_hx := Lib.hid hx
    clear hx
    go_enter Tryz.func57, Tryz.ntmps57
    go_wp2_with fail
    refine call_below (w := w) (by repeat' (first | (with_reducible first | exact bwR _ _ | assumption | refine bdn ?_ | refine bwA ?_ ?_ _ | refine bwD ?_ | refine bwS ?_ ?_ _) | omega | (simp <;> omega))) (fun HB => rfracerror_0 a.n a.d _ H_hca.out ia1 ia2) ?_
    intro w1 hb1 hz1 c1 d1
    have t1 := hb1.size
    try simp only [szA] at hz1 c1 d1
    try simp only [szD] at hz1 c1 d1
    try simp only [szS] at hz1 c1 d1
    try simp only [World.heap_drewN] at hz1 c1 d1
    try simp only [szA] at hz1 c1 d1
    try simp only [szD] at hz1 c1 d1
    try simp only [szS] at hz1 c1 d1
    have s1_0 : w.heap.size < w1.heap.size := by omega
    have o1_0 := fun j => c1 (w.heap.size) j (by omega)
    have f1_0 := fun j => d1 (w.heap.size) j (by omega)
    have s1_1 : w.heap.size + 1 < w1.heap.size := by omega
    have o1_1 := fun j => c1 (w.heap.size + 1) j (by omega)
    have f1_1 := fun j => d1 (w.heap.size + 1) j (by omega)
    have s1_2 : w.heap.size + 1 + 1 < w1.heap.size := by omega
    have o1_2 := fun j => c1 (w.heap.size + 1 + 1) j (by omega)
    have f1_2 := fun j => d1 (w.heap.size + 1 + 1) j (by omega)
    clear c1 d1 hz1
    go_wp2_with fail
    refine call_below (w := w) (by repeat' (first | (with_reducible first | exact bwR _ _ | assumption | refine bdn ?_ | refine bwA ?_ ?_ _ | refine bwD ?_ | refine bwS ?_ ?_ _) | omega | (simp <;> omega))) (fun HB => rfracerror_c b.n b.d c _ (by rw [H_hc.out]) ib1 ib2) ?_
    intro w2 hb2 hz2 c2 d2
    have t2 := hb2.size
    try simp only [szA] at hz2 c2 d2
    try simp only [szD] at hz2 c2 d2
    try simp only [szS] at hz2 c2 d2
    try simp only [World.heap_drewN] at hz2 c2 d2
    try simp only [szA] at hz2 c2 d2
    try simp only [szD] at hz2 c2 d2
    try simp only [szS] at hz2 c2 d2
    have s2_0 : w.heap.size < w2.heap.size := by omega
    have o2_0 := fun j => c2 (w.heap.size) j (by omega)
    have f2_0 := fun j => d2 (w.heap.size) j (by omega)
    have s2_1 : w.heap.size + 1 < w2.heap.size := by omega
    have o2_1 := fun j => c2 (w.heap.size + 1) j (by omega)
    have f2_1 := fun j => d2 (w.heap.size + 1) j (by omega)
    have s2_2 : w.heap.size + 1 + 1 < w2.heap.size := by omega
    have o2_2 := fun j => c2 (w.heap.size + 1 + 1) j (by omega)
    have f2_2 := fun j => d2 (w.heap.size + 1 + 1) j (by omega)
    clear c2 d2 hz2
    go_wp2_with fail
    refine bodyPost_ret (by simp [results, Tryz.results57, go_sem, *]; try rfl) rfl ?_
    exact ⟨by rw [frN_n H_hcb.out], by repeat' (first | (with_reducible first | exact bwR _ _ | assumption | refine bdn ?_ | refine bwA ?_ ?_ _ | refine bwD ?_ | refine bwS ?_ ?_ _) | omega | (simp <;> omega))⟩
  · have ra := chk_0 hca
    have rb := chk_0 hcb
    by_cases hz : b.n = 0
    · have hz' : (b.n == 0) = true := by simp [hz]
      have hk : a.divK b = 11 := by unfold Fr.divK divC; rw [if_pos (both_R (a := a) (b := b) ra rb), if_pos hz]
      rw [hk]
      have H_hk := Lib.hid hk
      clear hk
      have H_hca := Lib.hid hca
      clear hca
      have H_hcb := Lib.hid hcb
      clear hcb
      have H_ra := Lib.hid ra
      clear ra
      have H_rb := Lib.hid rb
      clear rb
      have H_hB := Lib.hid hB
      clear hB
      have H_hz := Lib.hid hz
      clear hz
      have H_hx := Lib.hid hx
      clear hx
      go_enter Tryz.func57, Tryz.ntmps57
      go_wp2_with fail
      refine call_below (w := w) (by repeat' (first | (with_reducible first | exact bwR _ _ | assumption | refine bdn ?_ | refine bwA ?_ ?_ _ | refine bwD ?_ | refine bwS ?_ ?_ _) | omega | (simp <;> omega))) (fun HB => rfracerror_0 a.n a.d _ H_hca.out ia1 ia2) ?_
      intro w1 hb1 hz1 c1 d1
      have t1 := hb1.size
      try simp only [szA] at hz1 c1 d1
      try simp only [szD] at hz1 c1 d1
      try simp only [szS] at hz1 c1 d1
      try simp only [World.heap_drewN] at hz1 c1 d1
      try simp only [szA] at hz1 c1 d1
      try simp only [szD] at hz1 c1 d1
      try simp only [szS] at hz1 c1 d1
      have s1_0 : w.heap.size < w1.heap.size := by omega
      have o1_0 := fun j => c1 (w.heap.size) j (by omega)
      have f1_0 := fun j => d1 (w.heap.size) j (by omega)
      have s1_1 : w.heap.size + 1 < w1.heap.size := by omega
      have o1_1 := fun j => c1 (w.heap.size + 1) j (by omega)
      have f1_1 := fun j => d1 (w.heap.size + 1) j (by omega)
      have s1_2 : w.heap.size + 1 + 1 < w1.heap.size := by omega
      have o1_2 := fun j => c1 (w.heap.size + 1 + 1) j (by omega)
      have f1_2 := fun j => d1 (w.heap.size + 1 + 1) j (by omega)
      clear c1 d1 hz1
      go_wp2_with fail
      refine call_below (w := w) (by repeat' (first | (with_reducible first | exact bwR _ _ | assumption | refine bdn ?_ | refine bwA ?_ ?_ _ | refine bwD ?_ | refine bwS ?_ ?_ _) | omega | (simp <;> omega))) (fun HB => rfracerror_0 b.n b.d _ H_hcb.out ib1 ib2) ?_
      intro w2 hb2 hz2 c2 d2
      have t2 := hb2.size
      try simp only [szA] at hz2 c2 d2
      try simp only [szD] at hz2 c2 d2
      try simp only [szS] at hz2 c2 d2
      try simp only [World.heap_drewN] at hz2 c2 d2
      try simp only [szA] at hz2 c2 d2
      try simp only [szD] at hz2 c2 d2
      try simp only [szS] at hz2 c2 d2
      have s2_0 : w.heap.size < w2.heap.size := by omega
      have o2_0 := fun j => c2 (w.heap.size) j (by omega)
      have f2_0 := fun j => d2 (w.heap.size) j (by omega)
      have s2_1 : w.heap.size + 1 < w2.heap.size := by omega
      have o2_1 := fun j => c2 (w.heap.size + 1) j (by omega)
      have f2_1 := fun j => d2 (w.heap.size + 1) j (by omega)
      have s2_2 : w.heap.size + 1 + 1 < w2.heap.size := by omega
      have o2_2 := fun j => c2 (w.heap.size + 1 + 1) j (by omega)
      have f2_2 := fun j => d2 (w.heap.size + 1 + 1) j (by omega)
      clear c2 d2 hz2
      go_wp2_with fail
      refine bodyPost_ret (by simp [results, Tryz.results57, go_sem, *]; try rfl) rfl ?_
      exact ⟨by rw [frN_n (by decide)]; rfl, by repeat' (first | (with_reducible first | exact bwR _ _ | assumption | refine bdn ?_ | refine bwA ?_ ?_ _ | refine bwD ?_ | refine bwS ?_ ?_ _) | omega | (simp <;> omega))⟩
    have hz' : (b.n == 0) = false := by simp [hz]
    have hk : a.divK b = lowC (divN a b) (divD a b) := by unfold Fr.divK divC; rw [if_pos (both_R (a := a) (b := b) ra rb), if_neg hz]
    subst hx
    rw [hk]
    obtain ⟨e3, e4, H1, H2, H3⟩ := div_facts ra rb hz
    obtain ⟨p, hp⟩ : ∃ p, divN a b = p := ⟨_, rfl⟩
    obtain ⟨q, hq⟩ : ∃ q, divD a b = q := ⟨_, rfl⟩
    replace e3 := e3.trans hp
    replace e4 := e4.trans hq
    replace H1 : B62 p := by rw [← hp]; exact H1
    replace H2 : B62 q := by rw [← hq]; exact H2
    replace H3 : q ≠ 0 := by rw [← hq]; exact H3
    have hv : a.div b = ⟨lowN p q, lowD p q⟩ := by rw [← hp, ← hq]; rfl
    rw [hv, hp, hq]
    have H_hk := Lib.hid hk
    clear hk
    have H_hp := Lib.hid hp
    clear hp
    have H_hq := Lib.hid hq
    clear hq
    have H_hv := Lib.hid hv
    clear hv
    have H_H3 := Lib.hid H3
    clear H3
    have H_hca := Lib.hid hca
    clear hca
    have H_hcb := Lib.hid hcb
    clear hcb
    have H_ra := Lib.hid ra
    clear ra
    have H_rb := Lib.hid rb
    clear rb
    have H_hB := Lib.hid hB
    clear hB
    have H_hz := Lib.hid hz
    clear hz
    go_enter Tryz.func57, Tryz.ntmps57
    go_wp2_with fail
    refine call_below (w := w) (by repeat' (first | (with_reducible first | exact bwR _ _ | assumption | refine bdn ?_ | refine bwA ?_ ?_ _ | refine bwD ?_ | refine bwS ?_ ?_ _) | omega | (simp <;> omega))) (fun HB => rfracerror_0 a.n a.d _ H_hca.out ia1 ia2) ?_
    intro w1 hb1 hz1 c1 d1
    have t1 := hb1.size
    try simp only [szA] at hz1 c1 d1
    try simp only [szD] at hz1 c1 d1
    try simp only [szS] at hz1 c1 d1
    try simp only [World.heap_drewN] at hz1 c1 d1
    try simp only [szA] at hz1 c1 d1
    try simp only [szD] at hz1 c1 d1
    try simp only [szS] at hz1 c1 d1
    have s1_0 : w.heap.size < w1.heap.size := by omega
    have o1_0 := fun j => c1 (w.heap.size) j (by omega)
    have f1_0 := fun j => d1 (w.heap.size) j (by omega)
    have s1_1 : w.heap.size + 1 < w1.heap.size := by omega
    have o1_1 := fun j => c1 (w.heap.size + 1) j (by omega)
    have f1_1 := fun j => d1 (w.heap.size + 1) j (by omega)
    have s1_2 : w.heap.size + 1 + 1 < w1.heap.size := by omega
    have o1_2 := fun j => c1 (w.heap.size + 1 + 1) j (by omega)
    have f1_2 := fun j => d1 (w.heap.size + 1 + 1) j (by omega)
    clear c1 d1 hz1
    go_wp2_with fail
    refine call_below (w := w) (by repeat' (first | (with_reducible first | exact bwR _ _ | assumption | refine bdn ?_ | refine bwA ?_ ?_ _ | refine bwD ?_ | refine bwS ?_ ?_ _) | omega | (simp <;> omega))) (fun HB => rfracerror_0 b.n b.d _ H_hcb.out ib1 ib2) ?_
    intro w2 hb2 hz2 c2 d2
    have t2 := hb2.size
    try simp only [szA] at hz2 c2 d2
    try simp only [szD] at hz2 c2 d2
    try simp only [szS] at hz2 c2 d2
    try simp only [World.heap_drewN] at hz2 c2 d2
    try simp only [szA] at hz2 c2 d2
    try simp only [szD] at hz2 c2 d2
    try simp only [szS] at hz2 c2 d2
    have s2_0 : w.heap.size < w2.heap.size := by omega
    have o2_0 := fun j => c2 (w.heap.size) j (by omega)
    have f2_0 := fun j => d2 (w.heap.size) j (by omega)
    have s2_1 : w.heap.size + 1 < w2.heap.size := by omega
    have o2_1 := fun j => c2 (w.heap.size + 1) j (by omega)
    have f2_1 := fun j => d2 (w.heap.size + 1) j (by omega)
    have s2_2 : w.heap.size + 1 + 1 < w2.heap.size := by omega
    have o2_2 := fun j => c2 (w.heap.size + 1 + 1) j (by omega)
    have f2_2 := fun j => d2 (w.heap.size + 1 + 1) j (by omega)
    clear c2 d2 hz2
    go_wp2_with fail
    refine call_below (w := w) (by repeat' (first | (with_reducible first | exact bwR _ _ | assumption | refine bdn ?_ | refine bwA ?_ ?_ _ | refine bwD ?_ | refine bwS ?_ ?_ _) | omega | (simp <;> omega))) (fun HB => rlowest_any p q _ H1 H2 H_H3.out) ?_
    intro w3 hb3 hz3 c3 d3
    have t3 := hb3.size
    try simp only [szA] at hz3 c3 d3
    try simp only [szD] at hz3 c3 d3
    try simp only [szS] at hz3 c3 d3
    try simp only [World.heap_drewN] at hz3 c3 d3
    try simp only [szA] at hz3 c3 d3
    try simp only [szD] at hz3 c3 d3
    try simp only [szS] at hz3 c3 d3
    have s3_0 : w.heap.size < w3.heap.size := by omega
    have o3_0 := fun j => c3 (w.heap.size) j (by omega)
    have f3_0 := fun j => d3 (w.heap.size) j (by omega)
    have s3_1 : w.heap.size + 1 < w3.heap.size := by omega
    have o3_1 := fun j => c3 (w.heap.size + 1) j (by omega)
    have f3_1 := fun j => d3 (w.heap.size + 1) j (by omega)
    have s3_2 : w.heap.size + 1 + 1 < w3.heap.size := by omega
    have o3_2 := fun j => c3 (w.heap.size + 1 + 1) j (by omega)
    have f3_2 := fun j => d3 (w.heap.size + 1 + 1) j (by omega)
    clear c3 d3 hz3
    rw [frN]
    go_wp2_with fail
    refine bodyPost_ret (by simp [results, Tryz.results57, go_sem, *]; try rfl) rfl ?_
    exact ⟨by rfl, by repeat' (first | (with_reducible first | exact bwR _ _ | assumption | refine bdn ?_ | refine bwA ?_ ?_ _ | refine bwD ?_ | refine bwS ?_ ?_ _) | omega | (simp <;> omega))⟩
end Go.Proofs.YtpdaenldmgpkjaaGreatDoor
