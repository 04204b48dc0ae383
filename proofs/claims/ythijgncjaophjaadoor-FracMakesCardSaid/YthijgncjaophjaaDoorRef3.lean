/-
  Walks over the document's answer: lowest, FracDo.
-/
import Derived.Test.YthijgncjaophjaaDoorRef2
import Derived.Test.YthijgncjaophjaaDoorPl11
import Derived.Test.YthijgncjaophjaaDoorCode3
namespace Go.Proofs.YthijgncjaophjaaDoor
open Go.RowKit Lead

theorem rdivisor_g (a b g : Int) (w : World) (ha : I64 a) (hb : I64 b) (h1 : 1 ≤ b) (h : (Int.gcd a b : Int) = g) :
    Calls Tryd.prog 90 #[.int .i64 a, .int .i64 b] w fun e w' => e = .returned (.int .i64 g) ∧ ∃ n, w' = w.drewN n :=
  (rdivisor_n a b w ha hb h1).mono fun e w' ⟨h2, h3⟩ => ⟨by rw [h2, h], h3⟩

set_option maxHeartbeats 1000000 in
theorem rlowest_c (n d x y : Int) (c : Nat) (w : World) (hn : B62 n) (hd : B62 d) (h0 : d ≠ 0) (hx : I64 x) (hy : I64 y) (ex : lowN n d = x) (ey : lowD n d = y) (hc : chk x y = c) (hc2 : c ≠ 0 → c = 2) :
    Calls Tryd.prog 88 #[.int .i64 n, .int .i64 d] w fun e w' => e = .returned (frN c x y) ∧ Below w.heap.size w w' := by
  by_cases h1 : d < 0
  · obtain ⟨e1, e2⟩ := low_neg (n := n) h1
    rw [ex] at e1
    rw [ey] at e2
    have wn := neg_wrapB hn
    have wd := neg_wrapB hd
    have bn := hn.neg
    have bd := hd.neg
    have h1' : (1 : Int) ≤ -d := by omega
    obtain ⟨n', hn'⟩ : ∃ n', -n = n' := ⟨_, rfl⟩
    obtain ⟨d', hd'⟩ : ∃ d', -d = d' := ⟨_, rfl⟩
    rw [hn', hd'] at e1 e2
    have wn' : wrap64 (-n) = n' := wn.trans hn'
    have wd' : wrap64 (-d) = d' := wd.trans hd'
    rw [hn'] at bn
    rw [hd'] at bd h1'
    obtain ⟨g, hg⟩ : ∃ g : Int, (Int.gcd n' d' : Int) = g := ⟨_, rfl⟩
    have gb := (gcd_b62 (n := n') bd (by omega)).1
    rw [hg] at e1 e2 gb
    have g0 : (g == 0) = false := by simp; omega
    have f1 : wrap64 (n'.tdiv g) = x := (wrap_tdiv bn).trans e1
    have f2 : wrap64 (d'.tdiv g) = y := (wrap_tdiv bd).trans e2
    clear e1 e2 wn wd hn' hd'
    have H_ex := Lib.hid ex
    have H_ey := Lib.hid ey
    clear ex ey
    rcases Nat.eq_zero_or_pos c with hc0 | hc0
    · subst hc0
      have hcz : z0 0 x = x := z0_0 rfl
      have hcy : z0 0 y = y := z0_0 rfl
      have H_hc := Lib.hid hc
      clear hc
      have H_hg := Lib.hid hg
      clear hg
      have H_hcz := Lib.hid hcz
      clear hcz
      have H_hcy := Lib.hid hcy
      clear hcy
      go_enter Tryd.func88, Tryd.ntmps88
      go_wp2_with fail
      refine (rdivisor_g _ _ _ _ bn.i64 bd.i64 h1' H_hg.out).mono ?_
      rintro _ _ ⟨rfl, _, rfl⟩
      go_wp2_with fail
      go_region
      go_wp2_with fail
      refine call_below (w := w) (by repeat' (first | (with_reducible exact Below.refl _ _) | (with_reducible assumption) | (with_reducible refine bdn ?_) | (with_reducible refine Below.alloc ?_ ?_ _) | (with_reducible refine Below.drew ?_) | (with_reducible refine Below.setCell ?_ ?_ _) | omega | (simp <;> omega))) (fun HB => rfracerror_0 x y _ H_hc.out hx hy) ?_
      intro w1 hb1 hz1 c1 d1
      have t1 := hb1.size
      try simp only [World.size_alloc] at hz1 c1 d1
      try simp only [World.size_drew] at hz1 c1 d1
      try simp only [World.size_setCell] at hz1 c1 d1
      try simp only [World.heap_drewN] at hz1 c1 d1
      try simp only [World.size_alloc] at hz1 c1 d1
      try simp only [World.size_drew] at hz1 c1 d1
      try simp only [World.size_setCell] at hz1 c1 d1
      have s1_0 : w.heap.size < w1.heap.size := by omega
      have o1_0 := fun j => c1 (w.heap.size) j (by omega)
      have f1_0 := fun j => d1 (w.heap.size) j (by omega)
      have s1_1 : w.heap.size + 1 < w1.heap.size := by omega
      have o1_1 := fun j => c1 (w.heap.size + 1) j (by omega)
      have f1_1 := fun j => d1 (w.heap.size + 1) j (by omega)
      clear c1 d1 hz1
      go_wp2_with fail
      refine bodyPost_ret (by simp [results, Tryd.results88, go_sem, *]; try rfl) rfl ?_
      exact ⟨by rw [frN_0 rfl], by repeat' (first | (with_reducible exact Below.refl _ _) | (with_reducible assumption) | (with_reducible refine bdn ?_) | (with_reducible refine Below.alloc ?_ ?_ _) | (with_reducible refine Below.drew ?_) | (with_reducible refine Below.setCell ?_ ?_ _) | omega | (simp <;> omega))⟩
    · have hcz : (0 : Int) < (c : Int) := by omega
      have H_hc := Lib.hid hc
      clear hc
      have H_hg := Lib.hid hg
      clear hg
      have H_hc2 := Lib.hid hc2
      clear hc2
      go_enter Tryd.func88, Tryd.ntmps88
      go_wp2_with fail
      refine (rdivisor_g _ _ _ _ bn.i64 bd.i64 h1' H_hg.out).mono ?_
      rintro _ _ ⟨rfl, _, rfl⟩
      go_wp2_with fail
      go_region
      go_wp2_with fail
      refine call_below (w := w) (by repeat' (first | (with_reducible exact Below.refl _ _) | (with_reducible assumption) | (with_reducible refine bdn ?_) | (with_reducible refine Below.alloc ?_ ?_ _) | (with_reducible refine Below.drew ?_) | (with_reducible refine Below.setCell ?_ ?_ _) | omega | (simp <;> omega))) (fun HB => rfracerror_c x y c _ (by rw [H_hc.out]) hx hy) ?_
      intro w1 hb1 hz1 c1 d1
      have t1 := hb1.size
      try simp only [World.size_alloc] at hz1 c1 d1
      try simp only [World.size_drew] at hz1 c1 d1
      try simp only [World.size_setCell] at hz1 c1 d1
      try simp only [World.heap_drewN] at hz1 c1 d1
      try simp only [World.size_alloc] at hz1 c1 d1
      try simp only [World.size_drew] at hz1 c1 d1
      try simp only [World.size_setCell] at hz1 c1 d1
      have s1_0 : w.heap.size < w1.heap.size := by omega
      have o1_0 := fun j => c1 (w.heap.size) j (by omega)
      have f1_0 := fun j => d1 (w.heap.size) j (by omega)
      have s1_1 : w.heap.size + 1 < w1.heap.size := by omega
      have o1_1 := fun j => c1 (w.heap.size + 1) j (by omega)
      have f1_1 := fun j => d1 (w.heap.size + 1) j (by omega)
      clear c1 d1 hz1
      go_wp2_with fail
      refine bodyPost_ret (by simp [results, Tryd.results88, go_sem, *]; try rfl) rfl ?_
      exact ⟨by rw [frN_n (by omega), H_hc2.out (by omega)]; rfl, by repeat' (first | (with_reducible exact Below.refl _ _) | (with_reducible assumption) | (with_reducible refine bdn ?_) | (with_reducible refine Below.alloc ?_ ?_ _) | (with_reducible refine Below.drew ?_) | (with_reducible refine Below.setCell ?_ ?_ _) | omega | (simp <;> omega))⟩
  · obtain ⟨e1, e2⟩ := low_pos (n := n) h1
    rw [ex] at e1
    rw [ey] at e2
    obtain ⟨g, hg⟩ : ∃ g : Int, (Int.gcd n d : Int) = g := ⟨_, rfl⟩
    have gb := (gcd_b62 (n := n) hd h0).1
    rw [hg] at e1 e2 gb
    have g0 : (g == 0) = false := by simp; omega
    have f1 : wrap64 (n.tdiv g) = x := (wrap_tdiv hn).trans e1
    have f2 : wrap64 (d.tdiv g) = y := (wrap_tdiv hd).trans e2
    have h1' : 1 ≤ d := by omega
    clear e1 e2
    have H_ex := Lib.hid ex
    have H_ey := Lib.hid ey
    clear ex ey
    rcases Nat.eq_zero_or_pos c with hc0 | hc0
    · subst hc0
      have hcz : z0 0 x = x := z0_0 rfl
      have hcy : z0 0 y = y := z0_0 rfl
      have H_hc := Lib.hid hc
      clear hc
      have H_hg := Lib.hid hg
      clear hg
      have H_hcz := Lib.hid hcz
      clear hcz
      have H_hcy := Lib.hid hcy
      clear hcy
      go_enter Tryd.func88, Tryd.ntmps88
      go_wp2_with fail
      refine (rdivisor_g _ _ _ _ hn.i64 hd.i64 h1' H_hg.out).mono ?_
      rintro _ _ ⟨rfl, _, rfl⟩
      go_wp2_with fail
      go_region
      go_wp2_with fail
      refine call_below (w := w) (by repeat' (first | (with_reducible exact Below.refl _ _) | (with_reducible assumption) | (with_reducible refine bdn ?_) | (with_reducible refine Below.alloc ?_ ?_ _) | (with_reducible refine Below.drew ?_) | (with_reducible refine Below.setCell ?_ ?_ _) | omega | (simp <;> omega))) (fun HB => rfracerror_0 x y _ H_hc.out hx hy) ?_
      intro w1 hb1 hz1 c1 d1
      have t1 := hb1.size
      try simp only [World.size_alloc] at hz1 c1 d1
      try simp only [World.size_drew] at hz1 c1 d1
      try simp only [World.size_setCell] at hz1 c1 d1
      try simp only [World.heap_drewN] at hz1 c1 d1
      try simp only [World.size_alloc] at hz1 c1 d1
      try simp only [World.size_drew] at hz1 c1 d1
      try simp only [World.size_setCell] at hz1 c1 d1
      have s1_0 : w.heap.size < w1.heap.size := by omega
      have o1_0 := fun j => c1 (w.heap.size) j (by omega)
      have f1_0 := fun j => d1 (w.heap.size) j (by omega)
      have s1_1 : w.heap.size + 1 < w1.heap.size := by omega
      have o1_1 := fun j => c1 (w.heap.size + 1) j (by omega)
      have f1_1 := fun j => d1 (w.heap.size + 1) j (by omega)
      clear c1 d1 hz1
      go_wp2_with fail
      refine bodyPost_ret (by simp [results, Tryd.results88, go_sem, *]; try rfl) rfl ?_
      exact ⟨by rw [frN_0 rfl], by repeat' (first | (with_reducible exact Below.refl _ _) | (with_reducible assumption) | (with_reducible refine bdn ?_) | (with_reducible refine Below.alloc ?_ ?_ _) | (with_reducible refine Below.drew ?_) | (with_reducible refine Below.setCell ?_ ?_ _) | omega | (simp <;> omega))⟩
    · have hcz : (0 : Int) < (c : Int) := by omega
      have H_hc := Lib.hid hc
      clear hc
      have H_hg := Lib.hid hg
      clear hg
      have H_hc2 := Lib.hid hc2
      clear hc2
      go_enter Tryd.func88, Tryd.ntmps88
      go_wp2_with fail
      refine (rdivisor_g _ _ _ _ hn.i64 hd.i64 h1' H_hg.out).mono ?_
      rintro _ _ ⟨rfl, _, rfl⟩
      go_wp2_with fail
      go_region
      go_wp2_with fail
      refine call_below (w := w) (by repeat' (first | (with_reducible exact Below.refl _ _) | (with_reducible assumption) | (with_reducible refine bdn ?_) | (with_reducible refine Below.alloc ?_ ?_ _) | (with_reducible refine Below.drew ?_) | (with_reducible refine Below.setCell ?_ ?_ _) | omega | (simp <;> omega))) (fun HB => rfracerror_c x y c _ (by rw [H_hc.out]) hx hy) ?_
      intro w1 hb1 hz1 c1 d1
      have t1 := hb1.size
      try simp only [World.size_alloc] at hz1 c1 d1
      try simp only [World.size_drew] at hz1 c1 d1
      try simp only [World.size_setCell] at hz1 c1 d1
      try simp only [World.heap_drewN] at hz1 c1 d1
      try simp only [World.size_alloc] at hz1 c1 d1
      try simp only [World.size_drew] at hz1 c1 d1
      try simp only [World.size_setCell] at hz1 c1 d1
      have s1_0 : w.heap.size < w1.heap.size := by omega
      have o1_0 := fun j => c1 (w.heap.size) j (by omega)
      have f1_0 := fun j => d1 (w.heap.size) j (by omega)
      have s1_1 : w.heap.size + 1 < w1.heap.size := by omega
      have o1_1 := fun j => c1 (w.heap.size + 1) j (by omega)
      have f1_1 := fun j => d1 (w.heap.size + 1) j (by omega)
      clear c1 d1 hz1
      go_wp2_with fail
      refine bodyPost_ret (by simp [results, Tryd.results88, go_sem, *]; try rfl) rfl ?_
      exact ⟨by rw [frN_n (by omega), H_hc2.out (by omega)]; rfl, by repeat' (first | (with_reducible exact Below.refl _ _) | (with_reducible assumption) | (with_reducible refine bdn ?_) | (with_reducible refine Below.alloc ?_ ?_ _) | (with_reducible refine Below.drew ?_) | (with_reducible refine Below.setCell ?_ ?_ _) | omega | (simp <;> omega))⟩
theorem rlowest_any (n d : Int) (w : World) (hn : B62 n) (hd : B62 d) (h0 : d ≠ 0) :
    Calls Tryd.prog 88 #[.int .i64 n, .int .i64 d] w fun e w' => e = .returned (frN (lowC n d) (lowN n d) (lowD n d)) ∧ Below w.heap.size w w' :=
  rlowest_c n d _ _ _ w hn hd h0 (lowN_i64 hn) (lowD_i64 hd) rfl rfl (chk_low h0) (fun h => by
    rcases lowC_cases n d with ⟨_, h'⟩ | ⟨_, _, h'⟩ | ⟨_, _, h'⟩
    · exact h'
    · exact h'
    · exact absurd h' h)

end Go.Proofs.YthijgncjaophjaaDoor
