/-
  Walks over package frac: lowest, Add, Sub, Mul, Div, Cmp.
-/
import Derived.Test.YthijgncjaophjaaDoorFrac2
namespace Go.Proofs.YthijgncjaophjaaDoor
open Go.RowKit Lead

theorem fsmall_b (a : Int) (b : Bool) (w : World) (h : sml a = b) : Calls Tryd.prog 85 #[.int .i64 a] w fun e w' => e = .returned (.bool b) ∧ w = w' :=
  (fsmall_any a w).mono fun e w' ⟨h1, h2⟩ => ⟨by rw [h1]; exact congrArg (fun b => Ending.returned (Value.bool b)) h, h2⟩

set_option maxHeartbeats 400000 in
theorem flowest_any (ea : Nat → Addr) (n d : Int) (w : World) (hn : B62 n) (hd : B62 d) (h0 : d ≠ 0) (hBound : w.cell? ⟨1, 0, none⟩ = some (.iface 312 (.pointer (some (ea 2))))) :
    Calls Tryd.prog 86 #[.int .i64 n, .int .i64 d] w fun e w' =>
      e = .returned (frV 312 ea (lowC n d) (lowN n d) (lowD n d)) ∧ Below w.heap.size w w' := by
  have zhBound := zlt hBound
  have xhBound := zlts hBound
  have yhBound := zne hBound
  obtain ⟨g, hg⟩ : ∃ g : Int, (Int.gcd n d : Int) = g := ⟨_, rfl⟩
  obtain ⟨hg1, hgb⟩ := gcd_b62 (n := n) hd h0
  rw [hg] at hg1 hgb
  have wq : wrap64 (n.tdiv (lowG n d)) = lowN n d := wrap_tdiv hn
  have wr : wrap64 (d.tdiv (lowG n d)) = lowD n d := wrap_tdiv hd
  have wg0 := neg_wrapB hgb
  have hs : (1 ≤ d ∧ lowG n d = g) ∨ (d < 0 ∧ lowG n d = -g) := by
    unfold lowG; rw [hg]
    by_cases h : d < 0
    · exact .inr ⟨h, if_pos h⟩
    · exact .inl ⟨by omega, if_neg h⟩
  rcases hs with ⟨h1, h2⟩ | ⟨h1, h2⟩
  · rw [h2] at wq wr
    have h1' : ¬ d < 0 := by omega
    have hg0 : (g == 0) = false := by simp; omega
    rcases lowC_cases n d with ⟨h3, hc⟩ | ⟨h3, h4, hc⟩ | ⟨h3, h4, hc⟩
    · have H_hg := Lib.hid hg
      clear hg
      have H_h2 := Lib.hid h2
      clear h2
      have H_hc := Lib.hid hc
      clear hc
      have H_h3 := Lib.hid h3
      clear h3
      go_enter Tryd.func86, Tryd.ntmps86
      go_wp2_with fail
      refine (fdivisor_g _ _ _ _ hn.i64 hd h0 H_hg.out).mono ?_
      rintro _ _ ⟨rfl, _, rfl⟩
      go_wp2_with fail
      go_region
      go_wp2_with fail
      refine (fsmall_b _ _ _ H_h3.out).mono ?_
      rintro _ _ ⟨rfl, rfl⟩
      go_wp2_with fail
      go_region
      all_goals
        go_wp2_with fail
        go_returns
        exact ⟨by rw [frV_n (by rw [H_hc.out]; decide), H_hc.out], by repeat' (first | (with_reducible exact Below.refl _ _) | (with_reducible assumption) | (with_reducible refine bdn ?_) | (with_reducible refine Below.alloc ?_ ?_ _) | (with_reducible refine Below.drew ?_) | (with_reducible refine Below.setCell ?_ ?_ _) | omega | (simp <;> omega))⟩
    · have H_hg := Lib.hid hg
      clear hg
      have H_h2 := Lib.hid h2
      clear h2
      have H_hc := Lib.hid hc
      clear hc
      have H_h3 := Lib.hid h3
      clear h3
      have H_h4 := Lib.hid h4
      clear h4
      go_enter Tryd.func86, Tryd.ntmps86
      go_wp2_with fail
      refine (fdivisor_g _ _ _ _ hn.i64 hd h0 H_hg.out).mono ?_
      rintro _ _ ⟨rfl, _, rfl⟩
      go_wp2_with fail
      go_region
      go_wp2_with fail
      refine (fsmall_b _ _ _ H_h3.out).mono ?_
      rintro _ _ ⟨rfl, rfl⟩
      go_wp2_with fail
      refine (fsmall_b _ _ _ H_h4.out).mono ?_
      rintro _ _ ⟨rfl, rfl⟩
      go_wp2_with fail
      go_region
      all_goals
        go_wp2_with fail
        go_returns
        exact ⟨by rw [frV_n (by rw [H_hc.out]; decide), H_hc.out], by repeat' (first | (with_reducible exact Below.refl _ _) | (with_reducible assumption) | (with_reducible refine bdn ?_) | (with_reducible refine Below.alloc ?_ ?_ _) | (with_reducible refine Below.drew ?_) | (with_reducible refine Below.setCell ?_ ?_ _) | omega | (simp <;> omega))⟩
    · have H_hg := Lib.hid hg
      clear hg
      have H_h2 := Lib.hid h2
      clear h2
      have H_hc := Lib.hid hc
      clear hc
      have H_h3 := Lib.hid h3
      clear h3
      have H_h4 := Lib.hid h4
      clear h4
      go_enter Tryd.func86, Tryd.ntmps86
      go_wp2_with fail
      refine (fdivisor_g _ _ _ _ hn.i64 hd h0 H_hg.out).mono ?_
      rintro _ _ ⟨rfl, _, rfl⟩
      go_wp2_with fail
      go_region
      go_wp2_with fail
      refine (fsmall_b _ _ _ H_h3.out).mono ?_
      rintro _ _ ⟨rfl, rfl⟩
      go_wp2_with fail
      refine (fsmall_b _ _ _ H_h4.out).mono ?_
      rintro _ _ ⟨rfl, rfl⟩
      go_wp2_with fail
      go_returns
      exact ⟨by rw [frV_0 H_hc.out], by repeat' (first | (with_reducible exact Below.refl _ _) | (with_reducible assumption) | (with_reducible refine bdn ?_) | (with_reducible refine Below.alloc ?_ ?_ _) | (with_reducible refine Below.drew ?_) | (with_reducible refine Below.setCell ?_ ?_ _) | omega | (simp <;> omega))⟩
  · obtain ⟨m, hm⟩ : ∃ m : Int, -g = m := ⟨_, rfl⟩
    rw [h2] at wq wr
    rw [hm] at wq wr h2
    have wg : wrap64 (-g) = m := wg0.trans hm
    have hm1 : m ≤ -1 := by omega
    have hg0 : (m == 0) = false := by simp; omega
    clear hm wg0
    rcases lowC_cases n d with ⟨h3, hc⟩ | ⟨h3, h4, hc⟩ | ⟨h3, h4, hc⟩
    · have H_hg := Lib.hid hg
      clear hg
      have H_h2 := Lib.hid h2
      clear h2
      have H_hc := Lib.hid hc
      clear hc
      have H_h3 := Lib.hid h3
      clear h3
      go_enter Tryd.func86, Tryd.ntmps86
      go_wp2_with fail
      refine (fdivisor_g _ _ _ _ hn.i64 hd h0 H_hg.out).mono ?_
      rintro _ _ ⟨rfl, _, rfl⟩
      go_wp2_with fail
      go_region
      go_wp2_with fail
      refine (fsmall_b _ _ _ H_h3.out).mono ?_
      rintro _ _ ⟨rfl, rfl⟩
      go_wp2_with fail
      go_region
      all_goals
        go_wp2_with fail
        go_returns
        exact ⟨by rw [frV_n (by rw [H_hc.out]; decide), H_hc.out], by repeat' (first | (with_reducible exact Below.refl _ _) | (with_reducible assumption) | (with_reducible refine bdn ?_) | (with_reducible refine Below.alloc ?_ ?_ _) | (with_reducible refine Below.drew ?_) | (with_reducible refine Below.setCell ?_ ?_ _) | omega | (simp <;> omega))⟩
    · have H_hg := Lib.hid hg
      clear hg
      have H_h2 := Lib.hid h2
      clear h2
      have H_hc := Lib.hid hc
      clear hc
      have H_h3 := Lib.hid h3
      clear h3
      have H_h4 := Lib.hid h4
      clear h4
      go_enter Tryd.func86, Tryd.ntmps86
      go_wp2_with fail
      refine (fdivisor_g _ _ _ _ hn.i64 hd h0 H_hg.out).mono ?_
      rintro _ _ ⟨rfl, _, rfl⟩
      go_wp2_with fail
      go_region
      go_wp2_with fail
      refine (fsmall_b _ _ _ H_h3.out).mono ?_
      rintro _ _ ⟨rfl, rfl⟩
      go_wp2_with fail
      refine (fsmall_b _ _ _ H_h4.out).mono ?_
      rintro _ _ ⟨rfl, rfl⟩
      go_wp2_with fail
      go_region
      all_goals
        go_wp2_with fail
        go_returns
        exact ⟨by rw [frV_n (by rw [H_hc.out]; decide), H_hc.out], by repeat' (first | (with_reducible exact Below.refl _ _) | (with_reducible assumption) | (with_reducible refine bdn ?_) | (with_reducible refine Below.alloc ?_ ?_ _) | (with_reducible refine Below.drew ?_) | (with_reducible refine Below.setCell ?_ ?_ _) | omega | (simp <;> omega))⟩
    · have H_hg := Lib.hid hg
      clear hg
      have H_h2 := Lib.hid h2
      clear h2
      have H_hc := Lib.hid hc
      clear hc
      have H_h3 := Lib.hid h3
      clear h3
      have H_h4 := Lib.hid h4
      clear h4
      go_enter Tryd.func86, Tryd.ntmps86
      go_wp2_with fail
      refine (fdivisor_g _ _ _ _ hn.i64 hd h0 H_hg.out).mono ?_
      rintro _ _ ⟨rfl, _, rfl⟩
      go_wp2_with fail
      go_region
      go_wp2_with fail
      refine (fsmall_b _ _ _ H_h3.out).mono ?_
      rintro _ _ ⟨rfl, rfl⟩
      go_wp2_with fail
      refine (fsmall_b _ _ _ H_h4.out).mono ?_
      rintro _ _ ⟨rfl, rfl⟩
      go_wp2_with fail
      go_returns
      exact ⟨by rw [frV_0 H_hc.out], by repeat' (first | (with_reducible exact Below.refl _ _) | (with_reducible assumption) | (with_reducible refine bdn ?_) | (with_reducible refine Below.alloc ?_ ?_ _) | (with_reducible refine Below.drew ?_) | (with_reducible refine Below.setCell ?_ ?_ _) | omega | (simp <;> omega))⟩
end Go.Proofs.YthijgncjaophjaaDoor
