/-
  Walks over package frac: Check, both.
-/
import Derived.Test.YthijgncjaophjaaDoorFrac1
namespace Go.Proofs.YthijgncjaophjaaDoor
open Go.RowKit Lead

theorem fsmall_t (a : Int) (w : World) (h : sml a = true) : Calls Tryd.prog 85 #[.int .i64 a] w fun e w' => e = .returned (.bool true) ∧ w = w' :=
  (fsmall_any a w).mono fun e w' ⟨h1, h2⟩ => ⟨by rw [h1]; exact congrArg (fun b => Ending.returned (Value.bool b)) h, h2⟩
theorem fsmall_f (a : Int) (w : World) (h : sml a = false) : Calls Tryd.prog 85 #[.int .i64 a] w fun e w' => e = .returned (.bool false) ∧ w = w' :=
  (fsmall_any a w).mono fun e w' ⟨h1, h2⟩ => ⟨by rw [h1]; exact congrArg (fun b => Ending.returned (Value.bool b)) h, h2⟩

theorem fdivisor_1 (a b : Int) (w : World) (ha : I64 a) (hb : I64 b) (h1 : 1 ≤ b) (h : Int.gcd a b = 1) :
    Calls Tryd.prog 89 #[.int .i64 a, .int .i64 b] w fun e w' => e = .returned (.int .i64 1) ∧ ∃ n, w' = w.drewN n :=
  (fdivisor_any a b w ha hb).mono fun e w' ⟨h2, h3⟩ => ⟨by rw [h2, gcd_wrap1 h1 hb, h]; rfl, h3⟩
theorem fdivisor_n (a b : Int) (w : World) (ha : I64 a) (hb : I64 b) (h1 : 1 ≤ b) :
    Calls Tryd.prog 89 #[.int .i64 a, .int .i64 b] w fun e w' => e = .returned (.int .i64 (Int.gcd a b : Nat)) ∧ ∃ n, w' = w.drewN n :=
  (fdivisor_any a b w ha hb).mono fun e w' ⟨h2, h3⟩ => ⟨by rw [h2, gcd_wrap1 h1 hb], h3⟩

theorem fdivisor_g (a b g : Int) (w : World) (ha : I64 a) (hb : B62 b) (h1 : b ≠ 0) (hg : (Int.gcd a b : Int) = g) :
    Calls Tryd.prog 89 #[.int .i64 a, .int .i64 b] w fun e w' => e = .returned (.int .i64 g) ∧ ∃ n, w' = w.drewN n :=
  (fdivisor_any a b w ha hb.i64).mono fun e w' ⟨h2, h3⟩ => ⟨by rw [h2, gcd_wrapB hb h1, hg], h3⟩

set_option maxHeartbeats 400000 in
theorem fcheck_any (ea : Nat → Addr) (n d : Int) (w : World) (hn : I64 n) (hd : I64 d)
    (hS : w.cell? ⟨5, 0, none⟩ = some (.iface 312 (.pointer (some (ea 3)))))
    (hB : w.cell? ⟨1, 0, none⟩ = some (.iface 312 (.pointer (some (ea 2))))) :
    Calls Tryd.prog 45 #[.agg #[.int .i64 n, .int .i64 d]] w fun e w' =>
      e = .returned (evl 312 ea (chk n d)) ∧ Below w.heap.size w w' := by
  have z1 := zlt hS
  have z2 := zlt hB
  rcases chk_cases n d with ⟨h1, hc⟩ | ⟨h1, h2, hc⟩ | ⟨h1, h2, h3, hc⟩ | ⟨h1, h2, h3, h4, hc⟩ | ⟨h1, h2, h3, h4, hc⟩ <;> (rw [hc]; clear hc)
  · go_enter Tryd.func45, Tryd.ntmps45
    go_wp2
    go_ret
    exact ⟨rfl, by (try refine bdn ?_); go_grown⟩
  · have h1' : ¬ d < 1 := by omega
    have h2' : (((Int.gcd n d : Nat) : Int) != 1) = true := by rw [bne_iff_ne]; omega
    clear h2
    go_enter Tryd.func45, Tryd.ntmps45
    go_wp2_with (first | (go_at_call 89; refine (fdivisor_n _ _ _ hn hd h1).mono ?_; rintro e w' ⟨rfl, n1, rfl⟩))
    go_ret
    exact ⟨rfl, by (try refine bdn ?_); go_grown⟩
  · have h1' : ¬ d < 1 := by omega
    go_enter Tryd.func45, Tryd.ntmps45
    go_wp2_with (first | (go_at_call 89; refine (fdivisor_1 _ _ _ hn hd h1 h2).mono ?_; rintro e w' ⟨rfl, n1, rfl⟩) | (go_at_call 85; refine (fsmall_f _ _ h3).mono ?_; rintro e w' ⟨rfl, rfl⟩))
    go_ret
    exact ⟨rfl, by (try refine bdn ?_); go_grown⟩
  · have h1' : ¬ d < 1 := by omega
    go_enter Tryd.func45, Tryd.ntmps45
    go_wp2_with fail
    refine (fdivisor_1 _ _ _ hn hd h1 h2).mono ?_
    rintro e w' ⟨rfl, n1, rfl⟩
    go_wp2_with fail
    refine (fsmall_t _ _ h3).mono ?_
    rintro e w' ⟨rfl, rfl⟩
    go_wp2_with fail
    refine (fsmall_f _ _ h4).mono ?_
    rintro e w' ⟨rfl, rfl⟩
    go_wp2_with fail
    go_ret
    exact ⟨rfl, by (try refine bdn ?_); go_grown⟩
  · have h1' : ¬ d < 1 := by omega
    go_enter Tryd.func45, Tryd.ntmps45
    go_wp2_with fail
    refine (fdivisor_1 _ _ _ hn hd h1 h2).mono ?_
    rintro e w' ⟨rfl, n1, rfl⟩
    go_wp2_with fail
    refine (fsmall_t _ _ h3).mono ?_
    rintro e w' ⟨rfl, rfl⟩
    go_wp2_with fail
    refine (fsmall_t _ _ h4).mono ?_
    rintro e w' ⟨rfl, rfl⟩
    go_wp2_with fail
    go_ret
    exact ⟨rfl, by (try refine bdn ?_); go_grown⟩

theorem fcheck_0 (ea : Nat → Addr) (n d : Int) (w : World) (hn : I64 n) (hd : I64 d)
    (hS : w.cell? ⟨5, 0, none⟩ = some (.iface 312 (.pointer (some (ea 3)))))
    (hB : w.cell? ⟨1, 0, none⟩ = some (.iface 312 (.pointer (some (ea 2))))) (hc : chk n d = 0) :
    Calls Tryd.prog 45 #[.agg #[.int .i64 n, .int .i64 d]] w fun e w' => e = .returned .nilIface ∧ Below w.heap.size w w' :=
  (fcheck_any ea n d w hn hd hS hB).mono fun e w' ⟨h1, h2⟩ => ⟨by rw [h1, evl_0 hc], h2⟩
theorem fcheck_n (ea : Nat → Addr) (n d : Int) (w : World) (hn : I64 n) (hd : I64 d)
    (hS : w.cell? ⟨5, 0, none⟩ = some (.iface 312 (.pointer (some (ea 3)))))
    (hB : w.cell? ⟨1, 0, none⟩ = some (.iface 312 (.pointer (some (ea 2))))) (hc : chk n d ≠ 0) :
    Calls Tryd.prog 45 #[.agg #[.int .i64 n, .int .i64 d]] w fun e w' => e = .returned (.iface 312 (.pointer (some (ea (chk n d))))) ∧ Below w.heap.size w w' :=
  (fcheck_any ea n d w hn hd hS hB).mono fun e w' ⟨h1, h2⟩ => ⟨by rw [h1, evl_n hc], h2⟩

set_option maxHeartbeats 400000 in
theorem fboth_any (ea : Nat → Addr) (n d n' d' : Int) (w : World) (hn : I64 n) (hd : I64 d) (hn' : I64 n') (hd' : I64 d')
    (hS : w.cell? ⟨5, 0, none⟩ = some (.iface 312 (.pointer (some (ea 3)))))
    (hB : w.cell? ⟨1, 0, none⟩ = some (.iface 312 (.pointer (some (ea 2))))) :
    Calls Tryd.prog 97 #[.agg #[.int .i64 n, .int .i64 d], .agg #[.int .i64 n', .int .i64 d']] w fun e w' =>
      e = .returned (evl 312 ea (if chk n d = 0 then chk n' d' else chk n d)) ∧ Below w.heap.size w w' := by
  have z1 := zlt hS
  have z2 := zlt hB
  by_cases hc : chk n d = 0
  · rw [if_pos hc]
    have HC := Lib.hid hc; clear hc
    go_enter Tryd.func97, Tryd.ntmps97
    go_wp2_with fail
    refine call_below (w := w) (by go_grown) (fun HB => fcheck_0 ea n d _ hn hd (gkeep HB hS rfl) (gkeep HB hB rfl) HC.out) ?_
    intro w1 hb1 hz1 c1 d1
    have hS1 := gkeep hb1 hS rfl
    have hB1 := gkeep hb1 hB rfl
    have z1' := zlt hS1
    have z2' := zlt hB1
    simp only [World.size_alloc] at hz1 c1 d1
    have s1 : w.heap.size < w1.heap.size := by omega
    have o1 := fun j => c1 w.heap.size j (by omega)
    have s2 : w.heap.size + 1 < w1.heap.size := by omega
    have o2 := fun j => c1 (w.heap.size + 1) j (by omega)
    clear c1 d1 hz1
    go_wp2_with fail
    refine call_below (w := w) (by go_grown) (fun HB => fcheck_any ea n' d' _ hn' hd' (gkeep HB hS rfl) (gkeep HB hB rfl)) ?_
    intro w2 hb2 hz2 c2 d2
    go_wp2_with fail
    go_returns
    exact ⟨rfl, by assumption⟩
  · rw [if_neg hc]
    have HC := Lib.hid hc; clear hc
    go_enter Tryd.func97, Tryd.ntmps97
    go_wp2_with fail
    refine call_below (w := w) (by go_grown) (fun HB => fcheck_n ea n d _ hn hd (gkeep HB hS rfl) (gkeep HB hB rfl) HC.out) ?_
    intro w1 hb1 hz1 c1 d1
    go_wp2_with fail
    go_returns
    exact ⟨by rw [evl_n HC.out]; rfl, by assumption⟩
end Go.Proofs.YthijgncjaophjaaDoor
