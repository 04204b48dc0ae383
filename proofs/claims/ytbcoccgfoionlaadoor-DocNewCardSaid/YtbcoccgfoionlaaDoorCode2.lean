/-
  Walks over package plain: Code of an error with a place.
-/
import Derived.Test.YtbcoccgfoionlaaDoorCode1
namespace Go.Proofs.YtbcoccgfoionlaaDoor
open Go.RowKit Lead

theorem isf_eq' (p : Nat) (a : Addr) (w : World) (hE : w.cell? ⟨p, 1, none⟩ = some (.iface 168 (.pointer (some a)))) :
    Calls Tryd.prog 41 #[.iface 89 (.pointer (some ⟨p, 0, none⟩)), .iface 168 (.pointer (some a))] w fun e w' => e = .returned (.bool true) ∧ Below w.heap.size w w' :=
  (isf_same p 0 a w hE).mono fun e w' ⟨h1, h2⟩ => ⟨h1, by rw [h2]; exact Below.refl _ _⟩
theorem isf_ne' (ea : Nat → Addr) (c j p : Nat) (w : World) (hE : w.cell? ⟨p, 1, none⟩ = some (.iface 168 (.pointer (some (ea c))))) (hS : Sents ea w) (h : c ≠ j) (h1 : 1 ≤ c) (h2 : c ≤ 11) (h3 : 1 ≤ j) (h4 : j ≤ 11) :
    Calls Tryd.prog 41 #[.iface 89 (.pointer (some ⟨p, 0, none⟩)), .iface 168 (.pointer (some (ea j)))] w fun e w' => e = .returned (.bool false) ∧ Below w.heap.size w w' := by
  obtain ⟨ca, ta, ha⟩ := hS.blk c h1 h2
  obtain ⟨cb, tb, hb⟩ := hS.blk j h3 h4
  exact (isf_other p 0 _ _ ca cb ta tb w hE (hS.ne c j h h1 h2 h3 h4) ha hb).mono fun e w' ⟨h1, h2⟩ => ⟨h1, by rw [h2]; exact Below.refl _ _⟩

set_option maxHeartbeats 4000000 in
theorem code_fault (ea : Nat → Addr) (c p : Nat) (z : Int) (w : World) (h1 : 1 ≤ c) (h2 : c ≤ 11) (hS : Sents ea w) (hA : w.cell? ⟨p, 0, none⟩ = some (.int .i64 z)) (hE : w.cell? ⟨p, 1, none⟩ = some (.iface 168 (.pointer (some (ea c))))) :
    Calls Tryd.prog 27 #[.iface 89 (.pointer (some ⟨p, 0, none⟩))] w fun e w' => e = .returned (.tuple #[.int .i64 c, .int .i64 z]) ∧ Below w.heap.size w w' := by
  have H_hS := Lib.hid hS
  obtain ⟨C1, C2, C3, C4, C5, C6, C7, C8, C9, C10, C11, CH, _, _⟩ := hS
  have zC1 := zlt C1
  have xC1 := zlts C1
  have yC1 := zne C1
  have zC2 := zlt C2
  have xC2 := zlts C2
  have yC2 := zne C2
  have zC3 := zlt C3
  have xC3 := zlts C3
  have yC3 := zne C3
  have zC4 := zlt C4
  have xC4 := zlts C4
  have yC4 := zne C4
  have zC5 := zlt C5
  have xC5 := zlts C5
  have yC5 := zne C5
  have zC6 := zlt C6
  have xC6 := zlts C6
  have yC6 := zne C6
  have zC7 := zlt C7
  have xC7 := zlts C7
  have yC7 := zne C7
  have zC8 := zlt C8
  have xC8 := zlts C8
  have yC8 := zne C8
  have zC9 := zlt C9
  have xC9 := zlts C9
  have yC9 := zne C9
  have zC10 := zlt C10
  have xC10 := zlts C10
  have yC10 := zne C10
  have zC11 := zlt C11
  have xC11 := zlts C11
  have yC11 := zne C11
  have zhA := zlt hA
  have xhA := zlts hA
  have yhA := zne hA
  have H_CH := Lib.hid CH
  clear CH
  go_enter Tryd.func27, Tryd.ntmps27
  go_wp2_with fail
  refine (as_hit' ⟨p, 0, none⟩ ⟨w.heap.size, 0, none⟩ (.pointer none) _ (gkeep (w := w) (by repeat' (first | (with_reducible first | exact bwR _ _ | assumption | refine bdn ?_ | refine bwA ?_ ?_ _ | refine bwD ?_ | refine bwS ?_ ?_ _) | omega | (simp <;> omega))) H_CH.out rfl) (by simp) (by simp)).mono ?_
  rintro _ w1 ⟨rfl, hb1', o1_0⟩
  have hb1 : Below w.heap.size w w1 := Below.trans (by repeat' (first | (with_reducible first | exact bwR _ _ | assumption | refine bdn ?_ | refine bwA ?_ ?_ _ | refine bwD ?_ | refine bwS ?_ ?_ _) | omega | (simp <;> omega))) hb1'
  have t1 := hb1.size
  have C1_1 := gkeep hb1 C1 rfl
  have zC1_1 := zlt C1_1
  have xC1_1 := zlts C1_1
  have yC1_1 := zne C1_1
  have C2_1 := gkeep hb1 C2 rfl
  have zC2_1 := zlt C2_1
  have xC2_1 := zlts C2_1
  have yC2_1 := zne C2_1
  have C3_1 := gkeep hb1 C3 rfl
  have zC3_1 := zlt C3_1
  have xC3_1 := zlts C3_1
  have yC3_1 := zne C3_1
  have C4_1 := gkeep hb1 C4 rfl
  have zC4_1 := zlt C4_1
  have xC4_1 := zlts C4_1
  have yC4_1 := zne C4_1
  have C5_1 := gkeep hb1 C5 rfl
  have zC5_1 := zlt C5_1
  have xC5_1 := zlts C5_1
  have yC5_1 := zne C5_1
  have C6_1 := gkeep hb1 C6 rfl
  have zC6_1 := zlt C6_1
  have xC6_1 := zlts C6_1
  have yC6_1 := zne C6_1
  have C7_1 := gkeep hb1 C7 rfl
  have zC7_1 := zlt C7_1
  have xC7_1 := zlts C7_1
  have yC7_1 := zne C7_1
  have C8_1 := gkeep hb1 C8 rfl
  have zC8_1 := zlt C8_1
  have xC8_1 := zlts C8_1
  have yC8_1 := zne C8_1
  have C9_1 := gkeep hb1 C9 rfl
  have zC9_1 := zlt C9_1
  have xC9_1 := zlts C9_1
  have yC9_1 := zne C9_1
  have C10_1 := gkeep hb1 C10 rfl
  have zC10_1 := zlt C10_1
  have xC10_1 := zlts C10_1
  have yC10_1 := zne C10_1
  have C11_1 := gkeep hb1 C11 rfl
  have zC11_1 := zlt C11_1
  have xC11_1 := zlts C11_1
  have yC11_1 := zne C11_1
  have hA_1 := gkeep hb1 hA rfl
  have zhA_1 := zlt hA_1
  have xhA_1 := zlts hA_1
  have yhA_1 := zne hA_1
  have hE_1 := gkeep hb1 hE rfl
  clear hb1'
  have H_arr := Lib.hid (arr_cell ea w1 31)
  go_wp2_with fail
  clear C1 C2 C3 C4 C5 C6 C7 C8 C9 C10 C11 C1_1 C2_1 C3_1 C4_1 C5_1 C6_1 C7_1 C8_1 C9_1 C10_1 C11_1
  clear zC1 zC2 zC3 zC4 zC5 zC6 zC7 zC8 zC9 zC10 zC11 xC1 xC2 xC3 xC4 xC5 xC6 xC7 xC8 xC9 xC10 xC11 yC1 yC2 yC3 yC4 yC5 yC6 yC7 yC8 yC9 yC10 yC11
  clear zC1_1 zC2_1 zC3_1 zC4_1 zC5_1 zC6_1 zC7_1 zC8_1 zC9_1 zC10_1 zC11_1 xC1_1 xC2_1 xC3_1 xC4_1 xC5_1 xC6_1 xC7_1 xC8_1 xC9_1 xC10_1 xC11_1 yC1_1 yC2_1 yC3_1 yC4_1 yC5_1 yC6_1 yC7_1 yC8_1 yC9_1 yC10_1 yC11_1
  go_loopw [3, 29] (fun a i wr => ∃ k : Nat, k < c ∧ a = .int .i64 z ∧ i = .int .i64 k ∧ Below w.heap.size w wr ∧ ∀ j, j < 11 → wr.cell? ⟨w1.heap.size, j, none⟩ = some (.iface 168 (.pointer (some (ea (j + 1)))))) (fun _ i _ => c - (intOf i).toNat)
  case atStart => exact ⟨0, by omega, rfl, rfl, by repeat' (first | (with_reducible first | exact bwR _ _ | assumption | refine bdn ?_ | refine bwA ?_ ?_ _ | refine bwD ?_ | refine bwS ?_ ?_ _) | omega | (simp <;> omega)), H_arr.out⟩
  case round =>
    obtain ⟨k, hk, rfl, rfl, hB, harr⟩ := hrel
    have hzr := hB.size
    have q := harr k (by omega)
    have k1 : (k : Int) < 11 := by omega
    have k2 : k < 11 := by omega
    have hw1 : w1.heap.size < wr.heap.size := World.block_lt_of_cell? wr _ q
    have H_harr := Lib.hid harr
    clear harr
    by_cases hkc : k + 1 = c
    · subst hkc
      go_wp2_with fail
      refine call_bel (w := w) (by repeat' (first | (with_reducible first | exact bwR _ _ | assumption | refine bdn ?_ | refine bwA ?_ ?_ _ | refine bwD ?_ | refine bwS ?_ ?_ _) | omega | (simp <;> omega))) (fun HB => isf_eq' p (ea (k + 1)) _ (gkeep HB hE rfl)) ?_
      intro w2 hb2 hz2 c2 d2 hW2
      have t2 := hb2.size
      clear c2 d2 hz2 hW2
      have g1 : wrap64 ((k : Int) + 1) = (k : Int) + 1 := wrap_60 (by omega)
      go_wp2_with fail
      go_returns
      exact ⟨rfl, by repeat' (first | (with_reducible first | exact bwR _ _ | assumption | refine bdn ?_ | refine bwA ?_ ?_ _ | refine bwD ?_ | refine bwS ?_ ?_ _) | omega | (simp <;> omega))⟩
    · have H_hkc := Lib.hid hkc
      clear hkc
      go_wp2_with fail
      refine call_bel (w := w) (by repeat' (first | (with_reducible first | exact bwR _ _ | assumption | refine bdn ?_ | refine bwA ?_ ?_ _ | refine bwD ?_ | refine bwS ?_ ?_ _) | omega | (simp <;> omega))) (fun HB => isf_ne' ea c (k + 1) p _ (gkeep HB hE rfl) (H_hS.out.keep HB rfl) (fun e => H_hkc.out e.symm) h1 h2 (by omega) (by omega)) ?_
      intro w2 hb2 hz2 c2 d2 hW2
      have t2 := hb2.size
      try simp only [szA] at hz2 c2 d2
      try simp only [szD] at hz2 c2 d2
      try simp only [szS] at hz2 c2 d2
      try simp only [World.heap_drewN] at hz2 c2 d2
      have s2_0 : w1.heap.size < w2.heap.size := by omega
      have o2_0 := fun j => c2 (w1.heap.size) j (by omega)
      have f2_0 := fun j => d2 (w1.heap.size) j (by omega)
      clear c2 d2 hz2 hW2
      go_wp2_with fail
      go_roundw
      case rel => exact ⟨k + 1, by have := H_hkc.out; omega, rfl, by go_num, hb2, fun j hj => (o2_0 j).trans (H_harr.out j hj)⟩
      case measure => simp [intOf]; omega
end Go.Proofs.YtbcoccgfoionlaaDoor
