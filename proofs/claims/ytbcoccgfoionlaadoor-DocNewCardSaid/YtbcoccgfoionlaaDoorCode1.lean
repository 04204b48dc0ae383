/-
  Walks over package plain: Code.
-/
import Derived.Test.YtbcoccgfoionlaaDoorAs2
import Derived.Test.YtbcoccgfoionlaaDoorPa
namespace Go.Proofs.YtbcoccgfoionlaaDoor
open Go.RowKit Lead

/-- The errors of package api lie in their variables, each at a place of its own; errors.errorType holds the type's handle. -/
structure Sents (ea : Nat → Addr) (w : World) : Prop where
  c1 : w.cell? ⟨6, 0, none⟩ = some (.iface 168 (.pointer (some (ea 1))))
  c2 : w.cell? ⟨2, 0, none⟩ = some (.iface 168 (.pointer (some (ea 2))))
  c3 : w.cell? ⟨1, 0, none⟩ = some (.iface 168 (.pointer (some (ea 3))))
  c4 : w.cell? ⟨3, 0, none⟩ = some (.iface 168 (.pointer (some (ea 4))))
  c5 : w.cell? ⟨0, 0, none⟩ = some (.iface 168 (.pointer (some (ea 5))))
  c6 : w.cell? ⟨7, 0, none⟩ = some (.iface 168 (.pointer (some (ea 6))))
  c7 : w.cell? ⟨5, 0, none⟩ = some (.iface 168 (.pointer (some (ea 7))))
  c8 : w.cell? ⟨4, 0, none⟩ = some (.iface 168 (.pointer (some (ea 8))))
  c9 : w.cell? ⟨8, 0, none⟩ = some (.iface 168 (.pointer (some (ea 9))))
  c10 : w.cell? ⟨9, 0, none⟩ = some (.iface 168 (.pointer (some (ea 10))))
  c11 : w.cell? ⟨10, 0, none⟩ = some (.iface 168 (.pointer (some (ea 11))))
  hdl : w.cell? ⟨11, 0, none⟩ = some (.iface 134 (.agg #[.pointer (some ⟨15, 31, none⟩)]))
  ne : ∀ i j, i ≠ j → 1 ≤ i → i ≤ 11 → 1 ≤ j → j ≤ 11 → ea i ≠ ea j
  blk : ∀ i, 1 ≤ i → i ≤ 11 → ∃ c t, w.heap[(ea i).block]? = some (.cells c t (0, 0))
theorem Sents.keep {ea : Nat → Addr} {w w' : World} {B : Nat} (h : Sents ea w) (hb : Below B w w') (hB : B = w.heap.size) : Sents ea w' := by
  refine ⟨gkeep hb h.c1 hB, gkeep hb h.c2 hB, gkeep hb h.c3 hB, gkeep hb h.c4 hB, gkeep hb h.c5 hB, gkeep hb h.c6 hB, gkeep hb h.c7 hB, gkeep hb h.c8 hB, gkeep hb h.c9 hB, gkeep hb h.c10 hB, gkeep hb h.c11 hB, gkeep hb h.hdl hB, h.ne, fun i h1 h2 => ?_⟩
  obtain ⟨c, t, hc⟩ := h.blk i h1 h2
  refine ⟨c, t, ?_⟩
  have hlt : (ea i).block < w.heap.size := by
    rcases Nat.lt_or_ge (ea i).block w.heap.size with h | h
    · exact h
    · rw [Array.getElem?_eq_none h] at hc; cases hc
  rw [hb.block _ (by omega)]; exact hc

set_option maxHeartbeats 1000000 in
theorem code_nil (w : World) : Calls Tryd.prog 27 #[.nilIface] w fun e w' => e = .returned (.tuple #[.int .i64 0, .int .i64 (-1)]) ∧ Below w.heap.size w w' := by
  go_enter Tryd.func27, Tryd.ntmps27
  go_wp2_with fail
  go_returns
  exact ⟨rfl, by repeat' (first | (with_reducible first | exact bwR _ _ | assumption | refine bdn ?_ | refine bwA ?_ ?_ _ | refine bwD ?_ | refine bwS ?_ ?_ _) | omega | (simp <;> omega))⟩

theorem is_eq' (a : Addr) (w : World) :
    Calls Tryd.prog 41 #[.iface 168 (.pointer (some a)), .iface 168 (.pointer (some a))] w fun e w' => e = .returned (.bool true) ∧ Below w.heap.size w w' :=
  (is_same a w).mono fun e w' ⟨h1, h2⟩ => ⟨h1, by rw [h2]; exact Below.refl _ _⟩
theorem is_ne' (ea : Nat → Addr) (c j : Nat) (w : World) (hS : Sents ea w) (h : c ≠ j) (h1 : 1 ≤ c) (h2 : c ≤ 11) (h3 : 1 ≤ j) (h4 : j ≤ 11) :
    Calls Tryd.prog 41 #[.iface 168 (.pointer (some (ea c))), .iface 168 (.pointer (some (ea j)))] w fun e w' => e = .returned (.bool false) ∧ Below w.heap.size w w' := by
  obtain ⟨ca, ta, ha⟩ := hS.blk c h1 h2
  obtain ⟨cb, tb, hb⟩ := hS.blk j h3 h4
  exact (is_other _ _ ca cb ta tb w (hS.ne c j h h1 h2 h3 h4) ha hb).mono fun e w' ⟨h1, h2⟩ => ⟨h1, by rw [h2]; exact Below.refl _ _⟩

theorem arr_cell (ea : Nat → Addr) (w : World) (t : TypeId) (k : Nat) (hk : k < 11) :
    (w.alloc (.cells #[.iface 168 (.pointer (some (ea 1))), .iface 168 (.pointer (some (ea 2))), .iface 168 (.pointer (some (ea 3))), .iface 168 (.pointer (some (ea 4))), .iface 168 (.pointer (some (ea 5))), .iface 168 (.pointer (some (ea 6))), .iface 168 (.pointer (some (ea 7))), .iface 168 (.pointer (some (ea 8))), .iface 168 (.pointer (some (ea 9))), .iface 168 (.pointer (some (ea 10))), .iface 168 (.pointer (some (ea 11)))] t)).cell? ⟨w.heap.size, k, none⟩ = some (.iface 168 (.pointer (some (ea (k + 1))))) := by
  have e : ∀ vs : Array Value, (w.alloc (.cells vs t)).cell? ⟨w.heap.size, k, none⟩ = vs[k]? := fun vs => by simp
  rw [e]
  match k, hk with
  | 0, _ => rfl
  | 1, _ => rfl
  | 2, _ => rfl
  | 3, _ => rfl
  | 4, _ => rfl
  | 5, _ => rfl
  | 6, _ => rfl
  | 7, _ => rfl
  | 8, _ => rfl
  | 9, _ => rfl
  | 10, _ => rfl

set_option maxHeartbeats 4000000 in
theorem code_sent (ea : Nat → Addr) (c : Nat) (w : World) (h1 : 1 ≤ c) (h2 : c ≤ 11) (hS : Sents ea w) :
    Calls Tryd.prog 27 #[.iface 168 (.pointer (some (ea c)))] w fun e w' => e = .returned (.tuple #[.int .i64 c, .int .i64 (-1)]) ∧ Below w.heap.size w w' := by
  have H_hS := Lib.hid hS
  obtain ⟨C1, C2, C3, C4, C5, C6, C7, C8, C9, C10, C11, CH, _, _⟩ := hS
  have zC1 := zlt C1
  have xC1 := zlts C1
  have yC1 := zne C1
  have zC2 := zlt C2
  have xC2 := zlts C2
  have yC2 := zne C2
  have zC3 := zlt C3
  have xC3 := zlts C3
  have yC3 := zne C3
  have zC4 := zlt C4
  have xC4 := zlts C4
  have yC4 := zne C4
  have zC5 := zlt C5
  have xC5 := zlts C5
  have yC5 := zne C5
  have zC6 := zlt C6
  have xC6 := zlts C6
  have yC6 := zne C6
  have zC7 := zlt C7
  have xC7 := zlts C7
  have yC7 := zne C7
  have zC8 := zlt C8
  have xC8 := zlts C8
  have yC8 := zne C8
  have zC9 := zlt C9
  have xC9 := zlts C9
  have yC9 := zne C9
  have zC10 := zlt C10
  have xC10 := zlts C10
  have yC10 := zne C10
  have zC11 := zlt C11
  have xC11 := zlts C11
  have yC11 := zne C11
  have H_CH := Lib.hid CH
  clear CH
  go_enter Tryd.func27, Tryd.ntmps27
  go_wp2_with fail
  refine call_bel (w := w) (by repeat' (first | (with_reducible first | exact bwR _ _ | assumption | refine bdn ?_ | refine bwA ?_ ?_ _ | refine bwD ?_ | refine bwS ?_ ?_ _) | omega | (simp <;> omega))) (fun HB => as_miss' (ea c) ⟨w.heap.size, 0, none⟩ (.pointer none) _ (gkeep HB H_CH.out rfl) (by simp)) ?_
  intro w1 hb1 hz1 c1 d1 hW1
  have t1 := hb1.size
  have C1_1 := gkeep hb1 C1 rfl
  have zC1_1 := zlt C1_1
  have xC1_1 := zlts C1_1
  have yC1_1 := zne C1_1
  have C2_1 := gkeep hb1 C2 rfl
  have zC2_1 := zlt C2_1
  have xC2_1 := zlts C2_1
  have yC2_1 := zne C2_1
  have C3_1 := gkeep hb1 C3 rfl
  have zC3_1 := zlt C3_1
  have xC3_1 := zlts C3_1
  have yC3_1 := zne C3_1
  have C4_1 := gkeep hb1 C4 rfl
  have zC4_1 := zlt C4_1
  have xC4_1 := zlts C4_1
  have yC4_1 := zne C4_1
  have C5_1 := gkeep hb1 C5 rfl
  have zC5_1 := zlt C5_1
  have xC5_1 := zlts C5_1
  have yC5_1 := zne C5_1
  have C6_1 := gkeep hb1 C6 rfl
  have zC6_1 := zlt C6_1
  have xC6_1 := zlts C6_1
  have yC6_1 := zne C6_1
  have C7_1 := gkeep hb1 C7 rfl
  have zC7_1 := zlt C7_1
  have xC7_1 := zlts C7_1
  have yC7_1 := zne C7_1
  have C8_1 := gkeep hb1 C8 rfl
  have zC8_1 := zlt C8_1
  have xC8_1 := zlts C8_1
  have yC8_1 := zne C8_1
  have C9_1 := gkeep hb1 C9 rfl
  have zC9_1 := zlt C9_1
  have xC9_1 := zlts C9_1
  have yC9_1 := zne C9_1
  have C10_1 := gkeep hb1 C10 rfl
  have zC10_1 := zlt C10_1
  have xC10_1 := zlts C10_1
  have yC10_1 := zne C10_1
  have C11_1 := gkeep hb1 C11 rfl
  have zC11_1 := zlt C11_1
  have xC11_1 := zlts C11_1
  have yC11_1 := zne C11_1
  try simp only [szA] at hz1 c1 d1
  try simp only [szD] at hz1 c1 d1
  try simp only [szS] at hz1 c1 d1
  try simp only [World.heap_drewN] at hz1 c1 d1
  have s1_0 : w.heap.size < w1.heap.size := by omega
  have o1_0 := fun j => c1 (w.heap.size) j (by omega)
  have f1_0 := fun j => d1 (w.heap.size) j (by omega)
  clear c1 d1 hz1 hW1
  have H_arr := Lib.hid (arr_cell ea w1 31)
  go_wp2_with fail
  clear C1 C2 C3 C4 C5 C6 C7 C8 C9 C10 C11 C1_1 C2_1 C3_1 C4_1 C5_1 C6_1 C7_1 C8_1 C9_1 C10_1 C11_1
  clear zC1 zC2 zC3 zC4 zC5 zC6 zC7 zC8 zC9 zC10 zC11 xC1 xC2 xC3 xC4 xC5 xC6 xC7 xC8 xC9 xC10 xC11 yC1 yC2 yC3 yC4 yC5 yC6 yC7 yC8 yC9 yC10 yC11
  clear zC1_1 zC2_1 zC3_1 zC4_1 zC5_1 zC6_1 zC7_1 zC8_1 zC9_1 zC10_1 zC11_1 xC1_1 xC2_1 xC3_1 xC4_1 xC5_1 xC6_1 xC7_1 xC8_1 xC9_1 xC10_1 xC11_1 yC1_1 yC2_1 yC3_1 yC4_1 yC5_1 yC6_1 yC7_1 yC8_1 yC9_1 yC10_1 yC11_1
  go_loopw [3, 29] (fun a i wr => ∃ k : Nat, k < c ∧ a = .int .i64 (-1) ∧ i = .int .i64 k ∧ Below w.heap.size w wr ∧ ∀ j, j < 11 → wr.cell? ⟨w1.heap.size, j, none⟩ = some (.iface 168 (.pointer (some (ea (j + 1)))))) (fun _ i _ => c - (intOf i).toNat)
  case atStart => exact ⟨0, by omega, rfl, rfl, by repeat' (first | (with_reducible first | exact bwR _ _ | assumption | refine bdn ?_ | refine bwA ?_ ?_ _ | refine bwD ?_ | refine bwS ?_ ?_ _) | omega | (simp <;> omega)), H_arr.out⟩
  case round =>
    obtain ⟨k, hk, rfl, rfl, hB, harr⟩ := hrel
    have hzr := hB.size
    have q := harr k (by omega)
    have k1 : (k : Int) < 11 := by omega
    have k2 : k < 11 := by omega
    have hw1 : w1.heap.size < wr.heap.size := World.block_lt_of_cell? wr _ q
    have H_harr := Lib.hid harr
    clear harr
    by_cases hkc : k + 1 = c
    · subst hkc
      go_wp2_with fail
      refine call_bel (w := w) (by repeat' (first | (with_reducible first | exact bwR _ _ | assumption | refine bdn ?_ | refine bwA ?_ ?_ _ | refine bwD ?_ | refine bwS ?_ ?_ _) | omega | (simp <;> omega))) (fun HB => is_eq' (ea (k + 1)) _) ?_
      intro w2 hb2 hz2 c2 d2 hW2
      have t2 := hb2.size
      clear c2 d2 hz2 hW2
      have g1 : wrap64 ((k : Int) + 1) = (k : Int) + 1 := wrap_60 (by omega)
      go_wp2_with fail
      go_returns
      exact ⟨rfl, by repeat' (first | (with_reducible first | exact bwR _ _ | assumption | refine bdn ?_ | refine bwA ?_ ?_ _ | refine bwD ?_ | refine bwS ?_ ?_ _) | omega | (simp <;> omega))⟩
    · have H_hkc := Lib.hid hkc
      clear hkc
      go_wp2_with fail
      refine call_bel (w := w) (by repeat' (first | (with_reducible first | exact bwR _ _ | assumption | refine bdn ?_ | refine bwA ?_ ?_ _ | refine bwD ?_ | refine bwS ?_ ?_ _) | omega | (simp <;> omega))) (fun HB => is_ne' ea c (k + 1) _ (H_hS.out.keep HB rfl) (fun e => H_hkc.out e.symm) h1 h2 (by omega) (by omega)) ?_
      intro w2 hb2 hz2 c2 d2 hW2
      have t2 := hb2.size
      try simp only [szA] at hz2 c2 d2
      try simp only [szD] at hz2 c2 d2
      try simp only [szS] at hz2 c2 d2
      try simp only [World.heap_drewN] at hz2 c2 d2
      have s2_0 : w1.heap.size < w2.heap.size := by omega
      have o2_0 := fun j => c2 (w1.heap.size) j (by omega)
      have f2_0 := fun j => d2 (w1.heap.size) j (by omega)
      clear c2 d2 hz2 hW2
      go_wp2_with fail
      go_roundw
      case rel => exact ⟨k + 1, by have := H_hkc.out; omega, rfl, by go_num, hb2, fun j hj => (o2_0 j).trans (H_harr.out j hj)⟩
      case measure => simp [intOf]; omega
end Go.Proofs.YtbcoccgfoionlaaDoor
