/-
  Walks: Code of another error; the statement Names.
-/
import Derived.Test.YthpicnajemnfdaaDoorCode3
import Derived.Test.YthpicnajemnfdaaDoorInts
namespace Lead
open Go Go.RowKit
theorem cells_ints {w : World} {b : Nat} {zs : List Int} {vs : Array Value} (hv : vs.toList = zs.map (Value.int .i64)) (h : ∀ j, w.cell? ⟨b, j, none⟩ = vs[j]?) : IntsIn w b 0 zs := by
  intro i hi
  rw [Nat.zero_add, h, ← Array.getElem?_toList, hv, List.getElem?_map, List.getElem?_eq_getElem hi]
  rfl
theorem sl_first (w : World) (zs : List Int) (vs : Array Value) (hv : vs.toList = zs.map (Value.int .i64)) (t : TypeId) (o : Obj) (hm : zs.length ≤ maxLen) :
    SlI ((w.alloc (.cells vs t)).alloc o) (some ⟨w.heap.size, 0, none⟩) zs.length zs.length zs := by
  refine ⟨rfl, Nat.le_refl _, hm, .inr ⟨_, _, rfl, by simp; omega, cells_ints hv fun j => ?_⟩⟩
  rw [World.cell?_alloc_lt _ _ _ (by simp)]; exact World.cell?_alloc_new _ _ _ _
theorem sl_second (w : World) (zs : List Int) (vs : Array Value) (hv : vs.toList = zs.map (Value.int .i64)) (t : TypeId) (o : Obj) (hm : zs.length ≤ maxLen) :
    SlI ((w.alloc o).alloc (.cells vs t)) (some ⟨w.heap.size + 1, 0, none⟩) zs.length zs.length zs := by
  refine ⟨rfl, Nat.le_refl _, hm, .inr ⟨_, _, rfl, by simp, cells_ints hv fun j => ?_⟩⟩
  exact World.cell?_alloc_at _ _ _ _ (by simp)
theorem blk_new (w : World) (vs : Array Value) (ty : TypeId) : ∃ c t, (w.alloc (.cells vs ty)).heap[w.heap.size]? = some (.cells c t (0, 0)) := ⟨vs, ty, by unfold World.alloc; simp⟩
end Lead
namespace Go.Proofs.YthpicnajemnfdaaDoor
open Go.RowKit Lead

theorem code_fault_n (ea : Nat → Addr) (c p : Nat) (n z : Int) (w : World) (hn : (c : Int) = n) (h1 : 1 ≤ c) (h2 : c ≤ 11) (hS : Sents ea w) (hA : w.cell? ⟨p, 0, none⟩ = some (.int .i64 z)) (hE : w.cell? ⟨p, 1, none⟩ = some (.iface 87 (.pointer (some (ea c))))) :
    Calls Tryd.prog 20 #[.iface 48 (.pointer (some ⟨p, 0, none⟩))] w fun e w' => e = .returned (.tuple #[.int .i64 n, .int .i64 z]) ∧ Below w.heap.size w w' := by
  rw [← hn]; exact code_fault ea c p z w h1 h2 hS hA hE
theorem coded1_n (ea : Nat → Addr) (c : Nat) (n : Int) (w : World) (hn : (c : Int) = n) (h1 : 1 ≤ c) (h2 : c ≤ 11) (hS : Sents ea w) :
    Calls Tryd.prog 21 #[.iface 87 (.pointer (some (ea c))), .int .i64 n] w fun e w' => e = .returned (.bool true) ∧ Below w.heap.size w w' := by
  rw [← hn]; exact coded1_s ea c w h1 h2 hS
theorem is_ne_o (ea : Nat → Addr) (a : Addr) (j : Nat) (w : World) (hS : Sents ea w) (h : a ≠ ea j) (ha : ∃ c t, w.heap[a.block]? = some (.cells c t (0, 0))) (h3 : 1 ≤ j) (h4 : j ≤ 11) :
    Calls Tryd.prog 47 #[.iface 87 (.pointer (some a)), .iface 87 (.pointer (some (ea j)))] w fun e w' => e = .returned (.bool false) ∧ Below w.heap.size w w' := by
  obtain ⟨ca, ta, ha⟩ := ha
  obtain ⟨cb, tb, hb⟩ := hS.blk j h3 h4
  exact (is_other _ _ ca cb ta tb w h ha hb).mono fun e w' ⟨h1, h2⟩ => ⟨h1, by rw [h2]; exact Below.refl _ _⟩
theorem blk_keep {w w1 : World} {a : Addr} {B : Nat} (h : ∃ c t, w.heap[a.block]? = some (.cells c t (0, 0))) (hb : Below B w w1) (hB : B = w.heap.size) : ∃ c t, w1.heap[a.block]? = some (.cells c t (0, 0)) := by
  obtain ⟨c, t, hc⟩ := h
  refine ⟨c, t, ?_⟩
  have hlt : a.block < w.heap.size := by
    rcases Nat.lt_or_ge a.block w.heap.size with h | h
    · exact h
    · rw [Array.getElem?_eq_none h] at hc; cases hc
  rw [hb.block _ (by omega)]; exact hc

set_option maxHeartbeats 4000000 in
theorem code_other (ea : Nat → Addr) (a : Addr) (w : World) (hne : ∀ j, 1 ≤ j → j ≤ 11 → a ≠ ea j) (ha : ∃ c t, w.heap[a.block]? = some (.cells c t (0, 0))) (hS : Sents ea w) :
    Calls Tryd.prog 20 #[.iface 87 (.pointer (some a))] w fun e w' => e = .returned (.tuple #[.int .i64 (-1), .int .i64 (-1)]) ∧ Below w.heap.size w w' := by
  have H_hS := Lib.hid hS
  obtain ⟨C1, C2, C3, C4, C5, C6, C7, C8, C9, C10, C11, CH, _, _⟩ := hS
  have zC1 := zlt C1
  have xC1 := zlts C1
  have yC1 := zne C1
  have zC2 := zlt C2
  have xC2 := zlts C2
  have yC2 := zne C2
  have zC3 := zlt C3
  have xC3 := zlts C3
  have yC3 := zne C3
  have zC4 := zlt C4
  have xC4 := zlts C4
  have yC4 := zne C4
  have zC5 := zlt C5
  have xC5 := zlts C5
  have yC5 := zne C5
  have zC6 := zlt C6
  have xC6 := zlts C6
  have yC6 := zne C6
  have zC7 := zlt C7
  have xC7 := zlts C7
  have yC7 := zne C7
  have zC8 := zlt C8
  have xC8 := zlts C8
  have yC8 := zne C8
  have zC9 := zlt C9
  have xC9 := zlts C9
  have yC9 := zne C9
  have zC10 := zlt C10
  have xC10 := zlts C10
  have yC10 := zne C10
  have zC11 := zlt C11
  have xC11 := zlts C11
  have yC11 := zne C11
  have H_CH := Lib.hid CH
  clear CH
  have H_hne := Lib.hid hne
  clear hne
  have H_ha := Lib.hid ha
  clear ha
  go_enter Tryd.func20, Tryd.ntmps20
  go_wp2_with fail
  refine call_bel (w := w) (by repeat' (first | (with_reducible exact Below.refl _ _) | (with_reducible assumption) | (with_reducible refine bdn ?_) | (with_reducible refine Below.alloc ?_ ?_ _) | (with_reducible refine Below.drew ?_) | (with_reducible refine Below.setCell ?_ ?_ _) | omega | (simp <;> omega))) (fun HB => as_miss' a ⟨w.heap.size, 0, none⟩ (.pointer none) _ (gkeep HB H_CH.out rfl) (by simp)) ?_
  intro w1 hb1 hz1 c1 d1 hW1
  have t1 := hb1.size
  have C1_1 := gkeep hb1 C1 rfl
  have zC1_1 := zlt C1_1
  have xC1_1 := zlts C1_1
  have yC1_1 := zne C1_1
  have C2_1 := gkeep hb1 C2 rfl
  have zC2_1 := zlt C2_1
  have xC2_1 := zlts C2_1
  have yC2_1 := zne C2_1
  have C3_1 := gkeep hb1 C3 rfl
  have zC3_1 := zlt C3_1
  have xC3_1 := zlts C3_1
  have yC3_1 := zne C3_1
  have C4_1 := gkeep hb1 C4 rfl
  have zC4_1 := zlt C4_1
  have xC4_1 := zlts C4_1
  have yC4_1 := zne C4_1
  have C5_1 := gkeep hb1 C5 rfl
  have zC5_1 := zlt C5_1
  have xC5_1 := zlts C5_1
  have yC5_1 := zne C5_1
  have C6_1 := gkeep hb1 C6 rfl
  have zC6_1 := zlt C6_1
  have xC6_1 := zlts C6_1
  have yC6_1 := zne C6_1
  have C7_1 := gkeep hb1 C7 rfl
  have zC7_1 := zlt C7_1
  have xC7_1 := zlts C7_1
  have yC7_1 := zne C7_1
  have C8_1 := gkeep hb1 C8 rfl
  have zC8_1 := zlt C8_1
  have xC8_1 := zlts C8_1
  have yC8_1 := zne C8_1
  have C9_1 := gkeep hb1 C9 rfl
  have zC9_1 := zlt C9_1
  have xC9_1 := zlts C9_1
  have yC9_1 := zne C9_1
  have C10_1 := gkeep hb1 C10 rfl
  have zC10_1 := zlt C10_1
  have xC10_1 := zlts C10_1
  have yC10_1 := zne C10_1
  have C11_1 := gkeep hb1 C11 rfl
  have zC11_1 := zlt C11_1
  have xC11_1 := zlts C11_1
  have yC11_1 := zne C11_1
  try simp only [World.size_alloc] at hz1 c1 d1
  try simp only [World.size_drew] at hz1 c1 d1
  try simp only [World.size_setCell] at hz1 c1 d1
  try simp only [World.heap_drewN] at hz1 c1 d1
  try simp only [World.size_alloc] at hz1 c1 d1
  try simp only [World.size_drew] at hz1 c1 d1
  try simp only [World.size_setCell] at hz1 c1 d1
  have s1_0 : w.heap.size < w1.heap.size := by omega
  have o1_0 := fun j => c1 (w.heap.size) j (by omega)
  have f1_0 := fun j => d1 (w.heap.size) j (by omega)
  clear c1 d1 hz1 hW1
  have H_arr := Lib.hid (arr_cell ea w1 32)
  go_wp2_with fail
  clear C1 C2 C3 C4 C5 C6 C7 C8 C9 C10 C11 C1_1 C2_1 C3_1 C4_1 C5_1 C6_1 C7_1 C8_1 C9_1 C10_1 C11_1
  clear zC1 zC2 zC3 zC4 zC5 zC6 zC7 zC8 zC9 zC10 zC11 xC1 xC2 xC3 xC4 xC5 xC6 xC7 xC8 xC9 xC10 xC11 yC1 yC2 yC3 yC4 yC5 yC6 yC7 yC8 yC9 yC10 yC11
  clear zC1_1 zC2_1 zC3_1 zC4_1 zC5_1 zC6_1 zC7_1 zC8_1 zC9_1 zC10_1 zC11_1 xC1_1 xC2_1 xC3_1 xC4_1 xC5_1 xC6_1 xC7_1 xC8_1 xC9_1 xC10_1 xC11_1 yC1_1 yC2_1 yC3_1 yC4_1 yC5_1 yC6_1 yC7_1 yC8_1 yC9_1 yC10_1 yC11_1
  go_loopw [3, 29] (fun a i wr => ∃ k : Nat, k ≤ 11 ∧ a = .int .i64 (-1) ∧ i = .int .i64 k ∧ Below w.heap.size w wr ∧ ∀ j, j < 11 → wr.cell? ⟨w1.heap.size, j, none⟩ = some (.iface 87 (.pointer (some (ea (j + 1)))))) (fun _ i _ => 11 - (intOf i).toNat)
  case atStart => exact ⟨0, by omega, rfl, rfl, by repeat' (first | (with_reducible exact Below.refl _ _) | (with_reducible assumption) | (with_reducible refine bdn ?_) | (with_reducible refine Below.alloc ?_ ?_ _) | (with_reducible refine Below.drew ?_) | (with_reducible refine Below.setCell ?_ ?_ _) | omega | (simp <;> omega)), H_arr.out⟩
  case round =>
    obtain ⟨k, hk, rfl, rfl, hB, harr⟩ := hrel
    have hzr := hB.size
    by_cases hlt : k < 11
    · have q := harr k (by omega)
      have k1 : (k : Int) < 11 := by omega
      have hw1 : w1.heap.size < wr.heap.size := World.block_lt_of_cell? wr _ q
      have H_harr := Lib.hid harr
      clear harr
      go_wp2_with fail
      refine call_bel (w := w) (by repeat' (first | (with_reducible exact Below.refl _ _) | (with_reducible assumption) | (with_reducible refine bdn ?_) | (with_reducible refine Below.alloc ?_ ?_ _) | (with_reducible refine Below.drew ?_) | (with_reducible refine Below.setCell ?_ ?_ _) | omega | (simp <;> omega))) (fun HB => is_ne_o ea a (k + 1) _ (H_hS.out.keep HB rfl) (H_hne.out _ (by omega) (by omega)) (blk_keep H_ha.out HB rfl) (by omega) (by omega)) ?_
      intro w2 hb2 hz2 c2 d2 hW2
      have t2 := hb2.size
      try simp only [World.size_alloc] at hz2 c2 d2
      try simp only [World.size_drew] at hz2 c2 d2
      try simp only [World.size_setCell] at hz2 c2 d2
      try simp only [World.heap_drewN] at hz2 c2 d2
      try simp only [World.size_alloc] at hz2 c2 d2
      try simp only [World.size_drew] at hz2 c2 d2
      try simp only [World.size_setCell] at hz2 c2 d2
      have s2_0 : w1.heap.size < w2.heap.size := by omega
      have o2_0 := fun j => c2 (w1.heap.size) j (by omega)
      have f2_0 := fun j => d2 (w1.heap.size) j (by omega)
      clear c2 d2 hz2 hW2
      go_wp2_with fail
      go_roundw
      case rel => exact ⟨k + 1, by omega, rfl, by go_num, hb2, fun j hj => (o2_0 j).trans (H_harr.out j hj)⟩
      case measure => simp [intOf]; omega
    · obtain rfl : k = 11 := by omega
      have H_harr := Lib.hid harr
      clear harr hlt
      go_wp2_with fail
      go_returns
      exact ⟨rfl, by repeat' (first | (with_reducible exact Below.refl _ _) | (with_reducible assumption) | (with_reducible refine bdn ?_) | (with_reducible refine Below.alloc ?_ ?_ _) | (with_reducible refine Below.drew ?_) | (with_reducible refine Below.setCell ?_ ?_ _) | omega | (simp <;> omega))⟩

set_option maxHeartbeats 400000 in
theorem errnew_any (s : ByteArray) (w : World) :
    Calls Tryd.prog 22 #[.string s] w fun e w' => e = .returned (.iface 87 (.pointer (some ⟨w.heap.size, 0, none⟩))) ∧ w' = w.alloc (.cells #[.string s] 89) := by
  go_enter Tryd.func22, Tryd.ntmps22
  go_wp2_with fail
  go_returns
  exact ⟨rfl, rfl⟩
def nums : List Int := [1073741824, 12, 200, 10000, 10, 100, 12, 40, 5, 30, 40, 300, 100, 16]

set_option maxHeartbeats 4000000 in
set_option maxRecDepth 100000 in
theorem names_any (ea : Nat → Addr) (w : World) (hS : Sents ea w) :
    Calls Tryd.prog 5 #[] w fun e w' => e = .returned (.bool true) ∧ Below w.heap.size w w' := by
  have H_hS := Lib.hid hS
  obtain ⟨C1, C2, C3, C4, C5, C6, C7, C8, C9, C10, C11, _, _, _⟩ := hS
  have zC1 := zlt C1
  have xC1 := zlts C1
  have yC1 := zne C1
  have zC2 := zlt C2
  have xC2 := zlts C2
  have yC2 := zne C2
  have zC3 := zlt C3
  have xC3 := zlts C3
  have yC3 := zne C3
  have zC4 := zlt C4
  have xC4 := zlts C4
  have yC4 := zne C4
  have zC5 := zlt C5
  have xC5 := zlts C5
  have yC5 := zne C5
  have zC6 := zlt C6
  have xC6 := zlts C6
  have yC6 := zne C6
  have zC7 := zlt C7
  have xC7 := zlts C7
  have yC7 := zne C7
  have zC8 := zlt C8
  have xC8 := zlts C8
  have yC8 := zne C8
  have zC9 := zlt C9
  have xC9 := zlts C9
  have yC9 := zne C9
  have zC10 := zlt C10
  have xC10 := zlts C10
  have yC10 := zne C10
  have zC11 := zlt C11
  have xC11 := zlts C11
  have yC11 := zne C11
  go_enter Tryd.func5, Tryd.ntmps5
  go_wp2_with fail
  refine call_bel (w := w) (by repeat' (first | (with_reducible exact Below.refl _ _) | (with_reducible assumption) | (with_reducible refine bdn ?_) | (with_reducible refine Below.alloc ?_ ?_ _) | (with_reducible refine Below.drew ?_) | (with_reducible refine Below.setCell ?_ ?_ _) | omega | (simp <;> omega))) (fun HB => sameints_any nums nums _ _ _ _ _ _ true _ (sl_first w nums _ rfl _ _ (by decide)) (sl_second w nums _ rfl _ _ (by decide)) (by decide)) ?_
  intro w1 hb1 hz1 c1 d1 hW1
  have t1 := hb1.size
  have C1_1 := gkeep hb1 C1 rfl
  have zC1_1 := zlt C1_1
  have xC1_1 := zlts C1_1
  have yC1_1 := zne C1_1
  have C2_1 := gkeep hb1 C2 rfl
  have zC2_1 := zlt C2_1
  have xC2_1 := zlts C2_1
  have yC2_1 := zne C2_1
  have C3_1 := gkeep hb1 C3 rfl
  have zC3_1 := zlt C3_1
  have xC3_1 := zlts C3_1
  have yC3_1 := zne C3_1
  have C4_1 := gkeep hb1 C4 rfl
  have zC4_1 := zlt C4_1
  have xC4_1 := zlts C4_1
  have yC4_1 := zne C4_1
  have C5_1 := gkeep hb1 C5 rfl
  have zC5_1 := zlt C5_1
  have xC5_1 := zlts C5_1
  have yC5_1 := zne C5_1
  have C6_1 := gkeep hb1 C6 rfl
  have zC6_1 := zlt C6_1
  have xC6_1 := zlts C6_1
  have yC6_1 := zne C6_1
  have C7_1 := gkeep hb1 C7 rfl
  have zC7_1 := zlt C7_1
  have xC7_1 := zlts C7_1
  have yC7_1 := zne C7_1
  have C8_1 := gkeep hb1 C8 rfl
  have zC8_1 := zlt C8_1
  have xC8_1 := zlts C8_1
  have yC8_1 := zne C8_1
  have C9_1 := gkeep hb1 C9 rfl
  have zC9_1 := zlt C9_1
  have xC9_1 := zlts C9_1
  have yC9_1 := zne C9_1
  have C10_1 := gkeep hb1 C10 rfl
  have zC10_1 := zlt C10_1
  have xC10_1 := zlts C10_1
  have yC10_1 := zne C10_1
  have C11_1 := gkeep hb1 C11 rfl
  have zC11_1 := zlt C11_1
  have xC11_1 := zlts C11_1
  have yC11_1 := zne C11_1
  clear c1 d1 hz1 hW1
  have H_arr := Lib.hid (arr_cell ea w1 32)
  go_wp2_with fail
  clear C1 C2 C3 C4 C5 C6 C7 C8 C9 C10 C11 C1_1 C2_1 C3_1 C4_1 C5_1 C6_1 C7_1 C8_1 C9_1 C10_1 C11_1
  clear zC1 zC2 zC3 zC4 zC5 zC6 zC7 zC8 zC9 zC10 zC11 xC1 xC2 xC3 xC4 xC5 xC6 xC7 xC8 xC9 xC10 xC11 yC1 yC2 yC3 yC4 yC5 yC6 yC7 yC8 yC9 yC10 yC11
  clear zC1_1 zC2_1 zC3_1 zC4_1 zC5_1 zC6_1 zC7_1 zC8_1 zC9_1 zC10_1 zC11_1 xC1_1 xC2_1 xC3_1 xC4_1 xC5_1 xC6_1 xC7_1 xC8_1 xC9_1 xC10_1 xC11_1 yC1_1 yC2_1 yC3_1 yC4_1 yC5_1 yC6_1 yC7_1 yC8_1 yC9_1 yC10_1 yC11_1
  go_loopw [4, 5, 6] (fun i _ _ wr => ∃ k : Nat, k ≤ 11 ∧ i = .int .i64 k ∧ Below w.heap.size w wr ∧ ∀ j, j < 11 → wr.cell? ⟨w1.heap.size, j, none⟩ = some (.iface 87 (.pointer (some (ea (j + 1)))))) (fun i _ _ _ => 11 - (intOf i).toNat)
  case atStart => exact ⟨0, by omega, rfl, by repeat' (first | (with_reducible exact Below.refl _ _) | (with_reducible assumption) | (with_reducible refine bdn ?_) | (with_reducible refine Below.alloc ?_ ?_ _) | (with_reducible refine Below.drew ?_) | (with_reducible refine Below.setCell ?_ ?_ _) | omega | (simp <;> omega)), H_arr.out⟩
  case round =>
    obtain ⟨k, hk, rfl, hB, harr⟩ := hrel
    have hzr := hB.size
    by_cases hlt : k < 11
    · have q := harr k (by omega)
      have k1 : (k : Int) < 11 := by omega
      have hw1 : w1.heap.size < wr.heap.size := World.block_lt_of_cell? wr _ q
      have hw2 : ¬ wr.heap.size = w1.heap.size := by omega
      have H_harr := Lib.hid harr
      clear harr
      go_wp2_with fail
      refine call_bel (w := w) (by repeat' (first | (with_reducible exact Below.refl _ _) | (with_reducible assumption) | (with_reducible refine bdn ?_) | (with_reducible refine Below.alloc ?_ ?_ _) | (with_reducible refine Below.drew ?_) | (with_reducible refine Below.setCell ?_ ?_ _) | omega | (simp <;> omega))) (fun HB => code_fault_n ea (k + 1) wr.heap.size ((k : Int) + 1) 7 _ (by omega) (by omega) (by omega) (H_hS.out.keep HB rfl) (by simp) (by simp)) ?_
      intro w2 hb2 hz2 c2 d2 hW2
      have t2 := hb2.size
      try simp only [World.size_alloc] at hz2 c2 d2
      try simp only [World.size_drew] at hz2 c2 d2
      try simp only [World.size_setCell] at hz2 c2 d2
      try simp only [World.heap_drewN] at hz2 c2 d2
      try simp only [World.size_alloc] at hz2 c2 d2
      try simp only [World.size_drew] at hz2 c2 d2
      try simp only [World.size_setCell] at hz2 c2 d2
      have s2_0 : w1.heap.size < w2.heap.size := by omega
      have o2_0 := fun j => c2 (w1.heap.size) j (by omega)
      have f2_0 := fun j => d2 (w1.heap.size) j (by omega)
      clear c2 d2 hz2 hW2
      have q2 := o2_0 k
      go_wp2_with fail
      refine call_bel (w := w) (by repeat' (first | (with_reducible exact Below.refl _ _) | (with_reducible assumption) | (with_reducible refine bdn ?_) | (with_reducible refine Below.alloc ?_ ?_ _) | (with_reducible refine Below.drew ?_) | (with_reducible refine Below.setCell ?_ ?_ _) | omega | (simp <;> omega))) (fun HB => coded1_n ea (k + 1) ((k : Int) + 1) _ (by omega) (by omega) (by omega) (H_hS.out.keep HB rfl)) ?_
      intro w3 hb3 hz3 c3 d3 hW3
      have t3 := hb3.size
      try simp only [World.size_alloc] at hz3 c3 d3
      try simp only [World.size_drew] at hz3 c3 d3
      try simp only [World.size_setCell] at hz3 c3 d3
      try simp only [World.heap_drewN] at hz3 c3 d3
      try simp only [World.size_alloc] at hz3 c3 d3
      try simp only [World.size_drew] at hz3 c3 d3
      try simp only [World.size_setCell] at hz3 c3 d3
      have s3_0 : w1.heap.size < w3.heap.size := by omega
      have o3_0 := fun j => c3 (w1.heap.size) j (by omega)
      have f3_0 := fun j => d3 (w1.heap.size) j (by omega)
      clear c3 d3 hz3 hW3
      go_wp2_with fail
      go_roundw
      case rel => exact ⟨k + 1, by omega, by go_num, by repeat' (first | (with_reducible exact Below.refl _ _) | (with_reducible assumption) | (with_reducible refine bdn ?_) | (with_reducible refine Below.alloc ?_ ?_ _) | (with_reducible refine Below.drew ?_) | (with_reducible refine Below.setCell ?_ ?_ _) | omega | (simp <;> omega)), fun j hj => by rw [o3_0, o2_0, World.cell?_alloc_lt _ _ _ hw1]; exact H_harr.out j hj⟩
      case measure => simp [intOf]; omega
    · obtain rfl : k = 11 := by omega
      have H_harr := Lib.hid harr
      clear harr hlt
      go_wp2_with fail
      refine (errnew_any _ _).mono ?_
      rintro _ _ ⟨rfl, rfl⟩
      have hne : ∀ j, 1 ≤ j → j ≤ 11 → (⟨wr.heap.size, 0, none⟩ : Addr) ≠ ea j := by
        intro j h1 h2 h
        obtain ⟨c, t, hc⟩ := (H_hS.out.keep hB rfl).blk j h1 h2
        rw [← h] at hc
        simp at hc
      have H_hne := Lib.hid hne
      clear hne
      go_wp2_with fail
      refine call_bel (w := w) (by repeat' (first | (with_reducible exact Below.refl _ _) | (with_reducible assumption) | (with_reducible refine bdn ?_) | (with_reducible refine Below.alloc ?_ ?_ _) | (with_reducible refine Below.drew ?_) | (with_reducible refine Below.setCell ?_ ?_ _) | omega | (simp <;> omega))) (fun HB => code_other ea ⟨wr.heap.size, 0, none⟩ _ H_hne.out (blk_new _ _ _) (H_hS.out.keep HB rfl)) ?_
      intro w4 hb4 hz4 c4 d4 hW4
      have t4 := hb4.size
      clear c4 d4 hz4 hW4
      go_wp2_with fail
      refine call_bel (w := w) (by repeat' (first | (with_reducible exact Below.refl _ _) | (with_reducible assumption) | (with_reducible refine bdn ?_) | (with_reducible refine Below.alloc ?_ ?_ _) | (with_reducible refine Below.drew ?_) | (with_reducible refine Below.setCell ?_ ?_ _) | omega | (simp <;> omega))) (fun HB => coded1_0 _) ?_
      intro w5 hb5 hz5 c5 d5 hW5
      have t5 := hb5.size
      clear c5 d5 hz5 hW5
      go_wp2_with fail
      go_returns
      exact ⟨rfl, by repeat' (first | (with_reducible exact Below.refl _ _) | (with_reducible assumption) | (with_reducible refine bdn ?_) | (with_reducible refine Below.alloc ?_ ?_ _) | (with_reducible refine Below.drew ?_) | (with_reducible refine Below.setCell ?_ ?_ _) | omega | (simp <;> omega))⟩
end Go.Proofs.YthpicnajemnfdaaDoor
