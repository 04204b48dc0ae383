/-
  Walks: the statements' helper 'halved'; Cmp and Add with what is known.
-/
import Derived.Test.YthijgncjaophjaaDoorFrac6
import Derived.Test.YthijgncjaophjaaDoorFrac5
import Derived.Test.YthijgncjaophjaaDoorPl8
namespace Go.Proofs.YthijgncjaophjaaDoor
open Go.RowKit Lead

theorem half_c : mkC 2 (-4) = 0 := by decide +kernel
theorem half_n : lowN 2 (-4) = -1 := by decide +kernel
theorem half_d : lowD 2 (-4) = 2 := by decide +kernel
theorem half_t : txtF (-1) 2 = [45, 49, 47, 50] := by decide +kernel

set_option maxHeartbeats 400000 in
theorem halved_any (ea : Nat → Addr) (w : World) (hBound : w.cell? ⟨1, 0, none⟩ = some (.iface 312 (.pointer (some (ea 2))))) (hZero : w.cell? ⟨7, 0, none⟩ = some (.iface 312 (.pointer (some (ea 11))))) (htab : Lib.TabIs Tryd.prog w "internal/strconv.uint64pow10" .u64 Lib.pow10Tab) :
    Calls Tryd.prog 42 #[] w fun e w' => e = .returned (.bool true) ∧ Below w.heap.size w w' := by
  have zhBound := zlt hBound
  have xhBound := zlts hBound
  have yhBound := zne hBound
  have zhZero := zlt hZero
  have xhZero := zlts hZero
  have yhZero := zne hZero
  go_enter Tryd.func42, Tryd.ntmps42
  go_wp2_with fail
  refine call_fr0 (w := w) (by repeat' (first | (with_reducible exact Below.refl _ _) | (with_reducible assumption) | (with_reducible refine bdn ?_) | (with_reducible refine Below.alloc ?_ ?_ _) | (with_reducible refine Below.drew ?_) | (with_reducible refine Below.setCell ?_ ?_ _) | omega | (simp <;> omega))) (fun HB => fmake_any ea 2 (-4) _ (by unfold I64; decide) (by unfold I64; decide) (gkeep HB hBound rfl) (gkeep HB hZero rfl)) (half_c) ?_
  intro w1 hb1 hz1 c1 d1 hW1
  have t1 := hb1.size
  clear c1 d1 hz1 hW1
  rw [half_n, half_d]
  go_wp2_with fail
  refine call_bel (w := w) (by repeat' (first | (with_reducible exact Below.refl _ _) | (with_reducible assumption) | (with_reducible refine bdn ?_) | (with_reducible refine Below.alloc ?_ ?_ _) | (with_reducible refine Below.drew ?_) | (with_reducible refine Below.setCell ?_ ?_ _) | omega | (simp <;> omega))) (fun HB => ftext_any (-1) 2 _ (by unfold I64; decide) (by unfold I64; decide) (tab_keep htab HB rfl)) ?_
  intro w2 hb2 hz2 c2 d2 hW2
  have t2 := hb2.size
  try simp only [World.size_alloc] at hz2 c2 d2
  try simp only [World.size_drew] at hz2 c2 d2
  try simp only [World.size_setCell] at hz2 c2 d2
  try simp only [World.heap_drewN] at hz2 c2 d2
  have s2_0 : w1.heap.size < w2.heap.size := by omega
  have o2_0 := fun j => c2 (w1.heap.size) j (by omega)
  have f2_0 := fun j => d2 (w1.heap.size) j (by omega)
  clear c2 d2 hz2 hW2
  rw [half_t]
  go_wp2_with fail
  go_returns
  exact ⟨rfl, by repeat' (first | (with_reducible exact Below.refl _ _) | (with_reducible assumption) | (with_reducible refine bdn ?_) | (with_reducible refine Below.alloc ?_ ?_ _) | (with_reducible refine Below.drew ?_) | (with_reducible refine Below.setCell ?_ ?_ _) | omega | (simp <;> omega))⟩

theorem fcmp_0 (ea : Nat → Addr) (n d n' d' c : Int) (w : World) (hn : I64 n) (hd : I64 d) (hn' : I64 n') (hd' : I64 d') (hShape : w.cell? ⟨5, 0, none⟩ = some (.iface 312 (.pointer (some (ea 3))))) (hBound : w.cell? ⟨1, 0, none⟩ = some (.iface 312 (.pointer (some (ea 2))))) (hb : bothC n d n' d' = 0) (hc : cmpI (n * d') (n' * d) = c) :
    Calls Tryd.prog 51 #[.agg #[.int .i64 n, .int .i64 d], .agg #[.int .i64 n', .int .i64 d']] w fun e w' =>
      e = .returned (.tuple #[.int .i64 c, .nilIface]) ∧ Below w.heap.size w w' := by
  subst hc
  exact (fcmp_any ea n d n' d' _ _ w hn hd hn' hd' hShape hBound rfl rfl).mono fun e w' ⟨h1, h2⟩ => ⟨by rw [h1, cmV_0 hb], h2⟩
theorem fcmp_n (ea : Nat → Addr) (n d n' d' : Int) (w : World) (hn : I64 n) (hd : I64 d) (hn' : I64 n') (hd' : I64 d') (hShape : w.cell? ⟨5, 0, none⟩ = some (.iface 312 (.pointer (some (ea 3))))) (hBound : w.cell? ⟨1, 0, none⟩ = some (.iface 312 (.pointer (some (ea 2))))) (hb : bothC n d n' d' ≠ 0) :
    Calls Tryd.prog 51 #[.agg #[.int .i64 n, .int .i64 d], .agg #[.int .i64 n', .int .i64 d']] w fun e w' =>
      e = .returned (.tuple #[.int .i64 0, .iface 312 (.pointer (some (ea (bothC n d n' d'))))]) ∧ Below w.heap.size w w' := by
  exact (fcmp_any ea n d n' d' _ _ w hn hd hn' hd' hShape hBound rfl rfl).mono fun e w' ⟨h1, h2⟩ => ⟨by rw [h1, cmV_n hb], h2⟩
end Go.Proofs.YthijgncjaophjaaDoor
