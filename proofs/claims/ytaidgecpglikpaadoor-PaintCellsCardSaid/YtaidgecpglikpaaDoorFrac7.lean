/-
  Walks: the statements' helper 'halved'; Cmp and Add with what is known.
-/
import Derived.Test.YtaidgecpglikpaaDoorFrac6
import Derived.Test.YtaidgecpglikpaaDoorFa
import Derived.Test.YtaidgecpglikpaaDoorPa
namespace Go.Proofs.YtaidgecpglikpaaDoor
open Go.RowKit Lead

theorem half_c : mkC 2 (-4) = 0 := by decide +kernel
theorem half_n : lowN 2 (-4) = -1 := by decide +kernel
theorem half_d : lowD 2 (-4) = 2 := by decide +kernel
theorem half_t : txtF (-1) 2 = [45, 49, 47, 50] := by decide +kernel

theorem fcmp_0 (ea : Nat → Addr) (n d n' d' c : Int) (w : World) (hn : I64 n) (hd : I64 d) (hn' : I64 n') (hd' : I64 d') (hShape : w.cell? ⟨3, 0, none⟩ = some (.iface 181 (.pointer (some (ea 3))))) (hBound : w.cell? ⟨0, 0, none⟩ = some (.iface 181 (.pointer (some (ea 2))))) (hb : bothC n d n' d' = 0) (hc : cmpI (n * d') (n' * d) = c) :
    Calls Tryd.prog 36 #[.agg #[.int .i64 n, .int .i64 d], .agg #[.int .i64 n', .int .i64 d']] w fun e w' =>
      e = .returned (.tuple #[.int .i64 c, .nilIface]) ∧ Below w.heap.size w w' := by
  subst hc
  exact (fcmp_any ea n d n' d' _ _ w hn hd hn' hd' hShape hBound rfl rfl).mono fun e w' ⟨h1, h2⟩ => ⟨by rw [h1, cmV_0 hb], h2⟩
theorem fcmp_n (ea : Nat → Addr) (n d n' d' : Int) (w : World) (hn : I64 n) (hd : I64 d) (hn' : I64 n') (hd' : I64 d') (hShape : w.cell? ⟨3, 0, none⟩ = some (.iface 181 (.pointer (some (ea 3))))) (hBound : w.cell? ⟨0, 0, none⟩ = some (.iface 181 (.pointer (some (ea 2))))) (hb : bothC n d n' d' ≠ 0) :
    Calls Tryd.prog 36 #[.agg #[.int .i64 n, .int .i64 d], .agg #[.int .i64 n', .int .i64 d']] w fun e w' =>
      e = .returned (.tuple #[.int .i64 0, .iface 181 (.pointer (some (ea (bothC n d n' d'))))]) ∧ Below w.heap.size w w' := by
  exact (fcmp_any ea n d n' d' _ _ w hn hd hn' hd' hShape hBound rfl rfl).mono fun e w' ⟨h1, h2⟩ => ⟨by rw [h1, cmV_n hb], h2⟩
end Go.Proofs.YtaidgecpglikpaaDoor
