/-
  Walks over package paint: Paint and Row at any pieces and sizes: one contract each.
-/
import Derived.Test.YtaidgecpglikpaaDoorPc5
namespace Lead
open Go Go.RowKit
/-- What Paint tells. -/
def paintC (l : List Pk) (zw zh : Int) : Nat × Option Nat := if 1 ≤ zw ∧ zw ≤ 40 ∧ 1 ≤ zh ∧ zh ≤ 40 then chkP l 0 else (2, none)
def rowC (l : List Pk) (zw zy : Int) : Nat × Option Nat := if 1 ≤ zw ∧ zw ≤ 40 ∧ 0 ≤ zy ∧ zy < 40 then chkP l 0 else (2, none)
/-- A picture, or an error. -/
def PicIs (T F : Nat) (ea : Nat → Addr) (l : List Pk) (zw zh : Int) (lo : Nat) (w : World) (pw ph : Int) (po : Option Addr) (pl : Nat) (x : Value) : Prop :=
  ((paintC l zw zh).1 ≠ 0 ∧ pw = 0 ∧ ph = 0 ∧ pl = 0 ∧ ErrAt T F ea lo w x (paintC l zw zh)) ∨
  (paintC l zw zh = (0, none) ∧ chkP l 0 = (0, none) ∧ x = .nilIface ∧ ∃ n m g : Nat, zw = n ∧ zh = m ∧ 1 ≤ n ∧ n ≤ 40 ∧ 1 ≤ m ∧ m ≤ 40 ∧ pw = n ∧ ph = m ∧ po = some ⟨g, 0, none⟩ ∧ pl = (cellsP l n m).length ∧ g < w.heap.size ∧ RowIn ESt w g 0 (cellsP l n m))
def RowIs (T F : Nat) (ea : Nat → Addr) (l : List Pk) (zw zy : Int) (lo : Nat) (w : World) (ro : Option Addr) (rl : Nat) (x : Value) : Prop :=
  ((rowC l zw zy).1 ≠ 0 ∧ rl = 0 ∧ ErrAt T F ea lo w x (rowC l zw zy)) ∨
  (rowC l zw zy = (0, none) ∧ chkP l 0 = (0, none) ∧ x = .nilIface ∧ ∃ n y g : Nat, zw = n ∧ zy = y ∧ 1 ≤ n ∧ n ≤ 40 ∧ y < 40 ∧ ro = some ⟨g, 0, none⟩ ∧ rl = n ∧ g < w.heap.size ∧ RowIn ESt w g 0 (rowP l y (dots n)))
end Lead
namespace Go.Proofs.YtaidgecpglikpaaDoor
open Go.RowKit Lead
theorem paint_all (ea : Nat → Addr) (l : List Pc) (oa : Option Addr) (len cap : Nat) (zw zh : Int) (w : World) (hs : SlPc w oa len cap l) (hP : PGs ea w) :
    Calls Tryd.prog 7 #[.slice oa len cap, .int .i64 zw, .int .i64 zh] w fun e w' => ∃ pw ph po pl pc x, e = .returned (.tuple #[.agg #[.int .i64 pw, .int .i64 ph, .slice po pl pc], x]) ∧ PicIs 181 92 ea (l.map Pc.k) zw zh w.heap.size w' pw ph po pl x ∧ Below w.heap.size w w' := by
  by_cases hin : 1 ≤ zw ∧ zw ≤ 40 ∧ 1 ≤ zh ∧ zh ≤ 40
  · have hpc : paintC (l.map Pc.k) zw zh = chkP (l.map Pc.k) 0 := if_pos hin
    rcases chkP_some (l.map Pc.k) 0 with h | h
    · obtain ⟨n, rfl⟩ := Int.eq_ofNat_of_zero_le (show 0 ≤ zw by omega)
      obtain ⟨m, rfl⟩ := Int.eq_ofNat_of_zero_le (show 0 ≤ zh by omega)
      refine (paint_ok ea l oa len cap n m w hs hP (by omega) (by omega) (by omega) (by omega) h).mono ?_
      rintro e w' ⟨g, cp, rfl, _, hg, _, hrow, hB⟩
      exact ⟨_, _, _, _, _, _, rfl, .inr ⟨hpc.trans h, h, rfl, n, m, g, rfl, rfl, by omega, by omega, by omega, by omega, rfl, rfl, rfl, rfl, hg, hrow⟩, hB⟩
    · refine (paint_errc ea l oa len cap zw zh (chkP (l.map Pc.k) 0) w hs hP (.inr ⟨hin, rfl, h⟩)).mono ?_
      rintro e w' ⟨x, rfl, hx, hB⟩
      exact ⟨_, _, _, _, _, _, rfl, .inl ⟨by rw [hpc]; exact h, rfl, rfl, rfl, by rw [hpc]; exact hx⟩, hB⟩
  · have hpc : paintC (l.map Pc.k) zw zh = (2, none) := if_neg hin
    refine (paint_errc ea l oa len cap zw zh (2, none) w hs hP (.inl ⟨hin, rfl⟩)).mono ?_
    rintro e w' ⟨x, rfl, hx, hB⟩
    exact ⟨_, _, _, _, _, _, rfl, .inl ⟨by rw [hpc]; decide, rfl, rfl, rfl, by rw [hpc]; exact hx⟩, hB⟩
theorem rowf_all (ea : Nat → Addr) (l : List Pc) (oa : Option Addr) (len cap : Nat) (zw zy : Int) (w : World) (hs : SlPc w oa len cap l) (hP : PGs ea w) :
    Calls Tryd.prog 16 #[.slice oa len cap, .int .i64 zw, .int .i64 zy] w fun e w' => ∃ ro rl rc x, e = .returned (.tuple #[.slice ro rl rc, x]) ∧ RowIs 181 92 ea (l.map Pc.k) zw zy w.heap.size w' ro rl x ∧ Below w.heap.size w w' := by
  by_cases hin : 1 ≤ zw ∧ zw ≤ 40 ∧ 0 ≤ zy ∧ zy < 40
  · have hpc : rowC (l.map Pc.k) zw zy = chkP (l.map Pc.k) 0 := if_pos hin
    rcases chkP_some (l.map Pc.k) 0 with h | h
    · obtain ⟨n, rfl⟩ := Int.eq_ofNat_of_zero_le (show 0 ≤ zw by omega)
      obtain ⟨y, rfl⟩ := Int.eq_ofNat_of_zero_le (show 0 ≤ zy by omega)
      refine (rowf_ok ea l oa len cap n y w hs hP (by omega) (by omega) (by omega) h).mono ?_
      rintro e w' ⟨g, rfl, _, hh, hB⟩
      exact ⟨_, _, _, _, rfl, .inr ⟨hpc.trans h, h, rfl, n, y, g, rfl, rfl, by omega, by omega, by omega, rfl, rfl, (Array.getElem?_eq_some_iff.1 hh).1, row_of_heap hh⟩, hB⟩
    · refine (rowf_errc ea l oa len cap zw zy (chkP (l.map Pc.k) 0) w hs hP (.inr ⟨hin, rfl, h⟩)).mono ?_
      rintro e w' ⟨x, rfl, hx, hB⟩
      exact ⟨_, _, _, _, rfl, .inl ⟨by rw [hpc]; exact h, rfl, by rw [hpc]; exact hx⟩, hB⟩
  · have hpc : rowC (l.map Pc.k) zw zy = (2, none) := if_neg hin
    refine (rowf_errc ea l oa len cap zw zy (2, none) w hs hP (.inl ⟨hin, rfl⟩)).mono ?_
    rintro e w' ⟨x, rfl, hx, hB⟩
    exact ⟨_, _, _, _, rfl, .inl ⟨by rw [hpc]; decide, rfl, by rw [hpc]; exact hx⟩, hB⟩
end Go.Proofs.YtaidgecpglikpaaDoor
