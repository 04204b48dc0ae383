/-
  Walks over package pick: Text; the law's first lines: picked.
-/
import Derived.Test.YtbcoccgfoionlaaDoorPkg
import Derived.Test.YtbcoccgfoionlaaDoorPkf
namespace Go.Proofs.YtbcoccgfoionlaaDoor
open Go.RowKit Go.WideMaps Go.Maps Lead Lead.Dc Lead.Pk
theorem text_any (x : Value) (S : ByteArray) (w : World) :
    Calls Tryd.prog 31 #[.agg #[x, .string S], ] w fun en w' => en = .returned (.string S) ∧ Below w.heap.size w w' := by
  go_enter Tryd.func31, Tryd.ntmps31
  go_wp2_with fail
  go_returns
  exact ⟨rfl, by repeat' (first | (with_reducible first | exact bwR _ _ | assumption | refine bdn ?_ | refine bwA ?_ ?_ _ | refine bwD ?_ | refine bwS ?_ ?_ _) | omega | (simp <;> omega))⟩
set_option maxHeartbeats 4000000 in
theorem picked_any (ea : Nat → Addr) (m : Int) (w : World) (hE : w.cell? ⟨6, 0, none⟩ = some (.iface 168 (.pointer (some (ea 1))))) (hm : w.cell? ⟨12, 0, none⟩ = some (.int .i64 m)) :
    Calls Tryd.prog 14 #[] w fun en w' => en = .returned (.bool true) ∧ Below w.heap.size w w' := by
  obtain ⟨l, hl, hw⟩ := read_abc
  have cR := pread_any ea m [97, 32, 62, 32, 98, 46, 99] w (by decide) hE hm
  rw [hl] at cR
  have hbs : bs [97, 32, 62, 32, 98, 46, 99] = ⟨#[97, 32, 62, 32, 98, 46, 99]⟩ := rfl
  have H_cR := Lib.hid cR
  clear cR
  have H_hl := Lib.hid hl
  clear hl
  have H_hw := Lib.hid hw
  clear hw
  have H_hbs := Lib.hid hbs
  clear hbs
  go_enter Tryd.func14, Tryd.ntmps14
  go_wp2_with fail
  refine (H_cR.out).mono ?_
  rintro en w1 ⟨hB1, v, rfl, hv⟩
  rw [H_hbs.out]
  have cW := fun (W : World) (hb : Below w1.heap.size w1 W) => weight_any 79 83 w.heap.size v ⟨#[97, 32, 62, 32, 98, 46, 99]⟩ l W (hv.keep hb) (by rw [H_hw.out]; decide)
  rw [H_hw.out] at cW
  obtain ⟨o, c, q, rfl⟩ : ∃ o c q, v = .slice o q c := by
    obtain ⟨xs, h1, _, _⟩ := hv
    obtain ⟨o, c, h⟩ := ow_form h1
    exact ⟨o, c, _, h⟩
  have H_cW := Lib.hid cW
  clear cW
  have H_hv := Lib.hid hv
  clear hv
  go_wp2_with fail
  refine (text_any _ _ _).mono ?_
  rintro _ w2 ⟨rfl, hb2⟩
  have hB2 : Below w1.heap.size w1 w2 := below_via (by repeat' (first | (with_reducible first | exact bwR _ _ | assumption | refine bdn ?_ | refine bwA ?_ ?_ _ | refine bwD ?_ | refine bwS ?_ ?_ _) | omega | (simp <;> omega))) hb2
  have b0 : w2.cell? ⟨w1.heap.size, 0, none⟩ = some (.slice o q c) := gkeep hb2 (World.cell?_alloc_new _ _ _ _) (by simp)
  have b1 : w2.cell? ⟨w1.heap.size, 1, none⟩ = some (.string ⟨#[97, 32, 62, 32, 98, 46, 99]⟩) := gkeep hb2 (World.cell?_alloc_new _ _ _ _) (by simp)
  clear hb2
  go_wp2_with fail
  refine (H_cW.out _ hB2).mono ?_
  rintro _ w3 ⟨rfl, hb3⟩
  have hB3 : Below w.heap.size w w3 := below_via (below_via hB1 hB2) hb3
  clear hb3 b0 b1
  go_wp2_with fail
  go_returns
  exact ⟨rfl, hB3⟩
end Go.Proofs.YtbcoccgfoionlaaDoor
