/-
  Walks over package shape: crossing.
-/
import Derived.Test.YthpicnajemnfdaaDoorShape1
namespace Go.Proofs.YthpicnajemnfdaaDoor
open Go.RowKit Lead

theorem shless_b (n d n' d' : Int) (b : Bool) (w : World) (hb : decide (wrap64 (n * d') < wrap64 (n' * d)) = b) :
    Calls Tryd.prog 77 #[.agg #[.int .i64 n, .int .i64 d], .agg #[.int .i64 n', .int .i64 d']] w fun e w' => e = .returned (.bool b) ∧ Below w.heap.size w w' :=
  shless_any n d n' d' _ _ b w rfl rfl hb

set_option maxHeartbeats 1000000 in
set_option maxRecDepth 100000 in
theorem shcross_any (axn axd ayn ayd bxn bxd byn byd pxn pxd pyn pyd s : Int) (l1 l2 : Bool) (w : World)
    (h1 : decide (wrap64 (pyn * ayd) < wrap64 (ayn * pyd)) = l1) (h2 : decide (wrap64 (pyn * byd) < wrap64 (byn * pyd)) = l2)
    (hs : wrap64 (wrap64 (wrap64 (wrap64 (wrap64 (wrap64 (bxn * axd) - wrap64 (axn * bxd)) * wrap64 (wrap64 (pyn * ayd) - wrap64 (ayn * pyd))) * byd) * pxd) - wrap64 (wrap64 (wrap64 (wrap64 (wrap64 (pxn * axd) - wrap64 (axn * pxd)) * wrap64 (wrap64 (byn * ayd) - wrap64 (ayn * byd))) * bxd) * pyd)) = s) :
    Calls Tryd.prog 63 #[.agg #[.int .i64 axn, .int .i64 axd, .int .i64 ayn, .int .i64 ayd], .agg #[.int .i64 bxn, .int .i64 bxd, .int .i64 byn, .int .i64 byd], .agg #[.int .i64 pxn, .int .i64 pxd, .int .i64 pyn, .int .i64 pyd]] w fun e w' => e = .returned (.int .i64 (crossB l1 l2 s)) ∧ Below w.heap.size w w' := by
  have H_hs := Lib.hid hs
  clear hs
  have H_h1 := Lib.hid h1
  clear h1
  have H_h2 := Lib.hid h2
  clear h2
  go_enter Tryd.func63, Tryd.ntmps63
  go_wp2_with fail
  go_region_held3 (fun W => Below w.heap.size w W ∧ w.heap.size + 1 + 1 < W.heap.size ∧ (∀ j, W.cell? ⟨w.heap.size, j, none⟩ = #[Value.int .i64 axn, .int .i64 axd, .int .i64 ayn, .int .i64 ayd][j]?) ∧ (∀ j, W.cell? ⟨w.heap.size + 1, j, none⟩ = #[Value.int .i64 bxn, .int .i64 bxd, .int .i64 byn, .int .i64 byd][j]?) ∧ (∀ j, W.cell? ⟨w.heap.size + 1 + 1, j, none⟩ = #[Value.int .i64 pxn, .int .i64 pxd, .int .i64 pyn, .int .i64 pyd][j]?)) (first | exact own3_start _ _ _ _ _ | exact own3_step (by assumption) (by assumption))
    (first | (go_at_call 77; (with_reducible refine (shless_b _ _ _ _ l1 _ H_h1.out).mono ?_); rintro e w' ⟨rfl, hbb⟩) | (go_at_call 77; (with_reducible refine (shless_b _ _ _ _ l2 _ H_h2.out).mono ?_); rintro e w' ⟨rfl, hbb⟩))
  clear hbb
  rename_i hh
  obtain ⟨hb, hz, o1, o2, o3⟩ := hh
  generalize hW : w' = W at *
  clear hW
  cases l1 <;> cases l2
  · go_wp2_with fail
    go_ret
    exact ⟨rfl, hb⟩
  · by_cases h0 : 0 < s
    · go_wp2_with fail
      refine call_below (w := w) (by repeat' (first | (with_reducible exact Below.refl _ _) | (with_reducible assumption) | (with_reducible refine bdn ?_) | (with_reducible refine Below.alloc ?_ ?_ _) | (with_reducible refine Below.drew ?_) | (with_reducible refine Below.setCell ?_ ?_ _) | omega | (simp <;> omega))) (fun HB => shside_any _ _ _ _ _ _ _ _ _ _ _ _ s _ H_hs.out) ?_
      intro w1 hb1 hz1 c1 d1
      have t1 := hb1.size
      clear c1 d1 hz1
      go_wp2_with fail
      go_returns
      exact ⟨by unfold crossB; rw [if_pos ⟨rfl, rfl, h0⟩]; rfl, by repeat' (first | (with_reducible exact Below.refl _ _) | (with_reducible assumption) | (with_reducible refine bdn ?_) | (with_reducible refine Below.alloc ?_ ?_ _) | (with_reducible refine Below.drew ?_) | (with_reducible refine Below.setCell ?_ ?_ _) | omega | (simp <;> omega))⟩
    · go_wp2_with fail
      refine call_below (w := w) (by repeat' (first | (with_reducible exact Below.refl _ _) | (with_reducible assumption) | (with_reducible refine bdn ?_) | (with_reducible refine Below.alloc ?_ ?_ _) | (with_reducible refine Below.drew ?_) | (with_reducible refine Below.setCell ?_ ?_ _) | omega | (simp <;> omega))) (fun HB => shside_any _ _ _ _ _ _ _ _ _ _ _ _ s _ H_hs.out) ?_
      intro w1 hb1 hz1 c1 d1
      have t1 := hb1.size
      clear c1 d1 hz1
      go_wp2_with fail
      go_returns
      exact ⟨by unfold crossB; rw [if_neg (by omega), if_neg (by simp)]; rfl, by repeat' (first | (with_reducible exact Below.refl _ _) | (with_reducible assumption) | (with_reducible refine bdn ?_) | (with_reducible refine Below.alloc ?_ ?_ _) | (with_reducible refine Below.drew ?_) | (with_reducible refine Below.setCell ?_ ?_ _) | omega | (simp <;> omega))⟩
  · by_cases h0 : s < 0
    · go_wp2_with fail
      refine call_below (w := w) (by repeat' (first | (with_reducible exact Below.refl _ _) | (with_reducible assumption) | (with_reducible refine bdn ?_) | (with_reducible refine Below.alloc ?_ ?_ _) | (with_reducible refine Below.drew ?_) | (with_reducible refine Below.setCell ?_ ?_ _) | omega | (simp <;> omega))) (fun HB => shside_any _ _ _ _ _ _ _ _ _ _ _ _ s _ H_hs.out) ?_
      intro w1 hb1 hz1 c1 d1
      have t1 := hb1.size
      clear c1 d1 hz1
      go_wp2_with fail
      go_returns
      exact ⟨by unfold crossB; rw [if_neg (by simp), if_pos ⟨rfl, rfl, h0⟩]; rfl, by repeat' (first | (with_reducible exact Below.refl _ _) | (with_reducible assumption) | (with_reducible refine bdn ?_) | (with_reducible refine Below.alloc ?_ ?_ _) | (with_reducible refine Below.drew ?_) | (with_reducible refine Below.setCell ?_ ?_ _) | omega | (simp <;> omega))⟩
    · go_wp2_with fail
      refine call_below (w := w) (by repeat' (first | (with_reducible exact Below.refl _ _) | (with_reducible assumption) | (with_reducible refine bdn ?_) | (with_reducible refine Below.alloc ?_ ?_ _) | (with_reducible refine Below.drew ?_) | (with_reducible refine Below.setCell ?_ ?_ _) | omega | (simp <;> omega))) (fun HB => shside_any _ _ _ _ _ _ _ _ _ _ _ _ s _ H_hs.out) ?_
      intro w1 hb1 hz1 c1 d1
      have t1 := hb1.size
      clear c1 d1 hz1
      go_wp2_with fail
      go_returns
      exact ⟨by unfold crossB; rw [if_neg (by simp), if_neg (by omega)]; rfl, by repeat' (first | (with_reducible exact Below.refl _ _) | (with_reducible assumption) | (with_reducible refine bdn ?_) | (with_reducible refine Below.alloc ?_ ?_ _) | (with_reducible refine Below.drew ?_) | (with_reducible refine Below.setCell ?_ ?_ _) | omega | (simp <;> omega))⟩
  · go_wp2_with fail
    go_ret
    exact ⟨rfl, hb⟩
end Go.Proofs.YthpicnajemnfdaaDoor
