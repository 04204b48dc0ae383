/-
  Walks over package shape: Holds; over the statements' helpers: OwnPoints, square, shaped.
-/
import Derived.Test.YtpdaenldmgpkjaaGreatDoorShape7
import Derived.Test.YtpdaenldmgpkjaaGreatDoorPa
namespace Go.Proofs.YtpdaenldmgpkjaaGreatDoor
open Go.RowKit Lead

set_option maxHeartbeats 1000000 in
theorem shholds_wind (ea : Nat → Addr) (ps : List Pt) (oa : Option Addr) (len cap : Nat) (p : Pt) (w : World) (hs : SlP w oa len cap ps) (hpI : p.I) (hShape : w.cell? ⟨2, 0, none⟩ = some (.iface 308 (.pointer (some (ea 3))))) (hBound : w.cell? ⟨0, 0, none⟩ = some (.iface 308 (.pointer (some (ea 2))))) :
    Calls Tryz.prog 47 #[.agg #[.slice oa len cap], .agg #[.int .i64 p.xn, .int .i64 p.xd, .int .i64 p.yn, .int .i64 p.yd], .string ⟨#[119, 105, 110, 100]⟩] w (RetBE 308 119 ea (crC ps p) ((crL ps p).sum != 0) w) := by
  have zhShape := zlt hShape
  have xhShape := zlts hShape
  have yhShape := zne hShape
  have zhBound := zlt hBound
  have xhBound := zlts hBound
  have yhBound := zne hBound
  have H_hs := Lib.hid hs
  clear hs
  go_enter Tryz.func47, Tryz.ntmps47
  go_wp2_with fail
  refine call_ne (w := w) (by repeat' (first | (with_reducible first | exact bwR _ _ | assumption | refine bdn ?_ | refine bwA ?_ ?_ _ | refine bwD ?_ | refine bwS ?_ ?_ _) | omega | (simp <;> omega))) (fun HB => shwind_any ea ps oa len cap p _ (H_hs.out.keep HB rfl) hpI (gkeep HB hShape rfl) (gkeep HB hBound rfl)) ?_
  intro x w1 hx hb1 hz1 c1 d1 _
  simp only [World.size_alloc] at hx hz1
  have H_hx := Lib.hid hx
  clear hx c1 d1
  go_wp2_with fail
  go_returns
  exact ⟨_, rfl, H_hx.out.keep (Below.refl _ _) rfl (by omega), hb1⟩

set_option maxHeartbeats 1000000 in
theorem shholds_even (ea : Nat → Addr) (ps : List Pt) (oa : Option Addr) (len cap : Nat) (p : Pt) (w : World) (hs : SlP w oa len cap ps) (hpI : p.I) (hShape : w.cell? ⟨2, 0, none⟩ = some (.iface 308 (.pointer (some (ea 3))))) (hBound : w.cell? ⟨0, 0, none⟩ = some (.iface 308 (.pointer (some (ea 2))))) :
    Calls Tryz.prog 47 #[.agg #[.slice oa len cap], .agg #[.int .i64 p.xn, .int .i64 p.xd, .int .i64 p.yn, .int .i64 p.yd], .string ⟨#[101, 118, 101, 110]⟩] w (RetBE 308 119 ea (crC ps p) (((crL ps p).length : Int) % 2 == 1) w) := by
  have zhShape := zlt hShape
  have xhShape := zlts hShape
  have yhShape := zne hShape
  have zhBound := zlt hBound
  have xhBound := zlts hBound
  have yhBound := zne hBound
  have H_hs := Lib.hid hs
  clear hs
  go_enter Tryz.func47, Tryz.ntmps47
  go_wp2_with fail
  refine call_ne (w := w) (by repeat' (first | (with_reducible first | exact bwR _ _ | assumption | refine bdn ?_ | refine bwA ?_ ?_ _ | refine bwD ?_ | refine bwS ?_ ?_ _) | omega | (simp <;> omega))) (fun HB => shcross_any' ea ps oa len cap p _ (H_hs.out.keep HB rfl) hpI (gkeep HB hShape rfl) (gkeep HB hBound rfl)) ?_
  intro x w1 hx hb1 hz1 c1 d1 _
  simp only [World.size_alloc] at hx hz1
  have H_hx := Lib.hid hx
  clear hx c1 d1
  go_wp2_with fail
  go_returns
  exact ⟨_, rfl, H_hx.out.keep (Below.refl _ _) rfl (by omega), hb1⟩

theorem info26 : (Tryz.prog.info? 102).map (fun i => (i.zero, i.size, i.bytes)) = some (some (.agg #[.int .i64 0, .int .i64 0, .int .i64 0, .int .i64 0]), 4, 32) := by kernel_rfl

set_option maxHeartbeats 1000000 in
theorem ownpoints_any (ps : List Pt) (oa : Option Addr) (len cap : Nat) (w : World) (hs : SlP w oa len cap ps) (hlen : len ≤ 1000) :
    Calls Tryz.prog 25 #[.slice oa len cap] w (RetP 102 ps w) := by
  obtain ⟨hl, hlc, hm, hI, hcase⟩ := hs
  obtain ⟨i0, hi, hz0, hz1, hz2⟩ := info_parts info26
  rcases hcase with ⟨rfl, hl0, rfl⟩ | ⟨b, off, rfl, hbl, hp⟩
  · have hn : ps = [] := List.length_eq_zero_iff.1 (hl.symm.trans hl0)
    subst hl0
    have H_hl := Lib.hid hl
    clear hl
    have H_hn := Lib.hid hn
    clear hn
    have H_hi := Lib.hid hi
    clear hi
    have H_hz0 := Lib.hid hz0
    clear hz0
    have H_hz1 := Lib.hid hz1
    clear hz1
    have H_hz2 := Lib.hid hz2
    clear hz2
    go_enter Tryz.func25, Tryz.ntmps25
    go_wp2_with fail
    go_returns
    exact ⟨_, rfl, by rw [H_hn.out]; exact OwnP.nil _ _ _, Below.refl _ _⟩
  · have H_hl := Lib.hid hl
    clear hl
    have H_hi := Lib.hid hi
    clear hi
    have H_hz0 := Lib.hid hz0
    clear hz0
    have H_hz1 := Lib.hid hz1
    clear hz1
    have H_hz2 := Lib.hid hz2
    clear hz2
    have H_hp := Lib.hid hp
    clear hp
    go_enter Tryz.func25, Tryz.ntmps25
    go_wp2_with (at_builtin; refine wpList_append_own _ rfl (.tmp 4) (.tmp 5) 50 rfl w.heap.size 102 i0 _ 4 32 Tryz.underlying50 H_hi.out H_hz0.out H_hz1.out H_hz2.out rfl (by decide) _ 0 [] rfl (World.ownsRow_nil _ _ _ _) ⟨b, off, none⟩ len cap (flat ps) rfl ?c0 ?c1 ?c2 ?c3 ?c4 ?c5 ?_)
    case c0 => rw [flat_len, H_hl.out]
    case c1 => exact H_hp.out.cells
    case c2 => exact flat_one ps
    case c3 => unfold maxLen; omega
    case c4 => omega
    case c5 => exact Nat.le_refl _
    intro v' w1 hown' hgrow _
    have hB := (Below.refl w.heap.size w).grown hgrow (Nat.le_refl _) (fun q hq => by cases hq)
    have H_own := Lib.hid hown'
    clear hown' hgrow
    go_wp2_with fail
    go_returns
    exact ⟨_, rfl, by have := H_own.out; rw [H_hl.out] at this; exact this, hB⟩

set_option maxHeartbeats 1000000 in
theorem square_2 (w : World) : Calls Tryz.prog 45 #[.int .i64 2] w (RetP 102 [⟨0, 1, 0, 1⟩, ⟨2, 1, 0, 1⟩, ⟨2, 1, 2, 1⟩, ⟨0, 1, 2, 1⟩] w) := by
  go_enter Tryz.func45, Tryz.ntmps45
  go_wp2_with fail
  go_returns
  refine ⟨_, rfl, ?_, by repeat' (first | (with_reducible first | exact bwR _ _ | assumption | refine bdn ?_ | refine bwA ?_ ?_ _ | refine bwD ?_ | refine bwS ?_ ?_ _) | omega | (simp <;> omega))⟩
  exact own_lit2 w _ _ _ [⟨0, 1, 0, 1⟩, ⟨2, 1, 0, 1⟩, ⟨2, 1, 2, 1⟩, ⟨0, 1, 2, 1⟩] (by unfold maxLen; decide)

def sq2 : List Pt := [⟨0, 1, 0, 1⟩, ⟨2, 1, 0, 1⟩, ⟨2, 1, 2, 1⟩, ⟨0, 1, 2, 1⟩]
theorem sq2_c : crC sq2 ⟨1, 1, 1, 1⟩ = (0, none) := by decide +kernel
theorem sq2_w : (crL sq2 ⟨1, 1, 1, 1⟩).sum = 1 := by decide +kernel
theorem sq2_e : (((crL sq2 ⟨1, 1, 1, 1⟩).length : Int) % 2 == 1) = true := by decide +kernel
theorem sq2_I : ∀ p ∈ sq2, p.I := by
  intro p hp
  simp [sq2] at hp
  rcases hp with rfl | rfl | rfl | rfl <;> exact ⟨by unfold I64; decide, by unfold I64; decide, by unfold I64; decide, by unfold I64; decide⟩

set_option maxHeartbeats 1000000 in
theorem shaped_any (ea : Nat → Addr) (w : World) (hShape : w.cell? ⟨2, 0, none⟩ = some (.iface 308 (.pointer (some (ea 3))))) (hBound : w.cell? ⟨0, 0, none⟩ = some (.iface 308 (.pointer (some (ea 2))))) :
    Calls Tryz.prog 18 #[] w fun e w' => e = .returned (.bool true) ∧ Below w.heap.size w w' := by
  have zhShape := zlt hShape
  have xhShape := zlts hShape
  have yhShape := zne hShape
  have zhBound := zlt hBound
  have xhBound := zlts hBound
  have yhBound := zne hBound
  have hI1 : Pt.I ⟨1, 1, 1, 1⟩ := ⟨by unfold I64; decide, by unfold I64; decide, by unfold I64; decide, by unfold I64; decide⟩
  go_enter Tryz.func18, Tryz.ntmps18
  go_wp2_with fail
  refine call_p (w := w) (by repeat' (first | (with_reducible first | exact bwR _ _ | assumption | refine bdn ?_ | refine bwA ?_ ?_ _ | refine bwD ?_ | refine bwS ?_ ?_ _) | omega | (simp <;> omega))) (fun HB => square_2 _) ?_
  intro v w1 hv hb1 hz1 c1 d1 _
  have t1 := hb1.size
  obtain ⟨oa, cap, rfl, hs⟩ := hv.slp sq2_I
  clear c1 d1 hz1
  have H_hv := Lib.hid hv
  clear hv
  have H_hs := Lib.hid hs
  clear hs
  go_wp2_with fail
  refine call_ne (w := w) (by repeat' (first | (with_reducible first | exact bwR _ _ | assumption | refine bdn ?_ | refine bwA ?_ ?_ _ | refine bwD ?_ | refine bwS ?_ ?_ _) | omega | (simp <;> omega))) (fun HB => shwind_any ea sq2 oa _ cap ⟨1, 1, 1, 1⟩ _ (H_hs.out.keep (w1 := _) (B := w1.heap.size) (by repeat' (first | (with_reducible first | exact bwR _ _ | assumption | refine bdn ?_ | refine bwA ?_ ?_ _ | refine bwD ?_ | refine bwS ?_ ?_ _) | omega | (simp <;> omega))) rfl) hI1 (gkeep HB hShape rfl) (gkeep HB hBound rfl)) ?_
  rw [sq2_w, sq2_c]
  intro x w2 hx hb2 hz2 c2 d2 hbW
  obtain rfl := hx.nil rfl
  have hs2 : SlP w2 oa _ cap sq2 := H_hs.out.keep (B := w1.heap.size) ((show Below w1.heap.size w1 _ from by repeat' (first | (with_reducible first | exact bwR _ _ | assumption | refine bdn ?_ | refine bwA ?_ ?_ _ | refine bwD ?_ | refine bwS ?_ ?_ _) | omega | (simp <;> omega))).trans (hbW.mono (by simp; omega))) rfl
  simp only [World.size_alloc] at hz2 c2
  have s2 : w1.heap.size < w2.heap.size := by omega
  have o2 := fun j => c2 w1.heap.size j (by omega)
  have s3 : w1.heap.size + 1 < w2.heap.size := by omega
  have o3 := fun j => c2 (w1.heap.size + 1) j (by omega)
  have t2 := hb2.size
  clear c2 d2 hbW hx
  have H_hs2 := Lib.hid hs2
  clear hs2
  go_wp2_with fail
  refine call_be (w := w) (by repeat' (first | (with_reducible first | exact bwR _ _ | assumption | refine bdn ?_ | refine bwA ?_ ?_ _ | refine bwD ?_ | refine bwS ?_ ?_ _) | omega | (simp <;> omega))) (fun HB => shholds_even ea sq2 oa _ cap ⟨1, 1, 1, 1⟩ _ H_hs2.out hI1 (gkeep HB hShape rfl) (gkeep HB hBound rfl)) ?_
  rw [sq2_e, sq2_c]
  intro x w3 hx hb3 hz3 c3 d3 _
  obtain rfl := hx.nil rfl
  clear c3 d3 hx
  go_wp2_with fail
  go_returns
  exact ⟨rfl, hb3⟩
end Go.Proofs.YtpdaenldmgpkjaaGreatDoor
