/-
  Walks over package move: Read, of any text; over the statements' helper moved.
-/
import Derived.Test.YtbekidefgdijkaaGreatDoorRdL
import Derived.Test.YtbekidefgdijkaaGreatDoorMa
namespace Lead
open Go Go.RowKit
theorem cutR_small (y : UInt8) : ∀ l : List UInt8, (cutR y l).length ≤ l.length + 1 ∧ ∀ p ∈ cutR y l, p.length ≤ l.length
  | [] => ⟨by simp [cutR], fun p hp => by simp [cutR] at hp; subst hp; exact Nat.le_refl _⟩
  | c :: l => by
    obtain ⟨h1, h2⟩ := cutR_small y l
    have hne := cutR_ne y l
    unfold cutR
    by_cases h : c = y
    · rw [if_pos h]
      refine ⟨by simp; omega, fun p hp => ?_⟩
      rcases List.mem_cons.1 hp with rfl | hp
      · simp
      · have := h2 p hp; simp; omega
    · rw [if_neg h]
      cases hc : cutR y l with
      | nil => exact absurd hc hne
      | cons a r =>
        rw [hc] at h1 h2
        refine ⟨by simp at h1 ⊢; omega, fun p hp => ?_⟩
        rcases List.mem_cons.1 hp with rfl | hp
        · have := h2 a (by simp); simp; omega
        · have := h2 p (List.mem_of_mem_tail hp); simp; omega
theorem cutL_small (y : UInt8) (l : List UInt8) : 1 ≤ (cutL y l).length ∧ (cutL y l).length ≤ l.length + 1 ∧ ∀ p ∈ cutL y l, p.length ≤ l.length := by
  rw [cutL_R]
  obtain ⟨h1, h2⟩ := cutR_small y l
  refine ⟨?_, h1, h2⟩
  have := cutR_ne y l
  cases h : cutR y l with
  | nil => exact absurd h this
  | cons a r => simp
end Lead
namespace Go.Proofs.YtbekidefgdijkaaGreatDoor
open Go.RowKit Lead
variable {gz : Bool}

theorem mread_any (ea : Nat → Addr) (s : ByteArray) (w : World) (hs : s.size ≤ 90000) (hL : Libs w) (hG : Gs gz ea w) (hng : 20 ≤ w.heap.size) (hText : w.cell? ⟨0, 0, none⟩ = some (.iface 218 (.pointer (some (ea 1))))) (c : Nat) (v : Mv) (hc : moveC s.data.toList = c) (hv : moveV s.data.toList = v) :
    Calls Tryz.prog 28 #[.string s] w fun e w' => e = .returned (.tuple #[.agg #[.int .i64 v.A.n, .int .i64 v.A.d, .int .i64 v.B.n, .int .i64 v.B.d, .int .i64 v.C.n, .int .i64 v.C.d, .int .i64 v.D.n, .int .i64 v.D.d, .int .i64 v.E.n, .int .i64 v.E.d, .int .i64 v.F.n, .int .i64 v.F.d], evl 218 ea c]) ∧ Below w.heap.size w w' := by
  rcases tst s [] with ⟨h1, h2⟩ | ⟨h1, h2⟩
  · rw [h2] at hc hv
    have hc' : 0 = c := hc
    have hv' : oneM = v := hv
    subst hc' hv'
    rw [evl_0 rfl]
    exact mread_empty s w h1
  · obtain ⟨k1, k2, k3⟩ := cutL_small 32 s.data.toList
    have hl : s.data.toList.length = s.size := by simp
    exact mread_some ea s _ w h1 (by omega) rfl k1 (fun l hl' => by have := k3 l hl'; omega) (by omega) hL hG hng hText c v hc hv
def tMove12 : List UInt8 := [109, 111, 118, 101, 32, 49, 32, 50]
theorem move12 : moveC tMove12 = 0 ∧ moveV tMove12 = ⟨⟨1, 1⟩, ⟨0, 1⟩, ⟨0, 1⟩, ⟨1, 1⟩, ⟨1, 1⟩, ⟨2, 1⟩⟩ := by
  refine ⟨by decide +kernel, ?_⟩
  have h : ((moveV tMove12).A.n = 1 ∧ (moveV tMove12).A.d = 1 ∧ (moveV tMove12).B.n = 0 ∧ (moveV tMove12).B.d = 1 ∧ (moveV tMove12).C.n = 0 ∧ (moveV tMove12).C.d = 1) ∧ (moveV tMove12).D.n = 1 ∧ (moveV tMove12).D.d = 1 ∧ (moveV tMove12).E.n = 1 ∧ (moveV tMove12).E.d = 1 ∧ (moveV tMove12).F.n = 2 ∧ (moveV tMove12).F.d = 1 := by decide +kernel
  obtain ⟨⟨a1, a2, b1, b2, c1, c2⟩, d1, d2, e1, e2, f1, f2⟩ := h
  cases hm : moveV tMove12 with
  | mk A B C D E F =>
    rw [hm] at a1 a2 b1 b2 c1 c2 d1 d2 e1 e2 f1 f2
    cases A; cases B; cases C; cases D; cases E; cases F
    simp only at a1 a2 b1 b2 c1 c2 d1 d2 e1 e2 f1 f2
    subst a1 a2 b1 b2 c1 c2 d1 d2 e1 e2 f1 f2
    rfl
theorem at12 : atC ⟨⟨1, 1⟩, ⟨0, 1⟩, ⟨0, 1⟩, ⟨1, 1⟩, ⟨1, 1⟩, ⟨2, 1⟩⟩ ⟨0, 1, 0, 1⟩ = (0, none) ∧ atV ⟨⟨1, 1⟩, ⟨0, 1⟩, ⟨0, 1⟩, ⟨1, 1⟩, ⟨1, 1⟩, ⟨2, 1⟩⟩ ⟨0, 1, 0, 1⟩ = ⟨1, 1, 2, 1⟩ := step_at (x := 1) (y := 2) (p := ⟨0, 1, 0, 1⟩) (pt_ok (by decide +kernel)) (by omega) (by omega)
set_option maxHeartbeats 1000000 in
set_option maxRecDepth 100000 in
theorem moved_any (ea : Nat → Addr) (w : World) (hL : Libs w) (hG : Gs gz ea w) (hng : 20 ≤ w.heap.size) (hText : w.cell? ⟨0, 0, none⟩ = some (.iface 218 (.pointer (some (ea 1))))) :
    Calls Tryz.prog 18 #[] w fun e w' => e = .returned (.bool true) ∧ Below w.heap.size w w' := by
  obtain ⟨m, hm⟩ : ∃ m : Mv, (⟨⟨1, 1⟩, ⟨0, 1⟩, ⟨0, 1⟩, ⟨1, 1⟩, ⟨1, 1⟩, ⟨2, 1⟩⟩ : Mv) = m := ⟨_, rfl⟩
  have him : m.I := by rw [← hm]; exact (stepM_R (x := 1) (y := 2) (by omega) (by omega)).I
  have hip : Pt.I ⟨0, 1, 0, 1⟩ := (pt_ok (p := ⟨0, 1, 0, 1⟩) (by decide +kernel)).I
  have h12 := move12
  have hat := at12
  rw [hm] at h12 hat
  obtain ⟨hc, hv⟩ := h12
  obtain ⟨ha, hb⟩ := hat
  have H_hL := Lib.hid hL
  clear hL
  have H_hG := Lib.hid hG
  clear hG
  have H_him := Lib.hid him
  clear him
  have H_hip := Lib.hid hip
  clear hip
  have H_hc := Lib.hid hc
  clear hc
  have H_hv := Lib.hid hv
  clear hv
  have H_ha := Lib.hid ha
  clear ha
  have H_hb := Lib.hid hb
  clear hb
  have H_hm := Lib.hid hm
  clear hm
  go_enter Tryz.func18, Tryz.ntmps18
  ((try go_simp); (repeat go_step))
  refine call_bel (w := w) (by repeat' (first | (with_reducible exact Below.refl _ _) | (with_reducible assumption) | (with_reducible refine bdn ?_) | (with_reducible refine Below.alloc ?_ ?_ _) | (with_reducible refine Below.drew ?_) | (with_reducible refine Below.setCell ?_ ?_ _) | omega | (simp <;> omega))) (fun HB => mread_any ea ⟨#[109, 111, 118, 101, 32, 49, 32, 50]⟩ _ (by decide) (H_hL.out.keep HB rfl) (H_hG.out.keep HB rfl) (Nat.le_trans hng HB.size) (gkeep HB hText rfl) 0 m H_hc.out H_hv.out) ?_
  intro w1 hb1 hz1 c1 d1 hW1
  have t1 := hb1.size
  clear c1 d1 hz1 hW1
  rw [evl_0 rfl]
  ((try go_simp); (repeat go_step))
  refine call_qe (w := w) (by repeat' (first | (with_reducible exact Below.refl _ _) | (with_reducible assumption) | (with_reducible refine bdn ?_) | (with_reducible refine Below.alloc ?_ ?_ _) | (with_reducible refine Below.drew ?_) | (with_reducible refine Below.setCell ?_ ?_ _) | omega | (simp <;> omega))) (fun HB => mat_any ea m ⟨0, 1, 0, 1⟩ _ H_him.out H_hip.out (H_hG.out.keep HB rfl) (Nat.le_trans hng HB.size)) ?_
  rw [H_hb.out, H_ha.out]
  intro x2 w2 hx2 hb2 hz2 c2 d2 hW2
  have t2 := hb2.size
  try simp only [World.size_alloc] at hz2 c2 d2
  try simp only [World.size_drew] at hz2 c2 d2
  try simp only [World.size_setCell] at hz2 c2 d2
  try simp only [World.heap_drewN] at hz2 c2 d2
  try simp only [World.size_alloc] at hz2 c2 d2
  try simp only [World.size_drew] at hz2 c2 d2
  try simp only [World.size_setCell] at hz2 c2 d2
  have s2_0 : w1.heap.size < w2.heap.size := by omega
  have o2_0 := fun j => c2 (w1.heap.size) j (by omega)
  have f2_0 := fun j => d2 (w1.heap.size) j (by omega)
  clear c2 d2 hz2 hW2
  obtain rfl := hx2.nil rfl
  ((try go_simp); (repeat go_step))
  go_returns
  exact ⟨rfl, by repeat' (first | (with_reducible exact Below.refl _ _) | (with_reducible assumption) | (with_reducible refine bdn ?_) | (with_reducible refine Below.alloc ?_ ?_ _) | (with_reducible refine Below.drew ?_) | (with_reducible refine Below.setCell ?_ ?_ _) | omega | (simp <;> omega))⟩
end Go.Proofs.YtbekidefgdijkaaGreatDoor
