/-
  Several texts as one: Mvd, Ga.
-/
import Derived.Test.YtlhadgnpkooiaaaGreatDoorRdL
import Derived.Test.YtlhadgnpkooiaaaGreatDoorMa
import Derived.Test.YtlhadgnpkooiaaaGreatDoorRef2
import Derived.Test.YtlhadgnpkooiaaaGreatDoorCode2
import Derived.Test.YtlhadgnpkooiaaaGreatDoorPa
import Derived.Test.YtlhadgnpkooiaaaGreatDoorMr3
import Derived.Test.YtlhadgnpkooiaaaGreatDoorSop
/-
  Walks over package move: Read, of any text; over the statements' helper moved.
-/
namespace Lead
open Go Go.RowKit
end Lead
namespace Go.Proofs.YtlhadgnpkooiaaaGreatDoor
open Go.RowKit Lead
variable {gz : Bool}

theorem mread_any (ea : Nat → Addr) (s : ByteArray) (w : World) (hs : s.size ≤ 90000) (hL : Libs w) (hG : Gs gz ea w) (hng : 20 ≤ w.heap.size) (hText : w.cell? ⟨1, 0, none⟩ = some (.iface 183 (.pointer (some (ea 1))))) (c : Nat) (v : Mv) (hc : moveC s.data.toList = c) (hv : moveV s.data.toList = v) :
    Calls Tryz.prog 15 #[.string s] w fun e w' => e = .returned (.tuple #[.agg #[.int .i64 v.A.n, .int .i64 v.A.d, .int .i64 v.B.n, .int .i64 v.B.d, .int .i64 v.C.n, .int .i64 v.C.d, .int .i64 v.D.n, .int .i64 v.D.d, .int .i64 v.E.n, .int .i64 v.E.d, .int .i64 v.F.n, .int .i64 v.F.d], evl 183 ea c]) ∧ Below w.heap.size w w' := by
  rcases tst s [] with ⟨h1, h2⟩ | ⟨h1, h2⟩
  · rw [h2] at hc hv
    have hc' : 0 = c := hc
    have hv' : oneM = v := hv
    subst hc' hv'
    rw [evl_0 rfl]
    exact mread_empty s w h1
  · obtain ⟨k1, k2, k3⟩ := cutL_small 32 s.data.toList
    have hl : s.data.toList.length = s.size := by simp
    exact mread_some ea s _ w h1 (by omega) rfl k1 (fun l hl' => by have := k3 l hl'; omega) (by omega) hL hG hng hText c v hc hv
def tMove12 : List UInt8 := [109, 111, 118, 101, 32, 49, 32, 50]
theorem move12 : moveC tMove12 = 0 ∧ moveV tMove12 = ⟨⟨1, 1⟩, ⟨0, 1⟩, ⟨0, 1⟩, ⟨1, 1⟩, ⟨1, 1⟩, ⟨2, 1⟩⟩ := by
  refine ⟨by decide +kernel, ?_⟩
  have h : ((moveV tMove12).A.n = 1 ∧ (moveV tMove12).A.d = 1 ∧ (moveV tMove12).B.n = 0 ∧ (moveV tMove12).B.d = 1 ∧ (moveV tMove12).C.n = 0 ∧ (moveV tMove12).C.d = 1) ∧ (moveV tMove12).D.n = 1 ∧ (moveV tMove12).D.d = 1 ∧ (moveV tMove12).E.n = 1 ∧ (moveV tMove12).E.d = 1 ∧ (moveV tMove12).F.n = 2 ∧ (moveV tMove12).F.d = 1 := by decide +kernel
  obtain ⟨⟨a1, a2, b1, b2, c1, c2⟩, d1, d2, e1, e2, f1, f2⟩ := h
  cases hm : moveV tMove12 with
  | mk A B C D E F =>
    rw [hm] at a1 a2 b1 b2 c1 c2 d1 d2 e1 e2 f1 f2
    cases A; cases B; cases C; cases D; cases E; cases F
    simp only at a1 a2 b1 b2 c1 c2 d1 d2 e1 e2 f1 f2
    subst a1 a2 b1 b2 c1 c2 d1 d2 e1 e2 f1 f2
    rfl
theorem at12 : atC ⟨⟨1, 1⟩, ⟨0, 1⟩, ⟨0, 1⟩, ⟨1, 1⟩, ⟨1, 1⟩, ⟨2, 1⟩⟩ ⟨0, 1, 0, 1⟩ = (0, none) ∧ atV ⟨⟨1, 1⟩, ⟨0, 1⟩, ⟨0, 1⟩, ⟨1, 1⟩, ⟨1, 1⟩, ⟨2, 1⟩⟩ ⟨0, 1, 0, 1⟩ = ⟨1, 1, 2, 1⟩ := step_at (x := 1) (y := 2) (p := ⟨0, 1, 0, 1⟩) (pt_ok (by decide +kernel)) (by omega) (by omega)
set_option maxHeartbeats 1000000 in
set_option maxRecDepth 100000 in
theorem moved_any (ea : Nat → Addr) (w : World) (hL : Libs w) (hG : Gs gz ea w) (hng : 20 ≤ w.heap.size) (hText : w.cell? ⟨1, 0, none⟩ = some (.iface 183 (.pointer (some (ea 1))))) :
    Calls Tryz.prog 4 #[] w fun e w' => e = .returned (.bool true) ∧ Below w.heap.size w w' := by
  obtain ⟨m, hm⟩ : ∃ m : Mv, (⟨⟨1, 1⟩, ⟨0, 1⟩, ⟨0, 1⟩, ⟨1, 1⟩, ⟨1, 1⟩, ⟨2, 1⟩⟩ : Mv) = m := ⟨_, rfl⟩
  have him : m.I := by rw [← hm]; exact (stepM_R (x := 1) (y := 2) (by omega) (by omega)).I
  have hip : Pt.I ⟨0, 1, 0, 1⟩ := (pt_ok (p := ⟨0, 1, 0, 1⟩) (by decide +kernel)).I
  have h12 := move12
  have hat := at12
  rw [hm] at h12 hat
  obtain ⟨hc, hv⟩ := h12
  obtain ⟨ha, hb⟩ := hat
  have H_hL := Lib.hid hL
  clear hL
  have H_hG := Lib.hid hG
  clear hG
  have H_him := Lib.hid him
  clear him
  have H_hip := Lib.hid hip
  clear hip
  have H_hc := Lib.hid hc
  clear hc
  have H_hv := Lib.hid hv
  clear hv
  have H_ha := Lib.hid ha
  clear ha
  have H_hb := Lib.hid hb
  clear hb
  have H_hm := Lib.hid hm
  clear hm
  go_enter Tryz.func4, Tryz.ntmps4
  ((try go_simp); (repeat go_step))
  refine call_bel (w := w) (by repeat' (first | (with_reducible first | exact bwR _ _ | assumption | refine bdn ?_ | refine bwA ?_ ?_ _ | refine bwD ?_ | refine bwS ?_ ?_ _) | omega | (simp <;> omega))) (fun HB => mread_any ea ⟨#[109, 111, 118, 101, 32, 49, 32, 50]⟩ _ (by decide) (H_hL.out.keep HB rfl) (H_hG.out.keep HB rfl) (Nat.le_trans hng HB.size) (gkeep HB hText rfl) 0 m H_hc.out H_hv.out) ?_
  intro w1 hb1 hz1 c1 d1 hW1
  have t1 := hb1.size
  clear c1 d1 hz1 hW1
  rw [evl_0 rfl]
  ((try go_simp); (repeat go_step))
  refine call_qe (w := w) (by repeat' (first | (with_reducible first | exact bwR _ _ | assumption | refine bdn ?_ | refine bwA ?_ ?_ _ | refine bwD ?_ | refine bwS ?_ ?_ _) | omega | (simp <;> omega))) (fun HB => mat_any ea m ⟨0, 1, 0, 1⟩ _ H_him.out H_hip.out (H_hG.out.keep HB rfl) (Nat.le_trans hng HB.size)) ?_
  rw [H_hb.out, H_ha.out]
  intro x2 w2 hx2 hb2 hz2 c2 d2 hW2
  have t2 := hb2.size
  try simp only [szA] at hz2 c2 d2
  try simp only [szD] at hz2 c2 d2
  try simp only [szS] at hz2 c2 d2
  try simp only [World.heap_drewN] at hz2 c2 d2
  try simp only [szA] at hz2 c2 d2
  try simp only [szD] at hz2 c2 d2
  try simp only [szS] at hz2 c2 d2
  have s2_0 : w1.heap.size < w2.heap.size := by omega
  have o2_0 := fun j => c2 (w1.heap.size) j (by omega)
  have f2_0 := fun j => d2 (w1.heap.size) j (by omega)
  clear c2 d2 hz2 hW2
  obtain rfl := hx2.nil rfl
  ((try go_simp); (repeat go_step))
  go_returns
  exact ⟨rfl, by repeat' (first | (with_reducible first | exact bwR _ _ | assumption | refine bdn ?_ | refine bwA ?_ ?_ _ | refine bwD ?_ | refine bwS ?_ ?_ _) | omega | (simp <;> omega))⟩
end Go.Proofs.YtlhadgnpkooiaaaGreatDoor

/-
  Several texts as one: Six, Asm, Faul, Mgp, Pf.
-/
/-
  Walks over the document's answer: SixFault of a move's six parts. (Written by wip/mksix.py.)
-/
namespace Lead
open Go Go.RowKit
/-- A place as a number: none is -1. -/
def atZ (o : Option Nat) : Int := match o with | none => -1 | some k => k
theorem six_cases (m : Mv) : (m.A.c ≠ 0 ∧ m.c = (m.A.c, some 0)) ∨ (m.A.c = 0 ∧ m.B.c ≠ 0 ∧ m.c = (m.B.c, some 1)) ∨ (m.A.c = 0 ∧ m.B.c = 0 ∧ m.C.c ≠ 0 ∧ m.c = (m.C.c, some 2)) ∨ (m.A.c = 0 ∧ m.B.c = 0 ∧ m.C.c = 0 ∧ m.D.c ≠ 0 ∧ m.c = (m.D.c, some 3)) ∨ (m.A.c = 0 ∧ m.B.c = 0 ∧ m.C.c = 0 ∧ m.D.c = 0 ∧ m.E.c ≠ 0 ∧ m.c = (m.E.c, some 4)) ∨ (m.A.c = 0 ∧ m.B.c = 0 ∧ m.C.c = 0 ∧ m.D.c = 0 ∧ m.E.c = 0 ∧ m.F.c ≠ 0 ∧ m.c = (m.F.c, some 5)) ∨ (m.A.c = 0 ∧ m.B.c = 0 ∧ m.C.c = 0 ∧ m.D.c = 0 ∧ m.E.c = 0 ∧ m.F.c = 0 ∧ m.c = (0, none)) := by
  unfold Mv.c Mv.l firstF
  by_cases hA : m.A.c = 0
  · by_cases hB : m.B.c = 0
    · by_cases hC : m.C.c = 0
      · by_cases hD : m.D.c = 0
        · by_cases hE : m.E.c = 0
          · by_cases hF : m.F.c = 0
            · simp [firstF, hA, hB, hC, hD, hE, hF]
            · simp [firstF, hA, hB, hC, hD, hE, hF]
          · simp [firstF, hA, hB, hC, hD, hE]
        · simp [firstF, hA, hB, hC, hD]
      · simp [firstF, hA, hB, hC]
    · simp [firstF, hA, hB]
  · simp [hA]
end Lead
namespace Go.Proofs.YtlhadgnpkooiaaaGreatDoor
open Go.RowKit Lead
theorem rbare2_any (c : Int) (w : World) : Calls Tryz.prog 12 #[.int .i64 c] w fun e w' => e = .returned (.agg #[.int .i64 c, .int .i64 (-1)]) ∧ Below w.heap.size w w' := by
  go_enter Tryz.func12, Tryz.ntmps12
  go_wp2_with fail
  refine bodyPost_ret (by simp [results, Tryz.results12, go_sem, *]; try rfl) rfl ?_
  exact ⟨rfl, by repeat' (first | (with_reducible first | exact bwR _ _ | assumption | refine bdn ?_ | refine bwA ?_ ?_ _ | refine bwD ?_ | refine bwS ?_ ?_ _) | omega | (simp <;> omega))⟩
theorem rfine2_any (w : World) : Calls Tryz.prog 19 #[] w fun e w' => e = .returned (.agg #[.int .i64 0, .int .i64 (-1)]) ∧ Below w.heap.size w w' := by
  go_enter Tryz.func19, Tryz.ntmps19
  go_wp2_with fail
  refine bodyPost_ret (by simp [results, Tryz.results19, go_sem, *]; try rfl) rfl ?_
  exact ⟨rfl, by repeat' (first | (with_reducible first | exact bwR _ _ | assumption | refine bdn ?_ | refine bwA ?_ ?_ _ | refine bwD ?_ | refine bwS ?_ ?_ _) | omega | (simp <;> omega))⟩
set_option maxHeartbeats 4000000 in
set_option maxRecDepth 100000 in
theorem rsix_any (m : Mv) (n at' : Int) (w : World) (im : m.I) (hn : (m.c.1 : Int) = n) (ha : atZ m.c.2 = at') :
    Calls Tryz.prog 6 #[.agg #[.int .i64 m.A.n, .int .i64 m.A.d, .int .i64 m.B.n, .int .i64 m.B.d, .int .i64 m.C.n, .int .i64 m.C.d, .int .i64 m.D.n, .int .i64 m.D.d, .int .i64 m.E.n, .int .i64 m.E.d, .int .i64 m.F.n, .int .i64 m.F.d]] w fun e w' => e = .returned (.agg #[.int .i64 n, .int .i64 at']) ∧ Below w.heap.size w w' := by
  rcases six_cases m with ⟨h0, hc⟩ | ⟨h0, h1, hc⟩ | ⟨h0, h1, h2, hc⟩ | ⟨h0, h1, h2, h3, hc⟩ | ⟨h0, h1, h2, h3, h4, hc⟩ | ⟨h0, h1, h2, h3, h4, h5, hc⟩ | ⟨h0, h1, h2, h3, h4, h5, hc⟩
  · rw [hc] at hn ha
    obtain rfl : (0 : Int) = at' := ha
    have hpos : 0 < n := by have : m.A.c ≠ 0 := h0; omega
    have hn' : (chk m.A.n m.A.d : Int) = n := hn
    have iA := im.A
    have iB := im.B
    have iC := im.C
    have iD := im.D
    have iE := im.E
    have iF := im.F
    have H_hn := Lib.hid hn
    clear hn
    have H_hn' := Lib.hid hn'
    clear hn'
    have H_hc := Lib.hid hc
    clear hc
    have H_im := Lib.hid im
    clear im
    have H_iA := Lib.hid iA
    clear iA
    have H_iB := Lib.hid iB
    clear iB
    have H_iC := Lib.hid iC
    clear iC
    have H_iD := Lib.hid iD
    clear iD
    have H_iE := Lib.hid iE
    clear iE
    have H_iF := Lib.hid iF
    clear iF
    have H_h0 := Lib.hid h0
    clear h0
    go_enter Tryz.func6, Tryz.ntmps6
    go_wp2_with fail
    refine wp_loop_rounds 1 ?_
    rw [rounds_succ]
    go_wp2_with fail
    refine call_bel (w := w) (by repeat' (first | (with_reducible first | exact bwR _ _ | assumption | refine bdn ?_ | refine bwA ?_ ?_ _ | refine bwD ?_ | refine bwS ?_ ?_ _) | omega | (simp <;> omega))) (fun HB => rfracerror_c m.A.n m.A.d n _ H_hn'.out H_iA.out.1 H_iA.out.2) ?_
    intro w1 hb1 hz1 c1 d1 hW1
    have t1 := hb1.size
    try simp only [szA] at hz1 c1 d1
    try simp only [szD] at hz1 c1 d1
    try simp only [szS] at hz1 c1 d1
    try simp only [World.heap_drewN] at hz1 c1 d1
    try simp only [szA] at hz1 c1 d1
    try simp only [szD] at hz1 c1 d1
    try simp only [szS] at hz1 c1 d1
    have s1_0 : w.heap.size < w1.heap.size := by omega
    have o1_0 := fun j => c1 (w.heap.size) j (by omega)
    have f1_0 := fun j => d1 (w.heap.size) j (by omega)
    have s1_1 : w.heap.size + 1 < w1.heap.size := by omega
    have o1_1 := fun j => c1 (w.heap.size + 1) j (by omega)
    have f1_1 := fun j => d1 (w.heap.size + 1) j (by omega)
    clear c1 d1 hz1 hW1
    go_wp2_with fail
    refine bodyPost_ret (by simp [results, Tryz.results6, go_sem, *]; try rfl) rfl ?_
    exact ⟨rfl, by repeat' (first | (with_reducible first | exact bwR _ _ | assumption | refine bdn ?_ | refine bwA ?_ ?_ _ | refine bwD ?_ | refine bwS ?_ ?_ _) | omega | (simp <;> omega))⟩
  · rw [hc] at hn ha
    obtain rfl : (1 : Int) = at' := ha
    have hpos : 0 < n := by have : m.B.c ≠ 0 := h1; omega
    have hn' : (chk m.B.n m.B.d : Int) = n := hn
    have iA := im.A
    have iB := im.B
    have iC := im.C
    have iD := im.D
    have iE := im.E
    have iF := im.F
    have H_hn := Lib.hid hn
    clear hn
    have H_hn' := Lib.hid hn'
    clear hn'
    have H_hc := Lib.hid hc
    clear hc
    have H_im := Lib.hid im
    clear im
    have H_iA := Lib.hid iA
    clear iA
    have H_iB := Lib.hid iB
    clear iB
    have H_iC := Lib.hid iC
    clear iC
    have H_iD := Lib.hid iD
    clear iD
    have H_iE := Lib.hid iE
    clear iE
    have H_iF := Lib.hid iF
    clear iF
    have H_h0 := Lib.hid h0
    clear h0
    have H_h1 := Lib.hid h1
    clear h1
    go_enter Tryz.func6, Tryz.ntmps6
    go_wp2_with fail
    refine wp_loop_rounds 2 ?_
    rw [rounds_succ]
    go_wp2_with fail
    refine call_bel (w := w) (by repeat' (first | (with_reducible first | exact bwR _ _ | assumption | refine bdn ?_ | refine bwA ?_ ?_ _ | refine bwD ?_ | refine bwS ?_ ?_ _) | omega | (simp <;> omega))) (fun HB => rfracerror_0 m.A.n m.A.d _ H_h0.out H_iA.out.1 H_iA.out.2) ?_
    intro w1 hb1 hz1 c1 d1 hW1
    have t1 := hb1.size
    try simp only [szA] at hz1 c1 d1
    try simp only [szD] at hz1 c1 d1
    try simp only [szS] at hz1 c1 d1
    try simp only [World.heap_drewN] at hz1 c1 d1
    try simp only [szA] at hz1 c1 d1
    try simp only [szD] at hz1 c1 d1
    try simp only [szS] at hz1 c1 d1
    have s1_0 : w.heap.size < w1.heap.size := by omega
    have o1_0 := fun j => c1 (w.heap.size) j (by omega)
    have f1_0 := fun j => d1 (w.heap.size) j (by omega)
    have s1_1 : w.heap.size + 1 < w1.heap.size := by omega
    have o1_1 := fun j => c1 (w.heap.size + 1) j (by omega)
    have f1_1 := fun j => d1 (w.heap.size + 1) j (by omega)
    clear c1 d1 hz1 hW1
    go_wp2_with fail
    rw [rounds_succ]
    go_wp2_with fail
    refine call_bel (w := w) (by repeat' (first | (with_reducible first | exact bwR _ _ | assumption | refine bdn ?_ | refine bwA ?_ ?_ _ | refine bwD ?_ | refine bwS ?_ ?_ _) | omega | (simp <;> omega))) (fun HB => rfracerror_c m.B.n m.B.d n _ H_hn'.out H_iB.out.1 H_iB.out.2) ?_
    intro w2 hb2 hz2 c2 d2 hW2
    have t2 := hb2.size
    try simp only [szA] at hz2 c2 d2
    try simp only [szD] at hz2 c2 d2
    try simp only [szS] at hz2 c2 d2
    try simp only [World.heap_drewN] at hz2 c2 d2
    try simp only [szA] at hz2 c2 d2
    try simp only [szD] at hz2 c2 d2
    try simp only [szS] at hz2 c2 d2
    have s2_0 : w.heap.size < w2.heap.size := by omega
    have o2_0 := fun j => c2 (w.heap.size) j (by omega)
    have f2_0 := fun j => d2 (w.heap.size) j (by omega)
    have s2_1 : w.heap.size + 1 < w2.heap.size := by omega
    have o2_1 := fun j => c2 (w.heap.size + 1) j (by omega)
    have f2_1 := fun j => d2 (w.heap.size + 1) j (by omega)
    clear c2 d2 hz2 hW2
    go_wp2_with fail
    refine bodyPost_ret (by simp [results, Tryz.results6, go_sem, *]; try rfl) rfl ?_
    exact ⟨rfl, by repeat' (first | (with_reducible first | exact bwR _ _ | assumption | refine bdn ?_ | refine bwA ?_ ?_ _ | refine bwD ?_ | refine bwS ?_ ?_ _) | omega | (simp <;> omega))⟩
  · rw [hc] at hn ha
    obtain rfl : (2 : Int) = at' := ha
    have hpos : 0 < n := by have : m.C.c ≠ 0 := h2; omega
    have hn' : (chk m.C.n m.C.d : Int) = n := hn
    have iA := im.A
    have iB := im.B
    have iC := im.C
    have iD := im.D
    have iE := im.E
    have iF := im.F
    have H_hn := Lib.hid hn
    clear hn
    have H_hn' := Lib.hid hn'
    clear hn'
    have H_hc := Lib.hid hc
    clear hc
    have H_im := Lib.hid im
    clear im
    have H_iA := Lib.hid iA
    clear iA
    have H_iB := Lib.hid iB
    clear iB
    have H_iC := Lib.hid iC
    clear iC
    have H_iD := Lib.hid iD
    clear iD
    have H_iE := Lib.hid iE
    clear iE
    have H_iF := Lib.hid iF
    clear iF
    have H_h0 := Lib.hid h0
    clear h0
    have H_h1 := Lib.hid h1
    clear h1
    have H_h2 := Lib.hid h2
    clear h2
    go_enter Tryz.func6, Tryz.ntmps6
    go_wp2_with fail
    refine wp_loop_rounds 3 ?_
    rw [rounds_succ]
    go_wp2_with fail
    refine call_bel (w := w) (by repeat' (first | (with_reducible first | exact bwR _ _ | assumption | refine bdn ?_ | refine bwA ?_ ?_ _ | refine bwD ?_ | refine bwS ?_ ?_ _) | omega | (simp <;> omega))) (fun HB => rfracerror_0 m.A.n m.A.d _ H_h0.out H_iA.out.1 H_iA.out.2) ?_
    intro w1 hb1 hz1 c1 d1 hW1
    have t1 := hb1.size
    try simp only [szA] at hz1 c1 d1
    try simp only [szD] at hz1 c1 d1
    try simp only [szS] at hz1 c1 d1
    try simp only [World.heap_drewN] at hz1 c1 d1
    try simp only [szA] at hz1 c1 d1
    try simp only [szD] at hz1 c1 d1
    try simp only [szS] at hz1 c1 d1
    have s1_0 : w.heap.size < w1.heap.size := by omega
    have o1_0 := fun j => c1 (w.heap.size) j (by omega)
    have f1_0 := fun j => d1 (w.heap.size) j (by omega)
    have s1_1 : w.heap.size + 1 < w1.heap.size := by omega
    have o1_1 := fun j => c1 (w.heap.size + 1) j (by omega)
    have f1_1 := fun j => d1 (w.heap.size + 1) j (by omega)
    clear c1 d1 hz1 hW1
    go_wp2_with fail
    rw [rounds_succ]
    go_wp2_with fail
    refine call_bel (w := w) (by repeat' (first | (with_reducible first | exact bwR _ _ | assumption | refine bdn ?_ | refine bwA ?_ ?_ _ | refine bwD ?_ | refine bwS ?_ ?_ _) | omega | (simp <;> omega))) (fun HB => rfracerror_0 m.B.n m.B.d _ H_h1.out H_iB.out.1 H_iB.out.2) ?_
    intro w2 hb2 hz2 c2 d2 hW2
    have t2 := hb2.size
    try simp only [szA] at hz2 c2 d2
    try simp only [szD] at hz2 c2 d2
    try simp only [szS] at hz2 c2 d2
    try simp only [World.heap_drewN] at hz2 c2 d2
    try simp only [szA] at hz2 c2 d2
    try simp only [szD] at hz2 c2 d2
    try simp only [szS] at hz2 c2 d2
    have s2_0 : w.heap.size < w2.heap.size := by omega
    have o2_0 := fun j => c2 (w.heap.size) j (by omega)
    have f2_0 := fun j => d2 (w.heap.size) j (by omega)
    have s2_1 : w.heap.size + 1 < w2.heap.size := by omega
    have o2_1 := fun j => c2 (w.heap.size + 1) j (by omega)
    have f2_1 := fun j => d2 (w.heap.size + 1) j (by omega)
    clear c2 d2 hz2 hW2
    go_wp2_with fail
    rw [rounds_succ]
    go_wp2_with fail
    refine call_bel (w := w) (by repeat' (first | (with_reducible first | exact bwR _ _ | assumption | refine bdn ?_ | refine bwA ?_ ?_ _ | refine bwD ?_ | refine bwS ?_ ?_ _) | omega | (simp <;> omega))) (fun HB => rfracerror_c m.C.n m.C.d n _ H_hn'.out H_iC.out.1 H_iC.out.2) ?_
    intro w3 hb3 hz3 c3 d3 hW3
    have t3 := hb3.size
    try simp only [szA] at hz3 c3 d3
    try simp only [szD] at hz3 c3 d3
    try simp only [szS] at hz3 c3 d3
    try simp only [World.heap_drewN] at hz3 c3 d3
    try simp only [szA] at hz3 c3 d3
    try simp only [szD] at hz3 c3 d3
    try simp only [szS] at hz3 c3 d3
    have s3_0 : w.heap.size < w3.heap.size := by omega
    have o3_0 := fun j => c3 (w.heap.size) j (by omega)
    have f3_0 := fun j => d3 (w.heap.size) j (by omega)
    have s3_1 : w.heap.size + 1 < w3.heap.size := by omega
    have o3_1 := fun j => c3 (w.heap.size + 1) j (by omega)
    have f3_1 := fun j => d3 (w.heap.size + 1) j (by omega)
    clear c3 d3 hz3 hW3
    go_wp2_with fail
    refine bodyPost_ret (by simp [results, Tryz.results6, go_sem, *]; try rfl) rfl ?_
    exact ⟨rfl, by repeat' (first | (with_reducible first | exact bwR _ _ | assumption | refine bdn ?_ | refine bwA ?_ ?_ _ | refine bwD ?_ | refine bwS ?_ ?_ _) | omega | (simp <;> omega))⟩
  · rw [hc] at hn ha
    obtain rfl : (3 : Int) = at' := ha
    have hpos : 0 < n := by have : m.D.c ≠ 0 := h3; omega
    have hn' : (chk m.D.n m.D.d : Int) = n := hn
    have iA := im.A
    have iB := im.B
    have iC := im.C
    have iD := im.D
    have iE := im.E
    have iF := im.F
    have H_hn := Lib.hid hn
    clear hn
    have H_hn' := Lib.hid hn'
    clear hn'
    have H_hc := Lib.hid hc
    clear hc
    have H_im := Lib.hid im
    clear im
    have H_iA := Lib.hid iA
    clear iA
    have H_iB := Lib.hid iB
    clear iB
    have H_iC := Lib.hid iC
    clear iC
    have H_iD := Lib.hid iD
    clear iD
    have H_iE := Lib.hid iE
    clear iE
    have H_iF := Lib.hid iF
    clear iF
    have H_h0 := Lib.hid h0
    clear h0
    have H_h1 := Lib.hid h1
    clear h1
    have H_h2 := Lib.hid h2
    clear h2
    have H_h3 := Lib.hid h3
    clear h3
    go_enter Tryz.func6, Tryz.ntmps6
    go_wp2_with fail
    refine wp_loop_rounds 4 ?_
    rw [rounds_succ]
    go_wp2_with fail
    refine call_bel (w := w) (by repeat' (first | (with_reducible first | exact bwR _ _ | assumption | refine bdn ?_ | refine bwA ?_ ?_ _ | refine bwD ?_ | refine bwS ?_ ?_ _) | omega | (simp <;> omega))) (fun HB => rfracerror_0 m.A.n m.A.d _ H_h0.out H_iA.out.1 H_iA.out.2) ?_
    intro w1 hb1 hz1 c1 d1 hW1
    have t1 := hb1.size
    try simp only [szA] at hz1 c1 d1
    try simp only [szD] at hz1 c1 d1
    try simp only [szS] at hz1 c1 d1
    try simp only [World.heap_drewN] at hz1 c1 d1
    try simp only [szA] at hz1 c1 d1
    try simp only [szD] at hz1 c1 d1
    try simp only [szS] at hz1 c1 d1
    have s1_0 : w.heap.size < w1.heap.size := by omega
    have o1_0 := fun j => c1 (w.heap.size) j (by omega)
    have f1_0 := fun j => d1 (w.heap.size) j (by omega)
    have s1_1 : w.heap.size + 1 < w1.heap.size := by omega
    have o1_1 := fun j => c1 (w.heap.size + 1) j (by omega)
    have f1_1 := fun j => d1 (w.heap.size + 1) j (by omega)
    clear c1 d1 hz1 hW1
    go_wp2_with fail
    rw [rounds_succ]
    go_wp2_with fail
    refine call_bel (w := w) (by repeat' (first | (with_reducible first | exact bwR _ _ | assumption | refine bdn ?_ | refine bwA ?_ ?_ _ | refine bwD ?_ | refine bwS ?_ ?_ _) | omega | (simp <;> omega))) (fun HB => rfracerror_0 m.B.n m.B.d _ H_h1.out H_iB.out.1 H_iB.out.2) ?_
    intro w2 hb2 hz2 c2 d2 hW2
    have t2 := hb2.size
    try simp only [szA] at hz2 c2 d2
    try simp only [szD] at hz2 c2 d2
    try simp only [szS] at hz2 c2 d2
    try simp only [World.heap_drewN] at hz2 c2 d2
    try simp only [szA] at hz2 c2 d2
    try simp only [szD] at hz2 c2 d2
    try simp only [szS] at hz2 c2 d2
    have s2_0 : w.heap.size < w2.heap.size := by omega
    have o2_0 := fun j => c2 (w.heap.size) j (by omega)
    have f2_0 := fun j => d2 (w.heap.size) j (by omega)
    have s2_1 : w.heap.size + 1 < w2.heap.size := by omega
    have o2_1 := fun j => c2 (w.heap.size + 1) j (by omega)
    have f2_1 := fun j => d2 (w.heap.size + 1) j (by omega)
    clear c2 d2 hz2 hW2
    go_wp2_with fail
    rw [rounds_succ]
    go_wp2_with fail
    refine call_bel (w := w) (by repeat' (first | (with_reducible first | exact bwR _ _ | assumption | refine bdn ?_ | refine bwA ?_ ?_ _ | refine bwD ?_ | refine bwS ?_ ?_ _) | omega | (simp <;> omega))) (fun HB => rfracerror_0 m.C.n m.C.d _ H_h2.out H_iC.out.1 H_iC.out.2) ?_
    intro w3 hb3 hz3 c3 d3 hW3
    have t3 := hb3.size
    try simp only [szA] at hz3 c3 d3
    try simp only [szD] at hz3 c3 d3
    try simp only [szS] at hz3 c3 d3
    try simp only [World.heap_drewN] at hz3 c3 d3
    try simp only [szA] at hz3 c3 d3
    try simp only [szD] at hz3 c3 d3
    try simp only [szS] at hz3 c3 d3
    have s3_0 : w.heap.size < w3.heap.size := by omega
    have o3_0 := fun j => c3 (w.heap.size) j (by omega)
    have f3_0 := fun j => d3 (w.heap.size) j (by omega)
    have s3_1 : w.heap.size + 1 < w3.heap.size := by omega
    have o3_1 := fun j => c3 (w.heap.size + 1) j (by omega)
    have f3_1 := fun j => d3 (w.heap.size + 1) j (by omega)
    clear c3 d3 hz3 hW3
    go_wp2_with fail
    rw [rounds_succ]
    go_wp2_with fail
    refine call_bel (w := w) (by repeat' (first | (with_reducible first | exact bwR _ _ | assumption | refine bdn ?_ | refine bwA ?_ ?_ _ | refine bwD ?_ | refine bwS ?_ ?_ _) | omega | (simp <;> omega))) (fun HB => rfracerror_c m.D.n m.D.d n _ H_hn'.out H_iD.out.1 H_iD.out.2) ?_
    intro w4 hb4 hz4 c4 d4 hW4
    have t4 := hb4.size
    try simp only [szA] at hz4 c4 d4
    try simp only [szD] at hz4 c4 d4
    try simp only [szS] at hz4 c4 d4
    try simp only [World.heap_drewN] at hz4 c4 d4
    try simp only [szA] at hz4 c4 d4
    try simp only [szD] at hz4 c4 d4
    try simp only [szS] at hz4 c4 d4
    have s4_0 : w.heap.size < w4.heap.size := by omega
    have o4_0 := fun j => c4 (w.heap.size) j (by omega)
    have f4_0 := fun j => d4 (w.heap.size) j (by omega)
    have s4_1 : w.heap.size + 1 < w4.heap.size := by omega
    have o4_1 := fun j => c4 (w.heap.size + 1) j (by omega)
    have f4_1 := fun j => d4 (w.heap.size + 1) j (by omega)
    clear c4 d4 hz4 hW4
    go_wp2_with fail
    refine bodyPost_ret (by simp [results, Tryz.results6, go_sem, *]; try rfl) rfl ?_
    exact ⟨rfl, by repeat' (first | (with_reducible first | exact bwR _ _ | assumption | refine bdn ?_ | refine bwA ?_ ?_ _ | refine bwD ?_ | refine bwS ?_ ?_ _) | omega | (simp <;> omega))⟩
  · rw [hc] at hn ha
    obtain rfl : (4 : Int) = at' := ha
    have hpos : 0 < n := by have : m.E.c ≠ 0 := h4; omega
    have hn' : (chk m.E.n m.E.d : Int) = n := hn
    have iA := im.A
    have iB := im.B
    have iC := im.C
    have iD := im.D
    have iE := im.E
    have iF := im.F
    have H_hn := Lib.hid hn
    clear hn
    have H_hn' := Lib.hid hn'
    clear hn'
    have H_hc := Lib.hid hc
    clear hc
    have H_im := Lib.hid im
    clear im
    have H_iA := Lib.hid iA
    clear iA
    have H_iB := Lib.hid iB
    clear iB
    have H_iC := Lib.hid iC
    clear iC
    have H_iD := Lib.hid iD
    clear iD
    have H_iE := Lib.hid iE
    clear iE
    have H_iF := Lib.hid iF
    clear iF
    have H_h0 := Lib.hid h0
    clear h0
    have H_h1 := Lib.hid h1
    clear h1
    have H_h2 := Lib.hid h2
    clear h2
    have H_h3 := Lib.hid h3
    clear h3
    have H_h4 := Lib.hid h4
    clear h4
    go_enter Tryz.func6, Tryz.ntmps6
    go_wp2_with fail
    refine wp_loop_rounds 5 ?_
    rw [rounds_succ]
    go_wp2_with fail
    refine call_bel (w := w) (by repeat' (first | (with_reducible first | exact bwR _ _ | assumption | refine bdn ?_ | refine bwA ?_ ?_ _ | refine bwD ?_ | refine bwS ?_ ?_ _) | omega | (simp <;> omega))) (fun HB => rfracerror_0 m.A.n m.A.d _ H_h0.out H_iA.out.1 H_iA.out.2) ?_
    intro w1 hb1 hz1 c1 d1 hW1
    have t1 := hb1.size
    try simp only [szA] at hz1 c1 d1
    try simp only [szD] at hz1 c1 d1
    try simp only [szS] at hz1 c1 d1
    try simp only [World.heap_drewN] at hz1 c1 d1
    try simp only [szA] at hz1 c1 d1
    try simp only [szD] at hz1 c1 d1
    try simp only [szS] at hz1 c1 d1
    have s1_0 : w.heap.size < w1.heap.size := by omega
    have o1_0 := fun j => c1 (w.heap.size) j (by omega)
    have f1_0 := fun j => d1 (w.heap.size) j (by omega)
    have s1_1 : w.heap.size + 1 < w1.heap.size := by omega
    have o1_1 := fun j => c1 (w.heap.size + 1) j (by omega)
    have f1_1 := fun j => d1 (w.heap.size + 1) j (by omega)
    clear c1 d1 hz1 hW1
    go_wp2_with fail
    rw [rounds_succ]
    go_wp2_with fail
    refine call_bel (w := w) (by repeat' (first | (with_reducible first | exact bwR _ _ | assumption | refine bdn ?_ | refine bwA ?_ ?_ _ | refine bwD ?_ | refine bwS ?_ ?_ _) | omega | (simp <;> omega))) (fun HB => rfracerror_0 m.B.n m.B.d _ H_h1.out H_iB.out.1 H_iB.out.2) ?_
    intro w2 hb2 hz2 c2 d2 hW2
    have t2 := hb2.size
    try simp only [szA] at hz2 c2 d2
    try simp only [szD] at hz2 c2 d2
    try simp only [szS] at hz2 c2 d2
    try simp only [World.heap_drewN] at hz2 c2 d2
    try simp only [szA] at hz2 c2 d2
    try simp only [szD] at hz2 c2 d2
    try simp only [szS] at hz2 c2 d2
    have s2_0 : w.heap.size < w2.heap.size := by omega
    have o2_0 := fun j => c2 (w.heap.size) j (by omega)
    have f2_0 := fun j => d2 (w.heap.size) j (by omega)
    have s2_1 : w.heap.size + 1 < w2.heap.size := by omega
    have o2_1 := fun j => c2 (w.heap.size + 1) j (by omega)
    have f2_1 := fun j => d2 (w.heap.size + 1) j (by omega)
    clear c2 d2 hz2 hW2
    go_wp2_with fail
    rw [rounds_succ]
    go_wp2_with fail
    refine call_bel (w := w) (by repeat' (first | (with_reducible first | exact bwR _ _ | assumption | refine bdn ?_ | refine bwA ?_ ?_ _ | refine bwD ?_ | refine bwS ?_ ?_ _) | omega | (simp <;> omega))) (fun HB => rfracerror_0 m.C.n m.C.d _ H_h2.out H_iC.out.1 H_iC.out.2) ?_
    intro w3 hb3 hz3 c3 d3 hW3
    have t3 := hb3.size
    try simp only [szA] at hz3 c3 d3
    try simp only [szD] at hz3 c3 d3
    try simp only [szS] at hz3 c3 d3
    try simp only [World.heap_drewN] at hz3 c3 d3
    try simp only [szA] at hz3 c3 d3
    try simp only [szD] at hz3 c3 d3
    try simp only [szS] at hz3 c3 d3
    have s3_0 : w.heap.size < w3.heap.size := by omega
    have o3_0 := fun j => c3 (w.heap.size) j (by omega)
    have f3_0 := fun j => d3 (w.heap.size) j (by omega)
    have s3_1 : w.heap.size + 1 < w3.heap.size := by omega
    have o3_1 := fun j => c3 (w.heap.size + 1) j (by omega)
    have f3_1 := fun j => d3 (w.heap.size + 1) j (by omega)
    clear c3 d3 hz3 hW3
    go_wp2_with fail
    rw [rounds_succ]
    go_wp2_with fail
    refine call_bel (w := w) (by repeat' (first | (with_reducible first | exact bwR _ _ | assumption | refine bdn ?_ | refine bwA ?_ ?_ _ | refine bwD ?_ | refine bwS ?_ ?_ _) | omega | (simp <;> omega))) (fun HB => rfracerror_0 m.D.n m.D.d _ H_h3.out H_iD.out.1 H_iD.out.2) ?_
    intro w4 hb4 hz4 c4 d4 hW4
    have t4 := hb4.size
    try simp only [szA] at hz4 c4 d4
    try simp only [szD] at hz4 c4 d4
    try simp only [szS] at hz4 c4 d4
    try simp only [World.heap_drewN] at hz4 c4 d4
    try simp only [szA] at hz4 c4 d4
    try simp only [szD] at hz4 c4 d4
    try simp only [szS] at hz4 c4 d4
    have s4_0 : w.heap.size < w4.heap.size := by omega
    have o4_0 := fun j => c4 (w.heap.size) j (by omega)
    have f4_0 := fun j => d4 (w.heap.size) j (by omega)
    have s4_1 : w.heap.size + 1 < w4.heap.size := by omega
    have o4_1 := fun j => c4 (w.heap.size + 1) j (by omega)
    have f4_1 := fun j => d4 (w.heap.size + 1) j (by omega)
    clear c4 d4 hz4 hW4
    go_wp2_with fail
    rw [rounds_succ]
    go_wp2_with fail
    refine call_bel (w := w) (by repeat' (first | (with_reducible first | exact bwR _ _ | assumption | refine bdn ?_ | refine bwA ?_ ?_ _ | refine bwD ?_ | refine bwS ?_ ?_ _) | omega | (simp <;> omega))) (fun HB => rfracerror_c m.E.n m.E.d n _ H_hn'.out H_iE.out.1 H_iE.out.2) ?_
    intro w5 hb5 hz5 c5 d5 hW5
    have t5 := hb5.size
    try simp only [szA] at hz5 c5 d5
    try simp only [szD] at hz5 c5 d5
    try simp only [szS] at hz5 c5 d5
    try simp only [World.heap_drewN] at hz5 c5 d5
    try simp only [szA] at hz5 c5 d5
    try simp only [szD] at hz5 c5 d5
    try simp only [szS] at hz5 c5 d5
    have s5_0 : w.heap.size < w5.heap.size := by omega
    have o5_0 := fun j => c5 (w.heap.size) j (by omega)
    have f5_0 := fun j => d5 (w.heap.size) j (by omega)
    have s5_1 : w.heap.size + 1 < w5.heap.size := by omega
    have o5_1 := fun j => c5 (w.heap.size + 1) j (by omega)
    have f5_1 := fun j => d5 (w.heap.size + 1) j (by omega)
    clear c5 d5 hz5 hW5
    go_wp2_with fail
    refine bodyPost_ret (by simp [results, Tryz.results6, go_sem, *]; try rfl) rfl ?_
    exact ⟨rfl, by repeat' (first | (with_reducible first | exact bwR _ _ | assumption | refine bdn ?_ | refine bwA ?_ ?_ _ | refine bwD ?_ | refine bwS ?_ ?_ _) | omega | (simp <;> omega))⟩
  · rw [hc] at hn ha
    obtain rfl : (5 : Int) = at' := ha
    have hpos : 0 < n := by have : m.F.c ≠ 0 := h5; omega
    have hn' : (chk m.F.n m.F.d : Int) = n := hn
    have iA := im.A
    have iB := im.B
    have iC := im.C
    have iD := im.D
    have iE := im.E
    have iF := im.F
    have H_hn := Lib.hid hn
    clear hn
    have H_hn' := Lib.hid hn'
    clear hn'
    have H_hc := Lib.hid hc
    clear hc
    have H_im := Lib.hid im
    clear im
    have H_iA := Lib.hid iA
    clear iA
    have H_iB := Lib.hid iB
    clear iB
    have H_iC := Lib.hid iC
    clear iC
    have H_iD := Lib.hid iD
    clear iD
    have H_iE := Lib.hid iE
    clear iE
    have H_iF := Lib.hid iF
    clear iF
    have H_h0 := Lib.hid h0
    clear h0
    have H_h1 := Lib.hid h1
    clear h1
    have H_h2 := Lib.hid h2
    clear h2
    have H_h3 := Lib.hid h3
    clear h3
    have H_h4 := Lib.hid h4
    clear h4
    have H_h5 := Lib.hid h5
    clear h5
    go_enter Tryz.func6, Tryz.ntmps6
    go_wp2_with fail
    refine wp_loop_rounds 6 ?_
    rw [rounds_succ]
    go_wp2_with fail
    refine call_bel (w := w) (by repeat' (first | (with_reducible first | exact bwR _ _ | assumption | refine bdn ?_ | refine bwA ?_ ?_ _ | refine bwD ?_ | refine bwS ?_ ?_ _) | omega | (simp <;> omega))) (fun HB => rfracerror_0 m.A.n m.A.d _ H_h0.out H_iA.out.1 H_iA.out.2) ?_
    intro w1 hb1 hz1 c1 d1 hW1
    have t1 := hb1.size
    try simp only [szA] at hz1 c1 d1
    try simp only [szD] at hz1 c1 d1
    try simp only [szS] at hz1 c1 d1
    try simp only [World.heap_drewN] at hz1 c1 d1
    try simp only [szA] at hz1 c1 d1
    try simp only [szD] at hz1 c1 d1
    try simp only [szS] at hz1 c1 d1
    have s1_0 : w.heap.size < w1.heap.size := by omega
    have o1_0 := fun j => c1 (w.heap.size) j (by omega)
    have f1_0 := fun j => d1 (w.heap.size) j (by omega)
    have s1_1 : w.heap.size + 1 < w1.heap.size := by omega
    have o1_1 := fun j => c1 (w.heap.size + 1) j (by omega)
    have f1_1 := fun j => d1 (w.heap.size + 1) j (by omega)
    clear c1 d1 hz1 hW1
    go_wp2_with fail
    rw [rounds_succ]
    go_wp2_with fail
    refine call_bel (w := w) (by repeat' (first | (with_reducible first | exact bwR _ _ | assumption | refine bdn ?_ | refine bwA ?_ ?_ _ | refine bwD ?_ | refine bwS ?_ ?_ _) | omega | (simp <;> omega))) (fun HB => rfracerror_0 m.B.n m.B.d _ H_h1.out H_iB.out.1 H_iB.out.2) ?_
    intro w2 hb2 hz2 c2 d2 hW2
    have t2 := hb2.size
    try simp only [szA] at hz2 c2 d2
    try simp only [szD] at hz2 c2 d2
    try simp only [szS] at hz2 c2 d2
    try simp only [World.heap_drewN] at hz2 c2 d2
    try simp only [szA] at hz2 c2 d2
    try simp only [szD] at hz2 c2 d2
    try simp only [szS] at hz2 c2 d2
    have s2_0 : w.heap.size < w2.heap.size := by omega
    have o2_0 := fun j => c2 (w.heap.size) j (by omega)
    have f2_0 := fun j => d2 (w.heap.size) j (by omega)
    have s2_1 : w.heap.size + 1 < w2.heap.size := by omega
    have o2_1 := fun j => c2 (w.heap.size + 1) j (by omega)
    have f2_1 := fun j => d2 (w.heap.size + 1) j (by omega)
    clear c2 d2 hz2 hW2
    go_wp2_with fail
    rw [rounds_succ]
    go_wp2_with fail
    refine call_bel (w := w) (by repeat' (first | (with_reducible first | exact bwR _ _ | assumption | refine bdn ?_ | refine bwA ?_ ?_ _ | refine bwD ?_ | refine bwS ?_ ?_ _) | omega | (simp <;> omega))) (fun HB => rfracerror_0 m.C.n m.C.d _ H_h2.out H_iC.out.1 H_iC.out.2) ?_
    intro w3 hb3 hz3 c3 d3 hW3
    have t3 := hb3.size
    try simp only [szA] at hz3 c3 d3
    try simp only [szD] at hz3 c3 d3
    try simp only [szS] at hz3 c3 d3
    try simp only [World.heap_drewN] at hz3 c3 d3
    try simp only [szA] at hz3 c3 d3
    try simp only [szD] at hz3 c3 d3
    try simp only [szS] at hz3 c3 d3
    have s3_0 : w.heap.size < w3.heap.size := by omega
    have o3_0 := fun j => c3 (w.heap.size) j (by omega)
    have f3_0 := fun j => d3 (w.heap.size) j (by omega)
    have s3_1 : w.heap.size + 1 < w3.heap.size := by omega
    have o3_1 := fun j => c3 (w.heap.size + 1) j (by omega)
    have f3_1 := fun j => d3 (w.heap.size + 1) j (by omega)
    clear c3 d3 hz3 hW3
    go_wp2_with fail
    rw [rounds_succ]
    go_wp2_with fail
    refine call_bel (w := w) (by repeat' (first | (with_reducible first | exact bwR _ _ | assumption | refine bdn ?_ | refine bwA ?_ ?_ _ | refine bwD ?_ | refine bwS ?_ ?_ _) | omega | (simp <;> omega))) (fun HB => rfracerror_0 m.D.n m.D.d _ H_h3.out H_iD.out.1 H_iD.out.2) ?_
    intro w4 hb4 hz4 c4 d4 hW4
    have t4 := hb4.size
    try simp only [szA] at hz4 c4 d4
    try simp only [szD] at hz4 c4 d4
    try simp only [szS] at hz4 c4 d4
    try simp only [World.heap_drewN] at hz4 c4 d4
    try simp only [szA] at hz4 c4 d4
    try simp only [szD] at hz4 c4 d4
    try simp only [szS] at hz4 c4 d4
    have s4_0 : w.heap.size < w4.heap.size := by omega
    have o4_0 := fun j => c4 (w.heap.size) j (by omega)
    have f4_0 := fun j => d4 (w.heap.size) j (by omega)
    have s4_1 : w.heap.size + 1 < w4.heap.size := by omega
    have o4_1 := fun j => c4 (w.heap.size + 1) j (by omega)
    have f4_1 := fun j => d4 (w.heap.size + 1) j (by omega)
    clear c4 d4 hz4 hW4
    go_wp2_with fail
    rw [rounds_succ]
    go_wp2_with fail
    refine call_bel (w := w) (by repeat' (first | (with_reducible first | exact bwR _ _ | assumption | refine bdn ?_ | refine bwA ?_ ?_ _ | refine bwD ?_ | refine bwS ?_ ?_ _) | omega | (simp <;> omega))) (fun HB => rfracerror_0 m.E.n m.E.d _ H_h4.out H_iE.out.1 H_iE.out.2) ?_
    intro w5 hb5 hz5 c5 d5 hW5
    have t5 := hb5.size
    try simp only [szA] at hz5 c5 d5
    try simp only [szD] at hz5 c5 d5
    try simp only [szS] at hz5 c5 d5
    try simp only [World.heap_drewN] at hz5 c5 d5
    try simp only [szA] at hz5 c5 d5
    try simp only [szD] at hz5 c5 d5
    try simp only [szS] at hz5 c5 d5
    have s5_0 : w.heap.size < w5.heap.size := by omega
    have o5_0 := fun j => c5 (w.heap.size) j (by omega)
    have f5_0 := fun j => d5 (w.heap.size) j (by omega)
    have s5_1 : w.heap.size + 1 < w5.heap.size := by omega
    have o5_1 := fun j => c5 (w.heap.size + 1) j (by omega)
    have f5_1 := fun j => d5 (w.heap.size + 1) j (by omega)
    clear c5 d5 hz5 hW5
    go_wp2_with fail
    rw [rounds_succ]
    go_wp2_with fail
    refine call_bel (w := w) (by repeat' (first | (with_reducible first | exact bwR _ _ | assumption | refine bdn ?_ | refine bwA ?_ ?_ _ | refine bwD ?_ | refine bwS ?_ ?_ _) | omega | (simp <;> omega))) (fun HB => rfracerror_c m.F.n m.F.d n _ H_hn'.out H_iF.out.1 H_iF.out.2) ?_
    intro w6 hb6 hz6 c6 d6 hW6
    have t6 := hb6.size
    try simp only [szA] at hz6 c6 d6
    try simp only [szD] at hz6 c6 d6
    try simp only [szS] at hz6 c6 d6
    try simp only [World.heap_drewN] at hz6 c6 d6
    try simp only [szA] at hz6 c6 d6
    try simp only [szD] at hz6 c6 d6
    try simp only [szS] at hz6 c6 d6
    have s6_0 : w.heap.size < w6.heap.size := by omega
    have o6_0 := fun j => c6 (w.heap.size) j (by omega)
    have f6_0 := fun j => d6 (w.heap.size) j (by omega)
    have s6_1 : w.heap.size + 1 < w6.heap.size := by omega
    have o6_1 := fun j => c6 (w.heap.size + 1) j (by omega)
    have f6_1 := fun j => d6 (w.heap.size + 1) j (by omega)
    clear c6 d6 hz6 hW6
    go_wp2_with fail
    refine bodyPost_ret (by simp [results, Tryz.results6, go_sem, *]; try rfl) rfl ?_
    exact ⟨rfl, by repeat' (first | (with_reducible first | exact bwR _ _ | assumption | refine bdn ?_ | refine bwA ?_ ?_ _ | refine bwD ?_ | refine bwS ?_ ?_ _) | omega | (simp <;> omega))⟩
  · rw [hc] at hn ha
    obtain rfl : (-1 : Int) = at' := ha
    obtain rfl : (0 : Int) = n := hn
    have iA := im.A
    have iB := im.B
    have iC := im.C
    have iD := im.D
    have iE := im.E
    have iF := im.F
    have H_hc := Lib.hid hc
    clear hc
    have H_im := Lib.hid im
    clear im
    have H_iA := Lib.hid iA
    clear iA
    have H_iB := Lib.hid iB
    clear iB
    have H_iC := Lib.hid iC
    clear iC
    have H_iD := Lib.hid iD
    clear iD
    have H_iE := Lib.hid iE
    clear iE
    have H_iF := Lib.hid iF
    clear iF
    have H_h0 := Lib.hid h0
    clear h0
    have H_h1 := Lib.hid h1
    clear h1
    have H_h2 := Lib.hid h2
    clear h2
    have H_h3 := Lib.hid h3
    clear h3
    have H_h4 := Lib.hid h4
    clear h4
    have H_h5 := Lib.hid h5
    clear h5
    go_enter Tryz.func6, Tryz.ntmps6
    go_wp2_with fail
    refine wp_loop_rounds 7 ?_
    rw [rounds_succ]
    go_wp2_with fail
    refine call_bel (w := w) (by repeat' (first | (with_reducible first | exact bwR _ _ | assumption | refine bdn ?_ | refine bwA ?_ ?_ _ | refine bwD ?_ | refine bwS ?_ ?_ _) | omega | (simp <;> omega))) (fun HB => rfracerror_0 m.A.n m.A.d _ H_h0.out H_iA.out.1 H_iA.out.2) ?_
    intro w1 hb1 hz1 c1 d1 hW1
    have t1 := hb1.size
    try simp only [szA] at hz1 c1 d1
    try simp only [szD] at hz1 c1 d1
    try simp only [szS] at hz1 c1 d1
    try simp only [World.heap_drewN] at hz1 c1 d1
    try simp only [szA] at hz1 c1 d1
    try simp only [szD] at hz1 c1 d1
    try simp only [szS] at hz1 c1 d1
    have s1_0 : w.heap.size < w1.heap.size := by omega
    have o1_0 := fun j => c1 (w.heap.size) j (by omega)
    have f1_0 := fun j => d1 (w.heap.size) j (by omega)
    have s1_1 : w.heap.size + 1 < w1.heap.size := by omega
    have o1_1 := fun j => c1 (w.heap.size + 1) j (by omega)
    have f1_1 := fun j => d1 (w.heap.size + 1) j (by omega)
    clear c1 d1 hz1 hW1
    go_wp2_with fail
    rw [rounds_succ]
    go_wp2_with fail
    refine call_bel (w := w) (by repeat' (first | (with_reducible first | exact bwR _ _ | assumption | refine bdn ?_ | refine bwA ?_ ?_ _ | refine bwD ?_ | refine bwS ?_ ?_ _) | omega | (simp <;> omega))) (fun HB => rfracerror_0 m.B.n m.B.d _ H_h1.out H_iB.out.1 H_iB.out.2) ?_
    intro w2 hb2 hz2 c2 d2 hW2
    have t2 := hb2.size
    try simp only [szA] at hz2 c2 d2
    try simp only [szD] at hz2 c2 d2
    try simp only [szS] at hz2 c2 d2
    try simp only [World.heap_drewN] at hz2 c2 d2
    try simp only [szA] at hz2 c2 d2
    try simp only [szD] at hz2 c2 d2
    try simp only [szS] at hz2 c2 d2
    have s2_0 : w.heap.size < w2.heap.size := by omega
    have o2_0 := fun j => c2 (w.heap.size) j (by omega)
    have f2_0 := fun j => d2 (w.heap.size) j (by omega)
    have s2_1 : w.heap.size + 1 < w2.heap.size := by omega
    have o2_1 := fun j => c2 (w.heap.size + 1) j (by omega)
    have f2_1 := fun j => d2 (w.heap.size + 1) j (by omega)
    clear c2 d2 hz2 hW2
    go_wp2_with fail
    rw [rounds_succ]
    go_wp2_with fail
    refine call_bel (w := w) (by repeat' (first | (with_reducible first | exact bwR _ _ | assumption | refine bdn ?_ | refine bwA ?_ ?_ _ | refine bwD ?_ | refine bwS ?_ ?_ _) | omega | (simp <;> omega))) (fun HB => rfracerror_0 m.C.n m.C.d _ H_h2.out H_iC.out.1 H_iC.out.2) ?_
    intro w3 hb3 hz3 c3 d3 hW3
    have t3 := hb3.size
    try simp only [szA] at hz3 c3 d3
    try simp only [szD] at hz3 c3 d3
    try simp only [szS] at hz3 c3 d3
    try simp only [World.heap_drewN] at hz3 c3 d3
    try simp only [szA] at hz3 c3 d3
    try simp only [szD] at hz3 c3 d3
    try simp only [szS] at hz3 c3 d3
    have s3_0 : w.heap.size < w3.heap.size := by omega
    have o3_0 := fun j => c3 (w.heap.size) j (by omega)
    have f3_0 := fun j => d3 (w.heap.size) j (by omega)
    have s3_1 : w.heap.size + 1 < w3.heap.size := by omega
    have o3_1 := fun j => c3 (w.heap.size + 1) j (by omega)
    have f3_1 := fun j => d3 (w.heap.size + 1) j (by omega)
    clear c3 d3 hz3 hW3
    go_wp2_with fail
    rw [rounds_succ]
    go_wp2_with fail
    refine call_bel (w := w) (by repeat' (first | (with_reducible first | exact bwR _ _ | assumption | refine bdn ?_ | refine bwA ?_ ?_ _ | refine bwD ?_ | refine bwS ?_ ?_ _) | omega | (simp <;> omega))) (fun HB => rfracerror_0 m.D.n m.D.d _ H_h3.out H_iD.out.1 H_iD.out.2) ?_
    intro w4 hb4 hz4 c4 d4 hW4
    have t4 := hb4.size
    try simp only [szA] at hz4 c4 d4
    try simp only [szD] at hz4 c4 d4
    try simp only [szS] at hz4 c4 d4
    try simp only [World.heap_drewN] at hz4 c4 d4
    try simp only [szA] at hz4 c4 d4
    try simp only [szD] at hz4 c4 d4
    try simp only [szS] at hz4 c4 d4
    have s4_0 : w.heap.size < w4.heap.size := by omega
    have o4_0 := fun j => c4 (w.heap.size) j (by omega)
    have f4_0 := fun j => d4 (w.heap.size) j (by omega)
    have s4_1 : w.heap.size + 1 < w4.heap.size := by omega
    have o4_1 := fun j => c4 (w.heap.size + 1) j (by omega)
    have f4_1 := fun j => d4 (w.heap.size + 1) j (by omega)
    clear c4 d4 hz4 hW4
    go_wp2_with fail
    rw [rounds_succ]
    go_wp2_with fail
    refine call_bel (w := w) (by repeat' (first | (with_reducible first | exact bwR _ _ | assumption | refine bdn ?_ | refine bwA ?_ ?_ _ | refine bwD ?_ | refine bwS ?_ ?_ _) | omega | (simp <;> omega))) (fun HB => rfracerror_0 m.E.n m.E.d _ H_h4.out H_iE.out.1 H_iE.out.2) ?_
    intro w5 hb5 hz5 c5 d5 hW5
    have t5 := hb5.size
    try simp only [szA] at hz5 c5 d5
    try simp only [szD] at hz5 c5 d5
    try simp only [szS] at hz5 c5 d5
    try simp only [World.heap_drewN] at hz5 c5 d5
    try simp only [szA] at hz5 c5 d5
    try simp only [szD] at hz5 c5 d5
    try simp only [szS] at hz5 c5 d5
    have s5_0 : w.heap.size < w5.heap.size := by omega
    have o5_0 := fun j => c5 (w.heap.size) j (by omega)
    have f5_0 := fun j => d5 (w.heap.size) j (by omega)
    have s5_1 : w.heap.size + 1 < w5.heap.size := by omega
    have o5_1 := fun j => c5 (w.heap.size + 1) j (by omega)
    have f5_1 := fun j => d5 (w.heap.size + 1) j (by omega)
    clear c5 d5 hz5 hW5
    go_wp2_with fail
    rw [rounds_succ]
    go_wp2_with fail
    refine call_bel (w := w) (by repeat' (first | (with_reducible first | exact bwR _ _ | assumption | refine bdn ?_ | refine bwA ?_ ?_ _ | refine bwD ?_ | refine bwS ?_ ?_ _) | omega | (simp <;> omega))) (fun HB => rfracerror_0 m.F.n m.F.d _ H_h5.out H_iF.out.1 H_iF.out.2) ?_
    intro w6 hb6 hz6 c6 d6 hW6
    have t6 := hb6.size
    try simp only [szA] at hz6 c6 d6
    try simp only [szD] at hz6 c6 d6
    try simp only [szS] at hz6 c6 d6
    try simp only [World.heap_drewN] at hz6 c6 d6
    try simp only [szA] at hz6 c6 d6
    try simp only [szD] at hz6 c6 d6
    try simp only [szS] at hz6 c6 d6
    have s6_0 : w.heap.size < w6.heap.size := by omega
    have o6_0 := fun j => c6 (w.heap.size) j (by omega)
    have f6_0 := fun j => d6 (w.heap.size) j (by omega)
    have s6_1 : w.heap.size + 1 < w6.heap.size := by omega
    have o6_1 := fun j => c6 (w.heap.size + 1) j (by omega)
    have f6_1 := fun j => d6 (w.heap.size + 1) j (by omega)
    clear c6 d6 hz6 hW6
    go_wp2_with fail
    rw [rounds_succ]
    go_wp2_with fail
    refine call_bel (w := w) (by repeat' (first | (with_reducible first | exact bwR _ _ | assumption | refine bdn ?_ | refine bwA ?_ ?_ _ | refine bwD ?_ | refine bwS ?_ ?_ _) | omega | (simp <;> omega))) (fun HB => rfine2_any _) ?_
    intro w7 hb7 hz7 c7 d7 hW7
    have t7 := hb7.size
    try simp only [szA] at hz7 c7 d7
    try simp only [szD] at hz7 c7 d7
    try simp only [szS] at hz7 c7 d7
    try simp only [World.heap_drewN] at hz7 c7 d7
    try simp only [szA] at hz7 c7 d7
    try simp only [szD] at hz7 c7 d7
    try simp only [szS] at hz7 c7 d7
    have s7_0 : w.heap.size < w7.heap.size := by omega
    have o7_0 := fun j => c7 (w.heap.size) j (by omega)
    have f7_0 := fun j => d7 (w.heap.size) j (by omega)
    have s7_1 : w.heap.size + 1 < w7.heap.size := by omega
    have o7_1 := fun j => c7 (w.heap.size + 1) j (by omega)
    have f7_1 := fun j => d7 (w.heap.size + 1) j (by omega)
    clear c7 d7 hz7 hW7
    go_wp2_with fail
    refine bodyPost_ret (by simp [results, Tryz.results6, go_sem, *]; try rfl) rfl ?_
    exact ⟨rfl, by repeat' (first | (with_reducible first | exact bwR _ _ | assumption | refine bdn ?_ | refine bwA ?_ ?_ _ | refine bwD ?_ | refine bwS ?_ ?_ _) | omega | (simp <;> omega))⟩
end Go.Proofs.YtlhadgnpkooiaaaGreatDoor

/-
  Walks over the statements' helpers moved, asMove; plain: errors of moves.
-/
namespace Lead
open Go Go.RowKit
end Lead
namespace Go.Proofs.YtlhadgnpkooiaaaGreatDoor
open Go.RowKit Lead
set_option maxHeartbeats 1000000 in
set_option maxRecDepth 100000 in
theorem asm_any (m : Mv) (w : World) : Calls Tryz.prog 5 #[.agg #[.int .i64 m.A.n, .int .i64 m.A.d, .int .i64 m.B.n, .int .i64 m.B.d, .int .i64 m.C.n, .int .i64 m.C.d, .int .i64 m.D.n, .int .i64 m.D.d, .int .i64 m.E.n, .int .i64 m.E.d, .int .i64 m.F.n, .int .i64 m.F.d]] w fun e w' => e = .returned (.agg #[.int .i64 m.A.n, .int .i64 m.A.d, .int .i64 m.B.n, .int .i64 m.B.d, .int .i64 m.C.n, .int .i64 m.C.d, .int .i64 m.D.n, .int .i64 m.D.d, .int .i64 m.E.n, .int .i64 m.E.d, .int .i64 m.F.n, .int .i64 m.F.d]) ∧ Below w.heap.size w w' := by
  go_enter Tryz.func5, Tryz.ntmps5
  ((try go_simp); (repeat go_step))
  refine bodyPost_ret (by simp [results, Tryz.results5, go_sem]; try rfl) rfl ?_
  exact ⟨rfl, by repeat' (first | (with_reducible first | exact bwR _ _ | assumption | refine bdn ?_ | refine bwA ?_ ?_ _ | refine bwD ?_ | refine bwS ?_ ?_ _) | omega | (simp <;> omega))⟩
end Go.Proofs.YtlhadgnpkooiaaaGreatDoor

/-
  Walks over the statements' helpers: coded, faulted.
-/
namespace Go.Proofs.YtlhadgnpkooiaaaGreatDoor
open Go.RowKit Lead

set_option maxHeartbeats 1000000 in
theorem faulted1_any (ea : Nat → Addr) (c : Nat × Option Nat) (n at' : Int) (x : Value) (lo : Nat) (w : World) (hx : ErrAt 183 61 ea lo w x c) (hS : Sents ea w) (h11 : c.1 ≤ 11) (hn : (c.1 : Int) = n) (ha : atI c.2 = at') :
    Calls Tryz.prog 7 #[x, .agg #[.int .i64 n, .int .i64 at']] w fun e w' => e = .returned (.bool true) ∧ Below w.heap.size w w' := by
  obtain ⟨c1, c2⟩ := c
  cases c2 with
  | none =>
    change x = evl _ ea c1 at hx
    change (c1 : Int) = n at hn
    change (-1 : Int) = at' at ha
    subst hn ha
    by_cases h0 : c1 = 0
    · subst h0
      rw [evl_0 rfl] at hx
      subst hx
      have H_hS := Lib.hid hS
      clear hS
      go_enter Tryz.func7, Tryz.ntmps7
      go_wp2_with fail
      refine call_bel (w := w) (by repeat' (first | (with_reducible first | exact bwR _ _ | assumption | refine bdn ?_ | refine bwA ?_ ?_ _ | refine bwD ?_ | refine bwS ?_ ?_ _) | omega | (simp <;> omega))) (fun HB => code_nil _) ?_
      intro w1 hb1 hz1 c1 d1 hW1
      have t1 := hb1.size
      try simp only [szA] at hz1 c1 d1
      try simp only [szD] at hz1 c1 d1
      try simp only [szS] at hz1 c1 d1
      try simp only [World.heap_drewN] at hz1 c1 d1
      try simp only [szA] at hz1 c1 d1
      try simp only [szD] at hz1 c1 d1
      try simp only [szS] at hz1 c1 d1
      have s1_0 : w.heap.size < w1.heap.size := by omega
      have o1_0 := fun j => c1 (w.heap.size) j (by omega)
      have f1_0 := fun j => d1 (w.heap.size) j (by omega)
      clear c1 d1 hz1 hW1
      go_wp2_with fail
      go_returns
      exact ⟨rfl, by repeat' (first | (with_reducible first | exact bwR _ _ | assumption | refine bdn ?_ | refine bwA ?_ ?_ _ | refine bwD ?_ | refine bwS ?_ ?_ _) | omega | (simp <;> omega))⟩
    · rw [evl_n h0] at hx
      subst hx
      have h1 : 1 ≤ c1 := by omega
      have h2 : c1 ≤ 11 := h11
      have h3 : ((c1 : Int) == 0) = false := by simp; omega
      have H_hS := Lib.hid hS
      clear hS
      have H_h0 := Lib.hid h0
      clear h0
      go_enter Tryz.func7, Tryz.ntmps7
      go_wp2_with fail
      refine call_bel (w := w) (by repeat' (first | (with_reducible first | exact bwR _ _ | assumption | refine bdn ?_ | refine bwA ?_ ?_ _ | refine bwD ?_ | refine bwS ?_ ?_ _) | omega | (simp <;> omega))) (fun HB => code_sent ea c1 _ h1 h2 (H_hS.out.keep HB rfl)) ?_
      intro w1 hb1 hz1 c1 d1 hW1
      have t1 := hb1.size
      try simp only [szA] at hz1 c1 d1
      try simp only [szD] at hz1 c1 d1
      try simp only [szS] at hz1 c1 d1
      try simp only [World.heap_drewN] at hz1 c1 d1
      try simp only [szA] at hz1 c1 d1
      try simp only [szD] at hz1 c1 d1
      try simp only [szS] at hz1 c1 d1
      have s1_0 : w.heap.size < w1.heap.size := by omega
      have o1_0 := fun j => c1 (w.heap.size) j (by omega)
      have f1_0 := fun j => d1 (w.heap.size) j (by omega)
      clear c1 d1 hz1 hW1
      go_wp2_with fail
      go_returns
      exact ⟨rfl, by repeat' (first | (with_reducible first | exact bwR _ _ | assumption | refine bdn ?_ | refine bwA ?_ ?_ _ | refine bwD ?_ | refine bwS ?_ ?_ _) | omega | (simp <;> omega))⟩
  | some i =>
    obtain ⟨h0, b, h1, rfl, h3, h4⟩ := hx
    change (c1 : Int) = n at hn
    change (i : Int) = at' at ha
    subst hn ha
    have h0' : 1 ≤ c1 := by have : c1 ≠ 0 := h0; omega
    have h2 : c1 ≤ 11 := h11
    have h5 : ((c1 : Int) == 0) = false := by simp; omega
    have H_hS := Lib.hid hS
    clear hS
    have H_h0 := Lib.hid h0
    clear h0
    go_enter Tryz.func7, Tryz.ntmps7
    go_wp2_with fail
    refine call_bel (w := w) (by repeat' (first | (with_reducible first | exact bwR _ _ | assumption | refine bdn ?_ | refine bwA ?_ ?_ _ | refine bwD ?_ | refine bwS ?_ ?_ _) | omega | (simp <;> omega))) (fun HB => code_fault ea c1 b i _ h0' h2 (H_hS.out.keep HB rfl) (gkeep HB h3 rfl) (gkeep HB h4 rfl)) ?_
    intro w1 hb1 hz1 c1 d1 hW1
    have t1 := hb1.size
    try simp only [szA] at hz1 c1 d1
    try simp only [szD] at hz1 c1 d1
    try simp only [szS] at hz1 c1 d1
    try simp only [World.heap_drewN] at hz1 c1 d1
    try simp only [szA] at hz1 c1 d1
    try simp only [szD] at hz1 c1 d1
    try simp only [szS] at hz1 c1 d1
    have s1_0 : w.heap.size < w1.heap.size := by omega
    have o1_0 := fun j => c1 (w.heap.size) j (by omega)
    have f1_0 := fun j => d1 (w.heap.size) j (by omega)
    clear c1 d1 hz1 hW1
    go_wp2_with fail
    go_returns
    exact ⟨rfl, by repeat' (first | (with_reducible first | exact bwR _ _ | assumption | refine bdn ?_ | refine bwA ?_ ?_ _ | refine bwD ?_ | refine bwS ?_ ?_ _) | omega | (simp <;> omega))⟩
end Go.Proofs.YtlhadgnpkooiaaaGreatDoor

/-
  Plain: the ways of a point and of two moves, as the document's answer tells them; blocks that are made, and written. (Written by wip/mkmgp.py.)
-/
namespace Lead
open Go Go.RowKit
/-- The fault of a move and a point. -/
def pfC (m : Mv) (p : Pt) : Nat × Option Nat := if m.c = (0, none) then firstF [p.X, p.Y] 6 else m.c
theorem at_ways (m : Mv) (p : Pt) :
    ((pfC m p).1 ≠ 0 ∧ atC m p = pfC m p ∧ atV m p = ⟨0, 0, 0, 0⟩) ∨
    (pfC m p = (0, none) ∧ m.R ∧ p.R ∧ goB m p = true ∧ atC m p = (0, none) ∧ atV m p = goV m p) ∨
    (pfC m p = (0, none) ∧ m.R ∧ p.R ∧ goB m p = false ∧ atC m p = (2, none) ∧ atV m p = goV m p) := by
  unfold pfC
  rcases at_cases m p with ⟨h1, h2⟩ | ⟨h0, h1, h2⟩ | ⟨h0, h1, h3, h2⟩ | ⟨h0, h1, h3, h4, h2⟩ | ⟨h0, h1, h3, h4, h2⟩
  · have e : ¬ m.c = (0, none) := fun e => h1 (by rw [e])
    rw [if_neg e]
    exact .inl ⟨h1, h2, atV_n (by rw [h2]; exact h1)⟩
  · have e : firstF [p.X, p.Y] 6 = (p.X.c, some 6) := by simp [firstF, h1]
    rw [if_pos h0, e]
    exact .inl ⟨h1, h2, atV_n (by rw [h2]; exact h1)⟩
  · have e : firstF [p.X, p.Y] 6 = (p.Y.c, some 7) := by simp [firstF, h1, h3]
    rw [if_pos h0, e]
    exact .inl ⟨h3, h2, atV_n (by rw [h2]; exact h3)⟩
  · have e : firstF [p.X, p.Y] 6 = (0, none) := by simp [firstF, h1, h3]
    rw [if_pos h0, e]
    refine .inr (.inr ⟨rfl, Mv.c_0 h0, ⟨chk_0 h1, chk_0 h3⟩, decide_eq_false h4, h2, ?_⟩)
    rw [atV_n (by rw [h2]; decide)]
    exact (if_neg h4).symm
  · have e : firstF [p.X, p.Y] 6 = (0, none) := by simp [firstF, h1, h3]
    rw [if_pos h0, e]
    refine .inr (.inl ⟨rfl, Mv.c_0 h0, ⟨chk_0 h1, chk_0 h3⟩, decide_eq_true h4, h2, ?_⟩)
    rw [atV_0 h2]
    exact (if_pos h4).symm
theorem then_ways (m n : Mv) :
    (m.c.1 ≠ 0 ∧ thenC m n = m.c ∧ thenV m n = zMv) ∨
    (m.c = (0, none) ∧ n.c.1 ≠ 0 ∧ thenC m n = n.c ∧ thenV m n = zMv) ∨
    (m.c = (0, none) ∧ n.c = (0, none) ∧ m.R ∧ n.R ∧ tnB m n = true ∧ thenC m n = (0, none) ∧ thenV m n = tnV m n) ∨
    (m.c = (0, none) ∧ n.c = (0, none) ∧ m.R ∧ n.R ∧ tnB m n = false ∧ thenC m n = (2, none) ∧ thenV m n = tnV m n) := by
  have hz : ∀ {c : Nat × Option Nat}, thenC m n = c → c.1 ≠ 0 → thenV m n = zMv := fun h hc => if_neg (fun e => hc (by rw [← h, e]))
  rcases thenC_cases m n with ⟨h1, h2⟩ | ⟨h0, h1, h2⟩ | ⟨h0, h1, h3, h2⟩ | ⟨h0, h1, h3, h2⟩
  · exact .inl ⟨h1, h2, hz h2 h1⟩
  · exact .inr (.inl ⟨h0, h1, h2, hz h2 h1⟩)
  · refine .inr (.inr (.inr ⟨h0, h1, Mv.c_0 h0, Mv.c_0 h1, decide_eq_false h3, h2, ?_⟩))
    rw [hz h2 (by decide)]
    exact (if_neg h3).symm
  · refine .inr (.inr (.inl ⟨h0, h1, Mv.c_0 h0, Mv.c_0 h1, decide_eq_true h3, h2, ?_⟩))
    unfold thenV tnV
    rw [if_pos h2, if_pos h3]
theorem chk_le_ (n d : Int) : chk n d ≤ 11 := by
  unfold chk
  split
  · decide
  · split
    · decide
    · split <;> decide
theorem atC_le (m : Mv) (p : Pt) : (atC m p).1 ≤ 11 := by
  rcases at_cases m p with ⟨_, h2⟩ | ⟨_, _, h2⟩ | ⟨_, _, _, h2⟩ | ⟨_, _, _, _, h2⟩ | ⟨_, _, _, _, h2⟩
  · rw [h2]; exact firstF_le
  · rw [h2]; exact chk_le_ _ _
  · rw [h2]; exact chk_le_ _ _
  · rw [h2]; decide
  · rw [h2]; decide
theorem thenC_le (m n : Mv) : (thenC m n).1 ≤ 11 := by
  rcases thenC_cases m n with ⟨_, h2⟩ | ⟨_, _, h2⟩ | ⟨_, _, _, h2⟩ | ⟨_, _, _, h2⟩
  · rw [h2]; exact firstF_le
  · rw [h2]; exact firstF_le
  · rw [h2]; decide
  · rw [h2]; decide
theorem rdC_le (l : List UInt8) : rdC l ≤ 11 := by
  unfold rdC
  split
  · decide
  · exact chk_le_ _ _
theorem oneC_le (k a b : List UInt8) : oneC k a b ≤ 11 := by
  unfold oneC
  split
  · split <;> decide
  · split
    · exact rdC_le _
    · exact rdC_le _
theorem rdW_le : ∀ (f : Nat) (l : List (List UInt8)), (rdW f l).1 ≤ 11
  | 0, _ => Nat.zero_le _
  | _ + 1, [] => Nat.zero_le _
  | f + 1, k :: r => by
    unfold rdW
    split
    · decide
    · split
      · exact oneC_le _ _ _
      · exact rdW_le f _
theorem foldM_le : ∀ (l : List Mv) (o : Mv), (foldM o l).1 ≤ 11
  | [], _ => Nat.zero_le _
  | m :: r, o => by
    have e : foldM o (m :: r) = if thenC o m = (0, none) then foldM (thenV o m) r else (2, zMv) := rfl
    rw [e]
    split
    · exact foldM_le r _
    · decide
theorem moveC_le' (l : List UInt8) : moveC l ≤ 11 := by
  unfold moveC
  split
  · decide
  · split
    · exact rdW_le _ _
    · exact foldM_le _ _
theorem set2z {w : World} {g : Nat} {z0 z1 : Value} (hz : ∀ j, w.cell? ⟨g, j, none⟩ = (#[z0, z1] : Array Value)[j]?) (v0 v1 : Value) :
    ∀ j, ((w.setCell ⟨g, 0, none⟩ v0).setCell ⟨g, 1, none⟩ v1).cell? ⟨g, j, none⟩ = (#[v0, v1] : Array Value)[j]? := by
  have e0 := hz
  have e1 : ∀ j, (w.setCell ⟨g, 0, none⟩ v0).cell? ⟨g, j, none⟩ = (#[v0, z1] : Array Value)[j]? := set1 (z := (#[z0, z1] : Array Value)) (i := 0) e0 v0 (by simp)
  have e2 : ∀ j, ((w.setCell ⟨g, 0, none⟩ v0).setCell ⟨g, 1, none⟩ v1).cell? ⟨g, j, none⟩ = (#[v0, v1] : Array Value)[j]? := set1 (z := (#[v0, z1] : Array Value)) (i := 1) e1 v1 (by simp)
  exact e2
theorem oth2z {w : World} {g b : Nat} (h : b ≠ g) (v0 v1 : Value) (j : Nat) : ((w.setCell ⟨g, 0, none⟩ v0).setCell ⟨g, 1, none⟩ v1).cell? ⟨b, j, none⟩ = w.cell? ⟨b, j, none⟩ := by
  have k : ∀ i, (⟨b, j, none⟩ : Addr) ≠ ⟨g, i, none⟩ := fun i q => h (by injection q)
  rw [World.cell?_setCell_other _ _ _ _ (fun q => k _ q.symm), World.cell?_setCell_other _ _ _ _ (fun q => k _ q.symm)]
theorem set4z {w : World} {g : Nat} {z0 z1 z2 z3 : Value} (hz : ∀ j, w.cell? ⟨g, j, none⟩ = (#[z0, z1, z2, z3] : Array Value)[j]?) (v0 v1 v2 v3 : Value) :
    ∀ j, ((((w.setCell ⟨g, 0, none⟩ v0).setCell ⟨g, 1, none⟩ v1).setCell ⟨g, 2, none⟩ v2).setCell ⟨g, 3, none⟩ v3).cell? ⟨g, j, none⟩ = (#[v0, v1, v2, v3] : Array Value)[j]? := by
  have e0 := hz
  have e1 : ∀ j, (w.setCell ⟨g, 0, none⟩ v0).cell? ⟨g, j, none⟩ = (#[v0, z1, z2, z3] : Array Value)[j]? := set1 (z := (#[z0, z1, z2, z3] : Array Value)) (i := 0) e0 v0 (by simp)
  have e2 : ∀ j, ((w.setCell ⟨g, 0, none⟩ v0).setCell ⟨g, 1, none⟩ v1).cell? ⟨g, j, none⟩ = (#[v0, v1, z2, z3] : Array Value)[j]? := set1 (z := (#[v0, z1, z2, z3] : Array Value)) (i := 1) e1 v1 (by simp)
  have e3 : ∀ j, (((w.setCell ⟨g, 0, none⟩ v0).setCell ⟨g, 1, none⟩ v1).setCell ⟨g, 2, none⟩ v2).cell? ⟨g, j, none⟩ = (#[v0, v1, v2, z3] : Array Value)[j]? := set1 (z := (#[v0, v1, z2, z3] : Array Value)) (i := 2) e2 v2 (by simp)
  have e4 : ∀ j, ((((w.setCell ⟨g, 0, none⟩ v0).setCell ⟨g, 1, none⟩ v1).setCell ⟨g, 2, none⟩ v2).setCell ⟨g, 3, none⟩ v3).cell? ⟨g, j, none⟩ = (#[v0, v1, v2, v3] : Array Value)[j]? := set1 (z := (#[v0, v1, v2, z3] : Array Value)) (i := 3) e3 v3 (by simp)
  exact e4
theorem oth4z {w : World} {g b : Nat} (h : b ≠ g) (v0 v1 v2 v3 : Value) (j : Nat) : ((((w.setCell ⟨g, 0, none⟩ v0).setCell ⟨g, 1, none⟩ v1).setCell ⟨g, 2, none⟩ v2).setCell ⟨g, 3, none⟩ v3).cell? ⟨b, j, none⟩ = w.cell? ⟨b, j, none⟩ := by
  have k : ∀ i, (⟨b, j, none⟩ : Addr) ≠ ⟨g, i, none⟩ := fun i q => h (by injection q)
  rw [World.cell?_setCell_other _ _ _ _ (fun q => k _ q.symm), World.cell?_setCell_other _ _ _ _ (fun q => k _ q.symm), World.cell?_setCell_other _ _ _ _ (fun q => k _ q.symm), World.cell?_setCell_other _ _ _ _ (fun q => k _ q.symm)]
theorem oth12z {w : World} {g b : Nat} (h : b ≠ g) (v0 v1 v2 v3 v4 v5 v6 v7 v8 v9 v10 v11 : Value) (j : Nat) : ((((((((((((w.setCell ⟨g, 0, none⟩ v0).setCell ⟨g, 1, none⟩ v1).setCell ⟨g, 2, none⟩ v2).setCell ⟨g, 3, none⟩ v3).setCell ⟨g, 4, none⟩ v4).setCell ⟨g, 5, none⟩ v5).setCell ⟨g, 6, none⟩ v6).setCell ⟨g, 7, none⟩ v7).setCell ⟨g, 8, none⟩ v8).setCell ⟨g, 9, none⟩ v9).setCell ⟨g, 10, none⟩ v10).setCell ⟨g, 11, none⟩ v11).cell? ⟨b, j, none⟩ = w.cell? ⟨b, j, none⟩ := by
  have k : ∀ i, (⟨b, j, none⟩ : Addr) ≠ ⟨g, i, none⟩ := fun i q => h (by injection q)
  rw [World.cell?_setCell_other _ _ _ _ (fun q => k _ q.symm), World.cell?_setCell_other _ _ _ _ (fun q => k _ q.symm), World.cell?_setCell_other _ _ _ _ (fun q => k _ q.symm), World.cell?_setCell_other _ _ _ _ (fun q => k _ q.symm), World.cell?_setCell_other _ _ _ _ (fun q => k _ q.symm), World.cell?_setCell_other _ _ _ _ (fun q => k _ q.symm), World.cell?_setCell_other _ _ _ _ (fun q => k _ q.symm), World.cell?_setCell_other _ _ _ _ (fun q => k _ q.symm), World.cell?_setCell_other _ _ _ _ (fun q => k _ q.symm), World.cell?_setCell_other _ _ _ _ (fun q => k _ q.symm), World.cell?_setCell_other _ _ _ _ (fun q => k _ q.symm), World.cell?_setCell_other _ _ _ _ (fun q => k _ q.symm)]
/-- A block of twelve cells, made ahead of calls or behind them; it may be written. -/
def MadeF (w0 : World) (vs : Array Value) (p : Value) (W : World) : Prop :=
  ∃ g : Nat, p = .pointer (some ⟨g, 0, none⟩) ∧ (∀ j, W.cell? ⟨g, j, none⟩ = vs[j]?) ∧ (∀ j, W.frozen? ⟨g, j, none⟩ = false) ∧ w0.heap.size ≤ g ∧ g < W.heap.size ∧ Below w0.heap.size w0 W
theorem madeF_last {w0 W : World} {T : Nat} (h : Below w0.heap.size w0 W) (vs : Array Value) : MadeF w0 vs (.pointer (some ⟨W.heap.size, 0, none⟩)) (W.alloc (.cells vs T)) :=
  ⟨W.heap.size, rfl, fun _ => World.cell?_alloc_new _ _ _ _, fun _ => World.frozen?_alloc_new _ _ _ _, h.size, by simp, h.alloc h.size _⟩
theorem madeF_first {w0 X W : World} {T : Nat} (h1 : Below w0.heap.size w0 X) (h2 : Below (X.alloc (.cells #[.int .i64 0, .int .i64 0, .int .i64 0, .int .i64 0, .int .i64 0, .int .i64 0, .int .i64 0, .int .i64 0, .int .i64 0, .int .i64 0, .int .i64 0, .int .i64 0] T)).heap.size (X.alloc (.cells #[.int .i64 0, .int .i64 0, .int .i64 0, .int .i64 0, .int .i64 0, .int .i64 0, .int .i64 0, .int .i64 0, .int .i64 0, .int .i64 0, .int .i64 0, .int .i64 0] T)) W) (v0 v1 v2 v3 v4 v5 v6 v7 v8 v9 v10 v11 : Value) :
    MadeF w0 (#[v0, v1, v2, v3, v4, v5, v6, v7, v8, v9, v10, v11] : Array Value) (.pointer (some ⟨X.heap.size, 0, none⟩)) ((((((((((((W.setCell ⟨X.heap.size, 0, none⟩ v0).setCell ⟨X.heap.size, 1, none⟩ v1).setCell ⟨X.heap.size, 2, none⟩ v2).setCell ⟨X.heap.size, 3, none⟩ v3).setCell ⟨X.heap.size, 4, none⟩ v4).setCell ⟨X.heap.size, 5, none⟩ v5).setCell ⟨X.heap.size, 6, none⟩ v6).setCell ⟨X.heap.size, 7, none⟩ v7).setCell ⟨X.heap.size, 8, none⟩ v8).setCell ⟨X.heap.size, 9, none⟩ v9).setCell ⟨X.heap.size, 10, none⟩ v10).setCell ⟨X.heap.size, 11, none⟩ v11) := by
  have hz := h2.size
  rw [World.size_alloc] at hz
  have hle := h1.size
  refine ⟨X.heap.size, rfl, set12z (fun j => (h2.cell (p := ⟨X.heap.size, j, none⟩) (by simp)).trans (World.cell?_alloc_new _ _ _ _)) v0 v1 v2 v3 v4 v5 v6 v7 v8 v9 v10 v11, fun j => ?_, hle, ?_, ?_⟩
  · simp only [World.frozen?_setCell]
    rw [h2.frozen (p := ⟨X.heap.size, j, none⟩) (by simp)]
    exact World.frozen?_alloc_new _ _ _ _
  · simp only [World.size_setCell]; omega
  · have h3 : Below w0.heap.size w0 W := (h1.alloc hle _).trans (h2.mono (by rw [World.size_alloc]; omega))
    exact below_set12 h3 hle v0 v1 v2 v3 v4 v5 v6 v7 v8 v9 v10 v11
theorem madeF_ahead {w0 X Y W : World} {T : Nat} (h1 : Below w0.heap.size w0 X) (h2 : Below (X.alloc (.cells #[.int .i64 0, .int .i64 0, .int .i64 0, .int .i64 0, .int .i64 0, .int .i64 0, .int .i64 0, .int .i64 0, .int .i64 0, .int .i64 0, .int .i64 0, .int .i64 0] T)).heap.size (X.alloc (.cells #[.int .i64 0, .int .i64 0, .int .i64 0, .int .i64 0, .int .i64 0, .int .i64 0, .int .i64 0, .int .i64 0, .int .i64 0, .int .i64 0, .int .i64 0, .int .i64 0] T)) Y) (h3 : Below Y.heap.size Y W) (v0 v1 v2 v3 v4 v5 v6 v7 v8 v9 v10 v11 : Value) :
    MadeF w0 (#[v0, v1, v2, v3, v4, v5, v6, v7, v8, v9, v10, v11] : Array Value) (.pointer (some ⟨X.heap.size, 0, none⟩)) ((((((((((((W.setCell ⟨X.heap.size, 0, none⟩ v0).setCell ⟨X.heap.size, 1, none⟩ v1).setCell ⟨X.heap.size, 2, none⟩ v2).setCell ⟨X.heap.size, 3, none⟩ v3).setCell ⟨X.heap.size, 4, none⟩ v4).setCell ⟨X.heap.size, 5, none⟩ v5).setCell ⟨X.heap.size, 6, none⟩ v6).setCell ⟨X.heap.size, 7, none⟩ v7).setCell ⟨X.heap.size, 8, none⟩ v8).setCell ⟨X.heap.size, 9, none⟩ v9).setCell ⟨X.heap.size, 10, none⟩ v10).setCell ⟨X.heap.size, 11, none⟩ v11) :=
  madeF_first h1 (h2.trans (h3.mono h2.size)) v0 v1 v2 v3 v4 v5 v6 v7 v8 v9 v10 v11
theorem belB {gs : Nat} {wj X W : World} (h : Below gs wj X) (hA : Below X.heap.size X W) (hs : gs ≤ X.heap.size) : Below gs wj W := h.trans (hA.mono hs)
theorem errAt_set12 {T F : Nat} {ea : Nat → Addr} {lo lo' : Nat} {w : World} {x : Value} {c : Nat × Option Nat} {g : Nat} (h : ErrAt T F ea lo w x c) (hg : g < lo) (hl : lo' ≤ lo) (v0 v1 v2 v3 v4 v5 v6 v7 v8 v9 v10 v11 : Value) : ErrAt T F ea lo' ((((((((((((w.setCell ⟨g, 0, none⟩ v0).setCell ⟨g, 1, none⟩ v1).setCell ⟨g, 2, none⟩ v2).setCell ⟨g, 3, none⟩ v3).setCell ⟨g, 4, none⟩ v4).setCell ⟨g, 5, none⟩ v5).setCell ⟨g, 6, none⟩ v6).setCell ⟨g, 7, none⟩ v7).setCell ⟨g, 8, none⟩ v8).setCell ⟨g, 9, none⟩ v9).setCell ⟨g, 10, none⟩ v10).setCell ⟨g, 11, none⟩ v11) x c := by
  exact (((((((((((h.set ⟨g, 0, none⟩ v0 hg (Nat.le_refl _)).set ⟨g, 1, none⟩ v1 hg (Nat.le_refl _)).set ⟨g, 2, none⟩ v2 hg (Nat.le_refl _)).set ⟨g, 3, none⟩ v3 hg (Nat.le_refl _)).set ⟨g, 4, none⟩ v4 hg (Nat.le_refl _)).set ⟨g, 5, none⟩ v5 hg (Nat.le_refl _)).set ⟨g, 6, none⟩ v6 hg (Nat.le_refl _)).set ⟨g, 7, none⟩ v7 hg (Nat.le_refl _)).set ⟨g, 8, none⟩ v8 hg (Nat.le_refl _)).set ⟨g, 9, none⟩ v9 hg (Nat.le_refl _)).set ⟨g, 10, none⟩ v10 hg (Nat.le_refl _)).set ⟨g, 11, none⟩ v11 hg hl
theorem errAt_set2 {T F : Nat} {ea : Nat → Addr} {lo lo' : Nat} {w : World} {x : Value} {c : Nat × Option Nat} {g : Nat} (h : ErrAt T F ea lo w x c) (hg : g < lo) (hl : lo' ≤ lo) (v0 v1 : Value) : ErrAt T F ea lo' ((w.setCell ⟨g, 0, none⟩ v0).setCell ⟨g, 1, none⟩ v1) x c :=
  (h.set ⟨g, 0, none⟩ v0 hg (Nat.le_refl _)).set ⟨g, 1, none⟩ v1 hg hl
end Lead

/-
  Walks over the statement MoveGoes' own helper: pointFault.
-/
namespace Go.Proofs.YtlhadgnpkooiaaaGreatDoor
open Go.RowKit Lead

set_option maxHeartbeats 1000000 in
set_option maxRecDepth 100000 in
theorem rpf_1 (m : Mv) (p : Pt) (n at' : Int) (w : World) (im : m.I) (h : m.c.1 ≠ 0) (hn : (m.c.1 : Int) = n) (ha : atZ m.c.2 = at') :
    Calls Tryz.prog 10 #[.agg #[.int .i64 m.A.n, .int .i64 m.A.d, .int .i64 m.B.n, .int .i64 m.B.d, .int .i64 m.C.n, .int .i64 m.C.d, .int .i64 m.D.n, .int .i64 m.D.d, .int .i64 m.E.n, .int .i64 m.E.d, .int .i64 m.F.n, .int .i64 m.F.d], .agg #[.int .i64 p.xn, .int .i64 p.xd, .int .i64 p.yn, .int .i64 p.yd]] w fun e w' => e = .returned (.agg #[.int .i64 n, .int .i64 at']) ∧ Below w.heap.size w w' := by
  have h0 : (n == 0) = false := by rw [beq_eq_false_iff_ne]; omega
  have H_im := Lib.hid im
  clear im
  have H_h := Lib.hid h
  clear h
  have H_hn := Lib.hid hn
  clear hn
  have H_ha := Lib.hid ha
  clear ha
  go_enter Tryz.func10, Tryz.ntmps10
  ((try go_simp); (repeat go_step))
  refine call_bel (w := w) (by repeat' (first | (with_reducible first | exact bwR _ _ | assumption | refine bdn ?_ | refine bwA ?_ ?_ _ | refine bwD ?_ | refine bwS ?_ ?_ _) | omega | (simp <;> omega))) (fun HB => rsix_any m n at' _ H_im.out H_hn.out H_ha.out) ?_
  intro w1 hb1 hz1 c1 d1 hW1
  have t1 := hb1.size
  try simp only [szA] at hz1 c1 d1
  try simp only [szD] at hz1 c1 d1
  try simp only [szS] at hz1 c1 d1
  try simp only [World.heap_drewN] at hz1 c1 d1
  try simp only [szA] at hz1 c1 d1
  try simp only [szD] at hz1 c1 d1
  try simp only [szS] at hz1 c1 d1
  have s1_0 : w.heap.size < w1.heap.size := by omega
  have o1_0 := fun j => c1 (w.heap.size) j (by omega)
  have f1_0 := fun j => d1 (w.heap.size) j (by omega)
  have s1_1 : w.heap.size + 1 < w1.heap.size := by omega
  have o1_1 := fun j => c1 (w.heap.size + 1) j (by omega)
  have f1_1 := fun j => d1 (w.heap.size + 1) j (by omega)
  have s1_2 : w.heap.size + 1 + 1 < w1.heap.size := by omega
  have o1_2 := fun j => c1 (w.heap.size + 1 + 1) j (by omega)
  have f1_2 := fun j => d1 (w.heap.size + 1 + 1) j (by omega)
  clear c1 d1 hz1 hW1
  ((try go_simp); (repeat go_step))
  ((try go_simp); (repeat go_step))
  refine bodyPost_ret (by simp [results, Tryz.results10, go_sem, *]; try rfl) rfl ?_
  exact ⟨rfl, by repeat' (first | (with_reducible first | exact bwR _ _ | assumption | refine bdn ?_ | refine bwA ?_ ?_ _ | refine bwD ?_ | refine bwS ?_ ?_ _) | omega | (simp <;> omega))⟩
set_option maxHeartbeats 1000000 in
set_option maxRecDepth 100000 in
theorem rpf_2 (m : Mv) (p : Pt) (n : Int) (w : World) (im : m.I) (ip : p.I) (h : m.c = (0, none)) (hX : p.X.c ≠ 0) (hn : (p.X.c : Int) = n) :
    Calls Tryz.prog 10 #[.agg #[.int .i64 m.A.n, .int .i64 m.A.d, .int .i64 m.B.n, .int .i64 m.B.d, .int .i64 m.C.n, .int .i64 m.C.d, .int .i64 m.D.n, .int .i64 m.D.d, .int .i64 m.E.n, .int .i64 m.E.d, .int .i64 m.F.n, .int .i64 m.F.d], .agg #[.int .i64 p.xn, .int .i64 p.xd, .int .i64 p.yn, .int .i64 p.yd]] w fun e w' => e = .returned (.agg #[.int .i64 n, .int .i64 6]) ∧ Below w.heap.size w w' := by
  have h0 : (n == 0) = false := by rw [beq_eq_false_iff_ne]; omega
  have hpos : 0 < n := by omega
  have hn' : (chk p.xn p.xd : Int) = n := hn
  clear hn hX
  have H_im := Lib.hid im
  clear im
  have H_h := Lib.hid h
  clear h
  have H_hn' := Lib.hid hn'
  clear hn'
  have H_ip := Lib.hid ip
  clear ip
  go_enter Tryz.func10, Tryz.ntmps10
  ((try go_simp); (repeat go_step))
  refine call_bel (w := w) (by repeat' (first | (with_reducible first | exact bwR _ _ | assumption | refine bdn ?_ | refine bwA ?_ ?_ _ | refine bwD ?_ | refine bwS ?_ ?_ _) | omega | (simp <;> omega))) (fun HB => rsix_any m 0 (-1) _ H_im.out (by rw [H_h.out]; rfl) (by rw [H_h.out]; rfl)) ?_
  intro w1 hb1 hz1 c1 d1 hW1
  have t1 := hb1.size
  try simp only [szA] at hz1 c1 d1
  try simp only [szD] at hz1 c1 d1
  try simp only [szS] at hz1 c1 d1
  try simp only [World.heap_drewN] at hz1 c1 d1
  try simp only [szA] at hz1 c1 d1
  try simp only [szD] at hz1 c1 d1
  try simp only [szS] at hz1 c1 d1
  have s1_0 : w.heap.size < w1.heap.size := by omega
  have o1_0 := fun j => c1 (w.heap.size) j (by omega)
  have f1_0 := fun j => d1 (w.heap.size) j (by omega)
  have s1_1 : w.heap.size + 1 < w1.heap.size := by omega
  have o1_1 := fun j => c1 (w.heap.size + 1) j (by omega)
  have f1_1 := fun j => d1 (w.heap.size + 1) j (by omega)
  have s1_2 : w.heap.size + 1 + 1 < w1.heap.size := by omega
  have o1_2 := fun j => c1 (w.heap.size + 1 + 1) j (by omega)
  have f1_2 := fun j => d1 (w.heap.size + 1 + 1) j (by omega)
  clear c1 d1 hz1 hW1
  ((try go_simp); (repeat go_step))
  refine call_bel (w := w) (by repeat' (first | (with_reducible first | exact bwR _ _ | assumption | refine bdn ?_ | refine bwA ?_ ?_ _ | refine bwD ?_ | refine bwS ?_ ?_ _) | omega | (simp <;> omega))) (fun HB => rfracerror_c p.xn p.xd n _ H_hn'.out H_ip.out.xn H_ip.out.xd) ?_
  intro w2 hb2 hz2 c2 d2 hW2
  have t2 := hb2.size
  try simp only [szA] at hz2 c2 d2
  try simp only [szD] at hz2 c2 d2
  try simp only [szS] at hz2 c2 d2
  try simp only [World.heap_drewN] at hz2 c2 d2
  try simp only [szA] at hz2 c2 d2
  try simp only [szD] at hz2 c2 d2
  try simp only [szS] at hz2 c2 d2
  have s2_0 : w.heap.size + 1 < w2.heap.size := by omega
  have o2_0 := fun j => c2 (w.heap.size + 1) j (by omega)
  have f2_0 := fun j => d2 (w.heap.size + 1) j (by omega)
  have s2_1 : w.heap.size + 1 + 1 < w2.heap.size := by omega
  have o2_1 := fun j => c2 (w.heap.size + 1 + 1) j (by omega)
  have f2_1 := fun j => d2 (w.heap.size + 1 + 1) j (by omega)
  have s2_2 : w1.heap.size < w2.heap.size := by omega
  have o2_2 := fun j => c2 (w1.heap.size) j (by omega)
  have f2_2 := fun j => d2 (w1.heap.size) j (by omega)
  clear c2 d2 hz2 hW2
  ((try go_simp); (repeat go_step))
  refine call_bel (w := w) (by repeat' (first | (with_reducible first | exact bwR _ _ | assumption | refine bdn ?_ | refine bwA ?_ ?_ _ | refine bwD ?_ | refine bwS ?_ ?_ _) | omega | (simp <;> omega))) (fun HB => rfracerror_c p.xn p.xd n _ H_hn'.out H_ip.out.xn H_ip.out.xd) ?_
  intro w3 hb3 hz3 c3 d3 hW3
  have t3 := hb3.size
  try simp only [szA] at hz3 c3 d3
  try simp only [szD] at hz3 c3 d3
  try simp only [szS] at hz3 c3 d3
  try simp only [World.heap_drewN] at hz3 c3 d3
  try simp only [szA] at hz3 c3 d3
  try simp only [szD] at hz3 c3 d3
  try simp only [szS] at hz3 c3 d3
  have s3_0 : w.heap.size + 1 < w3.heap.size := by omega
  have o3_0 := fun j => c3 (w.heap.size + 1) j (by omega)
  have f3_0 := fun j => d3 (w.heap.size + 1) j (by omega)
  have s3_1 : w.heap.size + 1 + 1 < w3.heap.size := by omega
  have o3_1 := fun j => c3 (w.heap.size + 1 + 1) j (by omega)
  have f3_1 := fun j => d3 (w.heap.size + 1 + 1) j (by omega)
  have s3_2 : w1.heap.size < w3.heap.size := by omega
  have o3_2 := fun j => c3 (w1.heap.size) j (by omega)
  have f3_2 := fun j => d3 (w1.heap.size) j (by omega)
  clear c3 d3 hz3 hW3
  ((try go_simp); (repeat go_step))
  ((try go_simp); (repeat go_step))
  refine bodyPost_ret (by simp [results, Tryz.results10, go_sem, *]; try rfl) rfl ?_
  exact ⟨rfl, by repeat' (first | (with_reducible first | exact bwR _ _ | assumption | refine bdn ?_ | refine bwA ?_ ?_ _ | refine bwD ?_ | refine bwS ?_ ?_ _) | omega | (simp <;> omega))⟩
set_option maxHeartbeats 1000000 in
set_option maxRecDepth 100000 in
theorem rpf_3 (m : Mv) (p : Pt) (n : Int) (w : World) (im : m.I) (ip : p.I) (h : m.c = (0, none)) (hX : p.X.c = 0) (hY : p.Y.c ≠ 0) (hn : (p.Y.c : Int) = n) :
    Calls Tryz.prog 10 #[.agg #[.int .i64 m.A.n, .int .i64 m.A.d, .int .i64 m.B.n, .int .i64 m.B.d, .int .i64 m.C.n, .int .i64 m.C.d, .int .i64 m.D.n, .int .i64 m.D.d, .int .i64 m.E.n, .int .i64 m.E.d, .int .i64 m.F.n, .int .i64 m.F.d], .agg #[.int .i64 p.xn, .int .i64 p.xd, .int .i64 p.yn, .int .i64 p.yd]] w fun e w' => e = .returned (.agg #[.int .i64 n, .int .i64 7]) ∧ Below w.heap.size w w' := by
  have h0 : (n == 0) = false := by rw [beq_eq_false_iff_ne]; omega
  have hpos : 0 < n := by omega
  have hn' : (chk p.yn p.yd : Int) = n := hn
  have hX' : chk p.xn p.xd = 0 := hX
  clear hn hY hX
  have H_im := Lib.hid im
  clear im
  have H_h := Lib.hid h
  clear h
  have H_hn' := Lib.hid hn'
  clear hn'
  have H_hX' := Lib.hid hX'
  clear hX'
  have H_ip := Lib.hid ip
  clear ip
  go_enter Tryz.func10, Tryz.ntmps10
  ((try go_simp); (repeat go_step))
  refine call_bel (w := w) (by repeat' (first | (with_reducible first | exact bwR _ _ | assumption | refine bdn ?_ | refine bwA ?_ ?_ _ | refine bwD ?_ | refine bwS ?_ ?_ _) | omega | (simp <;> omega))) (fun HB => rsix_any m 0 (-1) _ H_im.out (by rw [H_h.out]; rfl) (by rw [H_h.out]; rfl)) ?_
  intro w1 hb1 hz1 c1 d1 hW1
  have t1 := hb1.size
  try simp only [szA] at hz1 c1 d1
  try simp only [szD] at hz1 c1 d1
  try simp only [szS] at hz1 c1 d1
  try simp only [World.heap_drewN] at hz1 c1 d1
  try simp only [szA] at hz1 c1 d1
  try simp only [szD] at hz1 c1 d1
  try simp only [szS] at hz1 c1 d1
  have s1_0 : w.heap.size < w1.heap.size := by omega
  have o1_0 := fun j => c1 (w.heap.size) j (by omega)
  have f1_0 := fun j => d1 (w.heap.size) j (by omega)
  have s1_1 : w.heap.size + 1 < w1.heap.size := by omega
  have o1_1 := fun j => c1 (w.heap.size + 1) j (by omega)
  have f1_1 := fun j => d1 (w.heap.size + 1) j (by omega)
  have s1_2 : w.heap.size + 1 + 1 < w1.heap.size := by omega
  have o1_2 := fun j => c1 (w.heap.size + 1 + 1) j (by omega)
  have f1_2 := fun j => d1 (w.heap.size + 1 + 1) j (by omega)
  clear c1 d1 hz1 hW1
  ((try go_simp); (repeat go_step))
  refine call_bel (w := w) (by repeat' (first | (with_reducible first | exact bwR _ _ | assumption | refine bdn ?_ | refine bwA ?_ ?_ _ | refine bwD ?_ | refine bwS ?_ ?_ _) | omega | (simp <;> omega))) (fun HB => rfracerror_0 p.xn p.xd _ H_hX'.out H_ip.out.xn H_ip.out.xd) ?_
  intro w2 hb2 hz2 c2 d2 hW2
  have t2 := hb2.size
  try simp only [szA] at hz2 c2 d2
  try simp only [szD] at hz2 c2 d2
  try simp only [szS] at hz2 c2 d2
  try simp only [World.heap_drewN] at hz2 c2 d2
  try simp only [szA] at hz2 c2 d2
  try simp only [szD] at hz2 c2 d2
  try simp only [szS] at hz2 c2 d2
  have s2_0 : w.heap.size + 1 < w2.heap.size := by omega
  have o2_0 := fun j => c2 (w.heap.size + 1) j (by omega)
  have f2_0 := fun j => d2 (w.heap.size + 1) j (by omega)
  have s2_1 : w.heap.size + 1 + 1 < w2.heap.size := by omega
  have o2_1 := fun j => c2 (w.heap.size + 1 + 1) j (by omega)
  have f2_1 := fun j => d2 (w.heap.size + 1 + 1) j (by omega)
  have s2_2 : w1.heap.size < w2.heap.size := by omega
  have o2_2 := fun j => c2 (w1.heap.size) j (by omega)
  have f2_2 := fun j => d2 (w1.heap.size) j (by omega)
  clear c2 d2 hz2 hW2
  ((try go_simp); (repeat go_step))
  refine call_bel (w := w) (by repeat' (first | (with_reducible first | exact bwR _ _ | assumption | refine bdn ?_ | refine bwA ?_ ?_ _ | refine bwD ?_ | refine bwS ?_ ?_ _) | omega | (simp <;> omega))) (fun HB => rfracerror_c p.yn p.yd n _ H_hn'.out H_ip.out.yn H_ip.out.yd) ?_
  intro w3 hb3 hz3 c3 d3 hW3
  have t3 := hb3.size
  try simp only [szA] at hz3 c3 d3
  try simp only [szD] at hz3 c3 d3
  try simp only [szS] at hz3 c3 d3
  try simp only [World.heap_drewN] at hz3 c3 d3
  try simp only [szA] at hz3 c3 d3
  try simp only [szD] at hz3 c3 d3
  try simp only [szS] at hz3 c3 d3
  have s3_0 : w.heap.size + 1 < w3.heap.size := by omega
  have o3_0 := fun j => c3 (w.heap.size + 1) j (by omega)
  have f3_0 := fun j => d3 (w.heap.size + 1) j (by omega)
  have s3_1 : w.heap.size + 1 + 1 < w3.heap.size := by omega
  have o3_1 := fun j => c3 (w.heap.size + 1 + 1) j (by omega)
  have f3_1 := fun j => d3 (w.heap.size + 1 + 1) j (by omega)
  have s3_2 : w1.heap.size < w3.heap.size := by omega
  have o3_2 := fun j => c3 (w1.heap.size) j (by omega)
  have f3_2 := fun j => d3 (w1.heap.size) j (by omega)
  clear c3 d3 hz3 hW3
  ((try go_simp); (repeat go_step))
  refine call_bel (w := w) (by repeat' (first | (with_reducible first | exact bwR _ _ | assumption | refine bdn ?_ | refine bwA ?_ ?_ _ | refine bwD ?_ | refine bwS ?_ ?_ _) | omega | (simp <;> omega))) (fun HB => rfracerror_c p.yn p.yd n _ H_hn'.out H_ip.out.yn H_ip.out.yd) ?_
  intro w4 hb4 hz4 c4 d4 hW4
  have t4 := hb4.size
  try simp only [szA] at hz4 c4 d4
  try simp only [szD] at hz4 c4 d4
  try simp only [szS] at hz4 c4 d4
  try simp only [World.heap_drewN] at hz4 c4 d4
  try simp only [szA] at hz4 c4 d4
  try simp only [szD] at hz4 c4 d4
  try simp only [szS] at hz4 c4 d4
  have s4_0 : w.heap.size + 1 < w4.heap.size := by omega
  have o4_0 := fun j => c4 (w.heap.size + 1) j (by omega)
  have f4_0 := fun j => d4 (w.heap.size + 1) j (by omega)
  have s4_1 : w.heap.size + 1 + 1 < w4.heap.size := by omega
  have o4_1 := fun j => c4 (w.heap.size + 1 + 1) j (by omega)
  have f4_1 := fun j => d4 (w.heap.size + 1 + 1) j (by omega)
  have s4_2 : w1.heap.size < w4.heap.size := by omega
  have o4_2 := fun j => c4 (w1.heap.size) j (by omega)
  have f4_2 := fun j => d4 (w1.heap.size) j (by omega)
  clear c4 d4 hz4 hW4
  ((try go_simp); (repeat go_step))
  ((try go_simp); (repeat go_step))
  refine bodyPost_ret (by simp [results, Tryz.results10, go_sem, *]; try rfl) rfl ?_
  exact ⟨rfl, by repeat' (first | (with_reducible first | exact bwR _ _ | assumption | refine bdn ?_ | refine bwA ?_ ?_ _ | refine bwD ?_ | refine bwS ?_ ?_ _) | omega | (simp <;> omega))⟩
set_option maxHeartbeats 1000000 in
set_option maxRecDepth 100000 in
theorem rpf_4 (m : Mv) (p : Pt) (w : World) (im : m.I) (ip : p.I) (h : m.c = (0, none)) (hX : p.X.c = 0) (hY : p.Y.c = 0) :
    Calls Tryz.prog 10 #[.agg #[.int .i64 m.A.n, .int .i64 m.A.d, .int .i64 m.B.n, .int .i64 m.B.d, .int .i64 m.C.n, .int .i64 m.C.d, .int .i64 m.D.n, .int .i64 m.D.d, .int .i64 m.E.n, .int .i64 m.E.d, .int .i64 m.F.n, .int .i64 m.F.d], .agg #[.int .i64 p.xn, .int .i64 p.xd, .int .i64 p.yn, .int .i64 p.yd]] w fun e w' => e = .returned (.agg #[.int .i64 0, .int .i64 (-1)]) ∧ Below w.heap.size w w' := by
  have hY' : chk p.yn p.yd = 0 := hY
  have hX' : chk p.xn p.xd = 0 := hX
  clear hY hX
  have H_im := Lib.hid im
  clear im
  have H_h := Lib.hid h
  clear h
  have H_hY' := Lib.hid hY'
  clear hY'
  have H_hX' := Lib.hid hX'
  clear hX'
  have H_ip := Lib.hid ip
  clear ip
  go_enter Tryz.func10, Tryz.ntmps10
  ((try go_simp); (repeat go_step))
  refine call_bel (w := w) (by repeat' (first | (with_reducible first | exact bwR _ _ | assumption | refine bdn ?_ | refine bwA ?_ ?_ _ | refine bwD ?_ | refine bwS ?_ ?_ _) | omega | (simp <;> omega))) (fun HB => rsix_any m 0 (-1) _ H_im.out (by rw [H_h.out]; rfl) (by rw [H_h.out]; rfl)) ?_
  intro w1 hb1 hz1 c1 d1 hW1
  have t1 := hb1.size
  try simp only [szA] at hz1 c1 d1
  try simp only [szD] at hz1 c1 d1
  try simp only [szS] at hz1 c1 d1
  try simp only [World.heap_drewN] at hz1 c1 d1
  try simp only [szA] at hz1 c1 d1
  try simp only [szD] at hz1 c1 d1
  try simp only [szS] at hz1 c1 d1
  have s1_0 : w.heap.size < w1.heap.size := by omega
  have o1_0 := fun j => c1 (w.heap.size) j (by omega)
  have f1_0 := fun j => d1 (w.heap.size) j (by omega)
  have s1_1 : w.heap.size + 1 < w1.heap.size := by omega
  have o1_1 := fun j => c1 (w.heap.size + 1) j (by omega)
  have f1_1 := fun j => d1 (w.heap.size + 1) j (by omega)
  have s1_2 : w.heap.size + 1 + 1 < w1.heap.size := by omega
  have o1_2 := fun j => c1 (w.heap.size + 1 + 1) j (by omega)
  have f1_2 := fun j => d1 (w.heap.size + 1 + 1) j (by omega)
  clear c1 d1 hz1 hW1
  ((try go_simp); (repeat go_step))
  refine call_bel (w := w) (by repeat' (first | (with_reducible first | exact bwR _ _ | assumption | refine bdn ?_ | refine bwA ?_ ?_ _ | refine bwD ?_ | refine bwS ?_ ?_ _) | omega | (simp <;> omega))) (fun HB => rfracerror_0 p.xn p.xd _ H_hX'.out H_ip.out.xn H_ip.out.xd) ?_
  intro w2 hb2 hz2 c2 d2 hW2
  have t2 := hb2.size
  try simp only [szA] at hz2 c2 d2
  try simp only [szD] at hz2 c2 d2
  try simp only [szS] at hz2 c2 d2
  try simp only [World.heap_drewN] at hz2 c2 d2
  try simp only [szA] at hz2 c2 d2
  try simp only [szD] at hz2 c2 d2
  try simp only [szS] at hz2 c2 d2
  have s2_0 : w.heap.size + 1 < w2.heap.size := by omega
  have o2_0 := fun j => c2 (w.heap.size + 1) j (by omega)
  have f2_0 := fun j => d2 (w.heap.size + 1) j (by omega)
  have s2_1 : w.heap.size + 1 + 1 < w2.heap.size := by omega
  have o2_1 := fun j => c2 (w.heap.size + 1 + 1) j (by omega)
  have f2_1 := fun j => d2 (w.heap.size + 1 + 1) j (by omega)
  have s2_2 : w1.heap.size < w2.heap.size := by omega
  have o2_2 := fun j => c2 (w1.heap.size) j (by omega)
  have f2_2 := fun j => d2 (w1.heap.size) j (by omega)
  clear c2 d2 hz2 hW2
  ((try go_simp); (repeat go_step))
  refine call_bel (w := w) (by repeat' (first | (with_reducible first | exact bwR _ _ | assumption | refine bdn ?_ | refine bwA ?_ ?_ _ | refine bwD ?_ | refine bwS ?_ ?_ _) | omega | (simp <;> omega))) (fun HB => rfracerror_0 p.yn p.yd _ H_hY'.out H_ip.out.yn H_ip.out.yd) ?_
  intro w3 hb3 hz3 c3 d3 hW3
  have t3 := hb3.size
  try simp only [szA] at hz3 c3 d3
  try simp only [szD] at hz3 c3 d3
  try simp only [szS] at hz3 c3 d3
  try simp only [World.heap_drewN] at hz3 c3 d3
  try simp only [szA] at hz3 c3 d3
  try simp only [szD] at hz3 c3 d3
  try simp only [szS] at hz3 c3 d3
  have s3_0 : w.heap.size + 1 < w3.heap.size := by omega
  have o3_0 := fun j => c3 (w.heap.size + 1) j (by omega)
  have f3_0 := fun j => d3 (w.heap.size + 1) j (by omega)
  have s3_1 : w.heap.size + 1 + 1 < w3.heap.size := by omega
  have o3_1 := fun j => c3 (w.heap.size + 1 + 1) j (by omega)
  have f3_1 := fun j => d3 (w.heap.size + 1 + 1) j (by omega)
  have s3_2 : w1.heap.size < w3.heap.size := by omega
  have o3_2 := fun j => c3 (w1.heap.size) j (by omega)
  have f3_2 := fun j => d3 (w1.heap.size) j (by omega)
  clear c3 d3 hz3 hW3
  ((try go_simp); (repeat go_step))
  ((try go_simp); (repeat go_step))
  refine bodyPost_ret (by simp [results, Tryz.results10, go_sem, *]; try rfl) rfl ?_
  exact ⟨rfl, by repeat' (first | (with_reducible first | exact bwR _ _ | assumption | refine bdn ?_ | refine bwA ?_ ?_ _ | refine bwD ?_ | refine bwS ?_ ?_ _) | omega | (simp <;> omega))⟩
end Go.Proofs.YtlhadgnpkooiaaaGreatDoor
