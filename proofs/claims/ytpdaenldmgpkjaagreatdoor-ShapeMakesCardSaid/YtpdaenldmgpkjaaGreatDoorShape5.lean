/-
  Walks over package shape: crossings.
-/
import Derived.Test.YtpdaenldmgpkjaaGreatDoorSa
import Derived.Test.YtpdaenldmgpkjaaGreatDoorPa
namespace Go.Proofs.YtpdaenldmgpkjaaGreatDoor
open Go.RowKit Lead

theorem shcross_pt (a b p : Pt) (c : Int) (w : World) (ha : PtOk a) (hb : PtOk b) (hp : PtOk p) (hc : crossPt a b p = c) :
    Calls Tryz.prog 111 #[.agg #[.int .i64 a.xn, .int .i64 a.xd, .int .i64 a.yn, .int .i64 a.yd], .agg #[.int .i64 b.xn, .int .i64 b.xd, .int .i64 b.yn, .int .i64 b.yd], .agg #[.int .i64 p.xn, .int .i64 p.xd, .int .i64 p.yn, .int .i64 p.yd]] w fun e w' => e = .returned (.int .i64 c) ∧ Below w.heap.size w w' := by
  have h := shcross_any a.xn a.xd a.yn a.yd b.xn b.xd b.yn b.yd p.xn p.xd p.yn p.yd (sideI a b p) _ _ w rfl rfl (side_wrap ha hb hp)
  rw [(less_wrap ha hp).1, (less_wrap ha hp).2, (less_wrap hb hp).1, (less_wrap hb hp).2] at h
  rw [← hc]
  exact h

theorem info3 : (Tryz.prog.info? 3).map (fun i => (i.zero, i.size, i.bytes)) = some (some (.int .i64 0), 1, 8) := by kernel_rfl

set_option maxHeartbeats 2000000 in
set_option maxRecDepth 100000 in
theorem shcrossings_ok (ea : Nat → Addr) (ps : List Pt) (p : Pt) (b off len cap : Nat) (w : World) (hs : SlP w (some ⟨b, off, none⟩) len cap ps) (hok : firstBad ps 0 = (0, none)) (hall : ∀ q ∈ ps, PtOk q) (hp : PtOk p) (h30 : ps.length ≤ 30) (hShape : w.cell? ⟨2, 0, none⟩ = some (.iface 308 (.pointer (some (ea 3))))) (hBound : w.cell? ⟨0, 0, none⟩ = some (.iface 308 (.pointer (some (ea 2))))) :
    Calls Tryz.prog 74 #[.agg #[.slice (some ⟨b, off, none⟩) len cap], .agg #[.int .i64 p.xn, .int .i64 p.xd, .int .i64 p.yn, .int .i64 p.yd]] w (RetL 3 (crsTo ps p ps.length) w) := by
  have zhShape := zlt hShape
  have xhShape := zlts hShape
  have yhShape := zne hShape
  have zhBound := zlt hBound
  have xhBound := zlts hBound
  have yhBound := zne hBound
  have hsC : shC ps = (0, none) := by unfold shC; rw [if_neg (by omega), hok]
  have hpc : ptC p.xn p.xd p.yn p.yd = 0 := hp.c0
  obtain ⟨xn, xd, yn, yd⟩ := p
  have hpI := hp.I
  have H_hs := Lib.hid hs
  clear hs
  have H_hsC := Lib.hid hsC
  clear hsC
  have H_hpc := Lib.hid hpc
  clear hpc
  go_enter Tryz.func74, Tryz.ntmps74
  go_wp2_with fail
  refine call_e0 (w := w) (by repeat' (first | (with_reducible first | exact bwR _ _ | assumption | refine bdn ?_ | refine bwA ?_ ?_ _ | refine bwD ?_ | refine bwS ?_ ?_ _) | omega | (simp <;> omega))) (fun HB => shcheck_any ea ps _ _ _ _ (H_hs.out.keep HB rfl) (gkeep HB hShape rfl) (gkeep HB hBound rfl)) H_hsC.out ?_
  intro w1 hb1 hz1 c1 d1
  have t1 := hb1.size
  try simp only [szA] at hz1 c1 d1
  try simp only [szD] at hz1 c1 d1
  try simp only [szS] at hz1 c1 d1
  try simp only [World.heap_drewN] at hz1 c1 d1
  have s1_0 : w.heap.size < w1.heap.size := by omega
  have o1_0 := fun j => c1 (w.heap.size) j (by omega)
  have f1_0 := fun j => d1 (w.heap.size) j (by omega)
  have s1_1 : w.heap.size + 1 < w1.heap.size := by omega
  have o1_1 := fun j => c1 (w.heap.size + 1) j (by omega)
  have f1_1 := fun j => d1 (w.heap.size + 1) j (by omega)
  clear c1 d1 hz1
  go_wp2_with fail
  refine call_below (w := w) (by repeat' (first | (with_reducible first | exact bwR _ _ | assumption | refine bdn ?_ | refine bwA ?_ ?_ _ | refine bwD ?_ | refine bwS ?_ ?_ _) | omega | (simp <;> omega))) (fun HB => shpoint_0 ea xn xd yn yd _ hpI.xn hpI.xd hpI.yn hpI.yd (gkeep HB hShape rfl) (gkeep HB hBound rfl) H_hpc.out) ?_
  intro w2 hb2 hz2 c2 d2
  have t2 := hb2.size
  try simp only [szA] at hz2 c2 d2
  try simp only [szD] at hz2 c2 d2
  try simp only [szS] at hz2 c2 d2
  try simp only [World.heap_drewN] at hz2 c2 d2
  have s2_0 : w.heap.size < w2.heap.size := by omega
  have o2_0 := fun j => c2 (w.heap.size) j (by omega)
  have f2_0 := fun j => d2 (w.heap.size) j (by omega)
  have s2_1 : w.heap.size + 1 < w2.heap.size := by omega
  have o2_1 := fun j => c2 (w.heap.size + 1) j (by omega)
  have f2_1 := fun j => d2 (w.heap.size + 1) j (by omega)
  clear c2 d2 hz2
  go_wp2_with fail
  have p0 : ∀ j, w2.cell? ⟨w.heap.size, j, none⟩ = #[Value.slice (some ⟨b, off, none⟩) len cap][j]? := fun j => by rw [o2_0, o1_0]; simp
  have p1 : ∀ j, w2.cell? ⟨w.heap.size + 1, j, none⟩ = #[Value.int .i64 xn, .int .i64 xd, .int .i64 yn, .int .i64 yd][j]? := fun j => by rw [o2_1, o1_1]; exact World.cell?_alloc_at _ _ _ _ (by simp)
  clear o1_0 f1_0 o1_1 f1_1 o2_0 f2_0 o2_1 f2_1 s1_0 s1_1 hb1 t1
  obtain ⟨hl, hlc, hm, hI, hcase⟩ := H_hs.out
  obtain ⟨hbl, hpt⟩ : b < w.heap.size ∧ PtsIn w b off ps := by
    rcases hcase with ⟨h, _⟩ | ⟨b', off', h, h1, h2⟩
    · cases h
    · cases h; exact ⟨h1, h2⟩
  clear hcase H_hs
  unfold maxLen at hm
  obtain ⟨i0, hi, hz0, hz1, hz2⟩ := info_parts info3
  have H_hl := Lib.hid hl
  clear hl
  have H_hpt := Lib.hid hpt
  clear hpt
  have H_hi := Lib.hid hi
  clear hi
  have H_hz0 := Lib.hid hz0
  clear hz0
  have H_hz1 := Lib.hid hz1
  clear hz1
  have H_hz2 := Lib.hid hz2
  clear hz2
  go_loopw [8, 28] (fun v i wr => ∃ k : Nat, k ≤ len ∧ i = .int .i64 k ∧ wr.ownsRow w2.heap.size 3 1 v (crsTo ps ⟨xn, xd, yn, yd⟩ k).length ((crsTo ps ⟨xn, xd, yn, yd⟩ k).map (Value.int .i64)) ∧ Below w2.heap.size w2 wr) (fun _ i _ => len - (intOf i).toNat)
  case atStart => exact ⟨0, Nat.zero_le _, rfl, World.ownsRow_nil _ _ _ _, Below.refl _ _⟩
  case round =>
    obtain ⟨k, hk, rfl, hown, hB⟩ := hrel
    have hzr := hB.size
    have hBw := hb2.trans (hB.mono t2)
    by_cases hlt : k < len
    · have hk' : k < ps.length := by have := H_hl.out; omega
      obtain ⟨m, hm0⟩ : ∃ m : Nat, (k + 1) % len = m := ⟨_, rfl⟩
      have hml : m < len := by rw [← hm0]; exact Nat.mod_lt _ (by omega)
      have hm' : m < ps.length := by have := H_hl.out; omega
      have q0 := gkeep hBw (H_hpt.out.c0 k hk') rfl
      have q1 := gkeep hBw (H_hpt.out.c1 k hk') rfl
      have q2 := gkeep hBw (H_hpt.out.c2 k hk') rfl
      have q3 := gkeep hBw (H_hpt.out.c3 k hk') rfl
      have n0 := gkeep hBw (H_hpt.out.c0 m hm') rfl
      have n1 := gkeep hBw (H_hpt.out.c1 m hm') rfl
      have n2 := gkeep hBw (H_hpt.out.c2 m hm') rfl
      have n3 := gkeep hBw (H_hpt.out.c3 m hm') rfl
      have hok1 := hall _ (List.getElem_mem hk')
      have hok2 := hall _ (List.getElem_mem hm')
      have hsucc := crsTo_succ ps ⟨xn, xd, yn, yd⟩ k
      have hlenk := crsTo_len ps ⟨xn, xd, yn, yd⟩ k
      have e1 : ps.getD k zpt = ps[k] := by simp [hk']
      have e2 : ps.getD ((k + 1) % ps.length) zpt = ps[m] := by
        have : (k + 1) % ps.length = m := by rw [← hm0, H_hl.out]
        rw [this]; simp [hm']
      rw [e1, e2] at hsucc
      clear e1 e2
      obtain ⟨a, ha⟩ : ∃ a, ps[k] = a := ⟨_, rfl⟩
      obtain ⟨a', ha'⟩ : ∃ a, ps[m] = a := ⟨_, rfl⟩
      rw [ha] at q0 q1 q2 q3 hok1 hsucc
      rw [ha'] at n0 n1 n2 n3 hok2 hsucc
      clear ha ha'
      obtain ⟨c, hc⟩ : ∃ c, crossPt a a' ⟨xn, xd, yn, yd⟩ = c := ⟨_, rfl⟩
      rw [hc] at hsucc
      obtain ⟨axn, axd, ayn, ayd⟩ := a
      obtain ⟨bxn, bxd, byn, byd⟩ := a'
      simp only at q0 q1 q2 q3 n0 n1 n2 n3
      have r0 := fun j => (hB.cell (p := ⟨w.heap.size, j, none⟩) s2_0).trans (p0 j)
      have r1 := fun j => (hB.cell (p := ⟨w.heap.size + 1, j, none⟩) s2_1).trans (p1 j)
      have i1 : IntKind.i64.wrap ((k : Int) + 1) = (k : Int) + 1 := IntWalk.i64_in _ (by omega)
      have i2 : ((k : Int) + 1).tmod (len : Int) = (m : Int) := by
        rw [Int.tmod_eq_emod_of_nonneg (by omega), ← hm0]; norm_cast
      have SK : ∀ W, Below (wr.heap.size + 1) (wr.alloc (.cells #[.int .i64 axn, .int .i64 axd, .int .i64 ayn, .int .i64 ayd] 102)) W →
          Below (wr.heap.size + 1) (wr.alloc (.cells #[.int .i64 axn, .int .i64 axd, .int .i64 ayn, .int .i64 ayd] 102)) W ∧
          (∀ j, W.cell? ⟨w.heap.size, j, none⟩ = #[Value.slice (some ⟨b, off, none⟩) len cap][j]?) ∧ (∀ j, W.cell? ⟨w.heap.size + 1, j, none⟩ = #[Value.int .i64 xn, .int .i64 xd, .int .i64 yn, .int .i64 yd][j]?) ∧
          (∀ j, W.cell? ⟨wr.heap.size, j, none⟩ = #[Value.int .i64 axn, .int .i64 axd, .int .i64 ayn, .int .i64 ayd][j]?) ∧
          W.cell? ⟨b, off + m * 4, none⟩ = some (.int .i64 bxn) ∧ W.cell? ⟨b, off + m * 4 + 1, none⟩ = some (.int .i64 bxd) ∧ W.cell? ⟨b, off + m * 4 + 2, none⟩ = some (.int .i64 byn) ∧ W.cell? ⟨b, off + m * 4 + 3, none⟩ = some (.int .i64 byd) := by
        intro W h
        refine ⟨h, fun j => ?_, fun j => ?_, fun j => ?_, gkeep h (galloc n0 _) (by simp), gkeep h (galloc n1 _) (by simp), gkeep h (galloc n2 _) (by simp), gkeep h (galloc n3 _) (by simp)⟩
        · rw [h.cell (by simp; omega), World.cell?_alloc_lt _ _ _ (by simp; omega)]; exact r0 j
        · rw [h.cell (by simp; omega), World.cell?_alloc_lt _ _ _ (by simp; omega)]; exact r1 j
        · rw [h.cell (by simp)]; exact World.cell?_alloc_new _ _ _ _
      have i3 : (m : Int) < (len : Int) := by omega
      have i4 : ¬ len = 0 := by omega
      have i5 : ((len : Int) == 0) = false := by simp; omega
      have H_hm0 := Lib.hid hm0
      clear hm0
      have H_hsucc := Lib.hid hsucc
      clear hsucc
      have H_hc := Lib.hid hc
      clear hc
      have H_hown := Lib.hid hown
      clear hown
      have H_SK := Lib.hid SK
      clear SK
      clear r0 r1 p0 p1 n0 n1 n2 n3
      go_wp2_with fail
      clear q0 q1 q2 q3
      go_region_held3 (fun W => Below (wr.heap.size + 1) (wr.alloc (.cells #[.int .i64 axn, .int .i64 axd, .int .i64 ayn, .int .i64 ayd] 102)) W ∧
          (∀ j, W.cell? ⟨w.heap.size, j, none⟩ = #[Value.slice (some ⟨b, off, none⟩) len cap][j]?) ∧ (∀ j, W.cell? ⟨w.heap.size + 1, j, none⟩ = #[Value.int .i64 xn, .int .i64 xd, .int .i64 yn, .int .i64 yd][j]?) ∧
          (∀ j, W.cell? ⟨wr.heap.size, j, none⟩ = #[Value.int .i64 axn, .int .i64 axd, .int .i64 ayn, .int .i64 ayd][j]?) ∧
          W.cell? ⟨b, off + m * 4, none⟩ = some (.int .i64 bxn) ∧ W.cell? ⟨b, off + m * 4 + 1, none⟩ = some (.int .i64 bxd) ∧ W.cell? ⟨b, off + m * 4 + 2, none⟩ = some (.int .i64 byn) ∧ W.cell? ⟨b, off + m * 4 + 3, none⟩ = some (.int .i64 byd))
        (first | exact H_SK.out _ (Below.refl _ _).drew | exact H_SK.out _ (held_step (by simp) (by assumption) (by assumption)))
        (first | (go_at_call 111; (with_reducible refine (shcross_pt ⟨axn, axd, ayn, ayd⟩ ⟨bxn, bxd, byn, byd⟩ ⟨xn, xd, yn, yd⟩ c _ hok1 hok2 hp H_hc.out).mono ?_); rintro e w' ⟨rfl, hbb⟩))
      rename_i hh
      have hS := hh.1
      clear hh
      have hownW := own_below (H_hown.out.alloc (.cells #[.int .i64 axn, .int .i64 axd, .int .i64 ayn, .int .i64 ayd] 102)) (hS.mono (by simp))
      have hBW : Below w2.heap.size w2 w' := (hB.alloc hzr _).trans (hS.mono (by omega))
      have hzW := hBW.size
      generalize hW : w' = W at *
      clear hW hbb hS
      have H_hownW := Lib.hid hownW
      clear hownW H_hown
      by_cases hc0 : c = 0
      · subst hc0
        go_wp2_with fail
        go_roundw
        case rel => exact ⟨k + 1, by omega, by go_num, by rw [H_hsucc.out]; simpa using H_hownW.out, hBW⟩
        case measure => simp [intOf]; omega
      · have hcb : (c != 0) = true := by simpa using hc0
        have H_hc0 := Lib.hid hc0
        clear hc0
        go_wp2_with (at_builtin; refine wpList_append_own _ rfl (.tmp 48) (.tmp 50) 144 rfl w2.heap.size 3 i0 (.int .i64 0) 1 8 Tryz.underlying144 H_hi.out H_hz0.out H_hz1.out H_hz2.out rfl (by decide) _ _ _ rfl (H_hownW.out.alloc _) ⟨W.heap.size, 0, none⟩ 1 1 [.int .i64 c] rfl rfl ?c1 ?c2 ?c3 ?c4 ?c5 ?_)
        case c1 => exact cell_one_new _ _ _
        case c2 => intro u hu; simp at hu; subst hu; rfl
        case c3 => unfold maxLen; omega
        case c4 => omega
        case c5 => simp; omega
        intro v' w3 hown' hgrow _
        have hB3 : Below w2.heap.size w2 w3 := (hBW.alloc hzW _).grown hgrow (by simp; omega) (fun q hq => (H_hownW.out.lt q hq).1)
        have H_hown' := Lib.hid hown'
        clear hown' hgrow
        go_wp2_with fail
        go_roundw
        case rel => exact ⟨k + 1, by omega, by go_num, by rw [H_hsucc.out, if_neg H_hc0.out]; simpa using H_hown'.out, hB3⟩
        case measure => simp [intOf]; omega
    · have hkl : k = ps.length := by have := H_hl.out; omega
      have H_hown := Lib.hid hown
      clear hown
      go_wp2_with fail
      go_returns
      exact ⟨_, rfl, by rw [← hkl]; exact own_base H_hown.out t2, hBw⟩
end Go.Proofs.YtpdaenldmgpkjaaGreatDoor
