/-
  The walk over the statement ShapeTurns: l not nil, right points; 'at' is its length and capacity.
-/
import Derived.Test.YthpicnajemnfdaaDoorShape8
import Derived.Test.YthpicnajemnfdaaDoorPl6
namespace Go.Proofs.YthpicnajemnfdaaDoor
open Go.RowKit Lead

set_option maxHeartbeats 4000000 in
set_option maxRecDepth 100000 in
theorem turns_full (ea : Nat → Addr) (ps : List Pt) (p : Pt) (b off len : Nat) (w : World) (hs : SlP w (some ⟨b, off, none⟩) len len ps) (hpI : p.I) (hok : crC ps p = (0, none)) (h15 : len ≤ 15) (hShape : w.cell? ⟨2, 0, none⟩ = some (.iface 87 (.pointer (some (ea 3))))) (hBound : w.cell? ⟨1, 0, none⟩ = some (.iface 87 (.pointer (some (ea 2))))) :
    Calls Tryd.prog 3 #[.slice (some ⟨b, off, none⟩) len len, .agg #[.int .i64 p.xn, .int .i64 p.xd, .int .i64 p.yn, .int .i64 p.yd], .int .i64 len] w fun e w' => e = .returned (.bool true) ∧ Below w.heap.size w w' := by
  have zhShape := zlt hShape
  have xhShape := zlts hShape
  have yhShape := zne hShape
  have zhBound := zlt hBound
  have xhBound := zlts hBound
  have yhBound := zne hBound
  obtain ⟨hall, hp, h30⟩ := crC_inv hok
  have hlen := hs.1
  have hI := hs.2.2.2.1
  obtain ⟨hbl, hpt⟩ : b < w.heap.size ∧ PtsIn w b off ps := by
    rcases hs.2.2.2.2 with ⟨h, _⟩ | ⟨b', off', h, h1, h2⟩
    · cases h
    · cases h; exact ⟨h1, h2⟩
  have g1 : decide (15 < (len : Int)) = false := by simp; omega
  have g2 : decide ((len : Int) < 0) = false := by simp
  have hkc : len ≤ len := Nat.le_refl _
  have g3 : decide ((len : Int) < len) = false := by simp <;> omega
  obtain ⟨i0, hi, hz0, hz1, hz2⟩ := info_parts info26
  have hwind := wind_ok hall hp h30
  obtain ⟨hL1, hL2, hL3⟩ := crL_len ps p
  have hL4 := (crL_bound ps p).2
  have H_hpt := Lib.hid hpt
  clear hpt
  have H_hs := Lib.hid hs
  clear hs
  have H_hok := Lib.hid hok
  clear hok
  have H_hlen := Lib.hid hlen
  clear hlen
  have H_hall := Lib.hid hall
  clear hall
  have H_hI := Lib.hid hI
  clear hI
  have H_hi := Lib.hid hi
  clear hi
  have H_hz0 := Lib.hid hz0
  clear hz0
  have H_hz1 := Lib.hid hz1
  clear hz1
  have H_hz2 := Lib.hid hz2
  clear hz2
  have H_hwind := Lib.hid hwind
  clear hwind
  obtain ⟨n, hn⟩ : ∃ n, (crL ps p).sum = n := ⟨_, rfl⟩
  obtain ⟨m, hm⟩ : ∃ m, (crL ps p).length = m := ⟨_, rfl⟩
  rw [hn, hm] at hL1 hL2 hL3
  rw [hm] at hL4
  have g4 : decide ((m : Int) < 0) = false := by simp
  have g5 : (n - (m : Int)).tmod 2 = 0 := by rw [Int.tmod_eq_emod]; split <;> omega
  have g6 : decide ((m : Int) < n) = false := by simp; omega
  have g7 : decide ((m : Int) < -n) = false := by simp; omega
  have ho : ∀ q ∈ ps.drop len ++ ps.take len, PtOk q := fun q hq => H_hall.out q (mem_rot hq)
  have hol : (ps.drop len ++ ps.take len).length ≤ 30 := by rw [List.length_append, List.length_drop, List.length_take]; omega
  have r1 : (crL (ps.drop len ++ ps.take len) p).sum = n := by rw [wind_ok ho hp hol, cyc_rot, List.take_append_drop, ← H_hwind.out, hn]
  have r2 := crC_ok ho hp hol
  have hbk : ∀ q ∈ ps.reverse, PtOk q := fun q hq => H_hall.out q (List.mem_reverse.1 hq)
  have hbl' : ps.reverse.length ≤ 30 := by rw [List.length_reverse]; exact h30
  have r3 : (crL ps.reverse p).sum = -n := by rw [wind_ok hbk hp hbl', cyc_rev, ← H_hwind.out, hn]
  have r4 := crC_ok hbk hp hbl'
  have hIo : ∀ q ∈ ps.drop len ++ ps.take len, q.I := fun q hq => H_hI.out q (mem_rot hq)
  clear ho hol
  obtain ⟨qs, hqs⟩ : ∃ qs, ps.drop len ++ ps.take len = qs := ⟨_, rfl⟩
  rw [hqs] at r1 r2 hIo
  obtain ⟨bs, hbs⟩ : ∃ bs, ps.reverse = bs := ⟨_, rfl⟩
  have hbsl : bs.length = ps.length := by rw [← hbs, List.length_reverse]
  rw [hbs] at r3 r4 hbk
  have H_hn := Lib.hid hn
  clear hn
  have H_hm := Lib.hid hm
  clear hm
  have H_hL1 := Lib.hid hL1
  clear hL1
  have H_r1 := Lib.hid r1
  clear r1
  have H_r2 := Lib.hid r2
  clear r2
  have H_r3 := Lib.hid r3
  clear r3
  have H_r4 := Lib.hid r4
  clear r4
  have H_hbk := Lib.hid hbk
  clear hbk
  have H_hIo := Lib.hid hIo
  clear hIo
  have H_hqs := Lib.hid hqs
  clear hqs
  have H_hbs := Lib.hid hbs
  clear hbs
  have H_hbsl := Lib.hid hbsl
  clear hbsl
  go_enter Tryd.func3, Tryd.ntmps3
  go_wp2_with fail
  refine call_bel (w := w) (by repeat' (first | (with_reducible exact Below.refl _ _) | (with_reducible assumption) | (with_reducible refine bdn ?_) | (with_reducible refine Below.alloc ?_ ?_ _) | (with_reducible refine Below.drew ?_) | (with_reducible refine Below.setCell ?_ ?_ _) | omega | (simp only [World.size_alloc, World.size_setCell, World.size_drew, World.heap_drewN]; omega) | (simp; omega))) (fun HB => shaped_any ea _ (gkeep HB hShape rfl) (gkeep HB hBound rfl)) ?_
  intro w1 hb1 hz1 c1 d1 hW1
  have t1 := hb1.size
  try simp only [World.size_alloc, World.size_drew, World.size_setCell, World.heap_drewN] at hz1 c1 d1
  have s1_0 : w.heap.size < w1.heap.size := by omega
  have o1_0 := fun j => c1 (w.heap.size) j (by omega)
  have f1_0 := fun j => d1 (w.heap.size) j (by omega)
  clear c1 d1 hz1 hW1
  go_wp2_with fail
  refine call_p (w := w) (by repeat' (first | (with_reducible exact Below.refl _ _) | (with_reducible assumption) | (with_reducible refine bdn ?_) | (with_reducible refine Below.alloc ?_ ?_ _) | (with_reducible refine Below.drew ?_) | (with_reducible refine Below.setCell ?_ ?_ _) | omega | (simp only [World.size_alloc, World.size_setCell, World.size_drew, World.heap_drewN]; omega) | (simp; omega))) (fun HB => ownpoints_any ps _ _ _ _ (H_hs.out.keep HB rfl) (by omega)) ?_
  intro v2 w2 hv2 hb2 hz2 c2 d2 hW2
  have t2 := hb2.size
  try simp only [World.size_alloc, World.size_drew, World.size_setCell, World.heap_drewN] at hz2 c2 d2
  have s2_0 : w.heap.size < w2.heap.size := by omega
  have o2_0 := fun j => c2 (w.heap.size) j (by omega)
  have f2_0 := fun j => d2 (w.heap.size) j (by omega)
  clear c2 d2 hz2 hW2
  obtain ⟨oa2, cap2, rfl, hs2⟩ := hv2.slp H_hI.out
  have H_hs2 := Lib.hid hs2
  clear hs2
  have H_hv2 := Lib.hid hv2
  clear hv2
  go_wp2_with fail
  refine call_ne (w := w) (by repeat' (first | (with_reducible exact Below.refl _ _) | (with_reducible assumption) | (with_reducible refine bdn ?_) | (with_reducible refine Below.alloc ?_ ?_ _) | (with_reducible refine Below.drew ?_) | (with_reducible refine Below.setCell ?_ ?_ _) | omega | (simp only [World.size_alloc, World.size_setCell, World.size_drew, World.heap_drewN]; omega) | (simp; omega))) (fun HB => shwind_any ea ps oa2 _ cap2 p _ (H_hs2.out.keep (B := w2.heap.size) (by repeat' (first | (with_reducible exact Below.refl _ _) | (with_reducible assumption) | (with_reducible refine bdn ?_) | (with_reducible refine Below.alloc ?_ ?_ _) | (with_reducible refine Below.drew ?_) | (with_reducible refine Below.setCell ?_ ?_ _) | omega | (simp only [World.size_alloc, World.size_setCell, World.size_drew, World.heap_drewN]; omega) | (simp; omega))) rfl) hpI (gkeep HB hShape rfl) (gkeep HB hBound rfl)) ?_
  rw [H_hn.out, H_hok.out]
  intro x3 w3 hx3 hb3 hz3 c3 d3 hW3
  have t3 := hb3.size
  have e3_2 : Below w2.heap.size w2 w3 := below_via (by repeat' (first | (with_reducible exact Below.refl _ _) | (with_reducible assumption) | (with_reducible refine bdn ?_) | (with_reducible refine Below.alloc ?_ ?_ _) | (with_reducible refine Below.drew ?_) | (with_reducible refine Below.setCell ?_ ?_ _) | omega | (simp only [World.size_alloc, World.size_setCell, World.size_drew, World.heap_drewN]; omega) | (simp; omega))) hW3
  have te3_2 := e3_2.size
  try simp only [World.size_alloc, World.size_drew, World.size_setCell, World.heap_drewN] at hz3 c3 d3
  have s3_0 : w.heap.size < w3.heap.size := by omega
  have o3_0 := fun j => c3 (w.heap.size) j (by omega)
  have f3_0 := fun j => d3 (w.heap.size) j (by omega)
  have s3_1 : w2.heap.size < w3.heap.size := by omega
  have o3_1 := fun j => c3 (w2.heap.size) j (by omega)
  have f3_1 := fun j => d3 (w2.heap.size) j (by omega)
  clear c3 d3 hz3 hW3
  obtain rfl := hx3.nil rfl
  clear hx3
  go_wp2_with fail
  refine call_ne (w := w) (by repeat' (first | (with_reducible exact Below.refl _ _) | (with_reducible assumption) | (with_reducible refine bdn ?_) | (with_reducible refine Below.alloc ?_ ?_ _) | (with_reducible refine Below.drew ?_) | (with_reducible refine Below.setCell ?_ ?_ _) | omega | (simp only [World.size_alloc, World.size_setCell, World.size_drew, World.heap_drewN]; omega) | (simp; omega))) (fun HB => shcross_any' ea ps oa2 _ cap2 p _ (H_hs2.out.keep (B := w2.heap.size) (by repeat' (first | (with_reducible exact Below.refl _ _) | (with_reducible assumption) | (with_reducible refine bdn ?_) | (with_reducible refine Below.alloc ?_ ?_ _) | (with_reducible refine Below.drew ?_) | (with_reducible refine Below.setCell ?_ ?_ _) | omega | (simp only [World.size_alloc, World.size_setCell, World.size_drew, World.heap_drewN]; omega) | (simp; omega))) rfl) hpI (gkeep HB hShape rfl) (gkeep HB hBound rfl)) ?_
  rw [H_hm.out, H_hok.out]
  intro x4 w4 hx4 hb4 hz4 c4 d4 hW4
  have t4 := hb4.size
  try simp only [World.size_alloc, World.size_drew, World.size_setCell, World.heap_drewN] at hz4 c4 d4
  have s4_0 : w.heap.size < w4.heap.size := by omega
  have o4_0 := fun j => c4 (w.heap.size) j (by omega)
  have f4_0 := fun j => d4 (w.heap.size) j (by omega)
  clear c4 d4 hz4 hW4
  obtain rfl := hx4.nil rfl
  clear hx4
  go_wp2_with (at_builtin; refine wp_append_pts (w0 := w) rfl (.tmp 82) (.tmp 85) 22 rfl (w4.heap.size) 26 i0 _ Tryd.underlying22 H_hi.out H_hz0.out H_hz1.out H_hz2.out rfl _ _ rfl (OwnP.nil _ _ _) b off 0 0 (ps.drop len) rfl (by rw [List.length_drop, H_hlen.out, Nat.sub_self]) (pts_none (w := w4) _ _ _ (by rw [List.length_drop, H_hlen.out, Nat.sub_self])) ?q1 ?q2 ?q3 ?q4 ?_)
  case q1 => first | omega | (simp only [List.length_append, List.length_drop, List.length_take, List.length_reverse, List.length_cons, List.length_nil]; omega)
  case q2 => first | exact Nat.le_refl _ | omega | (simp; omega)
  case q3 => exact (by repeat' (first | (with_reducible exact Below.refl _ _) | (with_reducible assumption) | (with_reducible refine bdn ?_) | (with_reducible refine Below.alloc ?_ ?_ _) | (with_reducible refine Below.drew ?_) | (with_reducible refine Below.setCell ?_ ?_ _) | omega | (simp only [World.size_alloc, World.size_setCell, World.size_drew, World.heap_drewN]; omega) | (simp; omega)))
  case q4 => first | exact Nat.le_refl _ | omega | (simp; omega)
  intro v5 w5 hv5 hb5 hz5 c5 d5 hA5
  have t5 := hb5.size
  try simp only [World.size_alloc, World.size_drew, World.size_setCell, World.heap_drewN] at hz5 c5 d5
  have s5_0 : w.heap.size < w5.heap.size := by omega
  have o5_0 := fun j => c5 (w.heap.size) j (by omega)
  have f5_0 := fun j => d5 (w.heap.size) j (by omega)
  clear c5 d5 hA5
  have H_hv5 := Lib.hid hv5
  clear hv5
  go_wp2_with (at_builtin; refine wp_append_pts (w0 := w) rfl (.tmp 87) (.tmp 90) 22 rfl (w4.heap.size) 26 i0 _ Tryd.underlying22 H_hi.out H_hz0.out H_hz1.out H_hz2.out rfl _ _ rfl (H_hv5.out) b off len len (ps.take len) rfl (by have := H_hlen.out; rw [List.length_take]; omega) (((H_hpt.out.keep hb5 hbl).take len)) ?q1 ?q2 ?q3 ?q4 ?_)
  case q1 => first | omega | (simp only [List.length_append, List.length_drop, List.length_take, List.length_reverse, List.length_cons, List.length_nil]; omega)
  case q2 => first | exact Nat.le_refl _ | omega | (simp; omega)
  case q3 => exact (by repeat' (first | (with_reducible exact Below.refl _ _) | (with_reducible assumption) | (with_reducible refine bdn ?_) | (with_reducible refine Below.alloc ?_ ?_ _) | (with_reducible refine Below.drew ?_) | (with_reducible refine Below.setCell ?_ ?_ _) | omega | (simp only [World.size_alloc, World.size_setCell, World.size_drew, World.heap_drewN]; omega) | (simp; omega)))
  case q4 => first | exact Nat.le_refl _ | omega | (simp; omega)
  intro v6 w6 hv6 hb6 hz6 c6 d6 hA6
  have t6 := hb6.size
  try simp only [World.size_alloc, World.size_drew, World.size_setCell, World.heap_drewN] at hz6 c6 d6
  have s6_0 : w.heap.size < w6.heap.size := by omega
  have o6_0 := fun j => c6 (w.heap.size) j (by omega)
  have f6_0 := fun j => d6 (w.heap.size) j (by omega)
  clear c6 d6 hA6
  rw [H_hqs.out] at hv6
  obtain ⟨oa6, cap6, rfl, hs6⟩ := hv6.slp H_hIo.out
  have H_hs6 := Lib.hid hs6
  clear hs6
  clear hv6
  go_wp2_with fail
  refine call_ne (w := w) (by repeat' (first | (with_reducible exact Below.refl _ _) | (with_reducible assumption) | (with_reducible refine bdn ?_) | (with_reducible refine Below.alloc ?_ ?_ _) | (with_reducible refine Below.drew ?_) | (with_reducible refine Below.setCell ?_ ?_ _) | omega | (simp only [World.size_alloc, World.size_setCell, World.size_drew, World.heap_drewN]; omega) | (simp; omega))) (fun HB => shwind_any ea _ oa6 _ cap6 p _ (H_hs6.out.keep (B := w6.heap.size) (by repeat' (first | (with_reducible exact Below.refl _ _) | (with_reducible assumption) | (with_reducible refine bdn ?_) | (with_reducible refine Below.alloc ?_ ?_ _) | (with_reducible refine Below.drew ?_) | (with_reducible refine Below.setCell ?_ ?_ _) | omega | (simp only [World.size_alloc, World.size_setCell, World.size_drew, World.heap_drewN]; omega) | (simp; omega))) rfl) hpI (gkeep HB hShape rfl) (gkeep HB hBound rfl)) ?_
  rw [H_r1.out, H_r2.out]
  intro x7 w7 hx7 hb7 hz7 c7 d7 hW7
  have t7 := hb7.size
  try simp only [World.size_alloc, World.size_drew, World.size_setCell, World.heap_drewN] at hz7 c7 d7
  have s7_0 : w.heap.size < w7.heap.size := by omega
  have o7_0 := fun j => c7 (w.heap.size) j (by omega)
  have f7_0 := fun j => d7 (w.heap.size) j (by omega)
  clear c7 d7 hz7 hW7
  obtain rfl := hx7.nil rfl
  clear hx7
  go_wp2_with fail
  go_loopw [15, 16] (fun v i wr => ∃ (q : Nat) (z : Int), q ≤ len ∧ z + 1 = q ∧ i = .int .i64 z ∧ OwnP wr w7.heap.size 26 v (ps.drop q).reverse ∧ Below w7.heap.size w7 wr) (fun _ i _ => (intOf i + 1).toNat)
  case atStart => exact ⟨len, (len : Int) - 1, Nat.le_refl _, by omega, rfl, by rw [H_hlen.out, List.drop_length]; exact OwnP.nil _ _ _, Below.refl _ _⟩
  case round =>
    obtain ⟨q, z, hq, hz, rfl, hown, hB⟩ := hrel
    have hzr := hB.size
    have hBw := hb7.trans (hB.mono t7)
    cases q with
    | succ q =>
      obtain rfl : z = (q : Int) := by omega
      have hq' : q < ps.length := by have := H_hlen.out; omega
      have q0 := gkeep hBw (H_hpt.out.c0 q hq') rfl
      have q1 := gkeep hBw (H_hpt.out.c1 q hq') rfl
      have q2 := gkeep hBw (H_hpt.out.c2 q hq') rfl
      have q3 := gkeep hBw (H_hpt.out.c3 q hq') rfl
      have hdr := drop_rev hq'
      have hl1 : ((ps.drop (q + 1)).reverse).length ≤ 15 := by rw [List.length_reverse, List.length_drop]; have := H_hlen.out; omega
      obtain ⟨a, ha⟩ : ∃ a, ps[q] = a := ⟨_, rfl⟩
      rw [ha] at q0 q1 q2 q3 hdr
      clear ha hz
      obtain ⟨rs, hrs⟩ : ∃ rs, (ps.drop (q + 1)).reverse = rs := ⟨_, rfl⟩
      rw [hrs] at hown hdr hl1
      have H_hdr := Lib.hid hdr
      clear hdr
      have H_hrs := Lib.hid hrs
      clear hrs
      have H_hown := Lib.hid hown
      clear hown
      go_wp2_with (at_builtin; refine wp_append_pts (w0 := w) rfl (.tmp 114) (.tmp 119) 22 rfl (w7.heap.size) 26 i0 _ Tryd.underlying22 H_hi.out H_hz0.out H_hz1.out H_hz2.out rfl _ _ rfl (H_hown.out.alloc _) wr.heap.size 0 1 1 [a] rfl (by rfl) (pts_new _ _ a) ?q1 ?q2 ?q3 ?q4 ?_)
      case q1 => first | omega | (simp only [List.length_append, List.length_drop, List.length_take, List.length_reverse, List.length_cons, List.length_nil]; omega)
      case q2 => first | exact Nat.le_refl _ | omega | (simp; omega)
      case q3 => exact (by repeat' (first | (with_reducible exact Below.refl _ _) | (with_reducible assumption) | (with_reducible refine bdn ?_) | (with_reducible refine Below.alloc ?_ ?_ _) | (with_reducible refine Below.drew ?_) | (with_reducible refine Below.setCell ?_ ?_ _) | omega | (simp only [World.size_alloc, World.size_setCell, World.size_drew, World.heap_drewN]; omega) | (simp; omega)))
      case q4 => first | exact Nat.le_refl _ | omega | (simp; omega)
      intro v8 w8 hv8 hb8 hz8 c8 d8 hA8
      have t8 := hb8.size
      have e8_7 : Below w7.heap.size w7 w8 := below_via' (by repeat' (first | (with_reducible exact Below.refl _ _) | (with_reducible assumption) | (with_reducible refine bdn ?_) | (with_reducible refine Below.alloc ?_ ?_ _) | (with_reducible refine Below.drew ?_) | (with_reducible refine Below.setCell ?_ ?_ _) | omega | (simp only [World.size_alloc, World.size_setCell, World.size_drew, World.heap_drewN]; omega) | (simp; omega))) hA8 (by omega)
      have te8_7 := e8_7.size
      try simp only [World.size_alloc, World.size_drew, World.size_setCell, World.heap_drewN] at hz8 c8 d8
      clear c8 d8 hA8
      have H_hv8 := Lib.hid hv8
      clear hv8
      go_wp2_with fail
      go_roundw
      case rel => exact ⟨q, (q : Int) - 1, by omega, by omega, by go_num, by rw [H_hdr.out]; exact H_hv8.out, e8_7⟩
      case measure => simp [intOf]
    | zero =>
      obtain rfl : z = -1 := by omega
      rw [List.drop_zero, H_hbs.out] at hown
      have w8o := fun j => (hB.cell (p := ⟨w.heap.size, j, none⟩) s7_0).trans (o7_0 j)
      have hbl8 := H_hbsl.out
      clear hz
      by_cases h0 : len = 0
      · obtain ⟨oa8, cap8, rfl, hs8⟩ := hown.slp (fun q hq => (H_hbk.out q hq).I)
        have g8 : ((len : Int) == 0) = true := by simp [h0]
        have H_hown := Lib.hid hown
        clear hown
        have H_hs8 := Lib.hid hs8
        clear hs8
        have H_hbl8 := Lib.hid hbl8
        clear hbl8
        have H_h0 := Lib.hid h0
        clear h0
        go_wp2_with fail
        refine call_p (w := w) (by repeat' (first | (with_reducible exact Below.refl _ _) | (with_reducible assumption) | (with_reducible refine bdn ?_) | (with_reducible refine Below.alloc ?_ ?_ _) | (with_reducible refine Below.drew ?_) | (with_reducible refine Below.setCell ?_ ?_ _) | omega | (simp only [World.size_alloc, World.size_setCell, World.size_drew, World.heap_drewN]; omega) | (simp; omega))) (fun HB => ownpoints_any bs oa8 _ cap8 _ (H_hs8.out.keep (B := wr.heap.size) (by repeat' (first | (with_reducible exact Below.refl _ _) | (with_reducible assumption) | (with_reducible refine bdn ?_) | (with_reducible refine Below.alloc ?_ ?_ _) | (with_reducible refine Below.drew ?_) | (with_reducible refine Below.setCell ?_ ?_ _) | omega | (simp only [World.size_alloc, World.size_setCell, World.size_drew, World.heap_drewN]; omega) | (simp; omega))) rfl) (by have := H_hbl8.out; have := H_hlen.out; omega)) ?_
        intro v9 w9 hv9 hb9 hz9 c9 d9 hW9
        have t9 := hb9.size
        have e9_r : Below wr.heap.size wr w9 := below_via (by repeat' (first | (with_reducible exact Below.refl _ _) | (with_reducible assumption) | (with_reducible refine bdn ?_) | (with_reducible refine Below.alloc ?_ ?_ _) | (with_reducible refine Below.drew ?_) | (with_reducible refine Below.setCell ?_ ?_ _) | omega | (simp only [World.size_alloc, World.size_setCell, World.size_drew, World.heap_drewN]; omega) | (simp; omega))) hW9
        have te9_r := e9_r.size
        try simp only [World.size_alloc, World.size_drew, World.size_setCell, World.heap_drewN] at hz9 c9 d9
        have s9_0 : w.heap.size < w9.heap.size := by omega
        have o9_0 := fun j => c9 (w.heap.size) j (by omega)
        have f9_0 := fun j => d9 (w.heap.size) j (by omega)
        clear c9 d9 hz9 hW9
        obtain ⟨oa9, cap9, rfl, hs9⟩ := hv9.slp (fun q hq => (H_hbk.out q hq).I)
        have H_hs9 := Lib.hid hs9
        clear hs9
        have H_hv9 := Lib.hid hv9
        clear hv9
        go_wp2_with fail
        refine call_ne (w := w) (by repeat' (first | (with_reducible exact Below.refl _ _) | (with_reducible assumption) | (with_reducible refine bdn ?_) | (with_reducible refine Below.alloc ?_ ?_ _) | (with_reducible refine Below.drew ?_) | (with_reducible refine Below.setCell ?_ ?_ _) | omega | (simp only [World.size_alloc, World.size_setCell, World.size_drew, World.heap_drewN]; omega) | (simp; omega))) (fun HB => shwind_any ea bs oa9 _ cap9 p _ (H_hs9.out.keep (B := w9.heap.size) (by repeat' (first | (with_reducible exact Below.refl _ _) | (with_reducible assumption) | (with_reducible refine bdn ?_) | (with_reducible refine Below.alloc ?_ ?_ _) | (with_reducible refine Below.drew ?_) | (with_reducible refine Below.setCell ?_ ?_ _) | omega | (simp only [World.size_alloc, World.size_setCell, World.size_drew, World.heap_drewN]; omega) | (simp; omega))) rfl) hpI (gkeep HB hShape rfl) (gkeep HB hBound rfl)) ?_
        rw [H_r3.out, H_r4.out]
        intro x10 w10 hx10 hb10 hz10 c10 d10 hW10
        have t10 := hb10.size
        have e10_r : Below wr.heap.size wr w10 := below_via (by repeat' (first | (with_reducible exact Below.refl _ _) | (with_reducible assumption) | (with_reducible refine bdn ?_) | (with_reducible refine Below.alloc ?_ ?_ _) | (with_reducible refine Below.drew ?_) | (with_reducible refine Below.setCell ?_ ?_ _) | omega | (simp only [World.size_alloc, World.size_setCell, World.size_drew, World.heap_drewN]; omega) | (simp; omega))) hW10
        have te10_r := e10_r.size
        try simp only [World.size_alloc, World.size_drew, World.size_setCell, World.heap_drewN] at hz10 c10 d10
        have s10_0 : w.heap.size < w10.heap.size := by omega
        have o10_0 := fun j => c10 (w.heap.size) j (by omega)
        have f10_0 := fun j => d10 (w.heap.size) j (by omega)
        clear c10 d10 hz10 hW10
        obtain rfl := hx10.nil rfl
        clear hx10
        go_wp2_with fail
        go_returns
        exact ⟨rfl, hb10⟩
      · have g8 : ((len : Int) == 0) = false := by simp [h0]
        obtain ⟨a, ls, hal⟩ : ∃ a ls, ps = a :: ls := by
          cases ps with
          | nil => exact absurd H_hlen.out h0
          | cons a ls => exact ⟨a, ls, rfl⟩
        have hbe : bs = ls.reverse ++ [a] := by rw [← H_hbs.out, hal, List.reverse_cons]
        obtain ⟨L, hL⟩ : ∃ L : Nat, ls.length = L := ⟨_, rfl⟩
        have hbL : bs.length = L + 1 := by rw [hbe]; simp [hL]
        obtain ⟨gb, cap8, rfl, hgb, hgl, hgc, hgm, hgp⟩ : ∃ g len, _ ∧ w7.heap.size ≤ g ∧ g < wr.heap.size ∧ bs.length ≤ len ∧ bs.length ≤ maxLen ∧ PtsIn wr g 0 bs := by
          rcases hown.form with ⟨_, hnil⟩ | h
          · rw [hnil] at hbL; simp at hbL
          · exact h
        have hs8 : SlP wr (some ⟨gb, 0, none⟩) bs.length cap8 bs := ⟨rfl, hgc, hgm, (fun q hq => (H_hbk.out q hq).I), .inr ⟨gb, 0, rfl, hgl, hgp⟩⟩
        have hbi : (bs.length : Int) - 1 = (L : Int) := by omega
        have hb16 : bs.length ≤ 16 := by have := H_hlen.out; omega
        have hLb : L < bs.length := by omega
        have hLc : L ≤ cap8 := by omega
        have hL16 : L ≤ 16 := by omega
        clear hgm
        have H_hown := Lib.hid hown
        clear hown
        have H_hs8 := Lib.hid hs8
        clear hs8
        have H_hbl8 := Lib.hid hbl8
        clear hbl8
        have H_hal := Lib.hid hal
        clear hal
        have H_hbe := Lib.hid hbe
        clear hbe
        have H_hL := Lib.hid hL
        clear hL
        have H_hbL := Lib.hid hbL
        clear hbL
        have H_hgp := Lib.hid hgp
        clear hgp
        have H_h0 := Lib.hid h0
        clear h0
        go_wp2_with fail
        refine call_p (w := w) (by repeat' (first | (with_reducible exact Below.refl _ _) | (with_reducible assumption) | (with_reducible refine bdn ?_) | (with_reducible refine Below.alloc ?_ ?_ _) | (with_reducible refine Below.drew ?_) | (with_reducible refine Below.setCell ?_ ?_ _) | omega | (simp only [World.size_alloc, World.size_setCell, World.size_drew, World.heap_drewN]; omega) | (simp; omega))) (fun HB => ownpoints_any bs _ _ cap8 _ (H_hs8.out.keep (B := wr.heap.size) (by repeat' (first | (with_reducible exact Below.refl _ _) | (with_reducible assumption) | (with_reducible refine bdn ?_) | (with_reducible refine Below.alloc ?_ ?_ _) | (with_reducible refine Below.drew ?_) | (with_reducible refine Below.setCell ?_ ?_ _) | omega | (simp only [World.size_alloc, World.size_setCell, World.size_drew, World.heap_drewN]; omega) | (simp; omega))) rfl) (by omega)) ?_
        intro v9 w9 hv9 hb9 hz9 c9 d9 hW9
        have t9 := hb9.size
        have e9_r : Below wr.heap.size wr w9 := below_via (by repeat' (first | (with_reducible exact Below.refl _ _) | (with_reducible assumption) | (with_reducible refine bdn ?_) | (with_reducible refine Below.alloc ?_ ?_ _) | (with_reducible refine Below.drew ?_) | (with_reducible refine Below.setCell ?_ ?_ _) | omega | (simp only [World.size_alloc, World.size_setCell, World.size_drew, World.heap_drewN]; omega) | (simp; omega))) hW9
        have te9_r := e9_r.size
        try simp only [World.size_alloc, World.size_drew, World.size_setCell, World.heap_drewN] at hz9 c9 d9
        have s9_0 : w.heap.size < w9.heap.size := by omega
        have o9_0 := fun j => c9 (w.heap.size) j (by omega)
        have f9_0 := fun j => d9 (w.heap.size) j (by omega)
        clear c9 d9 hz9 hW9
        obtain ⟨oa9, cap9, rfl, hs9⟩ := hv9.slp (fun q hq => (H_hbk.out q hq).I)
        have H_hs9 := Lib.hid hs9
        clear hs9
        have H_hv9 := Lib.hid hv9
        clear hv9
        go_wp2_with fail
        refine call_ne (w := w) (by repeat' (first | (with_reducible exact Below.refl _ _) | (with_reducible assumption) | (with_reducible refine bdn ?_) | (with_reducible refine Below.alloc ?_ ?_ _) | (with_reducible refine Below.drew ?_) | (with_reducible refine Below.setCell ?_ ?_ _) | omega | (simp only [World.size_alloc, World.size_setCell, World.size_drew, World.heap_drewN]; omega) | (simp; omega))) (fun HB => shwind_any ea bs oa9 _ cap9 p _ (H_hs9.out.keep (B := w9.heap.size) (by repeat' (first | (with_reducible exact Below.refl _ _) | (with_reducible assumption) | (with_reducible refine bdn ?_) | (with_reducible refine Below.alloc ?_ ?_ _) | (with_reducible refine Below.drew ?_) | (with_reducible refine Below.setCell ?_ ?_ _) | omega | (simp only [World.size_alloc, World.size_setCell, World.size_drew, World.heap_drewN]; omega) | (simp; omega))) rfl) hpI (gkeep HB hShape rfl) (gkeep HB hBound rfl)) ?_
        rw [H_r3.out, H_r4.out]
        intro x10 w10 hx10 hb10 hz10 c10 d10 hW10
        have t10 := hb10.size
        have e10_r : Below wr.heap.size wr w10 := below_via (by repeat' (first | (with_reducible exact Below.refl _ _) | (with_reducible assumption) | (with_reducible refine bdn ?_) | (with_reducible refine Below.alloc ?_ ?_ _) | (with_reducible refine Below.drew ?_) | (with_reducible refine Below.setCell ?_ ?_ _) | omega | (simp only [World.size_alloc, World.size_setCell, World.size_drew, World.heap_drewN]; omega) | (simp; omega))) hW10
        have te10_r := e10_r.size
        try simp only [World.size_alloc, World.size_drew, World.size_setCell, World.heap_drewN] at hz10 c10 d10
        have s10_0 : w.heap.size < w10.heap.size := by omega
        have o10_0 := fun j => c10 (w.heap.size) j (by omega)
        have f10_0 := fun j => d10 (w.heap.size) j (by omega)
        clear c10 d10 hz10 hW10
        obtain rfl := hx10.nil rfl
        clear hx10
        have hp0 : 0 < ps.length := by rw [H_hal.out]; simp
        have q0 := gkeep hb10 (H_hpt.out.c0 0 hp0) rfl
        have q1 := gkeep hb10 (H_hpt.out.c1 0 hp0) rfl
        have q2 := gkeep hb10 (H_hpt.out.c2 0 hp0) rfl
        have q3 := gkeep hb10 (H_hpt.out.c3 0 hp0) rfl
        have e0 : ps[0] = a := by simp [H_hal.out]
        rw [e0] at q0 q1 q2 q3
        simp only [Nat.zero_mul, Nat.add_zero] at q0 q1 q2 q3
        clear e0
        have SK : ∀ W, Below w10.heap.size w10 W → Below w10.heap.size w10 W ∧ W.cell? ⟨b, off, none⟩ = some (.int .i64 a.xn) ∧ W.cell? ⟨b, off + 1, none⟩ = some (.int .i64 a.xd) ∧ W.cell? ⟨b, off + 2, none⟩ = some (.int .i64 a.yn) ∧ W.cell? ⟨b, off + 3, none⟩ = some (.int .i64 a.yd) :=
          fun W h => ⟨h, gkeep h q0 rfl, gkeep h q1 rfl, gkeep h q2 rfl, gkeep h q3 rfl⟩
        have hl1000 : len ≤ 1000 := by omega
        have i3 : (0 : Int) < (len : Int) := by have := H_h0.out; omega
        have i4 : 0 < len := by omega
        have H_SK := Lib.hid SK
        clear SK
        clear q0 q1 q2 q3
        go_wp2_with fail
        go_region_held3 (fun W => Below w10.heap.size w10 W ∧ W.cell? ⟨b, off, none⟩ = some (.int .i64 a.xn) ∧ W.cell? ⟨b, off + 1, none⟩ = some (.int .i64 a.xd) ∧ W.cell? ⟨b, off + 2, none⟩ = some (.int .i64 a.yn) ∧ W.cell? ⟨b, off + 3, none⟩ = some (.int .i64 a.yd))
          (first | exact H_SK.out _ (Below.refl _ _).drew | exact H_SK.out _ (held_step rfl (by assumption) (by assumption)) | exact H_SK.out _ (held_alloc (Nat.le_refl _) (by assumption) _) | exact H_SK.out _ (held_app (by assumption) (by assumption)))
          (first | (go_at_call 12; (with_reducible refine (ownpoints_any ps _ _ _ _ ?_ hl1000).mono ?_); (exact H_hs.out.keep (below_via' hb10 (held_b (by assumption)) t10) rfl); rintro e w' ⟨v, rfl, hv, hbb⟩) | ((refine step_append_pts rfl (.tmp 152) (.tmp 156) 22 rfl w10.heap.size 26 i0 _ Tryd.underlying22 H_hi.out H_hz0.out H_hz1.out H_hz2.out rfl _ ps rfl _ _ 1 1 [a] rfl rfl ?_ ?_ ?_ ?_ ?_); (have := H_hlen.out; simp; omega); (first | exact hv.base (by simp) | exact (hv.alloc _).base (by simp)); (first | exact pts_new _ _ a | exact (pts_new' w10 _ a).keep hbb (by simp)); (exact Below.size (held_b (by assumption))); (intro v' w11 hv11 hA11)))
        all_goals
          rename_i hh
          have hH := held_b hh
          clear hh hA11 hbb hv
          have hb11 := below_via' hb10 hH t10
          have t11 := hb11.size
          have e11_r := below_via' e10_r hH te10_r
          have te11_r := e11_r.size
          have te11_10 := hH.size
          have s11_0 : w.heap.size < w11.heap.size := by omega
          have o11_0 := fun j => (hH.cell (p := ⟨w.heap.size, j, none⟩) s10_0).trans (o10_0 j)
          have q0 := gkeep e11_r (H_hgp.out.c0 L hLb) rfl
          have q1 := gkeep e11_r (H_hgp.out.c1 L hLb) rfl
          have q2 := gkeep e11_r (H_hgp.out.c2 L hLb) rfl
          have q3 := gkeep e11_r (H_hgp.out.c3 L hLb) rfl
          have e0 : bs[L] = a := by
            have := H_hL.out
            simp only [H_hbe.out]
            rw [List.getElem_append_right (by simp; omega)]
            simp
          rw [e0] at q0 q1 q2 q3
          simp only [Nat.zero_add] at q0 q1 q2 q3
          have H_hv11 := Lib.hid hv11
          have H_hH := Lib.hid hH
          clear hv11 hH e0
          go_wp2_with (at_builtin; refine wp_append_pts (w0 := w) rfl (.tmp 158) (.tmp 165) 22 rfl (w10.heap.size) 26 i0 _ Tryd.underlying22 H_hi.out H_hz0.out H_hz1.out H_hz2.out rfl _ _ rfl (H_hv11.out.alloc _) w11.heap.size 0 1 1 [a] rfl (by rfl) (pts_new _ _ a) ?q1 ?q2 ?q3 ?q4 ?_)
          case q1 => first | omega | (simp only [List.length_append, List.length_drop, List.length_take, List.length_reverse, List.length_cons, List.length_nil]; omega)
          case q2 => first | exact Nat.le_refl _ | omega | (simp; omega)
          case q3 => exact (by repeat' (first | (with_reducible exact Below.refl _ _) | (with_reducible assumption) | (with_reducible refine bdn ?_) | (with_reducible refine Below.alloc ?_ ?_ _) | (with_reducible refine Below.drew ?_) | (with_reducible refine Below.setCell ?_ ?_ _) | omega | (simp only [World.size_alloc, World.size_setCell, World.size_drew, World.heap_drewN]; omega) | (simp; omega)))
          case q4 => first | exact Nat.le_refl _ | omega | (simp; omega)
          intro v12 w12 hv12 hb12 hz12 c12 d12 hA12
          have t12 := hb12.size
          have e12_r : Below wr.heap.size wr w12 := below_via' (by repeat' (first | (with_reducible exact Below.refl _ _) | (with_reducible assumption) | (with_reducible refine bdn ?_) | (with_reducible refine Below.alloc ?_ ?_ _) | (with_reducible refine Below.drew ?_) | (with_reducible refine Below.setCell ?_ ?_ _) | omega | (simp only [World.size_alloc, World.size_setCell, World.size_drew, World.heap_drewN]; omega) | (simp; omega))) hA12 (by omega)
          have te12_r := e12_r.size
          try simp only [World.size_alloc, World.size_drew, World.size_setCell, World.heap_drewN] at hz12 c12 d12
          have s12_0 : w.heap.size < w12.heap.size := by omega
          have o12_0 := fun j => c12 (w.heap.size) j (by omega)
          have f12_0 := fun j => d12 (w.heap.size) j (by omega)
          clear c12 d12 hA12
          have H_hv12 := Lib.hid hv12
          clear hv12
          go_wp2_with (at_builtin; refine wp_append_pts (w0 := w) rfl (.tmp 167) (.tmp 172) 22 rfl (w10.heap.size) 26 i0 _ Tryd.underlying22 H_hi.out H_hz0.out H_hz1.out H_hz2.out rfl _ _ rfl (H_hv12.out) gb 0 L cap8 (bs.take L) rfl (by rw [List.length_take]; omega) (((H_hgp.out.keep e12_r hgl).take L)) ?q1 ?q2 ?q3 ?q4 ?_)
          case q1 => first | omega | (simp only [List.length_append, List.length_drop, List.length_take, List.length_reverse, List.length_cons, List.length_nil]; omega)
          case q2 => first | exact Nat.le_refl _ | omega | (simp; omega)
          case q3 => exact (by repeat' (first | (with_reducible exact Below.refl _ _) | (with_reducible assumption) | (with_reducible refine bdn ?_) | (with_reducible refine Below.alloc ?_ ?_ _) | (with_reducible refine Below.drew ?_) | (with_reducible refine Below.setCell ?_ ?_ _) | omega | (simp only [World.size_alloc, World.size_setCell, World.size_drew, World.heap_drewN]; omega) | (simp; omega)))
          case q4 => first | exact Nat.le_refl _ | omega | (simp; omega)
          intro v13 w13 hv13 hb13 hz13 c13 d13 hA13
          have t13 := hb13.size
          try simp only [World.size_alloc, World.size_drew, World.size_setCell, World.heap_drewN] at hz13 c13 d13
          have s13_0 : w.heap.size < w13.heap.size := by omega
          have o13_0 := fun j => c13 (w.heap.size) j (by omega)
          have f13_0 := fun j => d13 (w.heap.size) j (by omega)
          clear c13 d13 hA13
          obtain ⟨tt, htt⟩ : ∃ tt, ps ++ a :: a :: bs.take L = tt := ⟨_, rfl⟩
          have htt2 : tt = a :: ls ++ [a] ++ [a] ++ ls.reverse := by
            rw [← htt, H_hal.out, H_hbe.out, List.take_left' (by rw [List.length_reverse]; exact H_hL.out)]
            simp
          rw [htt] at hv13
          have hok13 : ∀ q ∈ tt, PtOk q := fun q hq => H_hall.out q (mem_both H_hal.out (by rw [← htt2]; exact hq))
          have htl : tt.length ≤ 100 := by
            rw [htt2]; have := H_hL.out; simp; omega
          obtain ⟨oa13, cap13, rfl, hs13⟩ := hv13.slp (fun q hq => (hok13 q hq).I)
          clear hv13
          have H_hs13 := Lib.hid hs13
          clear hs13
          have H_htt := Lib.hid htt
          clear htt
          have H_htt2 := Lib.hid htt2
          clear htt2
          have H_hok13 := Lib.hid hok13
          clear hok13
          by_cases h30t : 30 < tt.length
          · have i5 : (30 : Int) < (tt.length : Int) := by omega
            go_wp2_with fail
            go_returns
            exact ⟨rfl, by repeat' (first | (with_reducible exact Below.refl _ _) | (with_reducible assumption) | (with_reducible refine bdn ?_) | (with_reducible refine Below.alloc ?_ ?_ _) | (with_reducible refine Below.drew ?_) | (with_reducible refine Below.setCell ?_ ?_ _) | omega | (simp only [World.size_alloc, World.size_setCell, World.size_drew, World.heap_drewN]; omega) | (simp; omega))⟩
          · have i5 : ¬ (30 : Int) < (tt.length : Int) := by omega
            have r5 : (crL tt p).sum = 0 := by rw [wind_ok H_hok13.out hp (by omega), H_htt2.out, cyc_both]
            have r6 := crC_ok H_hok13.out hp (show tt.length ≤ 30 by omega)
            have H_r5 := Lib.hid r5
            clear r5
            have H_r6 := Lib.hid r6
            clear r6
            go_wp2_with fail
            refine call_ne (w := w) (by repeat' (first | (with_reducible exact Below.refl _ _) | (with_reducible assumption) | (with_reducible refine bdn ?_) | (with_reducible refine Below.alloc ?_ ?_ _) | (with_reducible refine Below.drew ?_) | (with_reducible refine Below.setCell ?_ ?_ _) | omega | (simp only [World.size_alloc, World.size_setCell, World.size_drew, World.heap_drewN]; omega) | (simp; omega))) (fun HB => shwind_any ea tt oa13 _ cap13 p _ (H_hs13.out.keep (B := w13.heap.size) (by repeat' (first | (with_reducible exact Below.refl _ _) | (with_reducible assumption) | (with_reducible refine bdn ?_) | (with_reducible refine Below.alloc ?_ ?_ _) | (with_reducible refine Below.drew ?_) | (with_reducible refine Below.setCell ?_ ?_ _) | omega | (simp only [World.size_alloc, World.size_setCell, World.size_drew, World.heap_drewN]; omega) | (simp; omega))) rfl) hpI (gkeep HB hShape rfl) (gkeep HB hBound rfl)) ?_
            rw [H_r5.out, H_r6.out]
            intro x14 w14 hx14 hb14 hz14 c14 d14 hW14
            have t14 := hb14.size
            clear c14 d14 hz14 hW14
            obtain rfl := hx14.nil rfl
            clear hx14
            go_wp2_with fail
            go_returns
            exact ⟨rfl, by repeat' (first | (with_reducible exact Below.refl _ _) | (with_reducible assumption) | (with_reducible refine bdn ?_) | (with_reducible refine Below.alloc ?_ ?_ _) | (with_reducible refine Below.drew ?_) | (with_reducible refine Below.setCell ?_ ?_ _) | omega | (simp only [World.size_alloc, World.size_setCell, World.size_drew, World.heap_drewN]; omega) | (simp; omega))⟩
end Go.Proofs.YthpicnajemnfdaaDoor
