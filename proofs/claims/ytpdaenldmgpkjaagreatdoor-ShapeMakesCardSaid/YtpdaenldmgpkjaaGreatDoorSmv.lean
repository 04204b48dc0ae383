/-
  Walks over package shape: Move.
-/
import Derived.Test.YtpdaenldmgpkjaaGreatDoorMv6
import Derived.Test.YtpdaenldmgpkjaaGreatDoorMa
import Derived.Test.YtpdaenldmgpkjaaGreatDoorShape8
import Derived.Test.YtpdaenldmgpkjaaGreatDoorSm1
namespace Go.Proofs.YtpdaenldmgpkjaaGreatDoor
open Go.RowKit Lead
variable {gz : Bool}

set_option maxHeartbeats 800000 in
set_option maxRecDepth 100000 in
theorem shmove_f (ea : Nat → Addr) (m : Mv) (ps : List Pt) (b off len cap : Nat) (w : World) (im : m.I) (hs : SlP w (some ⟨b, off, none⟩) len cap ps) (hG : Gs gz ea w) (hsz : 20 ≤ w.heap.size) (h1 : m.c = (0, none)) (h2 : shC ps = (0, none)) (hbl : b < w.heap.size) (hp : PtsIn w b off ps) :
    Calls Tryz.prog 26 #[.agg #[.slice (some ⟨b, off, none⟩) len cap], .agg #[.int .i64 m.A.n, .int .i64 m.A.d, .int .i64 m.B.n, .int .i64 m.B.d, .int .i64 m.C.n, .int .i64 m.C.d, .int .i64 m.D.n, .int .i64 m.D.d, .int .i64 m.E.n, .int .i64 m.E.d, .int .i64 m.F.n, .int .i64 m.F.d]] w (RetPE 308 119 ea 102 (movC m ps) (movL m ps) w) := by
  have hBound := hG.c2
  have hShape := hG.c3
  have zhShape := zlt hShape
  have xhShape := zlts hShape
  have yhShape := zne hShape
  have zhBound := zlt hBound
  have xhBound := zlts hBound
  have yhBound := zne hBound
  have hc := movC_f h1 h2
  obtain ⟨h30, _, hall⟩ := shC_ok h2
  have hl := hs.1
  have hm30 : len ≤ 30 := by omega
  obtain ⟨i0, hi, hz0, hz1, hz2⟩ := info_parts info26
  have H_hc := Lib.hid hc
  clear hc
  have H_h1 := Lib.hid h1
  clear h1
  have H_im := Lib.hid im
  clear im
  have H_hG := Lib.hid hG
  clear hG
  have H_h2 := Lib.hid h2
  clear h2
  have H_hs := Lib.hid hs
  clear hs
  have H_hall := Lib.hid hall
  clear hall
  have H_hl := Lib.hid hl
  clear hl
  have H_hp := Lib.hid hp
  clear hp
  have H_hi := Lib.hid hi
  clear hi
  have H_hz0 := Lib.hid hz0
  clear hz0
  have H_hz1 := Lib.hid hz1
  clear hz1
  have H_hz2 := Lib.hid hz2
  clear hz2
  have H_h30 := Lib.hid h30
  clear h30
  go_enter Tryz.func26, Tryz.ntmps26
  go_wp2_with fail
  refine call_ew (w := w) (by repeat' (first | (with_reducible first | exact bwR _ _ | assumption | refine bdn ?_ | refine bwA ?_ ?_ _ | refine bwD ?_ | refine bwS ?_ ?_ _) | omega | (simp <;> omega))) (fun HB => mcheck_any ea m _ H_im.out (gkeep HB hShape rfl) (gkeep HB hBound rfl)) ?_
  intro x1 w1 hx1 hb1 hz1 c1 d1 hW1
  have t1 := hb1.size
  try simp only [szA] at hz1 c1 d1
  try simp only [szD] at hz1 c1 d1
  try simp only [szS] at hz1 c1 d1
  try simp only [World.heap_drewN] at hz1 c1 d1
  try simp only [szA] at hz1 c1 d1
  try simp only [szD] at hz1 c1 d1
  try simp only [szS] at hz1 c1 d1
  have s1_0 : w.heap.size < w1.heap.size := by omega
  have o1_0 := fun j => c1 (w.heap.size) j (by omega)
  have f1_0 := fun j => d1 (w.heap.size) j (by omega)
  have s1_1 : w.heap.size + 1 < w1.heap.size := by omega
  have o1_1 := fun j => c1 (w.heap.size + 1) j (by omega)
  have f1_1 := fun j => d1 (w.heap.size + 1) j (by omega)
  have s1_2 : w.heap.size + 1 + 1 < w1.heap.size := by omega
  have o1_2 := fun j => c1 (w.heap.size + 1 + 1) j (by omega)
  have f1_2 := fun j => d1 (w.heap.size + 1 + 1) j (by omega)
  clear c1 d1 hz1 hW1
  obtain rfl := hx1.nil H_h1.out
  go_wp2_with fail
  refine call_ew (w := w) (by repeat' (first | (with_reducible first | exact bwR _ _ | assumption | refine bdn ?_ | refine bwA ?_ ?_ _ | refine bwD ?_ | refine bwS ?_ ?_ _) | omega | (simp <;> omega))) (fun HB => shcheck_any ea ps (some ⟨b, off, none⟩) len cap _ (H_hs.out.keep HB rfl) (gkeep HB hShape rfl) (gkeep HB hBound rfl)) ?_
  intro x2 w2 hx2 hb2 hz2 c2 d2 hW2
  have t2 := hb2.size
  try simp only [szA] at hz2 c2 d2
  try simp only [szD] at hz2 c2 d2
  try simp only [szS] at hz2 c2 d2
  try simp only [World.heap_drewN] at hz2 c2 d2
  try simp only [szA] at hz2 c2 d2
  try simp only [szD] at hz2 c2 d2
  try simp only [szS] at hz2 c2 d2
  have s2_0 : w.heap.size < w2.heap.size := by omega
  have o2_0 := fun j => c2 (w.heap.size) j (by omega)
  have f2_0 := fun j => d2 (w.heap.size) j (by omega)
  have s2_1 : w.heap.size + 1 < w2.heap.size := by omega
  have o2_1 := fun j => c2 (w.heap.size + 1) j (by omega)
  have f2_1 := fun j => d2 (w.heap.size + 1) j (by omega)
  have s2_2 : w.heap.size + 1 + 1 < w2.heap.size := by omega
  have o2_2 := fun j => c2 (w.heap.size + 1 + 1) j (by omega)
  have f2_2 := fun j => d2 (w.heap.size + 1 + 1) j (by omega)
  clear c2 d2 hz2 hW2
  obtain rfl := hx2.nil H_h2.out
  go_wp2_with fail
  obtain ⟨w0, hw0⟩ : ∃ u, w2.alloc (.cells #[.slice none 0 0] 54) = u := ⟨_, rfl⟩
  obtain ⟨s, hsd⟩ : ∃ u, w2.heap.size = u := ⟨_, rfl⟩
  have hat0 : w0.heap[s]? = some (.cells #[.slice none 0 0] 54 (0, 0)) := by rw [← hw0, ← hsd]; exact heap_alloc_new _ _
  have hB0 : Below w.heap.size w w0 := by rw [← hw0]; exact hb2.alloc t2 _
  have ws0 : w.heap.size + 1 + 1 < s := by rw [← hsd]; exact s2_2
  have ls0 : w0.heap.size = s + 1 := by rw [← hw0, ← hsd]; simp
  have p0 : ∀ j, w0.cell? ⟨w.heap.size, j, none⟩ = #[Value.slice (some ⟨b, off, none⟩) len cap][j]? := fun j => by rw [← hw0, World.cell?_alloc_past _ _ _ s2_0, o2_0, o1_0, World.cell?_alloc_past _ _ _ (by simp; omega), World.cell?_alloc_past _ _ _ (by simp), World.cell?_alloc_at _ _ _ _ rfl]
  have p1 : ∀ j, w0.cell? ⟨w.heap.size + 1, j, none⟩ = #[.int .i64 m.A.n, .int .i64 m.A.d, .int .i64 m.B.n, .int .i64 m.B.d, .int .i64 m.C.n, .int .i64 m.C.d, .int .i64 m.D.n, .int .i64 m.D.d, .int .i64 m.E.n, .int .i64 m.E.d, .int .i64 m.F.n, .int .i64 m.F.d][j]? := fun j => by rw [← hw0, World.cell?_alloc_past _ _ _ s2_1, o2_1, o1_1, World.cell?_alloc_past _ _ _ (by simp), World.cell?_alloc_at _ _ _ _ (by simp)]
  have p2 : ∀ j, w0.cell? ⟨w.heap.size + 1 + 1, j, none⟩ = #[Value.slice none 0 0][j]? := fun j => by rw [← hw0, World.cell?_alloc_past _ _ _ s2_2, o2_2, o1_2, World.cell?_alloc_at _ _ _ _ (by simp)]
  have k2 : ∀ j, w0.frozen? ⟨w.heap.size + 1 + 1, j, none⟩ = false := fun j => by rw [← hw0, World.frozen?_alloc_past _ _ _ s2_2, f2_2, f1_2, World.frozen?_alloc_at _ _ _ _ (by simp)]
  rw [hw0, hsd]
  clear o1_0 f1_0 o1_1 f1_1 o1_2 f1_2 o2_0 f2_0 o2_1 f2_1 o2_2 f2_2 s1_0 s1_1 s1_2 s2_0 s2_1 s2_2 t1 t2 hw0 hsd hx1 hx2 hb1 hb2
  clear w2
  clear w1
  have KB0 : But s 54 (.slice none 0 0) w0 w0 := But.refl hat0
  have H_hat0 := Lib.hid hat0
  clear hat0
  have H_KB0 := Lib.hid KB0
  clear KB0
  go_loopw [28] (fun i wr => ∃ (k : Nat) (oa : Option Addr) (cp : Nat), k ≤ len ∧ i = .int .i64 k ∧ movF m ps 0 = movF m (ps.drop k) k ∧ But s 54 (.slice oa k cp) w0 wr ∧ OwnP wr w0.heap.size 102 (.slice oa k cp) ((ps.take k).map (mvPt m))) (fun i _ => len - (intOf i).toNat)
  case atStart => exact ⟨0, none, 0, Nat.zero_le _, rfl, rfl, H_KB0.out, OwnP.nil _ _ _⟩
  case round =>
    obtain ⟨k, oa, cp, hk, rfl, hfb, hbut, hown⟩ := hrel
    have hzr := hbut.size
    have hBr : Below w.heap.size w wr := hB0.trans (hbut.toBelow (by omega) (by omega))
    have r0 := fun j => (hbut.cell w.heap.size j (by omega) (by omega)).trans (p0 j)
    have r1 := fun j => (hbut.cell (w.heap.size + 1) j (by omega) (by omega)).trans (p1 j)
    have r2 := fun j => (hbut.cell (w.heap.size + 1 + 1) j (by omega) (by omega)).trans (p2 j)
    have n2 := fun j => (hbut.frozen (w.heap.size + 1 + 1) j (by omega) (by omega)).trans (k2 j)
    have r3 := hbut.here
    have n3 := hbut.free
    have hmap := OwnP.slp hown
    by_cases hlt : k < len
    · have hk' : k < ps.length := by have := H_hl.out; omega
      have q0 := gkeep hBr (H_hp.out.c0 k hk') rfl
      have q1 := gkeep hBr (H_hp.out.c1 k hk') rfl
      have q2 := gkeep hBr (H_hp.out.c2 k hk') rfl
      have q3 := gkeep hBr (H_hp.out.c3 k hk') rfl
      have hpk := H_hall.out _ (List.getElem_mem hk')
      have hst := movF_step (m := m) hk'
      have hhit := movF_hit (m := m) hk'
      have htk := take_map (mvPt m) hk'
      have htl : ((ps.take k).map (mvPt m)).length = k := by rw [List.length_map, List.length_take]; omega
      obtain ⟨p, hpp⟩ : ∃ p, ps[k] = p := ⟨_, rfl⟩
      rw [hpp] at q0 q1 q2 q3 hpk hst hhit htk
      clear hpp hmap
      have hpI := hpk.I
      have hat := mat_pt H_h1.out hpk
      obtain ⟨qs, hqs⟩ : ∃ qs, (ps.take k).map (mvPt m) = qs := ⟨_, rfl⟩
      rw [hqs] at hown htk htl
      have hqlen : qs.length ≤ 30 := by omega
      obtain ⟨xn, xd, yn, yd⟩ := p
      simp only at q0 q1 q2 q3
      have zs1 : w.heap.size < wr.heap.size := by omega
      have zs2 : w.heap.size + 1 < wr.heap.size := by omega
      have zs3 : w.heap.size + 1 + 1 < wr.heap.size := by omega
      have zs4 : s < wr.heap.size := by omega
      by_cases hto : toE 0 m ⟨xn, xd, yn, yd⟩ = 0
      · have hat' := hat.trans (if_pos hto)
        have hav := atV_0 hat'
        have tX : (toX 0 m ⟨xn, xd, yn, yd⟩).I := dotV_I _ _ _ _ _ _
        have tY : (toY 0 m ⟨xn, xd, yn, yd⟩).I := dotV_I _ _ _ _ _ _
        have hqI : (mvPt m ⟨xn, xd, yn, yd⟩).I := ⟨tX.n, tX.d, tY.n, tY.d⟩
        clear tX tY
        obtain ⟨q, hq⟩ : ∃ q, mvPt m ⟨xn, xd, yn, yd⟩ = q := ⟨_, rfl⟩
        rw [hq] at hav hst hhit htk hqI
        by_cases hqc : q.c = 0
        · have hst' := hst ⟨hto, hqc⟩
          obtain ⟨xn', xd', yn', yd'⟩ := q
          have H_hown := Lib.hid hown
          clear hown
          have H_hbut := Lib.hid hbut
          clear hbut
          have H_hfb := Lib.hid hfb
          clear hfb
          have H_hst' := Lib.hid hst'
          clear hst'
          have H_hpk := Lib.hid hpk
          clear hpk
          have H_hpI := Lib.hid hpI
          clear hpI
          have H_hat' := Lib.hid hat'
          clear hat'
          have H_hav := Lib.hid hav
          clear hav
          have H_hqc := Lib.hid hqc
          clear hqc
          have H_hqs := Lib.hid hqs
          clear hqs
          have H_htk := Lib.hid htk
          clear htk
          have H_htl := Lib.hid htl
          clear htl
          have H_hq := Lib.hid hq
          clear hq
          have H_hto := Lib.hid hto
          clear hto
          have H_hqI := Lib.hid hqI
          clear hqI
          clear hst hhit hat
          go_wp2_with fail
          refine call_qe (w := w) (by repeat' (first | (with_reducible first | exact bwR _ _ | assumption | refine bdn ?_ | refine bwA ?_ ?_ _ | refine bwD ?_ | refine bwS ?_ ?_ _) | omega | (simp <;> omega))) (fun HB => mat_any ea m ⟨xn, xd, yn, yd⟩ _ H_im.out H_hpI.out (H_hG.out.keep HB rfl) (Nat.le_trans hsz HB.size)) ?_
          rw [H_hav.out, H_hat'.out]
          intro x1 w1 hx1 hb1 hz1 c1 d1 hW1
          have t1 := hb1.size
          have e1_r : Below wr.heap.size wr w1 := below_via (by repeat' (first | (with_reducible first | exact bwR _ _ | assumption | refine bdn ?_ | refine bwA ?_ ?_ _ | refine bwD ?_ | refine bwS ?_ ?_ _) | omega | (simp <;> omega))) hW1
          have te1_r := e1_r.size
          try simp only [szA] at hz1 c1 d1
          try simp only [szD] at hz1 c1 d1
          try simp only [szS] at hz1 c1 d1
          try simp only [World.heap_drewN] at hz1 c1 d1
          try simp only [szA] at hz1 c1 d1
          try simp only [szD] at hz1 c1 d1
          try simp only [szS] at hz1 c1 d1
          have s1_0 : w.heap.size < w1.heap.size := by omega
          have o1_0 := fun j => c1 (w.heap.size) j (by omega)
          have f1_0 := fun j => d1 (w.heap.size) j (by omega)
          have s1_1 : w.heap.size + 1 < w1.heap.size := by omega
          have o1_1 := fun j => c1 (w.heap.size + 1) j (by omega)
          have f1_1 := fun j => d1 (w.heap.size + 1) j (by omega)
          have s1_2 : w.heap.size + 1 + 1 < w1.heap.size := by omega
          have o1_2 := fun j => c1 (w.heap.size + 1 + 1) j (by omega)
          have f1_2 := fun j => d1 (w.heap.size + 1 + 1) j (by omega)
          have s1_3 : s < w1.heap.size := by omega
          have o1_3 := fun j => c1 (s) j (by omega)
          have f1_3 := fun j => d1 (s) j (by omega)
          have s1_4 : wr.heap.size < w1.heap.size := by omega
          have o1_4 := fun j => c1 (wr.heap.size) j (by omega)
          have f1_4 := fun j => d1 (wr.heap.size) j (by omega)
          clear c1 d1 hz1 hW1
          obtain rfl := hx1.nil rfl
          go_wp2_with fail
          refine call_bel (w := w) (by repeat' (first | (with_reducible first | exact bwR _ _ | assumption | refine bdn ?_ | refine bwA ?_ ?_ _ | refine bwD ?_ | refine bwS ?_ ?_ _) | omega | (simp <;> omega))) (fun HB => shpoint_0 ea xn' xd' yn' yd' _ H_hqI.out.xn H_hqI.out.xd H_hqI.out.yn H_hqI.out.yd (gkeep HB hShape rfl) (gkeep HB hBound rfl) H_hqc.out) ?_
          intro w2 hb2 hz2 c2 d2 hW2
          have t2 := hb2.size
          have e2_r : Below wr.heap.size wr w2 := below_via (by repeat' (first | (with_reducible first | exact bwR _ _ | assumption | refine bdn ?_ | refine bwA ?_ ?_ _ | refine bwD ?_ | refine bwS ?_ ?_ _) | omega | (simp <;> omega))) hW2
          have te2_r := e2_r.size
          try simp only [szA] at hz2 c2 d2
          try simp only [szD] at hz2 c2 d2
          try simp only [szS] at hz2 c2 d2
          try simp only [World.heap_drewN] at hz2 c2 d2
          try simp only [szA] at hz2 c2 d2
          try simp only [szD] at hz2 c2 d2
          try simp only [szS] at hz2 c2 d2
          have s2_0 : w.heap.size < w2.heap.size := by omega
          have o2_0 := fun j => c2 (w.heap.size) j (by omega)
          have f2_0 := fun j => d2 (w.heap.size) j (by omega)
          have s2_1 : w.heap.size + 1 < w2.heap.size := by omega
          have o2_1 := fun j => c2 (w.heap.size + 1) j (by omega)
          have f2_1 := fun j => d2 (w.heap.size + 1) j (by omega)
          have s2_2 : w.heap.size + 1 + 1 < w2.heap.size := by omega
          have o2_2 := fun j => c2 (w.heap.size + 1 + 1) j (by omega)
          have f2_2 := fun j => d2 (w.heap.size + 1 + 1) j (by omega)
          have s2_3 : s < w2.heap.size := by omega
          have o2_3 := fun j => c2 (s) j (by omega)
          have f2_3 := fun j => d2 (s) j (by omega)
          have s2_4 : wr.heap.size < w2.heap.size := by omega
          have o2_4 := fun j => c2 (wr.heap.size) j (by omega)
          have f2_4 := fun j => d2 (wr.heap.size) j (by omega)
          have s2_5 : w1.heap.size < w2.heap.size := by omega
          have o2_5 := fun j => c2 (w1.heap.size) j (by omega)
          have f2_5 := fun j => d2 (w1.heap.size) j (by omega)
          clear c2 d2 hz2 hW2
          have hownA := H_hown.out.keep e2_r
          have hbutA := H_hbut.out.below e2_r
          have H_hownA := Lib.hid hownA
          clear hownA
          have H_hbutA := Lib.hid hbutA
          clear hbutA
          go_wp2_with (at_builtin; refine wp_append_pts (w0 := w) rfl (.tmp 53) (.tmp 55) 50 rfl (w0.heap.size) 102 i0 _ Tryz.underlying50 H_hi.out H_hz0.out H_hz1.out H_hz2.out rfl _ _ rfl (H_hownA.out.alloc _) w2.heap.size 0 1 1 [⟨xn', xd', yn', yd'⟩] rfl (by rfl) (pts_new _ _ ⟨xn', xd', yn', yd'⟩) ?q1 ?q2 ?q3 ?q4 ?_)
          case q1 => first | omega | (simp only [List.length_append, List.length_drop, List.length_take, List.length_reverse, List.length_cons, List.length_nil]; omega)
          case q2 => first | exact Nat.le_refl _ | omega | (simp; omega)
          case q3 => exact (by repeat' (first | (with_reducible first | exact bwR _ _ | assumption | refine bdn ?_ | refine bwA ?_ ?_ _ | refine bwD ?_ | refine bwS ?_ ?_ _) | omega | (simp <;> omega)))
          case q4 => first | exact Nat.le_refl _ | omega | (simp; omega)
          intro v3 w3 hv3 hb3 hz3 c3 d3 hA3
          have t3 := hb3.size
          try simp only [szA] at hz3 c3 d3
          try simp only [szD] at hz3 c3 d3
          try simp only [szS] at hz3 c3 d3
          try simp only [World.heap_drewN] at hz3 c3 d3
          try simp only [szA] at hz3 c3 d3
          try simp only [szD] at hz3 c3 d3
          try simp only [szS] at hz3 c3 d3
          have s3_0 : w.heap.size < w3.heap.size := by omega
          have o3_0 := fun j => c3 (w.heap.size) j (by omega)
          have f3_0 := fun j => d3 (w.heap.size) j (by omega)
          have s3_1 : w.heap.size + 1 < w3.heap.size := by omega
          have o3_1 := fun j => c3 (w.heap.size + 1) j (by omega)
          have f3_1 := fun j => d3 (w.heap.size + 1) j (by omega)
          have s3_2 : w.heap.size + 1 + 1 < w3.heap.size := by omega
          have o3_2 := fun j => c3 (w.heap.size + 1 + 1) j (by omega)
          have f3_2 := fun j => d3 (w.heap.size + 1 + 1) j (by omega)
          have s3_3 : s < w3.heap.size := by omega
          have o3_3 := fun j => c3 (s) j (by omega)
          have f3_3 := fun j => d3 (s) j (by omega)
          clear c3 d3
          have hbutC := (H_hbutA.out.alloc (.cells #[.int .i64 xn', .int .i64 xd', .int .i64 yn', .int .i64 yd'] 102)).belowB (Nat.le_of_eq ls0) hA3
          obtain ⟨g, cp', rfl, hfo⟩ : ∃ g cp', v3 = .slice (some ⟨g, 0, none⟩) (k + 1) cp' ∧ True := by
            rcases hv3.form with ⟨_, h⟩ | ⟨g, cp', h, _⟩
            · simp at h
            · refine ⟨g, cp', ?_, trivial⟩
              rw [h, List.length_append, H_htl.out]; rfl
          clear hfo hA3
          have H_hv3 := Lib.hid hv3
          clear hv3
          have H_hbutC := Lib.hid hbutC
          clear hbutC
          go_wp2_with fail
          go_roundw
          case rel =>
            refine ⟨k + 1, some ⟨g, 0, none⟩, cp', by omega, by go_num, H_hfb.out.trans H_hst'.out, H_hbutC.out.put _, ?_⟩
            rw [H_htk.out]
            exact ownsRow_setCell_below (OwnP.base H_hv3.out (by omega)) (show s < w0.heap.size by omega) _
          case measure => simp [intOf]; omega
        · have hhit' := hhit (fun h => hqc h.2)
          obtain ⟨xn', xd', yn', yd'⟩ := q
          have hcc := H_hc.out.trans (hfb.trans hhit')
          have hLL := movL_n hcc
          rw [hLL, hcc]
          have H_hown := Lib.hid hown
          clear hown
          have H_hbut := Lib.hid hbut
          clear hbut
          have H_hfb := Lib.hid hfb
          clear hfb
          have H_hhit' := Lib.hid hhit'
          clear hhit'
          have H_hpk := Lib.hid hpk
          clear hpk
          have H_hpI := Lib.hid hpI
          clear hpI
          have H_hat' := Lib.hid hat'
          clear hat'
          have H_hav := Lib.hid hav
          clear hav
          have H_hqc := Lib.hid hqc
          clear hqc
          have H_hqs := Lib.hid hqs
          clear hqs
          have H_htk := Lib.hid htk
          clear htk
          have H_htl := Lib.hid htl
          clear htl
          have H_hq := Lib.hid hq
          clear hq
          have H_hto := Lib.hid hto
          clear hto
          have H_hqI := Lib.hid hqI
          clear hqI
          have H_hcc := Lib.hid hcc
          clear hcc
          have H_hLL := Lib.hid hLL
          clear hLL
          clear hst hhit hat
          go_wp2_with fail
          refine call_qe (w := w) (by repeat' (first | (with_reducible first | exact bwR _ _ | assumption | refine bdn ?_ | refine bwA ?_ ?_ _ | refine bwD ?_ | refine bwS ?_ ?_ _) | omega | (simp <;> omega))) (fun HB => mat_any ea m ⟨xn, xd, yn, yd⟩ _ H_im.out H_hpI.out (H_hG.out.keep HB rfl) (Nat.le_trans hsz HB.size)) ?_
          rw [H_hav.out, H_hat'.out]
          intro x1 w1 hx1 hb1 hz1 c1 d1 hW1
          have t1 := hb1.size
          have e1_r : Below wr.heap.size wr w1 := below_via (by repeat' (first | (with_reducible first | exact bwR _ _ | assumption | refine bdn ?_ | refine bwA ?_ ?_ _ | refine bwD ?_ | refine bwS ?_ ?_ _) | omega | (simp <;> omega))) hW1
          have te1_r := e1_r.size
          try simp only [szA] at hz1 c1 d1
          try simp only [szD] at hz1 c1 d1
          try simp only [szS] at hz1 c1 d1
          try simp only [World.heap_drewN] at hz1 c1 d1
          try simp only [szA] at hz1 c1 d1
          try simp only [szD] at hz1 c1 d1
          try simp only [szS] at hz1 c1 d1
          have s1_0 : w.heap.size < w1.heap.size := by omega
          have o1_0 := fun j => c1 (w.heap.size) j (by omega)
          have f1_0 := fun j => d1 (w.heap.size) j (by omega)
          have s1_1 : w.heap.size + 1 < w1.heap.size := by omega
          have o1_1 := fun j => c1 (w.heap.size + 1) j (by omega)
          have f1_1 := fun j => d1 (w.heap.size + 1) j (by omega)
          have s1_2 : w.heap.size + 1 + 1 < w1.heap.size := by omega
          have o1_2 := fun j => c1 (w.heap.size + 1 + 1) j (by omega)
          have f1_2 := fun j => d1 (w.heap.size + 1 + 1) j (by omega)
          have s1_3 : s < w1.heap.size := by omega
          have o1_3 := fun j => c1 (s) j (by omega)
          have f1_3 := fun j => d1 (s) j (by omega)
          have s1_4 : wr.heap.size < w1.heap.size := by omega
          have o1_4 := fun j => c1 (wr.heap.size) j (by omega)
          have f1_4 := fun j => d1 (wr.heap.size) j (by omega)
          clear c1 d1 hz1 hW1
          obtain rfl := hx1.nil rfl
          go_wp2_with fail
          refine call_bel (w := w) (by repeat' (first | (with_reducible first | exact bwR _ _ | assumption | refine bdn ?_ | refine bwA ?_ ?_ _ | refine bwD ?_ | refine bwS ?_ ?_ _) | omega | (simp <;> omega))) (fun HB => shpoint_n ea xn' xd' yn' yd' _ H_hqI.out.xn H_hqI.out.xd H_hqI.out.yn H_hqI.out.yd (gkeep HB hShape rfl) (gkeep HB hBound rfl) H_hqc.out) ?_
          intro w2 hb2 hz2 c2 d2 hW2
          have t2 := hb2.size
          have hBound_2 := gkeep hb2 hBound rfl
          have zhBound_2 := zlt hBound_2
          have xhBound_2 := zlts hBound_2
          have yhBound_2 := zne hBound_2
          have e2_r : Below wr.heap.size wr w2 := below_via (by repeat' (first | (with_reducible first | exact bwR _ _ | assumption | refine bdn ?_ | refine bwA ?_ ?_ _ | refine bwD ?_ | refine bwS ?_ ?_ _) | omega | (simp <;> omega))) hW2
          have te2_r := e2_r.size
          try simp only [szA] at hz2 c2 d2
          try simp only [szD] at hz2 c2 d2
          try simp only [szS] at hz2 c2 d2
          try simp only [World.heap_drewN] at hz2 c2 d2
          try simp only [szA] at hz2 c2 d2
          try simp only [szD] at hz2 c2 d2
          try simp only [szS] at hz2 c2 d2
          have s2_0 : w.heap.size < w2.heap.size := by omega
          have o2_0 := fun j => c2 (w.heap.size) j (by omega)
          have f2_0 := fun j => d2 (w.heap.size) j (by omega)
          have s2_1 : w.heap.size + 1 < w2.heap.size := by omega
          have o2_1 := fun j => c2 (w.heap.size + 1) j (by omega)
          have f2_1 := fun j => d2 (w.heap.size + 1) j (by omega)
          have s2_2 : w.heap.size + 1 + 1 < w2.heap.size := by omega
          have o2_2 := fun j => c2 (w.heap.size + 1 + 1) j (by omega)
          have f2_2 := fun j => d2 (w.heap.size + 1 + 1) j (by omega)
          have s2_3 : s < w2.heap.size := by omega
          have o2_3 := fun j => c2 (s) j (by omega)
          have f2_3 := fun j => d2 (s) j (by omega)
          have s2_4 : wr.heap.size < w2.heap.size := by omega
          have o2_4 := fun j => c2 (wr.heap.size) j (by omega)
          have f2_4 := fun j => d2 (wr.heap.size) j (by omega)
          have s2_5 : w1.heap.size < w2.heap.size := by omega
          have o2_5 := fun j => c2 (w1.heap.size) j (by omega)
          have f2_5 := fun j => d2 (w1.heap.size) j (by omega)
          clear c2 d2 hz2 hW2
          go_wp2_with fail
          go_region
          all_goals
            go_wp2_with fail
            refine bodyPost_ret (by simp [results, Tryz.results26, go_sem, *]; try rfl) rfl ?_
            refine ⟨_, _, rfl, ?_, ?_, ?_⟩
            · exact ⟨Nat.succ_ne_zero 1, _, hb2.size, rfl, (cell_new (by simp)).trans rfl, (cell_new (by simp)).trans rfl⟩
            · exact OwnP.nil _ _ _
            · exact by repeat' (first | (with_reducible first | exact bwR _ _ | assumption | refine bdn ?_ | refine bwA ?_ ?_ _ | refine bwD ?_ | refine bwS ?_ ?_ _) | omega | (simp <;> omega))
      · have hat' := hat.trans (if_neg hto)
        have hav := atV_n (m := m) (p := ⟨xn, xd, yn, yd⟩) (by rw [hat']; decide)
        have hhit' := hhit (fun h => hto h.1)
        have hcc := H_hc.out.trans (hfb.trans hhit')
        have hLL := movL_n hcc
        rw [hLL, hcc]
        have H_hown := Lib.hid hown
        clear hown
        have H_hbut := Lib.hid hbut
        clear hbut
        have H_hfb := Lib.hid hfb
        clear hfb
        have H_hhit' := Lib.hid hhit'
        clear hhit'
        have H_hpk := Lib.hid hpk
        clear hpk
        have H_hpI := Lib.hid hpI
        clear hpI
        have H_hat' := Lib.hid hat'
        clear hat'
        have H_hav := Lib.hid hav
        clear hav
        have H_hqs := Lib.hid hqs
        clear hqs
        have H_htk := Lib.hid htk
        clear htk
        have H_htl := Lib.hid htl
        clear htl
        have H_hto := Lib.hid hto
        clear hto
        have H_hcc := Lib.hid hcc
        clear hcc
        have H_hLL := Lib.hid hLL
        clear hLL
        clear hst hhit hat
        go_wp2_with fail
        refine call_qe (w := w) (by repeat' (first | (with_reducible first | exact bwR _ _ | assumption | refine bdn ?_ | refine bwA ?_ ?_ _ | refine bwD ?_ | refine bwS ?_ ?_ _) | omega | (simp <;> omega))) (fun HB => mat_any ea m ⟨xn, xd, yn, yd⟩ _ H_im.out H_hpI.out (H_hG.out.keep HB rfl) (Nat.le_trans hsz HB.size)) ?_
        rw [H_hav.out, H_hat'.out]
        intro x1 w1 hx1 hb1 hz1 c1 d1 hW1
        have t1 := hb1.size
        have hBound_1 := gkeep hb1 hBound rfl
        have zhBound_1 := zlt hBound_1
        have xhBound_1 := zlts hBound_1
        have yhBound_1 := zne hBound_1
        have e1_r : Below wr.heap.size wr w1 := below_via (by repeat' (first | (with_reducible first | exact bwR _ _ | assumption | refine bdn ?_ | refine bwA ?_ ?_ _ | refine bwD ?_ | refine bwS ?_ ?_ _) | omega | (simp <;> omega))) hW1
        have te1_r := e1_r.size
        try simp only [szA] at hz1 c1 d1
        try simp only [szD] at hz1 c1 d1
        try simp only [szS] at hz1 c1 d1
        try simp only [World.heap_drewN] at hz1 c1 d1
        try simp only [szA] at hz1 c1 d1
        try simp only [szD] at hz1 c1 d1
        try simp only [szS] at hz1 c1 d1
        have s1_0 : w.heap.size < w1.heap.size := by omega
        have o1_0 := fun j => c1 (w.heap.size) j (by omega)
        have f1_0 := fun j => d1 (w.heap.size) j (by omega)
        have s1_1 : w.heap.size + 1 < w1.heap.size := by omega
        have o1_1 := fun j => c1 (w.heap.size + 1) j (by omega)
        have f1_1 := fun j => d1 (w.heap.size + 1) j (by omega)
        have s1_2 : w.heap.size + 1 + 1 < w1.heap.size := by omega
        have o1_2 := fun j => c1 (w.heap.size + 1 + 1) j (by omega)
        have f1_2 := fun j => d1 (w.heap.size + 1 + 1) j (by omega)
        have s1_3 : s < w1.heap.size := by omega
        have o1_3 := fun j => c1 (s) j (by omega)
        have f1_3 := fun j => d1 (s) j (by omega)
        have s1_4 : wr.heap.size < w1.heap.size := by omega
        have o1_4 := fun j => c1 (wr.heap.size) j (by omega)
        have f1_4 := fun j => d1 (wr.heap.size) j (by omega)
        clear c1 d1 hz1 hW1
        obtain ⟨t, a, rfl⟩ := hx1.some (by decide)
        go_wp2_with fail
        go_region
        all_goals
          go_wp2_with fail
          refine bodyPost_ret (by simp [results, Tryz.results26, go_sem, *]; try rfl) rfl ?_
          refine ⟨_, _, rfl, ?_, ?_, ?_⟩
          · exact ⟨Nat.succ_ne_zero 1, _, Nat.le_succ_of_le hb1.size, rfl, (cell_new (by simp)).trans rfl, (cell_new (by simp)).trans rfl⟩
          · exact OwnP.nil _ _ _
          · exact by repeat' (first | (with_reducible first | exact bwR _ _ | assumption | refine bdn ?_ | refine bwA ?_ ?_ _ | refine bwD ?_ | refine bwS ?_ ?_ _) | omega | (simp <;> omega))
    · have hkl : k = ps.length := by have := H_hl.out; omega
      have hcc := H_hc.out.trans (hfb.trans (movF_end (by omega)))
      have hLL := movL_0 hcc
      rw [hLL, hcc]
      rw [hkl, List.take_length] at hown
      have hkl' : len = k := by omega
      have H_hown := Lib.hid hown
      clear hown
      have H_hbut := Lib.hid hbut
      clear hbut
      have H_hfb := Lib.hid hfb
      clear hfb
      have H_hcc := Lib.hid hcc
      clear hcc
      have H_hLL := Lib.hid hLL
      clear hLL
      have H_hkl := Lib.hid hkl
      clear hkl
      clear hmap
      go_wp2_with fail
      go_wp2_with fail
      refine bodyPost_ret (by simp [results, Tryz.results26, go_sem, *]; try rfl) rfl ?_
      refine ⟨_, _, rfl, ?_, ?_, ?_⟩
      · first | exact (evl_0 rfl).symm | (rw [H_hcc.out]; exact (evl_0 rfl).symm)
      · have hfin := OwnP.base (base' := w.heap.size) (ownsRow_setCell_below H_hown.out (a := ⟨w.heap.size + 1 + 1, 0, none⟩) (show w.heap.size + 1 + 1 < w0.heap.size by omega) (.slice oa k cp)) (by omega)
        rw [← H_hkl.out] at hfin
        first | exact hfin | (rw [H_hLL.out]; exact hfin)
      · exact by repeat' (first | (with_reducible first | exact bwR _ _ | assumption | refine bdn ?_ | refine bwA ?_ ?_ _ | refine bwD ?_ | refine bwS ?_ ?_ _) | omega | (simp <;> omega))
theorem shmove_any (ea : Nat → Addr) (m : Mv) (ps : List Pt) (oa : Option Addr) (len cap : Nat) (w : World) (im : m.I) (hs : SlP w oa len cap ps) (hG : Gs gz ea w) (hsz : 20 ≤ w.heap.size) :
    Calls Tryz.prog 26 #[.agg #[.slice oa len cap], .agg #[.int .i64 m.A.n, .int .i64 m.A.d, .int .i64 m.B.n, .int .i64 m.B.d, .int .i64 m.C.n, .int .i64 m.C.d, .int .i64 m.D.n, .int .i64 m.D.d, .int .i64 m.E.n, .int .i64 m.E.d, .int .i64 m.F.n, .int .i64 m.F.d]] w (RetPE 308 119 ea 102 (movC m ps) (movL m ps) w) := by
  rcases (firstF_some (l := m.l) (k := 0) : m.c = (0, none) ∨ m.c.1 ≠ 0) with h1 | h1
  · rcases shC_some ps with h2 | h2
    · obtain ⟨hl, _, _, _, hcase⟩ := id hs
      rcases hcase with ⟨rfl, rfl, rfl⟩ | ⟨b, off, rfl, hbl, hp⟩
      · obtain rfl : ps = [] := List.length_eq_zero_iff.1 hl.symm
        have hc : movC m [] = (0, none) := movC_f h1 h2
        rw [hc, movL_0 hc]
        exact shmove_nil ea m [] w im hs hG h1 h2
      · exact shmove_f ea m ps b off len cap w im hs hG hsz h1 h2 hbl hp
    · exact shmove_e2 ea m ps oa len cap w im hs hG h1 h2
  · exact shmove_e1 ea m ps oa len cap w im hG h1
end Go.Proofs.YtpdaenldmgpkjaaGreatDoor
