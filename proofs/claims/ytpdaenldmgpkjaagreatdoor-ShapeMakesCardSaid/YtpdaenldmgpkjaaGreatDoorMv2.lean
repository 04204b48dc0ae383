/-
  Walks over package move: One, Check, sums.
-/
import Derived.Test.YtpdaenldmgpkjaaGreatDoorMa
import Derived.Test.YtpdaenldmgpkjaaGreatDoorSa
namespace Go.Proofs.YtpdaenldmgpkjaaGreatDoor
open Go.RowKit Lead
variable {gz : Bool}

/-- The errors that package frac may answer lie in their variables. -/
structure Gs (z : Bool) (ea : Nat → Addr) (w : World) : Prop where
  c2 : w.cell? ⟨0, 0, none⟩ = some (.iface 308 (.pointer (some (ea 2))))
  c3 : w.cell? ⟨2, 0, none⟩ = some (.iface 308 (.pointer (some (ea 3))))
  c11' : z = true → w.cell? ⟨10, 0, none⟩ = some (.iface 308 (.pointer (some (ea 11))))
theorem Gs.c11 {ea : Nat → Addr} {w : World} (h : Gs true ea w) : w.cell? ⟨10, 0, none⟩ = some (.iface 308 (.pointer (some (ea 11)))) := h.c11' rfl
theorem Gs.keep {ea : Nat → Addr} {w w' : World} {B : Nat} (h : Gs gz ea w) (hb : Below B w w') (hB : B = w.heap.size) : Gs gz ea w' := ⟨gkeep hb h.c2 hB, gkeep hb h.c3 hB, fun k => gkeep hb (h.c11' k) hB⟩
theorem Gs.but {ea : Nat → Addr} {w w' : World} {s : Nat} {t : TypeId} {v : Value} (h : Gs gz ea w) (hb : But s t v w w') (hs : 20 ≤ s) : Gs gz ea w' := ⟨hb.glob h.c2 (by omega), hb.glob h.c3 (by omega), fun k => hb.glob (h.c11' k) (by omega)⟩

set_option maxHeartbeats 1000000 in
theorem msix_any (m : Mv) (w : World) : Calls Tryz.prog 87 #[.agg #[.int .i64 m.A.n, .int .i64 m.A.d, .int .i64 m.B.n, .int .i64 m.B.d, .int .i64 m.C.n, .int .i64 m.C.d, .int .i64 m.D.n, .int .i64 m.D.d, .int .i64 m.E.n, .int .i64 m.E.d, .int .i64 m.F.n, .int .i64 m.F.d]] w fun e w' => e = .returned (.slice (some ⟨w.heap.size + 1, 0, none⟩) 6 6) ∧
    w' = (w.alloc (.cells #[.int .i64 m.A.n, .int .i64 m.A.d, .int .i64 m.B.n, .int .i64 m.B.d, .int .i64 m.C.n, .int .i64 m.C.d, .int .i64 m.D.n, .int .i64 m.D.d, .int .i64 m.E.n, .int .i64 m.E.d, .int .i64 m.F.n, .int .i64 m.F.d] 66)).alloc (.cells #[.int .i64 m.A.n, .int .i64 m.A.d, .int .i64 m.B.n, .int .i64 m.B.d, .int .i64 m.C.n, .int .i64 m.C.d, .int .i64 m.D.n, .int .i64 m.D.d, .int .i64 m.E.n, .int .i64 m.E.d, .int .i64 m.F.n, .int .i64 m.F.d] 49) := by
  go_enter Tryz.func87, Tryz.ntmps87
  go_wp2_with fail
  go_returns
  exact ⟨rfl, rfl⟩

set_option maxHeartbeats 2000000 in
theorem mcheck_any (ea : Nat → Addr) (m : Mv) (w : World) (hI : m.I) (hShape : w.cell? ⟨2, 0, none⟩ = some (.iface 308 (.pointer (some (ea 3))))) (hBound : w.cell? ⟨0, 0, none⟩ = some (.iface 308 (.pointer (some (ea 2))))) :
    Calls Tryz.prog 58 #[.agg #[.int .i64 m.A.n, .int .i64 m.A.d, .int .i64 m.B.n, .int .i64 m.B.d, .int .i64 m.C.n, .int .i64 m.C.d, .int .i64 m.D.n, .int .i64 m.D.d, .int .i64 m.E.n, .int .i64 m.E.d, .int .i64 m.F.n, .int .i64 m.F.d]] w (RetE 308 119 ea m.c w) := by
  have zhShape := zlt hShape
  have xhShape := zlts hShape
  have yhShape := zne hShape
  have zhBound := zlt hBound
  have xhBound := zlts hBound
  have yhBound := zne hBound
  have hIa := hI.all
  have hlen : m.l.length = 6 := rfl
  have H_hIa := Lib.hid hIa
  clear hIa
  have H_hI := Lib.hid hI
  clear hI
  have H_hlen := Lib.hid hlen
  clear hlen
  go_enter Tryz.func58, Tryz.ntmps58
  go_wp2_with fail
  refine (msix_any m _).mono ?_
  rintro _ _ ⟨rfl, rfl⟩
  go_wp2_with fail
  go_loopw [9] (fun i wr => ∃ k : Nat, k ≤ 6 ∧ i = .int .i64 k ∧ m.c = firstF (m.l.drop k) k ∧ Below w.heap.size w wr ∧ w.heap.size + 1 + 1 < wr.heap.size ∧ FrsIn wr (w.heap.size + 1 + 1) 0 m.l) (fun i _ => 6 - (intOf i).toNat)
  case atStart => exact ⟨0, Nat.zero_le _, rfl, rfl, by repeat' (first | (with_reducible first | exact bwR _ _ | assumption | refine bdn ?_ | refine bwA ?_ ?_ _ | refine bwD ?_ | refine bwS ?_ ?_ _) | omega | (simp <;> omega)), by simp, frs_cells (vs := #[.int .i64 m.A.n, .int .i64 m.A.d, .int .i64 m.B.n, .int .i64 m.B.d, .int .i64 m.C.n, .int .i64 m.C.d, .int .i64 m.D.n, .int .i64 m.D.d, .int .i64 m.E.n, .int .i64 m.E.d, .int .i64 m.F.n, .int .i64 m.F.d]) rfl (fun j => World.cell?_alloc_at _ _ _ _ (by simp))⟩
  case round =>
    obtain ⟨k, hk, rfl, hfb, hB, hzr, hF⟩ := hrel
    by_cases hlt : k < 6
    · have hk' : k < m.l.length := hlt
      have q0 := hF.c0 k hk'
      have q1 := hF.c1 k hk'
      rw [Nat.zero_add] at q0 q1
      have hIk := H_hIa.out _ (List.getElem_mem hk')
      have hst := firstF_step (j := k) hk'
      have hhit := firstF_hit (j := k) hk'
      obtain ⟨a, hak⟩ : ∃ a, m.l[k] = a := ⟨_, rfl⟩
      rw [hak] at q0 q1 hIk hst hhit
      clear hak
      obtain ⟨hI1, hI2⟩ := hIk
      by_cases hpc : a.c = 0
      · have hst' := hst hpc
        have H_hst' := Lib.hid hst'
        clear hst'
        have H_hfb := Lib.hid hfb
        clear hfb
        have H_hpc := Lib.hid hpc
        clear hpc
        have H_hF := Lib.hid hF
        clear hF
        clear hst hhit
        go_wp2_with fail
        refine call_bel (w := w) (by repeat' (first | (with_reducible first | exact bwR _ _ | assumption | refine bdn ?_ | refine bwA ?_ ?_ _ | refine bwD ?_ | refine bwS ?_ ?_ _) | omega | (simp <;> omega))) (fun HB => fcheck_0 ea a.n a.d _ hI1 hI2 (gkeep HB hShape rfl) (gkeep HB hBound rfl) H_hpc.out) ?_
        intro w1 hb1 hz1 c1 d1 hW1
        have t1 := hb1.size
        have e1_r : Below wr.heap.size wr w1 := below_via (by repeat' (first | (with_reducible first | exact bwR _ _ | assumption | refine bdn ?_ | refine bwA ?_ ?_ _ | refine bwD ?_ | refine bwS ?_ ?_ _) | omega | (simp <;> omega))) hW1
        have te1_r := e1_r.size
        try simp only [szA] at hz1 c1 d1
        try simp only [szD] at hz1 c1 d1
        try simp only [szS] at hz1 c1 d1
        try simp only [World.heap_drewN] at hz1 c1 d1
        try simp only [szA] at hz1 c1 d1
        try simp only [szD] at hz1 c1 d1
        try simp only [szS] at hz1 c1 d1
        have s1_0 : w.heap.size + 1 + 1 < w1.heap.size := by omega
        have o1_0 := fun j => c1 (w.heap.size + 1 + 1) j (by omega)
        have f1_0 := fun j => d1 (w.heap.size + 1 + 1) j (by omega)
        clear c1 d1 hz1 hW1
        go_wp2_with fail
        go_roundw
        case rel => exact ⟨k + 1, by omega, by go_num, H_hfb.out.trans H_hst'.out, hb1, by omega, H_hF.out.keep e1_r (by omega)⟩
        case measure => simp [intOf]; omega
      · have hhit' := hhit hpc
        have H_hhit' := Lib.hid hhit'
        clear hhit'
        have H_hfb := Lib.hid hfb
        clear hfb
        have H_hF := Lib.hid hF
        clear hF
        have H_hpc := Lib.hid hpc
        clear hpc
        clear hst hhit
        go_wp2_with fail
        refine call_bel (w := w) (by repeat' (first | (with_reducible first | exact bwR _ _ | assumption | refine bdn ?_ | refine bwA ?_ ?_ _ | refine bwD ?_ | refine bwS ?_ ?_ _) | omega | (simp <;> omega))) (fun HB => fcheck_n ea a.n a.d _ hI1 hI2 (gkeep HB hShape rfl) (gkeep HB hBound rfl) H_hpc.out) ?_
        intro w1 hb1 hz1 c1 d1 hW1
        have t1 := hb1.size
        clear c1 d1 hz1 hW1
        go_wp2_with fail
        go_returns
        refine ⟨_, rfl, ?_, by repeat' (first | (with_reducible first | exact bwR _ _ | assumption | refine bdn ?_ | refine bwA ?_ ?_ _ | refine bwD ?_ | refine bwS ?_ ?_ _) | omega | (simp <;> omega))⟩
        rw [H_hfb.out, H_hhit'.out]
        exact ⟨H_hpc.out, _, hb1.size, rfl, by simp, by simp [Fr.c]⟩
    · have hfe : m.c = (0, none) := by rw [hfb, firstF_end (by have := H_hlen.out; omega)]
      have H_hfe := Lib.hid hfe
      clear hfe
      have H_hfb := Lib.hid hfb
      clear hfb
      have H_hF := Lib.hid hF
      clear hF
      go_wp2_with fail
      go_returns
      exact ⟨_, rfl, by rw [H_hfe.out]; rfl, by repeat' (first | (with_reducible first | exact bwR _ _ | assumption | refine bdn ?_ | refine bwA ?_ ?_ _ | refine bwD ?_ | refine bwS ?_ ?_ _) | omega | (simp <;> omega))⟩

set_option maxHeartbeats 2000000 in
theorem sdo_mul (ea : Nat → Addr) (e K e' s : Nat) (a b x v : Fr) (w : World) (hv : dV e K x = v) (he' : dE e K = e')
    (HF : ∀ W, Gs gz ea W → Calls Tryz.prog 144 #[.agg #[.int .i64 a.n, .int .i64 a.d], .agg #[.int .i64 b.n, .int .i64 b.d]] W fun en W' => en = .returned (frV 308 ea K x.n x.d) ∧ Below W.heap.size W W')
    (hs0 : w.heap[s]? = some (.cells #[evl 308 ea e] 158 (0, 0))) (hsg : 20 ≤ s) (hG : Gs gz ea w) :
    Calls Tryz.prog 119 #[.pointer (some ⟨s, 0, none⟩), .func (.func 144) #[] #[], .agg #[.int .i64 a.n, .int .i64 a.d], .agg #[.int .i64 b.n, .int .i64 b.d]] w fun en w' => en = .returned (.agg #[.int .i64 v.n, .int .i64 v.d]) ∧ But s 158 (evl 308 ea e') w w' := by
  have hc := cell_of_one hs0
  have hf := free_of_one hs0
  have hl := lt_of_block hs0
  have hnw_0 : ¬ w.heap.size = s := by omega
  have hmw_0 : ¬ s = w.heap.size := by omega
  have hnw_1 : ¬ w.heap.size + 1 = s := by omega
  have hmw_1 : ¬ s = w.heap.size + 1 := by omega
  have hlw_1 : s < w.heap.size + 1 := by omega
  have hnw_2 : ¬ w.heap.size + 1 + 1 = s := by omega
  have hmw_2 : ¬ s = w.heap.size + 1 + 1 := by omega
  have hlw_2 : s < w.heap.size + 1 + 1 := by omega
  have hnw_3 : ¬ w.heap.size + 1 + 1 + 1 = s := by omega
  have hmw_3 : ¬ s = w.heap.size + 1 + 1 + 1 := by omega
  have hlw_3 : s < w.heap.size + 1 + 1 + 1 := by omega
  have hnw_4 : ¬ w.heap.size + 1 + 1 + 1 + 1 = s := by omega
  have hmw_4 : ¬ s = w.heap.size + 1 + 1 + 1 + 1 := by omega
  have hlw_4 : s < w.heap.size + 1 + 1 + 1 + 1 := by omega
  have hnw_5 : ¬ w.heap.size + 1 + 1 + 1 + 1 + 1 = s := by omega
  have hmw_5 : ¬ s = w.heap.size + 1 + 1 + 1 + 1 + 1 := by omega
  have hlw_5 : s < w.heap.size + 1 + 1 + 1 + 1 + 1 := by omega
  by_cases he : e = 0
  · rw [evl_0 he] at hs0 hc
    rw [dE_0 he] at he'
    rw [dV_0 he] at hv
    have hb0 := But.refl hs0
    have H_he := Lib.hid he
    clear he
    have H_hG := Lib.hid hG
    clear hG
    have H_HF := Lib.hid HF
    clear HF
    have H_he' := Lib.hid he'
    clear he'
    have H_hv := Lib.hid hv
    clear hv
    have H_hs0 := Lib.hid hs0
    clear hs0
    by_cases hK : K = 0
    · have H_hK := Lib.hid hK
      clear hK
      go_enter Tryz.func119, Tryz.ntmps119
      go_wp2_with fail
      refine call_b2 (w := w) (s := s) (t := 158) (e0 := .nilIface) (by repeat' (first | (with_reducible assumption) | (with_reducible exact But.refl (by assumption)) | (with_reducible refine But.drewN ?_) | (with_reducible refine But.alloc ?_ _) | (with_reducible refine But.drew ?_) | (with_reducible refine But.setCell ?_ ?_ _) | omega | (simp <;> omega))) (fun HB => H_HF.out _ (H_hG.out.but HB hsg)) ?_
      intro w1 hb1 hz1 c1 d1 hW1
      have t1 := hb1.size
      have hs1 := hb1.here
      have hf1 := hb1.free
      have ha1 := hb1.at'
      have hl1 : s < w1.heap.size := Nat.lt_of_lt_of_le hb1.lt t1
      have hnw1_0 : ¬ w1.heap.size = s := by omega
      have hmw1_0 : ¬ s = w1.heap.size := by omega
      have hnw1_1 : ¬ w1.heap.size + 1 = s := by omega
      have hmw1_1 : ¬ s = w1.heap.size + 1 := by omega
      have hlw1_1 : s < w1.heap.size + 1 := by omega
      have hnw1_2 : ¬ w1.heap.size + 1 + 1 = s := by omega
      have hmw1_2 : ¬ s = w1.heap.size + 1 + 1 := by omega
      have hlw1_2 : s < w1.heap.size + 1 + 1 := by omega
      try simp only [szA] at hz1 c1 d1
      try simp only [szD] at hz1 c1 d1
      try simp only [szS] at hz1 c1 d1
      try simp only [World.heap_drewN] at hz1 c1 d1
      try simp only [szA] at hz1 c1 d1
      try simp only [szD] at hz1 c1 d1
      try simp only [szS] at hz1 c1 d1
      have s1_0 : w.heap.size < w1.heap.size := by omega
      have o1_0 := fun j => c1 (w.heap.size) j (by omega)
      have f1_0 := fun j => d1 (w.heap.size) j (by omega)
      have s1_1 : w.heap.size + 1 < w1.heap.size := by omega
      have o1_1 := fun j => c1 (w.heap.size + 1) j (by omega)
      have f1_1 := fun j => d1 (w.heap.size + 1) j (by omega)
      have s1_2 : w.heap.size + 1 + 1 < w1.heap.size := by omega
      have o1_2 := fun j => c1 (w.heap.size + 1 + 1) j (by omega)
      have f1_2 := fun j => d1 (w.heap.size + 1 + 1) j (by omega)
      clear c1 d1 hz1
      rw [frV_z, evl_0 H_hK.out]
      go_wp2_with fail
      refine bodyPost_ret (by simp [results, Tryz.results119, go_sem, *]; try rfl) rfl ?_
      exact ⟨by rw [← H_hv.out], by rw [← H_he'.out, evl_0 H_hK.out]; exact by repeat' (first | (with_reducible assumption) | (with_reducible exact But.refl (by assumption)) | (with_reducible refine But.drewN ?_) | (with_reducible refine But.alloc ?_ _) | (with_reducible refine But.drew ?_) | (with_reducible refine But.put (v := .nilIface) ?_ _) | (with_reducible refine But.setCell ?_ ?_ _) | omega | (simp <;> omega))⟩
    · have H_hK := Lib.hid hK
      clear hK
      go_enter Tryz.func119, Tryz.ntmps119
      go_wp2_with fail
      refine call_b2 (w := w) (s := s) (t := 158) (e0 := .nilIface) (by repeat' (first | (with_reducible assumption) | (with_reducible exact But.refl (by assumption)) | (with_reducible refine But.drewN ?_) | (with_reducible refine But.alloc ?_ _) | (with_reducible refine But.drew ?_) | (with_reducible refine But.setCell ?_ ?_ _) | omega | (simp <;> omega))) (fun HB => H_HF.out _ (H_hG.out.but HB hsg)) ?_
      intro w1 hb1 hz1 c1 d1 hW1
      have t1 := hb1.size
      have hs1 := hb1.here
      have hf1 := hb1.free
      have ha1 := hb1.at'
      have hl1 : s < w1.heap.size := Nat.lt_of_lt_of_le hb1.lt t1
      have hnw1_0 : ¬ w1.heap.size = s := by omega
      have hmw1_0 : ¬ s = w1.heap.size := by omega
      have hnw1_1 : ¬ w1.heap.size + 1 = s := by omega
      have hmw1_1 : ¬ s = w1.heap.size + 1 := by omega
      have hlw1_1 : s < w1.heap.size + 1 := by omega
      have hnw1_2 : ¬ w1.heap.size + 1 + 1 = s := by omega
      have hmw1_2 : ¬ s = w1.heap.size + 1 + 1 := by omega
      have hlw1_2 : s < w1.heap.size + 1 + 1 := by omega
      try simp only [szA] at hz1 c1 d1
      try simp only [szD] at hz1 c1 d1
      try simp only [szS] at hz1 c1 d1
      try simp only [World.heap_drewN] at hz1 c1 d1
      try simp only [szA] at hz1 c1 d1
      try simp only [szD] at hz1 c1 d1
      try simp only [szS] at hz1 c1 d1
      have s1_0 : w.heap.size < w1.heap.size := by omega
      have o1_0 := fun j => c1 (w.heap.size) j (by omega)
      have f1_0 := fun j => d1 (w.heap.size) j (by omega)
      have s1_1 : w.heap.size + 1 < w1.heap.size := by omega
      have o1_1 := fun j => c1 (w.heap.size + 1) j (by omega)
      have f1_1 := fun j => d1 (w.heap.size + 1) j (by omega)
      have s1_2 : w.heap.size + 1 + 1 < w1.heap.size := by omega
      have o1_2 := fun j => c1 (w.heap.size + 1 + 1) j (by omega)
      have f1_2 := fun j => d1 (w.heap.size + 1 + 1) j (by omega)
      clear c1 d1 hz1
      rw [frV_z, evl_n H_hK.out]
      go_wp2_with fail
      refine bodyPost_ret (by simp [results, Tryz.results119, go_sem, *]; try rfl) rfl ?_
      exact ⟨by rw [← H_hv.out], by rw [← H_he'.out, evl_n H_hK.out]; exact by repeat' (first | (with_reducible assumption) | (with_reducible exact But.refl (by assumption)) | (with_reducible refine But.drewN ?_) | (with_reducible refine But.alloc ?_ _) | (with_reducible refine But.drew ?_) | (with_reducible refine But.put (v := .nilIface) ?_ _) | (with_reducible refine But.setCell ?_ ?_ _) | omega | (simp <;> omega))⟩
  · rw [evl_n he] at hs0 hc
    rw [dE_n he] at he'
    rw [dV_n he] at hv
    subst he' hv
    rw [evl_n he]
    have hb0 := But.refl hs0
    have H_he := Lib.hid he
    clear he
    have H_hG := Lib.hid hG
    clear hG
    have H_HF := Lib.hid HF
    clear HF
    have H_hs0 := Lib.hid hs0
    clear hs0
    go_enter Tryz.func119, Tryz.ntmps119
    go_wp2_with fail
    refine bodyPost_ret (by simp [results, Tryz.results119, go_sem, *]; try rfl) rfl ?_
    exact ⟨rfl, by repeat' (first | (with_reducible assumption) | (with_reducible exact But.refl (by assumption)) | (with_reducible refine But.drewN ?_) | (with_reducible refine But.alloc ?_ _) | (with_reducible refine But.drew ?_) | (with_reducible refine But.setCell ?_ ?_ _) | omega | (simp <;> omega))⟩
set_option maxHeartbeats 2000000 in
theorem sdo_add (ea : Nat → Addr) (e K e' s : Nat) (a b x v : Fr) (w : World) (hv : dV e K x = v) (he' : dE e K = e')
    (HF : ∀ W, Gs gz ea W → Calls Tryz.prog 55 #[.agg #[.int .i64 a.n, .int .i64 a.d], .agg #[.int .i64 b.n, .int .i64 b.d]] W fun en W' => en = .returned (frV 308 ea K x.n x.d) ∧ Below W.heap.size W W')
    (hs0 : w.heap[s]? = some (.cells #[evl 308 ea e] 158 (0, 0))) (hsg : 20 ≤ s) (hG : Gs gz ea w) :
    Calls Tryz.prog 119 #[.pointer (some ⟨s, 0, none⟩), .func (.func 55) #[] #[], .agg #[.int .i64 a.n, .int .i64 a.d], .agg #[.int .i64 b.n, .int .i64 b.d]] w fun en w' => en = .returned (.agg #[.int .i64 v.n, .int .i64 v.d]) ∧ But s 158 (evl 308 ea e') w w' := by
  have hc := cell_of_one hs0
  have hf := free_of_one hs0
  have hl := lt_of_block hs0
  have hnw_0 : ¬ w.heap.size = s := by omega
  have hmw_0 : ¬ s = w.heap.size := by omega
  have hnw_1 : ¬ w.heap.size + 1 = s := by omega
  have hmw_1 : ¬ s = w.heap.size + 1 := by omega
  have hlw_1 : s < w.heap.size + 1 := by omega
  have hnw_2 : ¬ w.heap.size + 1 + 1 = s := by omega
  have hmw_2 : ¬ s = w.heap.size + 1 + 1 := by omega
  have hlw_2 : s < w.heap.size + 1 + 1 := by omega
  have hnw_3 : ¬ w.heap.size + 1 + 1 + 1 = s := by omega
  have hmw_3 : ¬ s = w.heap.size + 1 + 1 + 1 := by omega
  have hlw_3 : s < w.heap.size + 1 + 1 + 1 := by omega
  have hnw_4 : ¬ w.heap.size + 1 + 1 + 1 + 1 = s := by omega
  have hmw_4 : ¬ s = w.heap.size + 1 + 1 + 1 + 1 := by omega
  have hlw_4 : s < w.heap.size + 1 + 1 + 1 + 1 := by omega
  have hnw_5 : ¬ w.heap.size + 1 + 1 + 1 + 1 + 1 = s := by omega
  have hmw_5 : ¬ s = w.heap.size + 1 + 1 + 1 + 1 + 1 := by omega
  have hlw_5 : s < w.heap.size + 1 + 1 + 1 + 1 + 1 := by omega
  by_cases he : e = 0
  · rw [evl_0 he] at hs0 hc
    rw [dE_0 he] at he'
    rw [dV_0 he] at hv
    have hb0 := But.refl hs0
    have H_he := Lib.hid he
    clear he
    have H_hG := Lib.hid hG
    clear hG
    have H_HF := Lib.hid HF
    clear HF
    have H_he' := Lib.hid he'
    clear he'
    have H_hv := Lib.hid hv
    clear hv
    have H_hs0 := Lib.hid hs0
    clear hs0
    by_cases hK : K = 0
    · have H_hK := Lib.hid hK
      clear hK
      go_enter Tryz.func119, Tryz.ntmps119
      go_wp2_with fail
      refine call_b2 (w := w) (s := s) (t := 158) (e0 := .nilIface) (by repeat' (first | (with_reducible assumption) | (with_reducible exact But.refl (by assumption)) | (with_reducible refine But.drewN ?_) | (with_reducible refine But.alloc ?_ _) | (with_reducible refine But.drew ?_) | (with_reducible refine But.setCell ?_ ?_ _) | omega | (simp <;> omega))) (fun HB => H_HF.out _ (H_hG.out.but HB hsg)) ?_
      intro w1 hb1 hz1 c1 d1 hW1
      have t1 := hb1.size
      have hs1 := hb1.here
      have hf1 := hb1.free
      have ha1 := hb1.at'
      have hl1 : s < w1.heap.size := Nat.lt_of_lt_of_le hb1.lt t1
      have hnw1_0 : ¬ w1.heap.size = s := by omega
      have hmw1_0 : ¬ s = w1.heap.size := by omega
      have hnw1_1 : ¬ w1.heap.size + 1 = s := by omega
      have hmw1_1 : ¬ s = w1.heap.size + 1 := by omega
      have hlw1_1 : s < w1.heap.size + 1 := by omega
      have hnw1_2 : ¬ w1.heap.size + 1 + 1 = s := by omega
      have hmw1_2 : ¬ s = w1.heap.size + 1 + 1 := by omega
      have hlw1_2 : s < w1.heap.size + 1 + 1 := by omega
      try simp only [szA] at hz1 c1 d1
      try simp only [szD] at hz1 c1 d1
      try simp only [szS] at hz1 c1 d1
      try simp only [World.heap_drewN] at hz1 c1 d1
      try simp only [szA] at hz1 c1 d1
      try simp only [szD] at hz1 c1 d1
      try simp only [szS] at hz1 c1 d1
      have s1_0 : w.heap.size < w1.heap.size := by omega
      have o1_0 := fun j => c1 (w.heap.size) j (by omega)
      have f1_0 := fun j => d1 (w.heap.size) j (by omega)
      have s1_1 : w.heap.size + 1 < w1.heap.size := by omega
      have o1_1 := fun j => c1 (w.heap.size + 1) j (by omega)
      have f1_1 := fun j => d1 (w.heap.size + 1) j (by omega)
      have s1_2 : w.heap.size + 1 + 1 < w1.heap.size := by omega
      have o1_2 := fun j => c1 (w.heap.size + 1 + 1) j (by omega)
      have f1_2 := fun j => d1 (w.heap.size + 1 + 1) j (by omega)
      clear c1 d1 hz1
      rw [frV_z, evl_0 H_hK.out]
      go_wp2_with fail
      refine bodyPost_ret (by simp [results, Tryz.results119, go_sem, *]; try rfl) rfl ?_
      exact ⟨by rw [← H_hv.out], by rw [← H_he'.out, evl_0 H_hK.out]; exact by repeat' (first | (with_reducible assumption) | (with_reducible exact But.refl (by assumption)) | (with_reducible refine But.drewN ?_) | (with_reducible refine But.alloc ?_ _) | (with_reducible refine But.drew ?_) | (with_reducible refine But.put (v := .nilIface) ?_ _) | (with_reducible refine But.setCell ?_ ?_ _) | omega | (simp <;> omega))⟩
    · have H_hK := Lib.hid hK
      clear hK
      go_enter Tryz.func119, Tryz.ntmps119
      go_wp2_with fail
      refine call_b2 (w := w) (s := s) (t := 158) (e0 := .nilIface) (by repeat' (first | (with_reducible assumption) | (with_reducible exact But.refl (by assumption)) | (with_reducible refine But.drewN ?_) | (with_reducible refine But.alloc ?_ _) | (with_reducible refine But.drew ?_) | (with_reducible refine But.setCell ?_ ?_ _) | omega | (simp <;> omega))) (fun HB => H_HF.out _ (H_hG.out.but HB hsg)) ?_
      intro w1 hb1 hz1 c1 d1 hW1
      have t1 := hb1.size
      have hs1 := hb1.here
      have hf1 := hb1.free
      have ha1 := hb1.at'
      have hl1 : s < w1.heap.size := Nat.lt_of_lt_of_le hb1.lt t1
      have hnw1_0 : ¬ w1.heap.size = s := by omega
      have hmw1_0 : ¬ s = w1.heap.size := by omega
      have hnw1_1 : ¬ w1.heap.size + 1 = s := by omega
      have hmw1_1 : ¬ s = w1.heap.size + 1 := by omega
      have hlw1_1 : s < w1.heap.size + 1 := by omega
      have hnw1_2 : ¬ w1.heap.size + 1 + 1 = s := by omega
      have hmw1_2 : ¬ s = w1.heap.size + 1 + 1 := by omega
      have hlw1_2 : s < w1.heap.size + 1 + 1 := by omega
      try simp only [szA] at hz1 c1 d1
      try simp only [szD] at hz1 c1 d1
      try simp only [szS] at hz1 c1 d1
      try simp only [World.heap_drewN] at hz1 c1 d1
      try simp only [szA] at hz1 c1 d1
      try simp only [szD] at hz1 c1 d1
      try simp only [szS] at hz1 c1 d1
      have s1_0 : w.heap.size < w1.heap.size := by omega
      have o1_0 := fun j => c1 (w.heap.size) j (by omega)
      have f1_0 := fun j => d1 (w.heap.size) j (by omega)
      have s1_1 : w.heap.size + 1 < w1.heap.size := by omega
      have o1_1 := fun j => c1 (w.heap.size + 1) j (by omega)
      have f1_1 := fun j => d1 (w.heap.size + 1) j (by omega)
      have s1_2 : w.heap.size + 1 + 1 < w1.heap.size := by omega
      have o1_2 := fun j => c1 (w.heap.size + 1 + 1) j (by omega)
      have f1_2 := fun j => d1 (w.heap.size + 1 + 1) j (by omega)
      clear c1 d1 hz1
      rw [frV_z, evl_n H_hK.out]
      go_wp2_with fail
      refine bodyPost_ret (by simp [results, Tryz.results119, go_sem, *]; try rfl) rfl ?_
      exact ⟨by rw [← H_hv.out], by rw [← H_he'.out, evl_n H_hK.out]; exact by repeat' (first | (with_reducible assumption) | (with_reducible exact But.refl (by assumption)) | (with_reducible refine But.drewN ?_) | (with_reducible refine But.alloc ?_ _) | (with_reducible refine But.drew ?_) | (with_reducible refine But.put (v := .nilIface) ?_ _) | (with_reducible refine But.setCell ?_ ?_ _) | omega | (simp <;> omega))⟩
  · rw [evl_n he] at hs0 hc
    rw [dE_n he] at he'
    rw [dV_n he] at hv
    subst he' hv
    rw [evl_n he]
    have hb0 := But.refl hs0
    have H_he := Lib.hid he
    clear he
    have H_hG := Lib.hid hG
    clear hG
    have H_HF := Lib.hid HF
    clear HF
    have H_hs0 := Lib.hid hs0
    clear hs0
    go_enter Tryz.func119, Tryz.ntmps119
    go_wp2_with fail
    refine bodyPost_ret (by simp [results, Tryz.results119, go_sem, *]; try rfl) rfl ?_
    exact ⟨rfl, by repeat' (first | (with_reducible assumption) | (with_reducible exact But.refl (by assumption)) | (with_reducible refine But.drewN ?_) | (with_reducible refine But.alloc ?_ _) | (with_reducible refine But.drew ?_) | (with_reducible refine But.setCell ?_ ?_ _) | omega | (simp <;> omega))⟩
end Go.Proofs.YtpdaenldmgpkjaaGreatDoor
