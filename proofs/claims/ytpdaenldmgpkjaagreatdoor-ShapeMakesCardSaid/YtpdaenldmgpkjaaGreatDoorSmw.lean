/-
  Walks over the document's answer to chapter 7: MovedOf.
-/
import Derived.Test.YtpdaenldmgpkjaaGreatDoorSmA
namespace Go.Proofs.YtpdaenldmgpkjaaGreatDoor
open Go.RowKit Lead
theorem res_moved (tmps : Array Value) (w0 : World) (g : Nat) (v x y : Value) (h4 : tmps[4]?.getD undef = v) (h5 : tmps[5]?.getD undef = .pointer (some ⟨g, 0, none⟩)) (hc : ∀ j, w0.cell? ⟨g, j, none⟩ = (#[x, y] : Array Value)[j]?) :
    (results Tryz.f29 tmps).run Tryz.prog w0 = .ok (.tuple #[v, .agg #[x, y]]) w0 := by
  simp [results, Tryz.results29, go_sem, h4, h5, hc]
set_option maxHeartbeats 4000000 in
set_option maxRecDepth 100000 in
theorem rmoved_any (m : Mv) (ps : List Pt) (oa : Option Addr) (len cap : Nat) (w : World) (hm : m.R) (hs : SlP w oa len cap ps) (h2 : shC ps = (0, none)) :
    Calls Tryz.prog 29 #[.slice oa len cap, .agg #[.int .i64 m.A.n, .int .i64 m.A.d, .int .i64 m.B.n, .int .i64 m.B.d, .int .i64 m.C.n, .int .i64 m.C.d, .int .i64 m.D.n, .int .i64 m.D.d, .int .i64 m.E.n, .int .i64 m.E.d, .int .i64 m.F.n, .int .i64 m.F.d]] w (RetPF 102 (movF m ps 0) (if movF m ps 0 = (0, none) then ps.map (mvPt m) else []) w) := by
  obtain ⟨h30, _, hall⟩ := shC_ok h2
  have hl := hs.1
  have hm30 : len ≤ 30 := by omega
  obtain ⟨cF, hcF⟩ : ∃ u, movF m ps 0 = u := ⟨_, rfl⟩
  obtain ⟨i0, hi, hz0, hz1, hz2⟩ := info_parts info26
  rw [hcF]
  obtain ⟨cL, hcL⟩ : ∃ u, (if cF = (0, none) then ps.map (mvPt m) else []) = u := ⟨_, rfl⟩
  rw [hcL]
  have hL0 : cF = (0, none) → cL = ps.map (mvPt m) := fun h => by rw [← hcL, if_pos h]
  have hL1 : ∀ k : Nat, cF = (2, some k) → cL = [] := fun k h => by rw [← hcL, h, if_neg (by simp)]
  clear hcL
  have hp := hs.2.2.2.2
  have H_hm := Lib.hid hm
  clear hm
  have H_h2 := Lib.hid h2
  clear h2
  have H_hs := Lib.hid hs
  clear hs
  have H_hall := Lib.hid hall
  clear hall
  have H_hl := Lib.hid hl
  clear hl
  have H_hi := Lib.hid hi
  clear hi
  have H_hz0 := Lib.hid hz0
  clear hz0
  have H_hz1 := Lib.hid hz1
  clear hz1
  have H_hz2 := Lib.hid hz2
  clear hz2
  have H_h30 := Lib.hid h30
  clear h30
  have H_hcF := Lib.hid hcF
  clear hcF
  have H_hp := Lib.hid hp
  clear hp
  have H_hL0 := Lib.hid hL0
  clear hL0
  have H_hL1 := Lib.hid hL1
  clear hL1
  go_enter Tryz.func29, Tryz.ntmps29
  go_wp2_with fail
  obtain ⟨w1, hw1⟩ : ∃ u, (w.alloc (.cells #[.int .i64 m.A.n, .int .i64 m.A.d, .int .i64 m.B.n, .int .i64 m.B.d, .int .i64 m.C.n, .int .i64 m.C.d, .int .i64 m.D.n, .int .i64 m.D.d, .int .i64 m.E.n, .int .i64 m.E.d, .int .i64 m.F.n, .int .i64 m.F.d] 52)).alloc (.cells #[.int .i64 0, .int .i64 0] 36) = u := ⟨_, rfl⟩
  have hB1 : Below w.heap.size w w1 := by rw [← hw1]; exact ((Below.refl _ w).alloc (Nat.le_refl _) _).alloc (by simp) _
  have ls1 : w1.heap.size = w.heap.size + 2 := by rw [← hw1]; simp
  have p0 : ∀ j, w1.cell? ⟨w.heap.size, j, none⟩ = #[.int .i64 m.A.n, .int .i64 m.A.d, .int .i64 m.B.n, .int .i64 m.B.d, .int .i64 m.C.n, .int .i64 m.C.d, .int .i64 m.D.n, .int .i64 m.D.d, .int .i64 m.E.n, .int .i64 m.E.d, .int .i64 m.F.n, .int .i64 m.F.d][j]? := fun j => by rw [← hw1, World.cell?_alloc_past _ _ _ (by simp), World.cell?_alloc_at _ _ _ _ rfl]
  have p1 : ∀ j, w1.cell? ⟨w.heap.size + 1, j, none⟩ = #[Value.int .i64 0, .int .i64 0][j]? := fun j => by rw [← hw1, World.cell?_alloc_at _ _ _ _ (by simp)]
  have k1 : ∀ j, w1.frozen? ⟨w.heap.size + 1, j, none⟩ = false := fun j => by rw [← hw1, World.frozen?_alloc_at _ _ _ _ (by simp)]
  rw [hw1]
  clear hw1
  have H_ls1 := Lib.hid ls1
  clear ls1
  go_loopw [6, 7] (fun t6 t7 wr => ∃ (k : Nat) (v6 : Value), k ≤ len ∧ t7 = .int .i64 k ∧ t6 = v6 ∧ cF = movF m (ps.drop k) k ∧ RowKit.Hid (OwnR EPt wr w1.heap.size 102 v6 ((ps.take k).map (mvPt m))) ∧ Below w1.heap.size w1 wr) (fun _ t7 _ => len - (intOf t7).toNat)
  case atStart => exact ⟨0, _, Nat.zero_le _, rfl, rfl, H_hcF.out.symm, Lib.hid (OwnR.nil _ _ _ _), Below.refl _ _⟩
  case round =>
    obtain ⟨k, v6, hk, rfl, rfl, hfb, H_own, hB⟩ := hrel
    have z0 : w.heap.size < w1.heap.size := by rw [H_ls1.out]; omega
    have z1 : w.heap.size + 1 < w1.heap.size := by rw [H_ls1.out]; omega
    have hBr : Below w.heap.size w wr := hB1.trans (hB.mono (Nat.le_of_lt z0))
    have r1 := fun j => (hB.cell (p := ⟨w.heap.size + 1, j, none⟩) z1).trans (p1 j)
    have n1 := fun j => (hB.frozen (p := ⟨w.heap.size + 1, j, none⟩) z1).trans (k1 j)
    have y1 : w.heap.size + 1 < wr.heap.size := Nat.lt_of_lt_of_le z1 hB.size
    by_cases hlt : k < len
    · have hk' : k < ps.length := by have := H_hl.out; omega
      obtain ⟨b, off, rfl, hbl, hpt⟩ := H_hp.out.resolve_left (by rintro ⟨_, h, _⟩; omega)
      have hpk := H_hall.out _ (List.getElem_mem hk')
      have hst := movF_step (m := m) hk'
      have hhit := movF_hit (m := m) hk'
      have htk := take_map (mvPt m) hk'
      have hQ : ∀ W, Below wr.heap.size wr W → (∀ j, W.cell? ⟨w.heap.size, j, none⟩ = #[.int .i64 m.A.n, .int .i64 m.A.d, .int .i64 m.B.n, .int .i64 m.B.d, .int .i64 m.C.n, .int .i64 m.C.d, .int .i64 m.D.n, .int .i64 m.D.d, .int .i64 m.E.n, .int .i64 m.E.d, .int .i64 m.F.n, .int .i64 m.F.d][j]?) ∧ W.cell? ⟨b, off + k * 4, none⟩ = some (.int .i64 ps[k].xn) ∧ W.cell? ⟨b, off + k * 4 + 1, none⟩ = some (.int .i64 ps[k].xd) ∧ W.cell? ⟨b, off + k * 4 + 2, none⟩ = some (.int .i64 ps[k].yn) ∧ W.cell? ⟨b, off + k * 4 + 3, none⟩ = some (.int .i64 ps[k].yd) := fun W hW =>
        have hc : Below w1.heap.size w1 W := below_via hB hW
        have hd : Below w.heap.size w W := below_via hBr hW
        ⟨fun j => (hc.cell (p := ⟨w.heap.size, j, none⟩) z0).trans (p0 j), gkeep hd (hpt.c0 k hk') rfl, gkeep hd (hpt.c1 k hk') rfl, gkeep hd (hpt.c2 k hk') rfl, gkeep hd (hpt.c3 k hk') rfl⟩
      have hpR : (ps[k]).R := ⟨hpk.x, hpk.y⟩
      obtain ⟨p, hpp⟩ : ∃ p, ps[k] = p := ⟨_, rfl⟩
      rw [hpp] at hst hhit htk hpk hpR
      simp only [hpp] at hQ
      obtain ⟨q, hq⟩ : ∃ u, goV m p = u := ⟨_, rfl⟩
      obtain ⟨ok, hok⟩ : ∃ u, goB m p = u := ⟨_, rfl⟩
      have hqI : q.I := by
        rw [← hq]; unfold goV
        split
        · have tX : (toX 0 m p).I := dotV_I _ _ _ _ _ _
          have tY : (toY 0 m p).I := dotV_I _ _ _ _ _ _
          exact ⟨tX.n, tX.d, tY.n, tY.d⟩
        · exact ⟨by unfold I64; decide, by unfold I64; decide, by unfold I64; decide, by unfold I64; decide⟩
      clear hpp
      have H_hst := Lib.hid hst
      clear hst
      have H_hhit := Lib.hid hhit
      clear hhit
      have H_htk := Lib.hid htk
      clear htk
      have H_hpk := Lib.hid hpk
      clear hpk
      have H_hpR := Lib.hid hpR
      clear hpR
      have H_hQ := Lib.hid hQ
      clear hQ
      have H_hq := Lib.hid hq
      clear hq
      have H_hok := Lib.hid hok
      clear hok
      have H_hqI := Lib.hid hqI
      clear hqI
      have H_hfb := Lib.hid hfb
      clear hfb
      have H_hpt := Lib.hid hpt
      clear hpt
      go_upto_region 5 with fail
      go_cut [8, 9] (fun s8 s9 wx => MadeP wr #[.int .i64 q.xn, .int .i64 q.xd, .int .i64 q.yn, .int .i64 q.yd] s8 wx ∧ s9 = .bool ok)
      case first =>
        refine wp_region_held_drew (S := fun W => Below wr.heap.size wr W) (by kernel_rfl) (by repeat' (first | (with_reducible first | exact bwR _ _ | assumption | refine bdn ?_ | refine bwA ?_ ?_ _ | refine bwD ?_ | refine bwS ?_ ?_ _) | omega | (simp <;> omega))) (fun hHeld => ?_)
        generalize wr.drew = wg at hHeld ⊢
        have hgs := hHeld.size
        first
          | (refine wpAnyH_take (i := 0) (v := ?_) rfl (by kernel_rfl) (by kernel_rfl) (by kernel_rfl) (fun _ _ _ h => h) (Or.inl ⟨by rfl, ?_⟩) (by assumption) ?_
             rotate_left
             · (intro W hW; obtain ⟨c0, x0, x1, x2, x3⟩ := H_hQ.out W hW; go_simp; try (with_reducible rfl)))
          | (refine wpAnyH_take (i := 0) (v := undef) rfl (by kernel_rfl) (by kernel_rfl) (by kernel_rfl) (fun _ _ _ h => h) (Or.inr ⟨by rfl, rfl⟩) (by assumption) ?_)
        try simp only [List.getElem_toArray, List.getElem_cons_zero, List.getElem_cons_succ, Act.put, List.setIfInBounds_toArray, List.set_cons_zero, List.set_cons_succ]
        first
          | (refine wpAnyH_take (i := 1) (v := ?_) rfl (by kernel_rfl) (by kernel_rfl) (by kernel_rfl) (fun _ _ _ h => h) (Or.inl ⟨by rfl, ?_⟩) (by assumption) ?_
             rotate_left
             · (intro W hW; obtain ⟨c0, x0, x1, x2, x3⟩ := H_hQ.out W hW; go_simp; try (with_reducible rfl)))
          | (refine wpAnyH_take (i := 1) (v := undef) rfl (by kernel_rfl) (by kernel_rfl) (by kernel_rfl) (fun _ _ _ h => h) (Or.inr ⟨by rfl, rfl⟩) (by assumption) ?_)
        try simp only [List.getElem_toArray, List.getElem_cons_zero, List.getElem_cons_succ, Act.put, List.setIfInBounds_toArray, List.set_cons_zero, List.set_cons_succ]
        first
          | (refine wpAnyH_take (i := 2) (v := ?_) rfl (by kernel_rfl) (by kernel_rfl) (by kernel_rfl) (fun _ _ _ h => h) (Or.inl ⟨by rfl, ?_⟩) (by assumption) ?_
             rotate_left
             · (intro W hW; obtain ⟨c0, x0, x1, x2, x3⟩ := H_hQ.out W hW; go_simp; try (with_reducible rfl)))
          | (refine wpAnyH_take (i := 2) (v := undef) rfl (by kernel_rfl) (by kernel_rfl) (by kernel_rfl) (fun _ _ _ h => h) (Or.inr ⟨by rfl, rfl⟩) (by assumption) ?_)
        try simp only [List.getElem_toArray, List.getElem_cons_zero, List.getElem_cons_succ, Act.put, List.setIfInBounds_toArray, List.set_cons_zero, List.set_cons_succ]
        first
          | (refine wpAnyH_take (i := 3) (v := ?_) rfl (by kernel_rfl) (by kernel_rfl) (by kernel_rfl) (fun _ _ _ h => h) (Or.inl ⟨by rfl, ?_⟩) (by assumption) ?_
             rotate_left
             · (intro W hW; obtain ⟨c0, x0, x1, x2, x3⟩ := H_hQ.out W hW; go_simp; try (with_reducible rfl)))
          | (refine wpAnyH_take (i := 3) (v := undef) rfl (by kernel_rfl) (by kernel_rfl) (by kernel_rfl) (fun _ _ _ h => h) (Or.inr ⟨by rfl, rfl⟩) (by assumption) ?_)
        try simp only [List.getElem_toArray, List.getElem_cons_zero, List.getElem_cons_succ, Act.put, List.setIfInBounds_toArray, List.set_cons_zero, List.set_cons_succ]
        first
          | (refine wpAnyH_take (i := 4) (v := ?_) rfl (by kernel_rfl) (by kernel_rfl) (by kernel_rfl) (fun _ _ _ h => h) (Or.inl ⟨by rfl, ?_⟩) (by assumption) ?_
             rotate_left
             · (intro W hW; obtain ⟨c0, x0, x1, x2, x3⟩ := H_hQ.out W hW; go_simp; try (with_reducible rfl)))
          | (refine wpAnyH_take (i := 4) (v := undef) rfl (by kernel_rfl) (by kernel_rfl) (by kernel_rfl) (fun _ _ _ h => h) (Or.inr ⟨by rfl, rfl⟩) (by assumption) ?_)
        try simp only [List.getElem_toArray, List.getElem_cons_zero, List.getElem_cons_succ, Act.put, List.setIfInBounds_toArray, List.set_cons_zero, List.set_cons_succ]
        refine wpAnyH_ready (rs := [5, 9]) (by kernel_rfl) (by simp) ?_
        refine AllReadyH.cons rfl (fun K hK => ?_) (AllReadyH.cons rfl (fun K hK => ?_) AllReadyH.nil)
        · go_simp
          go_at_call 62
          refine (rgoes_any m p q ok _ H_hm.out H_hpR.out H_hq.out H_hok.out).mono ?_
          rintro _ wy ⟨rfl, hby⟩
          have hO : Below wr.heap.size wr wy := below_via hHeld hby
          have hys := hO.size
          clear hHeld
          refine hK.out _ _ hO (fun hHeld => ?_)
          clear hK K
          try simp only [List.getElem_toArray, List.getElem_cons_zero, List.getElem_cons_succ, Act.put, List.setIfInBounds_toArray, List.set_cons_zero, List.set_cons_succ]
          first
            | (refine wpAnyH_take (i := 6) (v := ?_) rfl (by kernel_rfl) (by kernel_rfl) (by kernel_rfl) (fun _ _ _ h => h) (Or.inl ⟨by rfl, ?_⟩) (by assumption) ?_
               rotate_left
               · (intro W hW; obtain ⟨c0, x0, x1, x2, x3⟩ := H_hQ.out W hW; go_simp; try (with_reducible rfl)))
            | (refine wpAnyH_take (i := 6) (v := undef) rfl (by kernel_rfl) (by kernel_rfl) (by kernel_rfl) (fun _ _ _ h => h) (Or.inr ⟨by rfl, rfl⟩) (by assumption) ?_)
          try simp only [List.getElem_toArray, List.getElem_cons_zero, List.getElem_cons_succ, Act.put, List.setIfInBounds_toArray, List.set_cons_zero, List.set_cons_succ]
          first
            | (refine wpAnyH_take (i := 7) (v := ?_) rfl (by kernel_rfl) (by kernel_rfl) (by kernel_rfl) (fun _ _ _ h => h) (Or.inl ⟨by rfl, ?_⟩) (by assumption) ?_
               rotate_left
               · (intro W hW; obtain ⟨c0, x0, x1, x2, x3⟩ := H_hQ.out W hW; go_simp; try (with_reducible rfl)))
            | (refine wpAnyH_take (i := 7) (v := undef) rfl (by kernel_rfl) (by kernel_rfl) (by kernel_rfl) (fun _ _ _ h => h) (Or.inr ⟨by rfl, rfl⟩) (by assumption) ?_)
          try simp only [List.getElem_toArray, List.getElem_cons_zero, List.getElem_cons_succ, Act.put, List.setIfInBounds_toArray, List.set_cons_zero, List.set_cons_succ]
          refine wpAnyH_ready (rs := [8, 9]) (by kernel_rfl) (by simp) ?_
          refine AllReadyH.cons rfl (fun K hK => ?_) (AllReadyH.cons rfl (fun K hK => ?_) AllReadyH.nil)
          · go_simp
            refine hK.out _ _ (by repeat' (first | (with_reducible first | exact bwR _ _ | assumption | refine bdn ?_ | refine bwA ?_ ?_ _ | refine bwD ?_ | refine bwS ?_ ?_ _) | omega | (simp <;> omega))) (fun hHeld => ?_)
            clear hK K
            try simp only [List.getElem_toArray, List.getElem_cons_zero, List.getElem_cons_succ, Act.put, List.setIfInBounds_toArray, List.set_cons_zero, List.set_cons_succ]
            refine wpAnyH_ready (rs := [9]) (by kernel_rfl) (by simp) ?_
            refine AllReadyH.cons rfl (fun K hK => ?_) AllReadyH.nil
            go_simp
            refine hK.out _ _ (by repeat' (first | (with_reducible first | exact bwR _ _ | assumption | refine bdn ?_ | refine bwA ?_ ?_ _ | refine bwD ?_ | refine bwS ?_ ?_ _) | omega | (simp <;> omega))) (fun hHeld => ?_)
            clear hK K
            try simp only [List.getElem_toArray, List.getElem_cons_zero, List.getElem_cons_succ, Act.put, List.setIfInBounds_toArray, List.set_cons_zero, List.set_cons_succ]
            refine wpAnyH_ready (rs := [10]) (by kernel_rfl) (by simp) ?_
            refine AllReadyH.cons rfl (fun K hK => ?_) AllReadyH.nil
            go_simp
            refine hK.out _ _ (by repeat' (first | (with_reducible first | exact bwR _ _ | assumption | refine bdn ?_ | refine bwA ?_ ?_ _ | refine bwD ?_ | refine bwS ?_ ?_ _) | omega | (simp <;> omega))) (fun hHeld => ?_)
            clear hK K
            try simp only [List.getElem_toArray, List.getElem_cons_zero, List.getElem_cons_succ, Act.put, List.setIfInBounds_toArray, List.set_cons_zero, List.set_cons_succ]
            first
              | (refine wpAnyH_take (i := 11) (v := ?_) rfl (by kernel_rfl) (by kernel_rfl) (by kernel_rfl) (fun _ _ _ h => h) (Or.inl ⟨by rfl, ?_⟩) (by assumption) ?_
                 rotate_left
                 · (intro W hW; obtain ⟨c0, x0, x1, x2, x3⟩ := H_hQ.out W hW; go_simp; try (with_reducible rfl)))
              | (refine wpAnyH_take (i := 11) (v := undef) rfl (by kernel_rfl) (by kernel_rfl) (by kernel_rfl) (fun _ _ _ h => h) (Or.inr ⟨by rfl, rfl⟩) (by assumption) ?_)
            try simp only [List.getElem_toArray, List.getElem_cons_zero, List.getElem_cons_succ, Act.put, List.setIfInBounds_toArray, List.set_cons_zero, List.set_cons_succ]
            refine wpAnyH_done (by kernel_rfl) ?_ _
            go_wp2_with fail
            go_meet
            exact ⟨madeP_last hO _, rfl⟩
          · go_simp
            refine hK.out _ _ (by repeat' (first | (with_reducible first | exact bwR _ _ | assumption | refine bdn ?_ | refine bwA ?_ ?_ _ | refine bwD ?_ | refine bwS ?_ ?_ _) | omega | (simp <;> omega))) (fun hHeld => ?_)
            clear hK K
            try simp only [List.getElem_toArray, List.getElem_cons_zero, List.getElem_cons_succ, Act.put, List.setIfInBounds_toArray, List.set_cons_zero, List.set_cons_succ]
            refine wpAnyH_ready (rs := [8, 10]) (by kernel_rfl) (by simp) ?_
            refine AllReadyH.cons rfl (fun K hK => ?_) (AllReadyH.cons rfl (fun K hK => ?_) AllReadyH.nil)
            · go_simp
              refine hK.out _ _ (by repeat' (first | (with_reducible first | exact bwR _ _ | assumption | refine bdn ?_ | refine bwA ?_ ?_ _ | refine bwD ?_ | refine bwS ?_ ?_ _) | omega | (simp <;> omega))) (fun hHeld => ?_)
              clear hK K
              try simp only [List.getElem_toArray, List.getElem_cons_zero, List.getElem_cons_succ, Act.put, List.setIfInBounds_toArray, List.set_cons_zero, List.set_cons_succ]
              refine wpAnyH_ready (rs := [10]) (by kernel_rfl) (by simp) ?_
              refine AllReadyH.cons rfl (fun K hK => ?_) AllReadyH.nil
              go_simp
              refine hK.out _ _ (by repeat' (first | (with_reducible first | exact bwR _ _ | assumption | refine bdn ?_ | refine bwA ?_ ?_ _ | refine bwD ?_ | refine bwS ?_ ?_ _) | omega | (simp <;> omega))) (fun hHeld => ?_)
              clear hK K
              try simp only [List.getElem_toArray, List.getElem_cons_zero, List.getElem_cons_succ, Act.put, List.setIfInBounds_toArray, List.set_cons_zero, List.set_cons_succ]
              first
                | (refine wpAnyH_take (i := 11) (v := ?_) rfl (by kernel_rfl) (by kernel_rfl) (by kernel_rfl) (fun _ _ _ h => h) (Or.inl ⟨by rfl, ?_⟩) (by assumption) ?_
                   rotate_left
                   · (intro W hW; obtain ⟨c0, x0, x1, x2, x3⟩ := H_hQ.out W hW; go_simp; try (with_reducible rfl)))
                | (refine wpAnyH_take (i := 11) (v := undef) rfl (by kernel_rfl) (by kernel_rfl) (by kernel_rfl) (fun _ _ _ h => h) (Or.inr ⟨by rfl, rfl⟩) (by assumption) ?_)
              try simp only [List.getElem_toArray, List.getElem_cons_zero, List.getElem_cons_succ, Act.put, List.setIfInBounds_toArray, List.set_cons_zero, List.set_cons_succ]
              refine wpAnyH_done (by kernel_rfl) ?_ _
              go_wp2_with fail
              go_meet
              exact ⟨madeP_last hO _, rfl⟩
            · go_simp
              refine hK.out _ _ (by repeat' (first | (with_reducible first | exact bwR _ _ | assumption | refine bdn ?_ | refine bwA ?_ ?_ _ | refine bwD ?_ | refine bwS ?_ ?_ _) | omega | (simp <;> omega))) (fun hHeld => ?_)
              clear hK K
              try simp only [List.getElem_toArray, List.getElem_cons_zero, List.getElem_cons_succ, Act.put, List.setIfInBounds_toArray, List.set_cons_zero, List.set_cons_succ]
              refine wpAnyH_ready (rs := [8]) (by kernel_rfl) (by simp) ?_
              refine AllReadyH.cons rfl (fun K hK => ?_) AllReadyH.nil
              go_simp
              refine hK.out _ _ (by repeat' (first | (with_reducible first | exact bwR _ _ | assumption | refine bdn ?_ | refine bwA ?_ ?_ _ | refine bwD ?_ | refine bwS ?_ ?_ _) | omega | (simp <;> omega))) (fun hHeld => ?_)
              clear hK K
              try simp only [List.getElem_toArray, List.getElem_cons_zero, List.getElem_cons_succ, Act.put, List.setIfInBounds_toArray, List.set_cons_zero, List.set_cons_succ]
              first
                | (refine wpAnyH_take (i := 11) (v := ?_) rfl (by kernel_rfl) (by kernel_rfl) (by kernel_rfl) (fun _ _ _ h => h) (Or.inl ⟨by rfl, ?_⟩) (by assumption) ?_
                   rotate_left
                   · (intro W hW; obtain ⟨c0, x0, x1, x2, x3⟩ := H_hQ.out W hW; go_simp; try (with_reducible rfl)))
                | (refine wpAnyH_take (i := 11) (v := undef) rfl (by kernel_rfl) (by kernel_rfl) (by kernel_rfl) (fun _ _ _ h => h) (Or.inr ⟨by rfl, rfl⟩) (by assumption) ?_)
              try simp only [List.getElem_toArray, List.getElem_cons_zero, List.getElem_cons_succ, Act.put, List.setIfInBounds_toArray, List.set_cons_zero, List.set_cons_succ]
              refine wpAnyH_done (by kernel_rfl) ?_ _
              go_wp2_with fail
              go_meet
              exact ⟨madeP_last hO _, rfl⟩
        · have hG := hHeld
          go_simp
          refine hK.out _ _ (by repeat' (first | (with_reducible first | exact bwR _ _ | assumption | refine bdn ?_ | refine bwA ?_ ?_ _ | refine bwD ?_ | refine bwS ?_ ?_ _) | omega | (simp <;> omega))) (fun hHeld => ?_)
          clear hK K
          try simp only [List.getElem_toArray, List.getElem_cons_zero, List.getElem_cons_succ, Act.put, List.setIfInBounds_toArray, List.set_cons_zero, List.set_cons_succ]
          refine wpAnyH_ready (rs := [5]) (by kernel_rfl) (by simp) ?_
          refine AllReadyH.cons rfl (fun K hK => ?_) AllReadyH.nil
          go_simp
          go_at_call 62
          refine (rgoes_any m p q ok _ H_hm.out H_hpR.out H_hq.out H_hok.out).mono ?_
          rintro _ wy ⟨rfl, hby⟩
          have hO : Below wr.heap.size wr wy := below_via hHeld hby
          have hys := hO.size
          clear hHeld
          refine hK.out _ _ hO (fun hHeld => ?_)
          clear hK K
          try simp only [List.getElem_toArray, List.getElem_cons_zero, List.getElem_cons_succ, Act.put, List.setIfInBounds_toArray, List.set_cons_zero, List.set_cons_succ]
          have g9 := fun j => (hby.cell (p := ⟨wg.heap.size, j, none⟩) (by simp)).trans (World.cell?_alloc_new _ _ _ _)
          have f9 : ∀ j, wy.frozen? ⟨wg.heap.size, j, none⟩ = false := fun j => (hby.frozen (p := ⟨wg.heap.size, j, none⟩) (by simp)).trans (World.frozen?_alloc_at _ _ _ _ rfl)
          first
            | (refine wpAnyH_take (i := 6) (v := ?_) rfl (by kernel_rfl) (by kernel_rfl) (by kernel_rfl) (fun _ _ _ h => h) (Or.inl ⟨by rfl, ?_⟩) (by assumption) ?_
               rotate_left
               · (intro W hW; obtain ⟨c0, x0, x1, x2, x3⟩ := H_hQ.out W hW; go_simp; try (with_reducible rfl)))
            | (refine wpAnyH_take (i := 6) (v := undef) rfl (by kernel_rfl) (by kernel_rfl) (by kernel_rfl) (fun _ _ _ h => h) (Or.inr ⟨by rfl, rfl⟩) (by assumption) ?_)
          try simp only [List.getElem_toArray, List.getElem_cons_zero, List.getElem_cons_succ, Act.put, List.setIfInBounds_toArray, List.set_cons_zero, List.set_cons_succ]
          first
            | (refine wpAnyH_take (i := 7) (v := ?_) rfl (by kernel_rfl) (by kernel_rfl) (by kernel_rfl) (fun _ _ _ h => h) (Or.inl ⟨by rfl, ?_⟩) (by assumption) ?_
               rotate_left
               · (intro W hW; obtain ⟨c0, x0, x1, x2, x3⟩ := H_hQ.out W hW; go_simp; try (with_reducible rfl)))
            | (refine wpAnyH_take (i := 7) (v := undef) rfl (by kernel_rfl) (by kernel_rfl) (by kernel_rfl) (fun _ _ _ h => h) (Or.inr ⟨by rfl, rfl⟩) (by assumption) ?_)
          try simp only [List.getElem_toArray, List.getElem_cons_zero, List.getElem_cons_succ, Act.put, List.setIfInBounds_toArray, List.set_cons_zero, List.set_cons_succ]
          refine wpAnyH_ready (rs := [8, 10]) (by kernel_rfl) (by simp) ?_
          refine AllReadyH.cons rfl (fun K hK => ?_) (AllReadyH.cons rfl (fun K hK => ?_) AllReadyH.nil)
          · go_simp
            refine hK.out _ _ (by repeat' (first | (with_reducible first | exact bwR _ _ | assumption | refine bdn ?_ | refine bwA ?_ ?_ _ | refine bwD ?_ | refine bwS ?_ ?_ _) | omega | (simp <;> omega))) (fun hHeld => ?_)
            clear hK K
            try simp only [List.getElem_toArray, List.getElem_cons_zero, List.getElem_cons_succ, Act.put, List.setIfInBounds_toArray, List.set_cons_zero, List.set_cons_succ]
            refine wpAnyH_ready (rs := [10]) (by kernel_rfl) (by simp) ?_
            refine AllReadyH.cons rfl (fun K hK => ?_) AllReadyH.nil
            go_simp
            refine hK.out _ _ (by repeat' (first | (with_reducible first | exact bwR _ _ | assumption | refine bdn ?_ | refine bwA ?_ ?_ _ | refine bwD ?_ | refine bwS ?_ ?_ _) | omega | (simp <;> omega))) (fun hHeld => ?_)
            clear hK K
            try simp only [List.getElem_toArray, List.getElem_cons_zero, List.getElem_cons_succ, Act.put, List.setIfInBounds_toArray, List.set_cons_zero, List.set_cons_succ]
            first
              | (refine wpAnyH_take (i := 11) (v := ?_) rfl (by kernel_rfl) (by kernel_rfl) (by kernel_rfl) (fun _ _ _ h => h) (Or.inl ⟨by rfl, ?_⟩) (by assumption) ?_
                 rotate_left
                 · (intro W hW; obtain ⟨c0, x0, x1, x2, x3⟩ := H_hQ.out W hW; go_simp; try (with_reducible rfl)))
              | (refine wpAnyH_take (i := 11) (v := undef) rfl (by kernel_rfl) (by kernel_rfl) (by kernel_rfl) (fun _ _ _ h => h) (Or.inr ⟨by rfl, rfl⟩) (by assumption) ?_)
            try simp only [List.getElem_toArray, List.getElem_cons_zero, List.getElem_cons_succ, Act.put, List.setIfInBounds_toArray, List.set_cons_zero, List.set_cons_succ]
            refine wpAnyH_done (by kernel_rfl) ?_ _
            go_wp2_with fail
            go_meet
            exact ⟨made4_first hG hby _ _ _ _, rfl⟩
          · go_simp
            refine hK.out _ _ (by repeat' (first | (with_reducible first | exact bwR _ _ | assumption | refine bdn ?_ | refine bwA ?_ ?_ _ | refine bwD ?_ | refine bwS ?_ ?_ _) | omega | (simp <;> omega))) (fun hHeld => ?_)
            clear hK K
            try simp only [List.getElem_toArray, List.getElem_cons_zero, List.getElem_cons_succ, Act.put, List.setIfInBounds_toArray, List.set_cons_zero, List.set_cons_succ]
            refine wpAnyH_ready (rs := [8]) (by kernel_rfl) (by simp) ?_
            refine AllReadyH.cons rfl (fun K hK => ?_) AllReadyH.nil
            go_simp
            refine hK.out _ _ (by repeat' (first | (with_reducible first | exact bwR _ _ | assumption | refine bdn ?_ | refine bwA ?_ ?_ _ | refine bwD ?_ | refine bwS ?_ ?_ _) | omega | (simp <;> omega))) (fun hHeld => ?_)
            clear hK K
            try simp only [List.getElem_toArray, List.getElem_cons_zero, List.getElem_cons_succ, Act.put, List.setIfInBounds_toArray, List.set_cons_zero, List.set_cons_succ]
            first
              | (refine wpAnyH_take (i := 11) (v := ?_) rfl (by kernel_rfl) (by kernel_rfl) (by kernel_rfl) (fun _ _ _ h => h) (Or.inl ⟨by rfl, ?_⟩) (by assumption) ?_
                 rotate_left
                 · (intro W hW; obtain ⟨c0, x0, x1, x2, x3⟩ := H_hQ.out W hW; go_simp; try (with_reducible rfl)))
              | (refine wpAnyH_take (i := 11) (v := undef) rfl (by kernel_rfl) (by kernel_rfl) (by kernel_rfl) (fun _ _ _ h => h) (Or.inr ⟨by rfl, rfl⟩) (by assumption) ?_)
            try simp only [List.getElem_toArray, List.getElem_cons_zero, List.getElem_cons_succ, Act.put, List.setIfInBounds_toArray, List.set_cons_zero, List.set_cons_succ]
            refine wpAnyH_done (by kernel_rfl) ?_ _
            go_wp2_with fail
            go_meet
            exact ⟨made4_first hG hby _ _ _ _, rfl⟩
      case rest =>
        obtain ⟨⟨g, rfl, hg, hg1, hg2, hBc⟩, rfl⟩ := hcut
        have hBd : Below w1.heap.size w1 wc := below_via hB hBc
        have hBwc : Below w.heap.size w wc := below_via hBr hBc
        have r1 := fun j => (hBc.cell (p := ⟨w.heap.size + 1, j, none⟩) y1).trans (r1 j)
        have n1 := fun j => (hBc.frozen (p := ⟨w.heap.size + 1, j, none⟩) y1).trans (n1 j)
        have y1 : w.heap.size + 1 < wc.heap.size := Nat.lt_of_lt_of_le y1 hBc.size
        have H_own := Lib.hid (H_own.out.keep hBc)
        cases ok with
        | false =>
          have bad : cF = (2, some k) := H_hfb.out.trans (H_hhit.out (fun h => by
            have h3 := H_hok.out
            unfold goB at h3
            rw [decide_eq_true h.1] at h3; cases h3))
          have H_bad := Lib.hid bad
          clear bad
          go_wp2_with fail
          with_reducible refine bodyPost_ret (res_moved _ _ (w.heap.size + 1) (.slice none 0 0) _ _ ?h4 ?h5 (set2 r1 _ _)) rfl ?_
          case h4 => simp
          case h5 => simp
          rw [H_hL1.out _ H_bad.out, H_bad.out]
          exact ⟨_, rfl, OwnP.nil _ _ _, by repeat' (first | (with_reducible first | exact bwR _ _ | assumption | refine bdn ?_ | refine bwA ?_ ?_ _ | refine bwD ?_ | refine bwS ?_ ?_ _) | omega | (simp <;> omega))⟩
        | true =>
          have hto : toE 0 m p = 0 := by
            have h3 := H_hok.out
            unfold goB at h3
            exact of_decide_eq_true h3
          have hqm : mvPt m p = q := by
            have h3 := H_hq.out
            unfold goV at h3
            rw [if_pos hto] at h3
            exact h3
          have cP := fun (W : World) => rpoint_any q W H_hqI.out
          by_cases hqc : q.c = 0
          · have hst2 := H_hst.out ⟨hto, by rw [hqm]; exact hqc⟩
            have htk2 := H_htk.out
            rw [hqm] at htk2
            rw [hqc] at cP
            have hfb2 : cF = movF m (ps.drop (k + 1)) (k + 1) := H_hfb.out.trans hst2
            have H_hto := Lib.hid hto
            clear hto
            have H_hqm := Lib.hid hqm
            clear hqm
            have H_cP := Lib.hid cP
            clear cP
            have H_hqc := Lib.hid hqc
            clear hqc
            have H_hst2 := Lib.hid hst2
            clear hst2
            have H_htk2 := Lib.hid htk2
            clear htk2
            have H_hfb2 := Lib.hid hfb2
            clear hfb2
            go_wp2_with fail
            refine (H_cP.out _).mono ?_
            rintro _ w5 ⟨rfl, hb5⟩
            have hB5 : Below w1.heap.size w1 w5 := below_via hBd hb5
            have hg5 := fun j => (hb5.cell (p := ⟨g, j, none⟩) hg2).trans (hg j)
            have H_own5 := Lib.hid (H_own.out.keep hb5)
            have hs5 := hB5.size
            clear hg hb5
            have hlk : ((ps.take k).map (mvPt m)).length = k := by rw [List.length_map, List.length_take]; omega
            have H_hlk := Lib.hid hlk
            clear hlk
            go_wp2_with (at_builtin; refine wp_append_told rfl (.tmp 34) (.tmp 36) 50 rfl EPt w1.heap.size 102 i0 _ 32 Tryz.underlying50 H_hi.out H_hz0.out H_hz1.out H_hz2.out rfl (by decide) _ ((ps.take k).map (mvPt m)) rfl _ 0 1 1 [q] rfl rfl ?a2 ?a3 ?a4 ?a5 ?_)
            case a2 => rw [H_hlk.out]; show k + 1 ≤ 1000000; omega
            case a3 => exact H_own5.out.alloc _
            case a4 => exact row_one (vs := #[.int .i64 q.xn, .int .i64 q.xd, .int .i64 q.yn, .int .i64 q.yd]) rfl (fun j => World.cell?_alloc_new _ _ _ _)
            case a5 => simp; omega
            intro v7 w7 hv7 hA7 _ _
            first | rw [← H_htk2.out] at hv7 | rw [← List.map_take, ← H_htk2.out] at hv7
            have hB7 : Below w1.heap.size w1 w7 := (hB5.alloc hs5 _).trans hA7
            clear hA7
            have H_hv7 := Lib.hid hv7
            clear hv7
            go_wp2_with fail
            go_roundw
            case rel => exact ⟨k + 1, v7, by omega, by go_num, rfl, H_hfb2.out, H_hv7, hB7⟩
            case measure => simp [intOf]; omega
          · have bad : cF = (2, some k) := H_hfb.out.trans (H_hhit.out (fun h => by rw [hqm] at h; exact hqc h.2))
            have gq : (0 : Int) < (q.c : Int) := by omega
            have H_bad := Lib.hid bad
            clear bad
            have H_hto := Lib.hid hto
            clear hto
            have H_hqm := Lib.hid hqm
            clear hqm
            have H_cP := Lib.hid cP
            clear cP
            have H_hqc := Lib.hid hqc
            clear hqc
            go_wp2_with fail
            refine (H_cP.out _).mono ?_
            rintro _ w5 ⟨rfl, hb5⟩
            have hBwc : Below w.heap.size w w5 := below_via hBwc hb5
            have r1 := fun j => (hb5.cell (p := ⟨w.heap.size + 1, j, none⟩) y1).trans (r1 j)
            have n1 := fun j => (hb5.frozen (p := ⟨w.heap.size + 1, j, none⟩) y1).trans (n1 j)
            have y1 : w.heap.size + 1 < w5.heap.size := Nat.lt_of_lt_of_le y1 hb5.size
            clear hb5
            go_wp2_with fail
            with_reducible refine bodyPost_ret (res_moved _ _ (w.heap.size + 1) (.slice none 0 0) _ _ ?h4 ?h5 (set2 r1 _ _)) rfl ?_
            case h4 => simp
            case h5 => simp
            rw [H_hL1.out _ H_bad.out, H_bad.out]
            exact ⟨_, rfl, OwnP.nil _ _ _, by repeat' (first | (with_reducible first | exact bwR _ _ | assumption | refine bdn ?_ | refine bwA ?_ ?_ _ | refine bwD ?_ | refine bwS ?_ ?_ _) | omega | (simp <;> omega))⟩
    · obtain rfl : k = len := by omega
      have good : cF = (0, none) := hfb.trans (movF_end (by have := H_hl.out; omega))
      have hown := H_own.out
      rw [List.take_of_length_le (by have := H_hl.out; omega)] at hown
      have H_good := Lib.hid good
      clear good
      have H_hown := Lib.hid hown
      clear hown
      go_wp2_with fail
      refine (rfine_any _).mono ?_
      rintro _ w5 ⟨rfl, hb5⟩
      have hBwc : Below w.heap.size w w5 := below_via hBr hb5
      have r1 := fun j => (hb5.cell (p := ⟨w.heap.size + 1, j, none⟩) y1).trans (r1 j)
      have n1 := fun j => (hb5.frozen (p := ⟨w.heap.size + 1, j, none⟩) y1).trans (n1 j)
      have y1 : w.heap.size + 1 < w5.heap.size := Nat.lt_of_lt_of_le y1 hb5.size
      have hown5 := H_hown.out.keep hb5
      clear hb5
      have H_hown5 := Lib.hid hown5
      clear hown5
      go_wp2_with fail
      with_reducible refine bodyPost_ret (res_moved _ _ (w.heap.size + 1) u6 _ _ ?h4 ?h5 (set2 r1 _ _)) rfl ?_
      case h4 => simp
      case h5 => simp
      rw [H_hL0.out H_good.out, H_good.out]
      refine ⟨_, rfl, ?_, by repeat' (first | (with_reducible first | exact bwR _ _ | assumption | refine bdn ?_ | refine bwA ?_ ?_ _ | refine bwD ?_ | refine bwS ?_ ?_ _) | omega | (simp <;> omega))⟩
      have h := own_kept H_hown5.out (w' := (w5.setCell ⟨w.heap.size + 1, 0, none⟩ (.int .i64 0)).setCell ⟨w.heap.size + 1, 1, none⟩ (.int .i64 (-1))) (fun k' hk' => by
        have h1 := (H_hown5.out.lt k' hk').1
        have h2 := H_ls1.out
        exact (heap_setCell_other _ ⟨w.heap.size + 1, 1, none⟩ k' _ (by show k' ≠ w.heap.size + 1; omega)).trans (heap_setCell_other _ ⟨w.heap.size + 1, 0, none⟩ k' _ (by show k' ≠ w.heap.size + 1; omega)))
      exact OwnP.base (show OwnP _ w1.heap.size _ _ _ from h) (by omega)
end Go.Proofs.YtpdaenldmgpkjaaGreatDoor
