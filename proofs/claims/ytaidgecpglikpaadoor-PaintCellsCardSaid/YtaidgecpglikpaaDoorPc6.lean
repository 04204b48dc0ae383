/-
  The statement PaintCells: its walk.
-/
import Derived.Test.YtaidgecpglikpaaDoorPc8
namespace Lead
open Go Go.RowKit
theorem ErrAt.but {T F : Nat} {ea : Nat → Addr} {lo s : Nat} {w w' : World} {v : Value} {c : Nat × Option Nat} (h : ErrAt T F ea lo w v c) (hs : s < lo) (hb : ∀ k, k < w.heap.size → k ≠ s → w'.heap[k]? = w.heap[k]?) : ErrAt T F ea lo w' v c := by
  obtain ⟨c1, c2⟩ := c
  cases c2 with
  | none => exact h
  | some i =>
    obtain ⟨h0, b, h1, h2, h3, h4⟩ := h
    have hlt := World.block_lt_of_cell? w _ h3
    have hbk := hb b hlt (by omega)
    exact ⟨h0, b, h1, h2, (World.cell?_of_block hbk).trans h3, (World.cell?_of_block hbk).trans h4⟩
theorem cells_size {l : List Pk} {n m : Nat} (h : ∀ p ∈ l, p.fill.size ≤ 1000) : ∀ s ∈ cellsP l n m, s.size ≤ 1000 := by
  intro s hs
  unfold cellsP at hs
  obtain ⟨y, _, hy⟩ := List.mem_flatMap.1 hs
  have key : ∀ (l : List Pk) (out : List ByteArray), (∀ p ∈ l, p.fill.size ≤ 1000) → (∀ s ∈ out, s.size ≤ 1000) → ∀ s ∈ rowP l y out, s.size ≤ 1000 := by
    intro l
    induction l with
    | nil => intro out _ ho s hs; exact ho s hs
    | cons x r ih =>
      intro out hp ho s hs
      refine ih (onRow x y out) (fun p hp' => hp p (by simp [hp'])) ?_ s hs
      intro s' hs'
      unfold onRow at hs'
      split at hs'
      · have hx := hp x (by simp)
        have k2 : ∀ (o : List ByteArray) (i : Nat), (∀ s ∈ o, s.size ≤ 1000) → ∀ s ∈ onC x y i o, s.size ≤ 1000 := by
          intro o
          induction o with
          | nil => intro i _ s hs; cases hs
          | cons a b ihb =>
            intro i ho s hs
            rcases List.mem_cons.1 hs with rfl | hs
            · split
              · exact hx
              · exact ho a (by simp)
            · exact ihb (i + 1) (fun s hs => ho s (by simp [hs])) s hs
        exact k2 out 0 ho s' hs'
      · exact ho s' hs'
  refine key l (dots n) h (fun s hs => ?_) s hy
  unfold dots at hs
  rw [(List.mem_replicate.1 hs).2]; decide
end Lead
namespace Go.Proofs.YtaidgecpglikpaaDoor
open Go.RowKit Lead
set_option maxHeartbeats 40000000 in
set_option maxRecDepth 100000 in
theorem pc_main (ea : Nat → Addr) (l : List Pc) (oa : Option Addr) (len cap : Nat) (zw zh zy : Int) (w : World) (hs : ArgPc w oa len cap l) (hS : Sents ea w) (hL : longB l = false) (hin1 : zw ≤ 15 ∨ 40 < zw) (hin2 : zh ≤ 15 ∨ 40 < zh) :
    Calls Tryd.prog 3 #[.slice oa len cap, .int .i64 zw, .int .i64 zh, .int .i64 zy] w fun e w' => e = .returned (.bool true) ∧ Below w.heap.size w w' := by
  have hlen8 := (longB_no hL).1
  have h40 : ∀ p ∈ l, p.len ≤ 40 := fun p hp => ((longB_no hL).2 p hp).1
  have hl8 : len ≤ 8 := by have := hs.1; omega
  have hPG := hS.pg
  obtain ⟨cc, ca, hcc⟩ : ∃ c a, chkP (l.map Pc.k) 0 = (c, a) := ⟨_, _, rfl⟩
  have hc11 : cc ≤ 11 := by have h := chkP_le (l.map Pc.k) 0; rw [hcc] at h; exact h
  have H_hs := Lib.hid hs
  clear hs
  have H_hS := Lib.hid hS
  clear hS
  have H_hPG := Lib.hid hPG
  clear hPG
  have H_hL := Lib.hid hL
  clear hL
  have H_h40 := Lib.hid h40
  clear h40
  have H_hcc := Lib.hid hcc
  clear hcc
  have H_hin1 := Lib.hid hin1
  clear hin1
  have H_hin2 := Lib.hid hin2
  clear hin2
  go_enter Tryd.func3, Tryd.ntmps3
  go_wp2_with fail
  refine call_bel (w := w) (by repeat' (first | (with_reducible first | exact bwR _ _ | assumption | refine bdn ?_ | refine bwA ?_ ?_ _ | refine bwD ?_ | refine bwS ?_ ?_ _) | omega | (simp <;> omega))) (fun HB => painted_any ea _ (H_hPG.out.keep HB rfl)) ?_
  intro w1 hb1 hz1 c1 d1 hW1
  have t1 := hb1.size
  clear c1 d1 hz1 hW1
  go_upto_region 2 with fail
  go_cut [39] (fun s39 we => s39 = .bool false ∧ Below w.heap.size w we)
  case first => as_aux_lemma =>
    go_wp2_with fail
    refine call_bel (w := w) (by repeat' (first | (with_reducible first | exact bwR _ _ | assumption | refine bdn ?_ | refine bwA ?_ ?_ _ | refine bwD ?_ | refine bwS ?_ ?_ _) | omega | (simp <;> omega))) (fun HB => longpieces_any l oa len cap _ _ (H_hs.out.keep HB rfl) H_hL.out) ?_
    intro w2 hb2 hz2 c2 d2 hW2
    have t2 := hb2.size
    clear c2 d2 hz2 hW2
    rcases H_hin1.out with z1 | z1 <;> rcases H_hin2.out with z2 | z2
    all_goals
      go_wp2_with fail
      go_meet
      exact ⟨by first | rfl | (simp; omega), hb2⟩
  case rest =>
    obtain ⟨rfl, hb2⟩ := hcut
    rename World => w2
    have t2 := hb2.size
    go_wp2_with fail
    refine (aspieces_any l oa len cap w2 (H_hs.out.keep hb2 rfl) hl8 H_h40.out).mono ?_
    rintro _ w3 ⟨oa3, cap3, l3, rfl, hs3, hk3, hB3⟩
    have hb3 : Below w.heap.size w w3 := below_via hb2 hB3
    have H_hs3 := Lib.hid hs3
    clear hs3
    have H_hk3 := Lib.hid hk3
    clear hk3
    go_wp2_with fail
    refine (paint_all ea l3 oa3 l3.length cap3 zw zh w3 H_hs3.out (H_hPG.out.keep hb3 rfl)).mono ?_
    rintro _ w4 ⟨pw, ph, po, pl, pcp, x4, rfl, hpic, hB4⟩
    rw [H_hk3.out] at hpic
    have hb4 : Below w.heap.size w w4 := below_via hb3 hB4
    have t4 := hb4.size
    have H_hpic := Lib.hid hpic
    clear hpic
    go_wp2_with fail
    obtain ⟨gp, hgp⟩ : ∃ u, w4.heap.size = u := ⟨_, rfl⟩
    obtain ⟨w5, hw5⟩ : ∃ u, w4.alloc (.cells #[.int .i64 pw, .int .i64 ph, .slice po pl pcp] 27) = u := ⟨_, rfl⟩
    have hB45 : Below w4.heap.size w4 w5 := by rw [← hw5]; exact (Below.refl _ _).alloc (Nat.le_refl _) _
    have hb5 : Below w.heap.size w w5 := below_via hb4 hB45
    have p5 : ∀ j, w5.cell? ⟨gp, j, none⟩ = (#[.int .i64 pw, .int .i64 ph, .slice po pl pcp] : Array Value)[j]? := fun j => by rw [← hw5, ← hgp, World.cell?_alloc_new]
    have lgp : gp < w5.heap.size := by rw [← hw5, ← hgp]; simp
    rw [hgp, hw5]
    clear hw5
    refine (rpaintfault_any l oa len cap cc (atI ca) w5 (H_hs.out.keep hb5 rfl) hl8 (by rw [H_hcc.out]) (by rw [H_hcc.out])).mono ?_
    rintro _ w6 ⟨rfl, hB6⟩
    have hb6 : Below w.heap.size w w6 := below_via hb5 hB6
    have t6 := hB6.size
    have p6 := fun j => (hB6.cell (p := ⟨gp, j, none⟩) lgp).trans (p5 j)
    have lgp6 : gp < w6.heap.size := by omega
    clear p5
    go_upto_region 7 with fail
    obtain ⟨gf, hgf⟩ : ∃ u, w6.heap.size = u := ⟨_, rfl⟩
    obtain ⟨wq, hwq⟩ : ∃ u, (w6.alloc (.cells #[.int .i64 cc, .int .i64 (atI ca)] 35)).alloc (.cells #[.int .i64 cc, .int .i64 (atI ca)] 35) = u := ⟨_, rfl⟩
    have hB6q : Below gf w6 wq := by rw [← hwq, ← hgf]; exact ((Below.refl _ _).alloc (Nat.le_refl _) _).alloc (by simp) _
    have zq : wq.heap.size = gf + 2 := by rw [← hwq, ← hgf]; simp
    have hkf : wq.heap[gf]? = some (.cells #[.int .i64 cc, .int .i64 (atI ca)] 35 (0, 0)) := by
      rw [← hwq, ← hgf]
      exact (Below.heap_alloc _ _ _ (by simp)).trans (heap_alloc_new _ _)
    have hkg : wq.heap[gf + 1]? = some (.cells #[.int .i64 cc, .int .i64 (atI ca)] 35 (0, 0)) := by
      rw [← hwq, ← hgf]
      have h := heap_alloc_new (w6.alloc (.cells #[.int .i64 cc, .int .i64 (atI ca)] 35)) (.cells #[.int .i64 cc, .int .i64 (atI ca)] 35)
      simpa using h
    have hbq : Below w.heap.size w wq := hb6.trans (hB6q.mono (by omega))
    have lgpf : gp < gf := by omega
    have pq : ∀ j, wq.cell? ⟨gp, j, none⟩ = (#[.int .i64 pw, .int .i64 ph, .slice po pl pcp] : Array Value)[j]? := fun j => (hB6q.cell (p := ⟨gp, j, none⟩) lgpf).trans (p6 j)
    have hB4q : Below w4.heap.size w4 wq := (hB45.trans (hB6.mono (by omega))).trans (hB6q.mono (by omega))
    rw [hgf, hwq]
    clear hwq p6
    obtain ⟨bad, hbad⟩ : ∃ b, (!decide (1 ≤ zw ∧ zw ≤ 40 ∧ 1 ≤ zh ∧ zh ≤ 40)) = b := ⟨_, rfl⟩
    obtain ⟨pc1, pc2, hpc⟩ : ∃ c a, paintC (l.map Pc.k) zw zh = (c, a) := ⟨_, _, rfl⟩
    have hpcb : (bad = true ∧ pc1 = 2 ∧ pc2 = none) ∨ (bad = false ∧ pc1 = cc ∧ pc2 = ca) := by
      unfold paintC at hpc
      by_cases h : 1 ≤ zw ∧ zw ≤ 40 ∧ 1 ≤ zh ∧ zh ≤ 40
      · rw [if_pos h, H_hcc.out] at hpc
        injection hpc with e1 e2
        exact .inr ⟨by rw [← hbad]; simp [h], e1.symm, e2.symm⟩
      · rw [if_neg h] at hpc
        injection hpc with e1 e2
        exact .inl ⟨by rw [← hbad]; simp [h], e1.symm, e2.symm⟩
    have hpc11 : pc1 ≤ 11 := by rcases hpcb with ⟨_, h, _⟩ | ⟨_, h, _⟩ <;> omega
    have H_hbad := Lib.hid hbad
    clear hbad
    have H_hpc := Lib.hid hpc
    clear hpc
    have H_hpcb := Lib.hid hpcb
    clear hpcb
    have H_hkf := Lib.hid hkf
    clear hkf
    have H_hkg := Lib.hid hkg
    clear hkg
    go_cut [65] (fun s65 we => s65 = .bool bad ∧ we = wq)
    case first => as_aux_lemma =>
      go_wp2_with fail
      all_goals
        go_meet
        refine ⟨congrArg Value.bool ?_, rfl⟩
        rw [← H_hbad.out]
        first
          | (refine Bool.eq_iff_iff.2 ?_; simp only [Bool.or_eq_true, Bool.not_eq_true', decide_eq_true_eq, decide_eq_false_iff_not]; omega)
          | (simp; done)
          | (simp; omega)
    case rest =>
      obtain ⟨rfl, hweq⟩ := hcut
      have hweq' := hweq.symm
      subst hweq'
      go_upto_if 65 with fail
      go_cut [] (fun we => Below gf wq we ∧ wq.heap.size ≤ we.heap.size ∧ we.heap[gf]? = some (.cells #[.int .i64 pc1, .int .i64 (atI pc2)] 35 (0, 0)) ∧ we.heap[gf + 1]? = some (.cells #[.int .i64 cc, .int .i64 (atI ca)] 35 (0, 0)))
      case first => as_aux_lemma =>
        rcases H_hpcb.out with ⟨rfl, rfl, rfl⟩ | ⟨rfl, rfl, rfl⟩
        · go_wp2_with fail
          refine (rbare_any 2 wq).mono ?_
          rintro _ w7 ⟨rfl, hB7⟩
          have t7 := hB7.size
          have jf := (hB7.block gf (by omega)).trans H_hkf.out
          have jg := (hB7.block (gf + 1) (by omega)).trans H_hkg.out
          have lgf7 : gf < w7.heap.size := by omega
          have q0 := Lib.cell_of_heap jf 0
          have q1 := Lib.cell_of_heap jf 1
          have y0 := Lib.frozen_of_heap jf 0
          have y1 := Lib.frozen_of_heap jf 1
          have H_jf := Lib.hid jf
          clear jf
          have H_jg := Lib.hid jg
          clear jg
          go_wp2_with fail
          go_meet
          refine ⟨((hB7.mono (show gf ≤ wq.heap.size by omega)).setCell (p := ⟨gf, 0, none⟩) (Nat.le_refl _) _).setCell (p := ⟨gf, 1, none⟩) (Nat.le_refl _) _, by simp; omega, heap_set (heap_set H_jf.out), ?_⟩
          refine (Below.heap_setCell _ _ _ _ (by simp)).trans ((Below.heap_setCell _ _ _ _ (by simp)).trans H_jg.out)
        · go_wp2_with fail
          go_meet
          exact ⟨Below.refl _ _, Nat.le_refl _, H_hkf.out, H_hkg.out⟩
      case rest =>
        obtain ⟨hBe, te, hef, heg⟩ := hcut
        rename World => we
        have hbe : Below w.heap.size w we := hbq.trans (hBe.mono (by omega))
        have pe := fun j => (hBe.cell (p := ⟨gp, j, none⟩) lgpf).trans (pq j)
        have q0 := Lib.cell_of_heap hef 0
        have q1 := Lib.cell_of_heap hef 1
        have lgfe : gf < we.heap.size := by omega
        have hB4e : Below w4.heap.size w4 we := hB4q.trans (hBe.mono (by omega))
        clear pq H_hkf H_hkg hBe hB4q
        have H_hef := Lib.hid hef
        clear hef
        have H_heg := Lib.hid heg
        clear heg
        go_upto_if 69 with fail
        go_cut [] (fun wx => Below we.heap.size we wx)
        case first => as_aux_lemma =>
          rcases H_hpic.out with ⟨h0, rfl, rfl, rfl, hx4⟩ | ⟨hp0, hch, rfl, n, m, g, rfl, rfl, h1, h2, h3, h4, rfl, rfl, rfl, rfl, hg, hrow⟩
          · rw [H_hpc.out] at h0 hx4
            have h0' : (0 : Int) < (pc1 : Int) := by have : pc1 ≠ 0 := h0; omega
            have hxe := hx4.keep hB4e rfl (Nat.le_refl _)
            have hfl := faulted2_any ea (pc1, pc2) pc1 (atI pc2) x4 _ we hxe (H_hS.out.keep hbe rfl) hpc11 rfl rfl
            have H_hfl := Lib.hid hfl
            clear hfl
            have H_hx4 := Lib.hid hx4
            clear hx4
            have H_hxe := Lib.hid hxe
            clear hxe
            have lgpe : gp < we.heap.size := by omega
            go_wp2_with fail
            refine H_hfl.out.mono ?_
            rintro _ w8 ⟨rfl, hB8⟩
            have p8 := fun j => (hB8.cell (p := ⟨gp, j, none⟩) lgpe).trans (pe j)
            have p80 := p8 0
            have p81 := p8 1
            have p82 := p8 2
            clear pe p8
            go_wp2_with fail
            go_meet
            exact hB8
          · have hpc0 : pc1 = 0 := by have h := H_hpc.out; rw [hp0] at h; injection h with h _; exact h.symm
            subst hpc0
            have hall : ∀ p ∈ l, pkC p.k = 0 := fun p hp => chkP_ok hch _ (List.mem_map.2 ⟨p, hp, rfl⟩)
            have lgpe : gp < we.heap.size := by omega
            have hrowe : RowIn ESt we g 0 (cellsP (l.map Pc.k) n m) := hrow.keep hB4e hg
            have hclen := cellsP_len (l.map Pc.k) n m
            have hmn : m * n ≤ 40 * 40 := Nat.mul_le_mul h4 h2
            have hmn1 : 1 * 1 ≤ m * n := Nat.mul_le_mul h3 h1
            have hsz : ∀ s ∈ cellsP (l.map Pc.k) n m, s.size ≤ 1000 := cells_size (fun p hp => by
              obtain ⟨q, hq, rfl⟩ := List.mem_map.1 hp
              exact Nat.le_trans ((longB_no H_hL.out).2 q hq).2.1 (by decide))
            have hpo := rpaintof_any l oa len cap n m we (H_hs.out.keep hbe rfl) hl8 hall h1 h2 h4
            obtain ⟨cs, hcs⟩ : ∃ c, cellsP (l.map Pc.k) n m = c := ⟨_, rfl⟩
            rw [hcs] at hrowe hclen hsz hpo pe
            have hlg : g < we.heap.size := Nat.lt_of_lt_of_le hg (hB4e.size)
            have H_hall := Lib.hid hall
            clear hall
            have H_hrow := Lib.hid hrow
            clear hrow
            have H_hch := Lib.hid hch
            clear hch
            have H_hrowe := Lib.hid hrowe
            clear hrowe
            have H_hclen := Lib.hid hclen
            clear hclen
            have H_hsz := Lib.hid hsz
            clear hsz
            have H_hpo := Lib.hid hpo
            clear hpo
            have H_hcs := Lib.hid hcs
            clear hcs
            go_wp2_with fail
            refine H_hpo.out.mono ?_
            rintro _ w8 ⟨v8, rfl, hv8, hB8⟩
            have t8 := hB8.size
            obtain ⟨g8, c8, rfl, hg8, lg8, hrow8⟩ : ∃ g8 c8, v8 = .slice (some ⟨g8, 0, none⟩) cs.length c8 ∧ we.heap.size ≤ g8 ∧ g8 < w8.heap.size ∧ RowIn ESt w8 g8 0 cs := by
              rcases hv8.form with ⟨_, h⟩ | ⟨g8, c8, h, h2', h3', _, _, h4'⟩
              · have h5 := H_hclen.out; rw [h] at h5; simp at h5; omega
              · exact ⟨g8, c8, h, h2', h3', h4'⟩
            have p8 := fun j => (hB8.cell (p := ⟨gp, j, none⟩) lgpe).trans (pe j)
            have p80 := p8 0
            have p81 := p8 1
            have p82 := p8 2
            have hrow8' : RowIn ESt w8 g 0 cs := H_hrowe.out.keep hB8 hlg
            clear pe p8
            have H_hrow8 := Lib.hid hrow8
            clear hrow8
            have H_hrow8' := Lib.hid hrow8'
            clear hrow8'
            have H_hv8 := Lib.hid hv8
            clear hv8
            go_wp2_with fail
            refine (sametexts_any g g8 cs.length _ cs.length c8 cs cs true w8 (by omega) lg8 0 H_hrow8'.out H_hrow8.out rfl rfl (by have := H_hclen.out; omega) (by simp) rfl).mono ?_
            rintro _ w9 ⟨rfl, hB9⟩
            have t9 := hB9.size
            have p90 := (hB9.cell (p := ⟨gp, 0, none⟩) (show gp < w8.heap.size by omega)).trans p80
            have p91 := (hB9.cell (p := ⟨gp, 1, none⟩) (show gp < w8.heap.size by omega)).trans p81
            have p92 := (hB9.cell (p := ⟨gp, 2, none⟩) (show gp < w8.heap.size by omega)).trans p82
            have hrow9 : RowIn ESt w9 g 0 cs := H_hrow8'.out.keep hB9 (by omega)
            have hv9 := H_hv8.out.keep hB9
            clear p80 p81 p82
            have H_hrow9 := Lib.hid hrow9
            clear hrow9
            have H_hv9 := Lib.hid hv9
            clear hv9
            go_wp2_with fail
            refine (text_any cs g 0 _ n m w9 h1 h2 H_hrow9.out (by omega) (by have := H_hclen.out; omega) H_hsz.out).mono ?_
            rintro _ w10 ⟨rfl, hB10⟩
            have hv10 := H_hv9.out.keep hB10
            obtain ⟨tx, htx⟩ : ∃ u, (⟨(textT n cs cs.length).toArray⟩ : ByteArray) = u := ⟨_, rfl⟩
            rw [htx]
            have H_hv10 := Lib.hid hv10
            clear hv10
            go_wp2_with fail
            refine (cellstext_any cs _ n we.heap.size w10 h1 h2 H_hv10.out (by have := H_hclen.out; omega) H_hsz.out).mono ?_
            rintro _ w11 ⟨rfl, hB11⟩
            rw [htx]
            go_wp2_with fail
            go_meet
            exact below_via (below_via (below_via hB8 hB9) hB10) hB11
        case rest =>
          rename World => wx
          have hbx : Below w.heap.size w wx := below_via hbe hcut
          have tx := hcut.size
          have hgx : wx.heap[gf + 1]? = some (.cells #[.int .i64 cc, .int .i64 (atI ca)] 35 (0, 0)) := (hcut.block (gf + 1) (by omega)).trans H_heg.out
          clear pe q0 q1 hB4e
          have H_hgx := Lib.hid hgx
          clear hgx
          go_wp2_with fail
          refine (aspieces_any l oa len cap _ (H_hs.out.keep hbx rfl) hl8 H_h40.out).mono ?_
          rintro _ w12 ⟨oa12, cap12, l12, rfl, hs12, hk12, hB12⟩
          have hb12 : Below w.heap.size w w12 := below_via hbx hB12
          have H_hs12 := Lib.hid hs12
          clear hs12
          have H_hk12 := Lib.hid hk12
          clear hk12
          go_wp2_with fail
          refine (rowf_all ea l12 oa12 l12.length cap12 zw zy w12 H_hs12.out (H_hPG.out.keep hb12 rfl)).mono ?_
          rintro _ w13 ⟨ro, rl, rc, x13, rfl, hrw, hB13⟩
          rw [H_hk12.out] at hrw
          have hb13 : Below w.heap.size w w13 := below_via hb12 hB13
          have hB13x : Below _ _ w13 := below_via hB12 hB13
          have t13 := hB13x.size
          have hg13 := (hB13x.block (gf + 1) (by omega)).trans H_hgx.out
          have H_hrw := Lib.hid hrw
          clear hrw
          have H_hg13 := Lib.hid hg13
          clear hg13
          go_upto_region 16 with fail
          obtain ⟨bad2, hbad2⟩ : ∃ b, (!decide (1 ≤ zw ∧ zw ≤ 40 ∧ 0 ≤ zy ∧ zy < 40)) = b := ⟨_, rfl⟩
          obtain ⟨rc1, rc2, hrc⟩ : ∃ c a, rowC (l.map Pc.k) zw zy = (c, a) := ⟨_, _, rfl⟩
          have hrcb : (bad2 = true ∧ rc1 = 2 ∧ rc2 = none) ∨ (bad2 = false ∧ rc1 = cc ∧ rc2 = ca) := by
            unfold rowC at hrc
            by_cases h : 1 ≤ zw ∧ zw ≤ 40 ∧ 0 ≤ zy ∧ zy < 40
            · rw [if_pos h, H_hcc.out] at hrc
              injection hrc with e1 e2
              exact .inr ⟨by rw [← hbad2]; simp [h], e1.symm, e2.symm⟩
            · rw [if_neg h] at hrc
              injection hrc with e1 e2
              exact .inl ⟨by rw [← hbad2]; simp [h], e1.symm, e2.symm⟩
          have hrc11 : rc1 ≤ 11 := by rcases hrcb with ⟨_, h, _⟩ | ⟨_, h, _⟩ <;> omega
          have H_hbad2 := Lib.hid hbad2
          clear hbad2
          have H_hrc := Lib.hid hrc
          clear hrc
          have H_hrcb := Lib.hid hrcb
          clear hrcb
          go_cut [144] (fun s144 wy => s144 = .bool bad2 ∧ wy = w13)
          case first => as_aux_lemma =>
            go_wp2_with fail
            all_goals
              go_meet
              refine ⟨congrArg Value.bool ?_, rfl⟩
              rw [← H_hbad2.out]
              first
                | (refine Bool.eq_iff_iff.2 ?_; simp only [Bool.or_eq_true, Bool.not_eq_true', decide_eq_true_eq, decide_eq_false_iff_not]; omega)
                | (simp; done)
                | (simp; omega)
          case rest =>
            obtain ⟨rfl, hweq⟩ := hcut
            have hweq' := hweq.symm
            subst hweq'
            go_upto_if 144 with fail
            go_cut [] (fun wy => Below (gf + 1) w13 wy ∧ (∀ k, k < w13.heap.size → k ≠ gf + 1 → wy.heap[k]? = w13.heap[k]?) ∧ wy.heap[gf + 1]? = some (.cells #[.int .i64 rc1, .int .i64 (atI rc2)] 35 (0, 0)))
            case first => as_aux_lemma =>
              rcases H_hrcb.out with ⟨rfl, rfl, rfl⟩ | ⟨rfl, rfl, rfl⟩
              · go_wp2_with fail
                refine (rbare_any 2 w13).mono ?_
                rintro _ w14 ⟨rfl, hB14⟩
                have jf := (hB14.block (gf + 1) (by omega)).trans H_hg13.out
                have q0 := Lib.cell_of_heap jf 0
                have q1 := Lib.cell_of_heap jf 1
                have y0 := Lib.frozen_of_heap jf 0
                have y1 := Lib.frozen_of_heap jf 1
                have t14 := hB14.size
                have lg14 : gf + 1 < w14.heap.size := by omega
                have H_jf := Lib.hid jf
                clear jf
                go_wp2_with fail
                go_meet
                exact ⟨((hB14.mono (show gf + 1 ≤ w13.heap.size by omega)).setCell (p := ⟨gf + 1, 0, none⟩) (Nat.le_refl _) _).setCell (p := ⟨gf + 1, 1, none⟩) (Nat.le_refl _) _, fun k hk hn => (Below.heap_setCell _ _ _ _ hn).trans ((Below.heap_setCell _ _ _ _ hn).trans (hB14.block k hk)), heap_set (heap_set H_jf.out)⟩
              · go_wp2_with fail
                go_meet
                exact ⟨Below.refl _ _, fun _ _ _ => rfl, H_hg13.out⟩
            case rest =>
              obtain ⟨hBy, hby0, hgy⟩ := hcut
              rename World => wy
              have hby : Below w.heap.size w wy := hb13.trans (hBy.mono (by omega))
              have q0 := Lib.cell_of_heap hgy 0
              have q1 := Lib.cell_of_heap hgy 1
              have t12 := hB12.size
              have ty := hBy.size
              have lg12 : gf + 1 < w12.heap.size := by omega
              rcases H_hrw.out with ⟨h0, rfl, hx⟩ | ⟨hr0, hch, rfl, n, y, g, rfl, rfl, h1, h2, h3, rfl, rfl, hg, hrow⟩
              ·
                rw [H_hrc.out] at h0 hx
                have h0' : (0 : Int) < (rc1 : Int) := by have : rc1 ≠ 0 := h0; omega
                have hxy := hx.but lg12 hby0
                have hfl := faulted2_any ea (rc1, rc2) rc1 (atI rc2) x13 _ wy hxy (H_hS.out.keep hby rfl) hrc11 rfl rfl
                clear hby0 hx hxy
                have H_hfl := Lib.hid hfl
                clear hfl
                go_wp2_with fail
                refine H_hfl.out.mono ?_
                rintro _ w15 ⟨rfl, hB15⟩
                go_wp2_with fail
                go_returns
                exact ⟨rfl, below_via hby hB15⟩
              · have hrc0 : rc1 = 0 := by have h := H_hrc.out; rw [hr0] at h; injection h with h _; exact h.symm
                subst hrc0
                have hall : ∀ p ∈ l, pkC p.k = 0 := fun p hp => chkP_ok hch _ (List.mem_map.2 ⟨p, hp, rfl⟩)
                obtain ⟨n, hn⟩ : ∃ u, rl = u := ⟨_, rfl⟩
                subst hn
                have hrl : (rowP (l.map Pc.k) y (dots rl)).length = rl := by rw [rowP_len]; simp [dots]
                have hne : g ≠ gf + 1 := by
                  rintro rfl
                  have hc := hrow 0 (by rw [hrl]; omega) 0 _ rfl
                  rw [Nat.zero_add, Nat.zero_mul, Nat.zero_add] at hc
                  have hi := Lib.cell_of_heap H_hg13.out 0
                  rw [hi] at hc
                  cases hc
                have hrowy : RowIn ESt wy g 0 (rowP (l.map Pc.k) y (dots rl)) := hrow.of (fun o => World.cell?_of_block (hby0 g hg hne))
                have hgy2 : g < wy.heap.size := by omega
                have hro := rrowof_any l oa len cap rl y wy (H_hs.out.keep hby rfl) hl8 hall h2 h3
                rw [← rowP_ref] at hro
                clear hby0 hrow hg
                have H_hall := Lib.hid hall
                clear hall
                have H_hch := Lib.hid hch
                clear hch
                have H_hrowy := Lib.hid hrowy
                clear hrowy
                have H_hro := Lib.hid hro
                clear hro
                have H_hrl := Lib.hid hrl
                clear hrl
                go_wp2_with fail
                refine H_hro.out.mono ?_
                rintro _ w14 ⟨v14, rfl, hv14, hB14⟩
                have t14 := hB14.size
                obtain ⟨g14, c14, rfl, lg14, hrow14⟩ : ∃ g8 c8, v14 = .slice (some ⟨g8, 0, none⟩) rl c8 ∧ g8 < w14.heap.size ∧ RowIn ESt w14 g8 0 (rowP (l.map Pc.k) y (dots rl)) := by
                  rcases hv14.form with ⟨_, h⟩ | ⟨g8, c8, h, h2', h3', _, _, h4'⟩
                  · have h5 := H_hrl.out; rw [h] at h5; simp at h5; omega
                  · rw [H_hrl.out] at h; exact ⟨g8, c8, h, h3', h4'⟩
                have hrow14' : RowIn ESt w14 g 0 (rowP (l.map Pc.k) y (dots rl)) := H_hrowy.out.keep hB14 hgy2
                have hb14 : Below w.heap.size w w14 := below_via hby hB14
                clear hv14
                have H_hrow14 := Lib.hid hrow14
                clear hrow14
                have H_hrow14' := Lib.hid hrow14'
                clear hrow14'
                go_wp2_with fail
                refine (sametexts_any g g14 rl _ rl c14 _ _ true w14 (by omega) lg14 0 H_hrow14'.out H_hrow14.out H_hrl.out.symm H_hrl.out.symm (by omega) (by simp) rfl).mono ?_
                rintro _ w15 ⟨rfl, hB15⟩
                have hb15 : Below w.heap.size w w15 := below_via hb14 hB15
                clear H_hrow14 H_hrow14' H_hrowy H_hro H_hgx H_heg H_hg13 q0 q1
                go_wp2_with fail
                go_loopw [16] (fun t16 wr => ∃ k : Nat, k ≤ len ∧ t16 = .int .i64 k ∧ Below w15.heap.size w15 wr) (fun t16 _ => len - (intOf t16).toNat)
                case atStart => exact ⟨0, Nat.zero_le _, rfl, Below.refl _ _⟩
                case round =>
                  obtain ⟨k, hk, rfl, hBr⟩ := hrel
                  have hbr : Below w.heap.size w wr := below_via hb15 hBr
                  by_cases hlt : k < len
                  · obtain ⟨hl, hlc, hm, hSl, hcase⟩ := H_hs.out
                    have hk' : k < l.length := by omega
                    obtain ⟨b, off, rfl, hbl, hrow⟩ : ∃ b off, oa = some ⟨b, off, none⟩ ∧ b < w.heap.size ∧ RowIn EPc w b off l := by
                      rcases hcase with ⟨_, h, _⟩ | h
                      · omega
                      · exact h
                    obtain ⟨q0, q1, q2, q3, q4⟩ := pc_cells (hrow.keep hbr hbl) hk'
                    have hSk := (hSl _ (List.getElem_mem hk')).keep hbr rfl
                    have hpk := H_hall.out _ (List.getElem_mem hk')
                    have h40k := H_h40.out _ (List.getElem_mem hk')
                    have hR : ∀ q ∈ l[k].ps, Right q.yn q.yd := by
                      intro q hq
                      have h0 : (shC l[k].ps).1 = 0 := by
                        unfold pkC at hpk
                        by_cases h : (shC l[k].k.ps).1 = 0
                        · exact h
                        · rw [if_neg h] at hpk; exact absurd hpk h
                      exact ((shC_ok ((shC_some l[k].ps).resolve_right (fun h => h h0))).2.2 q hq).y
                    have hkey : ∀ (lA : List Pc), lA.map Pc.k = l.map Pc.k → ∃ h : k < lA.length, lA[k].k = l[k].k := fun lA h => by
                      have hlen : lA.length = l.length := by have h' := congrArg List.length h; simpa using h'
                      refine ⟨by omega, ?_⟩
                      have h1 := congrArg (fun x => x[k]?) h
                      simp only [List.getElem?_map] at h1
                      rw [List.getElem?_eq_getElem (by omega), List.getElem?_eq_getElem hk'] at h1
                      simpa using h1
                    obtain ⟨p, hpe⟩ : ∃ p, l[k] = p := ⟨_, rfl⟩
                    rw [hpe] at q1 hSk hR h40k hkey
                    obtain ⟨node, poa, plen, pcap, ps, fill, rule, level⟩ := p
                    simp only at q1 hSk hR h40k
                    have hbb : b < wr.heap.size := by have := hbr.size; omega
                    obtain ⟨rv, hrv⟩ : ∃ v, rcB ps (mid y) = v := ⟨_, rfl⟩
                    have SK : ∀ W, Below wr.heap.size wr W → Below wr.heap.size wr W ∧ W.cell? ⟨b, off + k * 5 + 1, none⟩ = some (.slice poa plen pcap) := fun W h => ⟨h, gkeep h q1 rfl⟩
                    have hzr := hbr.size
                    have hle1000 : plen ≤ 1000 := by omega
                    clear q0 q2 q3 q4 hpe hpk hrow hSl hcase hl hlc hm
                    have H_hSk := Lib.hid hSk
                    clear hSk
                    have H_hR := Lib.hid hR
                    clear hR
                    have H_hrv := Lib.hid hrv
                    clear hrv
                    have H_SK := Lib.hid SK
                    clear SK
                    have H_hkey := Lib.hid hkey
                    clear hkey
                    go_wp2_with fail
                    go_region_with (first
                        | (go_at_call 8; go_must ((refine (aspieces_any l (some ⟨b, off, none⟩) len cap _ ?qs hl8 H_h40.out).mono ?_); (case qs => exact H_hs.out.keep (B := w.heap.size) (hbr.trans (Below.mono (B := wr.heap.size) (by repeat' (first | (with_reducible first | exact bwR _ _ | assumption | refine bdn ?_ | refine bwA ?_ ?_ _ | refine bwD ?_ | refine bwS ?_ ?_ _) | omega | (simp <;> omega))) hzr)) rfl); rintro en wA ⟨oaA, capA, lA, rfl, hsA, hkA, hA⟩; have hbA : Below wr.heap.size wr wA := below_via (by repeat' (first | (with_reducible first | exact bwR _ _ | assumption | refine bdn ?_ | refine bwA ?_ ?_ _ | refine bwD ?_ | refine bwS ?_ ?_ _) | omega | (simp <;> omega))) hA; have tA := hbA.size; have q1A := (hbA.cell (p := ⟨b, off + k * 5 + 1, none⟩) hbb).trans q1; obtain ⟨hkl, hkk⟩ := H_hkey.out lA hkA; obtain ⟨_, _, _, hSlA, hcA⟩ := hsA; obtain ⟨bA, offA, rfl, hbAl, hrowA⟩ : ∃ bA offA, oaA = some ⟨bA, offA, none⟩ ∧ bA < wA.heap.size ∧ RowIn EPc wA bA offA lA := (by rcases hcA with ⟨_, h, _⟩ | h; (· omega); (· exact h)); obtain ⟨a0, a1, a2, a3, a4⟩ := pc_cells hrowA hkl; have hSA := hSlA _ (List.getElem_mem hkl); obtain ⟨pA, hpA⟩ : ∃ p, lA[k] = p := ⟨_, rfl⟩; rw [hpA] at a0 a1 a2 a3 a4 hSA hkk; clear hpA hrowA hcA hSlA hkA; obtain ⟨nA, oA, lnA, cA, psA, fA, rA, lvA⟩ := pA; obtain ⟨rfl, rfl, rfl⟩ : psA = ps ∧ fA = fill ∧ rA = rule := (by injection hkk with e1 e2 e3; exact ⟨e1, e2, e3⟩); simp only at a0 a1 a2 a3 a4 hSA; have H_hSA := Lib.hid hSA; clear hSA hkk))
                        | (go_at_call 18; go_must ((refine (reach_any ea ⟨nA, oA, lnA, cA, psA, fA, rA, lvA⟩ y rv _ ?qs H_hR.out h3 ?g1 ?g2 ?g3 H_hrv.out).mono ?_); (case qs => first | exact H_hSA.out | exact H_hSA.out.keep (Below.refl _ _).drew rfl | exact H_hSA.out.keep hRo rfl); (case g1 => exact ((H_hPG.out.keep (B := w.heap.size) (hbr.trans (Below.mono (B := wr.heap.size) (by repeat' (first | (with_reducible first | exact bwR _ _ | assumption | refine bdn ?_ | refine bwA ?_ ?_ _ | refine bwD ?_ | refine bwS ?_ ?_ _) | omega | (simp <;> omega))) hzr)) rfl)).c3); (case g2 => exact ((H_hPG.out.keep (B := w.heap.size) (hbr.trans (Below.mono (B := wr.heap.size) (by repeat' (first | (with_reducible first | exact bwR _ _ | assumption | refine bdn ?_ | refine bwA ?_ ?_ _ | refine bwD ?_ | refine bwS ?_ ?_ _) | omega | (simp <;> omega))) hzr)) rfl)).c2); (case g3 => exact ((H_hPG.out.keep (B := w.heap.size) (hbr.trans (Below.mono (B := wr.heap.size) (by repeat' (first | (with_reducible first | exact bwR _ _ | assumption | refine bdn ?_ | refine bwA ?_ ?_ _ | refine bwD ?_ | refine bwS ?_ ?_ _) | omega | (simp <;> omega))) hzr)) rfl)).c11); rintro en wC ⟨rfl, hC⟩; have hbC : Below wr.heap.size wr wC := below_via (by repeat' (first | (with_reducible first | exact bwR _ _ | assumption | refine bdn ?_ | refine bwA ?_ ?_ _ | refine bwD ?_ | refine bwS ?_ ?_ _) | omega | (simp <;> omega))) hC; have tC := hbC.size; have q1C := (hbC.cell (p := ⟨b, off + k * 5 + 1, none⟩) hbb).trans q1))
                        | (go_at_call 19; go_must ((refine (rreaches_any _ poa plen pcap y rv _ ?qs hle1000 H_hR.out h3 H_hrv.out).mono ?_); (case qs => exact H_hSk.out.keep (B := wr.heap.size) (by repeat' (first | (with_reducible first | exact bwR _ _ | assumption | refine bdn ?_ | refine bwA ?_ ?_ _ | refine bwD ?_ | refine bwS ?_ ?_ _) | omega | (simp <;> omega))) rfl); rintro en wR ⟨rfl, hRo⟩; have hbR : Below wr.heap.size wr wR := below_via (by repeat' (first | (with_reducible first | exact bwR _ _ | assumption | refine bdn ?_ | refine bwA ?_ ?_ _ | refine bwD ?_ | refine bwS ?_ ?_ _) | omega | (simp <;> omega))) hRo; have tR := hbR.size; (try (have a0' := (hRo.cell (p := ⟨bA, offA + k * 5, none⟩) hbAl).trans a0; have a1' := (hRo.cell (p := ⟨bA, offA + k * 5 + 1, none⟩) hbAl).trans a1; have a2' := (hRo.cell (p := ⟨bA, offA + k * 5 + 2, none⟩) hbAl).trans a2; have a3' := (hRo.cell (p := ⟨bA, offA + k * 5 + 3, none⟩) hbAl).trans a3; have a4' := (hRo.cell (p := ⟨bA, offA + k * 5 + 4, none⟩) hbAl).trans a4)))))
                    all_goals
                      go_wp2_with fail
                      go_roundw
                      case rel => exact ⟨k + 1, by omega, by go_num, hBr.trans (Below.mono (B := wr.heap.size) (by repeat' (first | (with_reducible first | exact bwR _ _ | assumption | refine bdn ?_ | refine bwA ?_ ?_ _ | refine bwD ?_ | refine bwS ?_ ?_ _) | omega | (simp <;> omega))) hBr.size)⟩
                      case measure => simp [intOf]; omega
                  · obtain rfl : k = len := by omega
                    go_wp2_with fail
                    go_returns
                    exact ⟨rfl, hbr⟩
/-- PaintCells at any pieces. -/
theorem pc_law (ea : Nat → Addr) (l : List Pc) (oa : Option Addr) (len cap : Nat) (zw zh zy : Int) (w : World) (hs : ArgPc w oa len cap l) (hS : Sents ea w) :
    Calls Tryd.prog 3 #[.slice oa len cap, .int .i64 zw, .int .i64 zh, .int .i64 zy] w fun e w' => e = .returned (.bool true) ∧ Below w.heap.size w w' := by
  by_cases hL : longB l = true
  · exact pc_far ea l oa len cap zw zh zy w hs hS.pg (.inl hL)
  have hL' : longB l = false := by simpa using hL
  by_cases hin : (zw ≤ 15 ∨ 40 < zw) ∧ (zh ≤ 15 ∨ 40 < zh)
  · exact pc_main ea l oa len cap zw zh zy w hs hS hL' hin.1 hin.2
  · exact pc_far ea l oa len cap zw zh zy w hs hS.pg (.inr ⟨hL', by omega⟩)
end Go.Proofs.YtaidgecpglikpaaDoor
