/-
  The statement PaintReaches: its walk, where all is within reach.
-/
import Derived.Test.YtlhadgnpkooiaaaDoorPnR
namespace Go.Proofs.YtlhadgnpkooiaaaDoor
open Go.RowKit Lead
set_option maxHeartbeats 1000000 in
set_option maxRecDepth 100000 in
theorem pr_err (ea : Nat → Addr) (l : List Pc) (oa : Option Addr) (len cap n m y : Nat) (w : World) (hs : ArgPc w oa len cap l) (hP : PGs ea w) (hL : longB l = false) (h1 : 1 ≤ n) (h2 : n ≤ 12) (h3 : 1 ≤ m) (h4 : m ≤ 12) (h5 : y < m) (hno : (chkP (l.map Pc.k) 0).1 ≠ 0) :
    Calls Tryd.prog 3 #[.slice oa len cap, .int .i64 n, .int .i64 m, .int .i64 y] w fun e w' => e = .returned (.bool true) ∧ Below w.heap.size w w' := by
  have hlen8 := (longB_no hL).1
  have h40 : ∀ p ∈ l, p.len ≤ 40 := fun p hp => ((longB_no hL).2 p hp).1
  have hl8 : len ≤ 8 := by have := hs.1; omega
  have g1 : ¬ (n : Int) < 1 := by omega
  have g2 : ¬ (12 : Int) < (n : Int) := by omega
  have g3 : ¬ (m : Int) < 1 := by omega
  have g4 : ¬ (12 : Int) < (m : Int) := by omega
  have g5 : ¬ (y : Int) < 0 := by omega
  have g6 : ¬ (m : Int) ≤ (y : Int) := by omega
  have H_hs := Lib.hid hs
  clear hs
  have H_hP := Lib.hid hP
  clear hP
  have H_hL := Lib.hid hL
  clear hL
  have H_h40 := Lib.hid h40
  clear h40
  have H_hno := Lib.hid hno
  clear hno
  go_enter Tryd.func3, Tryd.ntmps3
  go_wp2_with fail
  refine call_bel (w := w) (by repeat' (first | (with_reducible first | exact bwR _ _ | assumption | refine bdn ?_ | refine bwA ?_ ?_ _ | refine bwD ?_ | refine bwS ?_ ?_ _) | omega | (simp <;> omega))) (fun HB => painted_any ea _ (H_hP.out.keep HB rfl)) ?_
  intro w1 hb1 hz1 c1 d1 hW1
  have t1 := hb1.size
  clear c1 d1 hz1 hW1
  go_wp2_with fail
  refine call_bel (w := w) (by repeat' (first | (with_reducible first | exact bwR _ _ | assumption | refine bdn ?_ | refine bwA ?_ ?_ _ | refine bwD ?_ | refine bwS ?_ ?_ _) | omega | (simp <;> omega))) (fun HB => longpieces_any l oa len cap _ _ (H_hs.out.keep HB rfl) H_hL.out) ?_
  intro w2 hb2 hz2 c2 d2 hW2
  have t2 := hb2.size
  clear c2 d2 hz2 hW2
  go_wp2_with fail
  refine (aspieces_any l oa len cap w2 (H_hs.out.keep hb2 rfl) hl8 H_h40.out).mono ?_
  rintro _ w3 ⟨oa3, cap3, l3, rfl, hs3, hk3, hB3⟩
  have hb3 : Below w.heap.size w w3 := below_via hb2 hB3
  rw [← hk3] at H_hno
  have H_hs3 := Lib.hid hs3
  clear hs3
  have H_hk3 := Lib.hid hk3
  clear hk3
  go_wp2_with fail
  refine (paint_err ea l3 oa3 l3.length cap3 n m w3 H_hs3.out (H_hP.out.keep hb3 rfl) h1 (by omega) h3 (by omega) H_hno.out).mono ?_
  rintro _ w4 ⟨t4, a4, rfl, hB4⟩
  have hb4 : Below w.heap.size w w4 := below_via hb3 hB4
  have t4' := hb4.size
  go_wp2_with fail
  have hb5 : Below w.heap.size w (w4.alloc (.cells #[.int .i64 0, .int .i64 0, .slice none 0 0] 27)) := by repeat' (first | (with_reducible first | exact bwR _ _ | assumption | refine bdn ?_ | refine bwA ?_ ?_ _ | refine bwD ?_ | refine bwS ?_ ?_ _) | omega | (simp <;> omega))
  refine (aspieces_any l oa len cap _ (H_hs.out.keep hb5 rfl) hl8 H_h40.out).mono ?_
  rintro _ w6 ⟨oa6, cap6, l6, rfl, hs6, hk6, hB6⟩
  have hb6 : Below w.heap.size w w6 := below_via hb5 hB6
  have hno6 : (chkP (l6.map Pc.k) 0).1 ≠ 0 := by rw [hk6, ← H_hk3.out]; exact H_hno.out
  have H_hs6 := Lib.hid hs6
  clear hs6
  have H_hk6 := Lib.hid hk6
  clear hk6
  have H_hno6 := Lib.hid hno6
  clear hno6
  go_wp2_with fail
  refine (rowf_err ea l6 oa6 l6.length cap6 n y w6 H_hs6.out (H_hP.out.keep hb6 rfl) h1 (by omega) (by omega) H_hno6.out).mono ?_
  rintro _ w7 ⟨t7, a7, rfl, hB7⟩
  have hb7 : Below w.heap.size w w7 := below_via hb6 hB7
  go_wp2_with fail
  go_returns
  exact ⟨rfl, hb7⟩
set_option maxHeartbeats 1000000 in
set_option maxRecDepth 100000 in
theorem pr_ok (ea : Nat → Addr) (l : List Pc) (oa : Option Addr) (len cap n m y : Nat) (w : World) (hs : ArgPc w oa len cap l) (hP : PGs ea w) (hL : longB l = false) (h1 : 1 ≤ n) (h2 : n ≤ 12) (h3 : 1 ≤ m) (h4 : m ≤ 12) (h5 : y < m) (hno : chkP (l.map Pc.k) 0 = (0, none)) :
    Calls Tryd.prog 3 #[.slice oa len cap, .int .i64 n, .int .i64 m, .int .i64 y] w fun e w' => e = .returned (.bool true) ∧ Below w.heap.size w w' := by
  obtain ⟨i0, hi, hz0, hz1, hz2⟩ := info_parts infoPc
  have H_hi := Lib.hid hi
  clear hi
  have H_hz0 := Lib.hid hz0
  clear hz0
  have H_hz1 := Lib.hid hz1
  clear hz1
  have H_hz2 := Lib.hid hz2
  clear hz2
  have hlen8 := (longB_no hL).1
  have h40 : ∀ p ∈ l, p.len ≤ 40 := fun p hp => ((longB_no hL).2 p hp).1
  have hl8 : len ≤ 8 := by have := hs.1; omega
  have g1 : ¬ (n : Int) < 1 := by omega
  have g2 : ¬ (12 : Int) < (n : Int) := by omega
  have g3 : ¬ (m : Int) < 1 := by omega
  have g4 : ¬ (12 : Int) < (m : Int) := by omega
  have g5 : ¬ (y : Int) < 0 := by omega
  have g6 : ¬ (m : Int) ≤ (y : Int) := by omega
  have H_hs := Lib.hid hs
  clear hs
  have H_hP := Lib.hid hP
  clear hP
  have H_hL := Lib.hid hL
  clear hL
  have H_h40 := Lib.hid h40
  clear h40
  have H_hno := Lib.hid hno
  clear hno
  go_enter Tryd.func3, Tryd.ntmps3
  go_wp2_with fail
  refine call_bel (w := w) (by repeat' (first | (with_reducible first | exact bwR _ _ | assumption | refine bdn ?_ | refine bwA ?_ ?_ _ | refine bwD ?_ | refine bwS ?_ ?_ _) | omega | (simp <;> omega))) (fun HB => painted_any ea _ (H_hP.out.keep HB rfl)) ?_
  intro w1 hb1 hz1 c1 d1 hW1
  have t1 := hb1.size
  clear c1 d1 hz1 hW1
  go_wp2_with fail
  refine call_bel (w := w) (by repeat' (first | (with_reducible first | exact bwR _ _ | assumption | refine bdn ?_ | refine bwA ?_ ?_ _ | refine bwD ?_ | refine bwS ?_ ?_ _) | omega | (simp <;> omega))) (fun HB => longpieces_any l oa len cap _ _ (H_hs.out.keep HB rfl) H_hL.out) ?_
  intro w2 hb2 hz2 c2 d2 hW2
  have t2 := hb2.size
  clear c2 d2 hz2 hW2
  go_wp2_with fail
  refine (aspieces_any l oa len cap w2 (H_hs.out.keep hb2 rfl) hl8 H_h40.out).mono ?_
  rintro _ w3 ⟨oa3, cap3, l3, rfl, hs3, hk3, hB3⟩
  have hb3 : Below w.heap.size w w3 := below_via hb2 hB3
  have hok3 : chkP (l3.map Pc.k) 0 = (0, none) := by rw [hk3]; exact H_hno.out
  have H_hs3 := Lib.hid hs3
  clear hs3
  have H_hk3 := Lib.hid hk3
  clear hk3
  have H_hok3 := Lib.hid hok3
  clear hok3
  go_wp2_with fail
  refine (paint_ok ea l3 oa3 l3.length cap3 n m w3 H_hs3.out (H_hP.out.keep hb3 rfl) h1 (by omega) h3 (by omega) H_hok3.out).mono ?_
  rintro _ w4 ⟨gc, cp, rfl, hgc0, hgc1, hcp, hrow4, hB4⟩
  have hb4 : Below w.heap.size w w4 := below_via hb3 hB4
  have t4' := hb4.size
  have hclen := cellsP_len (l3.map Pc.k) n m
  have hct := cells_take (l3.map Pc.k) n y m h5
  obtain ⟨cs, hcs⟩ : ∃ c, cellsP (l3.map Pc.k) n m = c := ⟨_, rfl⟩
  rw [hcs] at hrow4 hcp hclen hct ⊢
  have H_hrow4 := Lib.hid hrow4
  clear hrow4
  have H_hct := Lib.hid hct
  clear hct
  have H_hcs := Lib.hid hcs
  clear hcs
  have H_hclen := Lib.hid hclen
  clear hclen
  go_wp2_with fail
  obtain ⟨gp, hgp⟩ : ∃ u, w4.heap.size = u := ⟨_, rfl⟩
  obtain ⟨w5, hw5⟩ : ∃ u, w4.alloc (.cells #[.int .i64 n, .int .i64 m, .slice (some ⟨gc, 0, none⟩) cs.length cp] 27) = u := ⟨_, rfl⟩
  have hb5 : Below w.heap.size w w5 := by rw [← hw5]; exact by repeat' (first | (with_reducible first | exact bwR _ _ | assumption | refine bdn ?_ | refine bwA ?_ ?_ _ | refine bwD ?_ | refine bwS ?_ ?_ _) | omega | (simp <;> omega))
  have p5 : w5.cell? ⟨gp, 2, none⟩ = some (.slice (some ⟨gc, 0, none⟩) cs.length cp) := by rw [← hw5, ← hgp, World.cell?_alloc_new]; rfl
  have hrow5 : RowIn ESt w5 gc 0 cs := H_hrow4.out.keep (B := w4.heap.size) (by rw [← hw5]; exact (Below.refl _ _).alloc (Nat.le_refl _) _) hgc1
  have lgp : gp < w5.heap.size := by rw [← hw5, ← hgp]; simp
  have lgc : gc < w5.heap.size := by rw [← hw5]; simp; omega
  rw [hgp, hw5]
  have H_hrow5 := Lib.hid hrow5
  clear hrow5
  clear hw5 hgp H_hrow4 hgc0 hgc1 hB4 hb4 t4'
  refine (aspieces_any l oa len cap _ (H_hs.out.keep hb5 rfl) hl8 H_h40.out).mono ?_
  rintro _ w6 ⟨oa6, cap6, l6, rfl, hs6, hk6, hB6⟩
  have hb6 : Below w.heap.size w w6 := below_via hb5 hB6
  have t6 := hB6.size
  have hok6 : chkP (l6.map Pc.k) 0 = (0, none) := by rw [hk6]; exact H_hno.out
  have H_hs6 := Lib.hid hs6
  clear hs6
  have H_hk6 := Lib.hid hk6
  clear hk6
  have H_hok6 := Lib.hid hok6
  clear hok6
  go_wp2_with fail
  refine (rowf_ok ea l6 oa6 l6.length cap6 n y w6 H_hs6.out (H_hP.out.keep hb6 rfl) h1 (by omega) (by omega) H_hok6.out).mono ?_
  rintro _ w7 ⟨g7, rfl, hg7, hh7, hB7⟩
  have hb7 : Below w.heap.size w w7 := below_via hb6 hB7
  have t7 := hB7.size
  have hB57 : Below w5.heap.size w5 w7 := below_via hB6 hB7
  have p7 := (hB57.cell (p := ⟨gp, 2, none⟩) lgp).trans p5
  have hrow7 : RowIn ESt w7 gc 0 cs := H_hrow5.out.keep hB57 lgc
  have hr7 : RowIn ESt w7 g7 0 (rowP (l6.map Pc.k) y (dots n)) := row_of_heap hh7
  have lg7 : g7 < w7.heap.size := (Array.getElem?_eq_some_iff.1 hh7).1
  have hek : rowP (l3.map Pc.k) y (dots n) = rowP (l6.map Pc.k) y (dots n) := by rw [H_hk3.out, H_hk6.out]
  have hrl : (rowP (l6.map Pc.k) y (dots n)).length = n := by rw [rowP_len]; simp [dots]
  rw [hek] at H_hct
  obtain ⟨q, hq⟩ : ∃ q, n * y = q := ⟨_, rfl⟩
  have hqm : q + n ≤ cs.length := by
    rw [H_hclen.out, ← hq]
    have : (y + 1) * n ≤ m * n := Nat.mul_le_mul_right _ h5
    rw [Nat.succ_mul, Nat.mul_comm y n] at this
    exact this
  have hq144 : q ≤ 144 := by rw [← hq]; exact Nat.le_trans (Nat.mul_le_mul h2 (show y ≤ 12 by omega)) (by decide)
  have hqi : (n : Int) * (y : Int) = (q : Int) := by rw [← hq]; exact (Int.natCast_mul _ _).symm
  have hw1 : IntKind.i64.wrap ((n : Int) * (y : Int)) = (q : Int) := by rw [hqi]; exact IntWalk.i64_in _ (by omega)
  have hw2 : IntKind.i64.wrap ((q : Int) + (n : Int)) = ((q + n : Nat) : Int) := IntWalk.i64_in _ (by omega)
  have hpart : RowIn ESt w7 gc q (rowP (l6.map Pc.k) y (dots n)) := by
    have h := (hrow7.drop (y * n)).take n
    rw [H_hct.out, Nat.mul_comm y n, hq] at h
    simpa [ESt] using h
  have H_hr7 := Lib.hid hr7
  clear hr7
  have H_hrow7 := Lib.hid hrow7
  clear hrow7
  have H_hpart := Lib.hid hpart
  clear hpart
  have H_hrl := Lib.hid hrl
  clear hrl
  have H_hek := Lib.hid hek
  clear hek
  clear hh7 p5
  go_wp2_with fail
  refine (sametexts_any g7 gc n n n (cp - q) _ _ true w7 lg7 (by omega) q H_hr7.out H_hpart.out H_hrl.out.symm H_hrl.out.symm (by omega) (by simp) rfl).mono ?_
  rintro _ w8 ⟨rfl, hB8⟩
  have hb8 : Below w.heap.size w w8 := below_via hb7 hB8
  have hr8 : RowIn ESt w8 g7 0 (rowP (l6.map Pc.k) y (dots n)) := H_hr7.out.keep hB8 lg7
  have t8 := hB8.size
  have H_hr8 := Lib.hid hr8
  clear hr8
  go_wp2_with fail
  refine (aspieces_any l oa len cap _ (H_hs.out.keep hb8 rfl) hl8 H_h40.out).mono ?_
  rintro _ w9 ⟨oa9, cap9, l9, rfl, hs9, hk9, hB9⟩
  have hb9 : Below w.heap.size w w9 := below_via hb8 hB9
  have t9 := hB9.size
  have hr9 : RowIn ESt w9 g7 0 (rowP (l6.map Pc.k) y (dots n)) := H_hr8.out.keep hB9 (by omega)
  have hok9 : chkP (l9.map Pc.k) 0 = (0, none) := by rw [hk9]; exact H_hno.out
  have hall9 : ∀ p ∈ l9, pkC p.k = 0 := fun p hp => chkP_ok hok9 _ (List.mem_map.2 ⟨p, hp, rfl⟩)
  have hl9 : l9.length ≤ 8 := by
    have h := congrArg List.length hk9
    simp at h; omega
  have lg9 : g7 < w9.heap.size := by omega
  have hs9' := hs9
  obtain ⟨_, _, hm9, hSl9, hcase9⟩ := hs9'
  have H_hr9 := Lib.hid hr9
  clear hr9
  have H_hok9 := Lib.hid hok9
  clear hok9
  have H_hall9 := Lib.hid hall9
  clear hall9
  have H_hk9 := Lib.hid hk9
  clear hk9
  have H_hs9 := Lib.hid hs9
  clear hs9
  have H_hSl9 := Lib.hid hSl9
  clear hSl9
  have H_hcase9 := Lib.hid hcase9
  clear hcase9
  clear H_hr8 H_hpart H_hr7 H_hrow7 H_hrow5 H_hct H_hcs
  go_wp2_with fail
  go_loopw [14, 16] (fun t14 t16 wr => ∃ (k : Nat) (own : List Pc), k ≤ l9.length ∧ t16 = .int .i64 k ∧ OwnR EPc wr w9.heap.size 42 t14 own ∧ own = (l9.take k).filter (fun p => rcB p.ps (mid y)) ∧ Below w9.heap.size w9 wr) (fun _ t16 _ => l9.length - (intOf t16).toNat)
  case atStart => exact ⟨0, [], Nat.zero_le _, rfl, OwnR.nil _ _ _ _, by simp, Below.refl _ _⟩
  case round =>
    obtain ⟨k, own, hk, rfl, hown, hof, hB⟩ := hrel
    have hzr := hB.size
    have hbr : Below w.heap.size w wr := below_via hb9 hB
    by_cases hlt : k < l9.length
    · obtain ⟨b9, off9, rfl, hb9l, hrow⟩ : ∃ b off, oa9 = some ⟨b, off, none⟩ ∧ b < w9.heap.size ∧ RowIn EPc w9 b off l9 := by
        rcases H_hcase9.out with ⟨_, h, _⟩ | h
        · omega
        · exact h
      obtain ⟨q0, q1, q2, q3, q4⟩ := pc_cells (hrow.keep hB hb9l) hlt
      have hSk := (H_hSl9.out _ (List.getElem_mem hlt)).keep hB rfl
      have hpk := H_hall9.out _ (List.getElem_mem hlt)
      have hol : own.length ≤ 8 := by rw [hof]; exact Nat.le_trans (List.length_filter_le _ _) (by rw [List.length_take]; omega)
      have hsucc : (l9.take (k + 1)).filter (fun p => rcB p.ps (mid y)) = (l9.take k).filter (fun p => rcB p.ps (mid y)) ++ (if rcB l9[k].ps (mid y) = true then [l9[k]] else []) := by
        rw [List.take_succ_eq_append_getElem hlt, List.filter_append]
        congr 1
        by_cases h : rcB l9[k].ps (mid y) = true <;> simp [h]
      rw [← hof] at hsucc
      obtain ⟨p, hpe⟩ : ∃ p, l9[k] = p := ⟨_, rfl⟩
      rw [hpe] at q0 q1 q2 q3 q4 hSk hpk hsucc
      have hR : ∀ q ∈ p.ps, Right q.yn q.yd := by
        intro q hq
        have h0 : (shC p.ps).1 = 0 := by
          unfold pkC at hpk
          by_cases h : (shC p.k.ps).1 = 0
          · exact h
          · rw [if_neg h] at hpk; exact absurd hpk h
        have h1 : shC p.ps = (0, none) := (shC_some p.ps).resolve_right (fun h => h h0)
        exact ((shC_ok h1).2.2 q hq).y
      clear hpe hrow hof hpk
      obtain ⟨r, hr⟩ : ∃ r, rcB p.ps (mid y) = r := ⟨_, rfl⟩
      rw [hr] at hsucc
      have hP' := H_hP.out.keep hbr rfl
      have hrc := reach_any ea p y r wr hSk hR (by omega) hP'.c3 hP'.c2 hP'.c11 hr
      obtain ⟨node, poa, plen, pcap, ps, fill, rule, level⟩ := p
      simp only at q0 q1 q2 q3 q4 hSk hrc
      have hbr9 : b9 < wr.heap.size := by omega
      clear hSk hR hr hP'
      have H_hown := Lib.hid hown
      clear hown
      have H_hsucc := Lib.hid hsucc
      clear hsucc
      have H_hrc := Lib.hid hrc
      clear hrc
      go_wp2_with fail
      refine H_hrc.out.mono ?_
      rintro _ w10 ⟨rfl, hB10⟩
      have t10 := hB10.size
      have hB10r : Below w9.heap.size w9 w10 := below_via hB hB10
      have p0 := (hB10.cell (p := ⟨b9, off9 + k * 5, none⟩) hbr9).trans q0
      have p1 := (hB10.cell (p := ⟨b9, off9 + k * 5 + 1, none⟩) hbr9).trans q1
      have p2 := (hB10.cell (p := ⟨b9, off9 + k * 5 + 2, none⟩) hbr9).trans q2
      have p3 := (hB10.cell (p := ⟨b9, off9 + k * 5 + 3, none⟩) hbr9).trans q3
      have p4 := (hB10.cell (p := ⟨b9, off9 + k * 5 + 4, none⟩) hbr9).trans q4
      have hown10 := H_hown.out.keep hB10
      have hb910 : b9 < w10.heap.size := by omega
      clear q0 q1 q2 q3 q4
      have H_hown10 := Lib.hid hown10
      clear hown10
      cases r with
      | false =>
        go_wp2_with fail
        go_roundw
        case rel => exact ⟨k + 1, own, by omega, by go_num, H_hown10.out, by rw [H_hsucc.out]; simp, hB10r⟩
        case measure => simp [intOf]; omega
      | true =>
        go_wp2_with (at_builtin; refine wp_append_told rfl (.tmp 108) (.tmp 113) 32 rfl EPc w9.heap.size 42 i0 _ 72 Tryd.underlying32 H_hi.out H_hz0.out H_hz1.out H_hz2.out rfl (by decide) _ own rfl _ _ 1 1 [⟨node, poa, plen, pcap, ps, fill, rule, level⟩] rfl rfl ?a1 ?a2 ?a3 ?a4 ?_)
        case a1 => simp; omega
        case a2 => exact H_hown10.out.alloc _
        case a3 => exact row_one (vs := #[.int .i64 node, .slice poa plen pcap, .string fill, .string rule, .int .i64 level]) rfl (fun j => World.cell?_alloc_new _ _ _ _)
        case a4 => simp; omega
        intro v' w11 hv11 hA11 _ _
        have hB11 : Below w9.heap.size w9 w11 := (hB10r.alloc (by omega) _).trans hA11
        have H_hv11 := Lib.hid hv11
        clear hv11
        clear hA11
        go_wp2_with fail
        go_roundw
        case rel => exact ⟨k + 1, own ++ [⟨node, poa, plen, pcap, ps, fill, rule, level⟩], by omega, by go_num, H_hv11.out, by rw [H_hsucc.out]; simp, hB11⟩
        case measure => simp [intOf]; omega
    · obtain rfl : k = l9.length := by omega
      have hfull : l9.take l9.length = l9 := List.take_of_length_le (Nat.le_refl _)
      rw [hfull] at hof
      have hSlo : ∀ p ∈ own, SlP wr p.oa p.len p.cap p.ps := fun p hp => by
        rw [hof] at hp
        exact (H_hSl9.out p (List.mem_filter.1 hp).1).keep hB rfl
      obtain ⟨oao, capo, rfl, hso⟩ := slpc_own hown hSlo
      have hoko : chkP (own.map Pc.k) 0 = (0, none) := chkP_all fun x hx => by
        obtain ⟨p, hp, rfl⟩ := List.mem_map.1 hx
        rw [hof] at hp
        exact H_hall9.out p (List.mem_filter.1 hp).1
      have hro : rowP (own.map Pc.k) y (dots n) = rowP (l6.map Pc.k) y (dots n) := by
        have e : own.map Pc.k = (l9.map Pc.k).filter (fun x => rcB x.ps (mid y)) := by
          rw [hof, List.filter_map]; rfl
        rw [e, rowP_reach, H_hk9.out, H_hk6.out]
      have hr10 : RowIn ESt wr g7 0 (rowP (l6.map Pc.k) y (dots n)) := H_hr9.out.keep hB lg9
      clear hown hof hfull
      have H_hso := Lib.hid hso
      clear hso
      have H_hoko := Lib.hid hoko
      clear hoko
      have H_hro := Lib.hid hro
      clear hro
      have H_hr10 := Lib.hid hr10
      clear hr10
      go_wp2_with fail
      refine (rowf_ok ea own oao own.length capo n y wr H_hso.out (H_hP.out.keep hbr rfl) h1 (by omega) (by omega) H_hoko.out).mono ?_
      rintro _ w12 ⟨g12, rfl, hg12, hh12, hB12⟩
      rw [H_hro.out] at hh12
      have hb12 : Below w.heap.size w w12 := below_via hbr hB12
      have hr12 : RowIn ESt w12 g12 0 (rowP (l6.map Pc.k) y (dots n)) := row_of_heap hh12
      have hr7' : RowIn ESt w12 g7 0 (rowP (l6.map Pc.k) y (dots n)) := H_hr10.out.keep hB12 (by omega)
      have lg12 : g12 < w12.heap.size := (Array.getElem?_eq_some_iff.1 hh12).1
      have t12 := hB12.size
      clear hh12
      have H_hr12 := Lib.hid hr12
      clear hr12
      have H_hr7' := Lib.hid hr7'
      clear hr7'
      go_wp2_with fail
      refine (sametexts_any g12 g7 n n n n _ _ true w12 lg12 (by omega) 0 H_hr12.out H_hr7'.out H_hrl.out.symm H_hrl.out.symm (by omega) (by simp) rfl).mono ?_
      rintro _ w13 ⟨rfl, hB13⟩
      go_wp2_with fail
      go_returns
      exact ⟨rfl, below_via hb12 hB13⟩
/-- PaintReaches at any pieces. -/
theorem pr_law (ea : Nat → Addr) (l : List Pc) (oa : Option Addr) (len cap : Nat) (zw zh zy : Int) (w : World) (hs : ArgPc w oa len cap l) (hP : PGs ea w) :
    Calls Tryd.prog 3 #[.slice oa len cap, .int .i64 zw, .int .i64 zh, .int .i64 zy] w fun e w' => e = .returned (.bool true) ∧ Below w.heap.size w w' := by
  by_cases hL : longB l = true
  · exact pr_far ea l oa len cap zw zh zy w hs hP (.inl hL)
  have hL' : longB l = false := by simpa using hL
  by_cases hin : 1 ≤ zw ∧ zw ≤ 12 ∧ 1 ≤ zh ∧ zh ≤ 12 ∧ 0 ≤ zy ∧ zy < zh
  · obtain ⟨h1, h2, h3, h4, h5, h6⟩ := hin
    obtain ⟨n, rfl⟩ := Int.eq_ofNat_of_zero_le (show 0 ≤ zw by omega)
    obtain ⟨m, rfl⟩ := Int.eq_ofNat_of_zero_le (show 0 ≤ zh by omega)
    obtain ⟨y, rfl⟩ := Int.eq_ofNat_of_zero_le h5
    rcases chkP_some (l.map Pc.k) 0 with h | h
    · exact pr_ok ea l oa len cap n m y w hs hP hL' (by omega) (by omega) (by omega) (by omega) (by omega) h
    · exact pr_err ea l oa len cap n m y w hs hP hL' (by omega) (by omega) (by omega) (by omega) (by omega) h
  · exact pr_far ea l oa len cap zw zh zy w hs hP (.inr ⟨hL', by omega⟩)
end Go.Proofs.YtlhadgnpkooiaaaDoor
