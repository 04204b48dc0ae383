/-
  The statement PaintCounts: its walk.
-/
import Derived.Test.YtaidgecpglikpaaDoorPq5
import Derived.Test.YtaidgecpglikpaaDoorPq1
import Derived.Test.YtaidgecpglikpaaDoorPq6
import Derived.Test.YtaidgecpglikpaaDoorPnR
import Derived.Test.YtaidgecpglikpaaDoorPnQ
namespace Lead
open Go Go.RowKit
theorem cells_small {l : List Pk} {n m : Nat} (h : ∀ p ∈ l, p.fill.size ≤ 1000) : ∀ s ∈ cellsP l n m, s.size ≤ 1000 := by
  have hC : ∀ (p : Pk) (y : Nat), p.fill.size ≤ 1000 → ∀ (out : List ByteArray) (i : Nat), (∀ s ∈ out, s.size ≤ 1000) → ∀ s ∈ onC p y i out, s.size ≤ 1000 := by
    intro p y hp out
    induction out with
    | nil => intro i _ s hs; cases hs
    | cons c r ih =>
      intro i ho s hs
      rw [onC] at hs
      rcases List.mem_cons.1 hs with rfl | hs
      · split
        · exact hp
        · exact ho _ List.mem_cons_self
      · exact ih _ (fun x hx => ho x (List.mem_cons_of_mem _ hx)) s hs
  have hR : ∀ (l : List Pk), (∀ p ∈ l, p.fill.size ≤ 1000) → ∀ (y : Nat) (out : List ByteArray), (∀ s ∈ out, s.size ≤ 1000) → ∀ s ∈ rowP l y out, s.size ≤ 1000 := by
    intro l
    unfold rowP
    induction l with
    | nil => intro _ y out ho; exact ho
    | cons p r ih =>
      intro hl y out ho
      rw [List.foldl_cons]
      refine ih (fun x hx => hl x (List.mem_cons_of_mem _ hx)) y _ ?_
      unfold onRow
      split
      · exact hC p y (hl p List.mem_cons_self) out 0 ho
      · exact ho
  induction m with
  | zero => intro s hs; cases hs
  | succ k ih =>
    intro s hs
    rw [cellsP_step] at hs
    rcases List.mem_append.1 hs with hs | hs
    · exact ih s hs
    · refine hR l h k (dots n) (fun x hx => ?_) s hs
      unfold dots at hx
      have : x = ⟨#[46]⟩ := (List.mem_replicate.1 hx).2
      rw [this]; decide
/-- One name behind another. -/
theorem pair_at {names : List ByteArray} (h : names.Pairwise (fun a b => ¬ b.data.toList ≤ a.data.toList)) {i : Nat} (hi : i + 1 < names.length) : (Op.bytesLess names[i + 1].toList names[i].toList || names[i + 1].toList == names[i].toList) = false := by
  have h1 := List.pairwise_iff_getElem.1 h i (i + 1) (by omega) hi (by omega)
  rw [Go.Proofs.bytesLess_eq, ByteArray.toList_eq, ByteArray.toList_eq, Bool.or_eq_false_iff]
  constructor
  · rw [decide_eq_false_iff_not]
    intro hlt
    exact h1 (List.le_of_lt hlt)
  · rw [beq_eq_false_iff_ne]
    intro he
    exact h1 (by rw [he]; exact List.le_refl _)
theorem PcsIn.app {w : World} {o : Option Nat} {a b : List Pc} (h1 : PcsIn w o a) (h2 : PcsIn w o b) : PcsIn w o (a ++ b) := fun p hp => (List.mem_append.1 hp).elim (h1 p) (h2 p)
theorem sqP_I : ∀ p ∈ sqP, p.I := by
  intro p hp
  simp [sqP] at hp
  rcases hp with rfl | rfl | rfl | rfl <;> exact ⟨by unfold I64; decide, by unfold I64; decide, by unfold I64; decide, by unfold I64; decide⟩
end Lead
namespace Go.Proofs.YtaidgecpglikpaaDoor
open Go.RowKit Lead
set_option maxHeartbeats 1000000 in
theorem square_12 (w : World) : Calls Tryd.prog 22 #[.int .i64 12] w (RetP 80 sqP w) := by
  go_enter Tryd.func22, Tryd.ntmps22
  go_wp2_with fail
  go_returns
  refine ⟨_, rfl, ?_, by repeat' (first | (with_reducible first | exact bwR _ _ | assumption | refine bdn ?_ | refine bwA ?_ ?_ _ | refine bwD ?_ | refine bwS ?_ ?_ _) | omega | (simp <;> omega))⟩
  exact own_lit2 w _ _ _ sqP (by unfold maxLen; decide)
set_option maxHeartbeats 1000000 in
set_option maxRecDepth 100000 in
theorem pq_far (ea : Nat → Addr) (l : List Pc) (oa : Option Addr) (len cap : Nat) (zw zh : Int) (w : World) (hs : ArgPc w oa len cap l) (hP : PGs ea w)
    (hno : longB l = true ∨ (longB l = false ∧ (zw < 1 ∨ (1 ≤ zw ∧ 12 < zw) ∨ (1 ≤ zw ∧ zw ≤ 12 ∧ (zh < 1 ∨ (1 ≤ zh ∧ 12 < zh)))))) :
    Calls Tryd.prog 4 #[.slice oa len cap, .int .i64 zw, .int .i64 zh] w fun e w' => e = .returned (.bool true) ∧ Below w.heap.size w w' := by
  rcases hno with h | ⟨h, h1 | ⟨h1, h2⟩ | ⟨h1, h2, h3 | ⟨h3, h4⟩⟩⟩
  all_goals
    have H_hs := Lib.hid hs
    clear hs
    have H_hP := Lib.hid hP
    clear hP
    have H_h := Lib.hid h
    clear h
    go_enter Tryd.func4, Tryd.ntmps4
    go_wp2_with fail
    refine call_bel (w := w) (by repeat' (first | (with_reducible first | exact bwR _ _ | assumption | refine bdn ?_ | refine bwA ?_ ?_ _ | refine bwD ?_ | refine bwS ?_ ?_ _) | omega | (simp <;> omega))) (fun HB => painted_any ea _ (H_hP.out.keep HB rfl)) ?_
    intro w1 hb1 hz1 c1 d1 hW1
    have t1 := hb1.size
    clear c1 d1 hz1 hW1
    go_wp2_with fail
    refine call_bel (w := w) (by repeat' (first | (with_reducible first | exact bwR _ _ | assumption | refine bdn ?_ | refine bwA ?_ ?_ _ | refine bwD ?_ | refine bwS ?_ ?_ _) | omega | (simp <;> omega))) (fun HB => longpieces_any l oa len cap _ _ (H_hs.out.keep HB rfl) H_h.out) ?_
    intro w2 hb2 hz2 c2 d2 hW2
    have t2 := hb2.size
    clear c2 d2 hz2 hW2
    go_wp2_with fail
    go_returns
    exact ⟨rfl, by repeat' (first | (with_reducible first | exact bwR _ _ | assumption | refine bdn ?_ | refine bwA ?_ ?_ _ | refine bwD ?_ | refine bwS ?_ ?_ _) | omega | (simp <;> omega))⟩
set_option maxHeartbeats 1000000 in
set_option maxRecDepth 100000 in
theorem pq_err (ea : Nat → Addr) (l : List Pc) (oa : Option Addr) (len cap n m : Nat) (w : World) (hs : ArgPc w oa len cap l) (hP : PGs ea w) (hL : longB l = false) (h1 : 1 ≤ n) (h2 : n ≤ 12) (h3 : 1 ≤ m) (h4 : m ≤ 12) (hno : (chkP (l.map Pc.k) 0).1 ≠ 0) :
    Calls Tryd.prog 4 #[.slice oa len cap, .int .i64 n, .int .i64 m] w fun e w' => e = .returned (.bool true) ∧ Below w.heap.size w w' := by
  have hlen8 := (longB_no hL).1
  have h40 : ∀ p ∈ l, p.len ≤ 40 := fun p hp => ((longB_no hL).2 p hp).1
  have hfill : ∀ p ∈ l, p.fill.size ≤ 60 := fun p hp => ((longB_no hL).2 p hp).2.1
  have hl8 : len ≤ 8 := by have := hs.1; omega
  have g1 : ¬ (n : Int) < 1 := by omega
  have g2 : ¬ (12 : Int) < (n : Int) := by omega
  have g3 : ¬ (m : Int) < 1 := by omega
  have g4 : ¬ (12 : Int) < (m : Int) := by omega
  have H_hs := Lib.hid hs
  clear hs
  have H_hP := Lib.hid hP
  clear hP
  have H_hL := Lib.hid hL
  clear hL
  have H_h40 := Lib.hid h40
  clear h40
  have H_hno := Lib.hid hno
  clear hno
  have H_hfill := Lib.hid hfill
  clear hfill
  go_enter Tryd.func4, Tryd.ntmps4
  go_wp2_with fail
  refine call_bel (w := w) (by repeat' (first | (with_reducible first | exact bwR _ _ | assumption | refine bdn ?_ | refine bwA ?_ ?_ _ | refine bwD ?_ | refine bwS ?_ ?_ _) | omega | (simp <;> omega))) (fun HB => painted_any ea _ (H_hP.out.keep HB rfl)) ?_
  intro w1 hb1 hz1 c1 d1 hW1
  have t1 := hb1.size
  clear c1 d1 hz1 hW1
  go_wp2_with fail
  refine call_bel (w := w) (by repeat' (first | (with_reducible first | exact bwR _ _ | assumption | refine bdn ?_ | refine bwA ?_ ?_ _ | refine bwD ?_ | refine bwS ?_ ?_ _) | omega | (simp <;> omega))) (fun HB => longpieces_any l oa len cap _ _ (H_hs.out.keep HB rfl) H_hL.out) ?_
  intro w2 hb2 hz2 c2 d2 hW2
  have t2 := hb2.size
  clear c2 d2 hz2 hW2
  go_wp2_with fail
  refine (aspieces_any l oa len cap w2 (H_hs.out.keep hb2 rfl) hl8 H_h40.out).mono ?_
  rintro _ w3 ⟨oa3, cap3, l3, rfl, hs3, hk3, hB3⟩
  have hb3 : Below w.heap.size w w3 := below_via hb2 hB3
  rw [← hk3] at H_hno
  have H_hs3 := Lib.hid hs3
  clear hs3
  have H_hk3 := Lib.hid hk3
  clear hk3
  go_wp2_with fail
  refine (paint_err ea l3 oa3 l3.length cap3 n m w3 H_hs3.out (H_hP.out.keep hb3 rfl) h1 (by omega) h3 (by omega) H_hno.out).mono ?_
  rintro _ w4 ⟨t4, a4, rfl, hB4⟩
  have hb4 : Below w.heap.size w w4 := below_via hb3 hB4
  have t4' := hb4.size
  go_wp2_with fail
  go_returns
  exact ⟨rfl, by repeat' (first | (with_reducible first | exact bwR _ _ | assumption | refine bdn ?_ | refine bwA ?_ ?_ _ | refine bwD ?_ | refine bwS ?_ ?_ _) | omega | (simp <;> omega))⟩
set_option maxHeartbeats 4000000 in
set_option maxRecDepth 100000 in
theorem pq_ok (ea : Nat → Addr) (l : List Pc) (oa : Option Addr) (len cap n m : Nat) (w : World) (hs : ArgPc w oa len cap l) (hP : PGs ea w) (hL : longB l = false) (h1 : 1 ≤ n) (h2 : n ≤ 12) (h3 : 1 ≤ m) (h4 : m ≤ 12) (hno : chkP (l.map Pc.k) 0 = (0, none)) :
    Calls Tryd.prog 4 #[.slice oa len cap, .int .i64 n, .int .i64 m] w fun e w' => e = .returned (.bool true) ∧ Below w.heap.size w w' := by
  obtain ⟨i0, hi, hz0, hz1, hz2⟩ := info_parts infoPc
  have H_hi := Lib.hid hi
  clear hi
  have H_hz0 := Lib.hid hz0
  clear hz0
  have H_hz1 := Lib.hid hz1
  clear hz1
  have H_hz2 := Lib.hid hz2
  clear hz2
  have hlen8 := (longB_no hL).1
  have h40 : ∀ p ∈ l, p.len ≤ 40 := fun p hp => ((longB_no hL).2 p hp).1
  have hfill : ∀ p ∈ l, p.fill.size ≤ 60 := fun p hp => ((longB_no hL).2 p hp).2.1
  have hl8 : len ≤ 8 := by have := hs.1; omega
  have g1 : ¬ (n : Int) < 1 := by omega
  have g2 : ¬ (12 : Int) < (n : Int) := by omega
  have g3 : ¬ (m : Int) < 1 := by omega
  have g4 : ¬ (12 : Int) < (m : Int) := by omega
  have H_hs := Lib.hid hs
  clear hs
  have H_hP := Lib.hid hP
  clear hP
  have H_hL := Lib.hid hL
  clear hL
  have H_h40 := Lib.hid h40
  clear h40
  have H_hno := Lib.hid hno
  clear hno
  have H_hfill := Lib.hid hfill
  clear hfill
  go_enter Tryd.func4, Tryd.ntmps4
  go_wp2_with fail
  refine call_bel (w := w) (by repeat' (first | (with_reducible first | exact bwR _ _ | assumption | refine bdn ?_ | refine bwA ?_ ?_ _ | refine bwD ?_ | refine bwS ?_ ?_ _) | omega | (simp <;> omega))) (fun HB => painted_any ea _ (H_hP.out.keep HB rfl)) ?_
  intro w1 hb1 hz1 c1 d1 hW1
  have t1 := hb1.size
  clear c1 d1 hz1 hW1
  go_wp2_with fail
  refine call_bel (w := w) (by repeat' (first | (with_reducible first | exact bwR _ _ | assumption | refine bdn ?_ | refine bwA ?_ ?_ _ | refine bwD ?_ | refine bwS ?_ ?_ _) | omega | (simp <;> omega))) (fun HB => longpieces_any l oa len cap _ _ (H_hs.out.keep HB rfl) H_hL.out) ?_
  intro w2 hb2 hz2 c2 d2 hW2
  have t2 := hb2.size
  clear c2 d2 hz2 hW2
  go_wp2_with fail
  refine (aspieces_any l oa len cap w2 (H_hs.out.keep hb2 rfl) hl8 H_h40.out).mono ?_
  rintro _ w3 ⟨oa3, cap3, l3, rfl, hs3, hk3, hB3⟩
  have hb3 : Below w.heap.size w w3 := below_via hb2 hB3
  have hok3 : chkP (l3.map Pc.k) 0 = (0, none) := by rw [hk3]; exact H_hno.out
  have H_hs3 := Lib.hid hs3
  clear hs3
  have H_hk3 := Lib.hid hk3
  clear hk3
  have H_hok3 := Lib.hid hok3
  clear hok3
  go_wp2_with fail
  refine (paint_ok ea l3 oa3 l3.length cap3 n m w3 H_hs3.out (H_hP.out.keep hb3 rfl) h1 (by omega) h3 (by omega) H_hok3.out).mono ?_
  rintro _ w4 ⟨gc, cp, rfl, hgc0, hgc1, hcp, hrow4, hB4⟩
  have hb4 : Below w.heap.size w w4 := below_via hb3 hB4
  have t4' := hb4.size
  have hsm : ∀ s ∈ cellsP (l3.map Pc.k) n m, s.size ≤ 1000 := by
    refine cells_small fun p hp => ?_
    rw [H_hk3.out] at hp
    obtain ⟨q, hq, rfl⟩ := List.mem_map.1 hp
    exact Nat.le_trans (H_hfill.out q hq) (by decide)
  have hclen := cellsP_len (l3.map Pc.k) n m
  have hmn : m * n ≤ 144 := Nat.le_trans (Nat.mul_le_mul h4 h2) (by decide)
  have hmn1 : 1 ≤ m * n := Nat.le_trans (by decide) (Nat.mul_le_mul h3 h1)
  rw [H_hk3.out] at hrow4 hcp hclen hsm ⊢
  obtain ⟨cs, hcs⟩ : ∃ c, cellsP (l.map Pc.k) n m = c := ⟨_, rfl⟩
  rw [hcs] at hrow4 hcp hclen hsm ⊢
  obtain ⟨N, hN⟩ : ∃ u, m * n = u := ⟨_, rfl⟩
  have hNi : (n : Int) * (m : Int) = (N : Int) := by rw [← hN, Nat.mul_comm]; exact (Int.natCast_mul _ _).symm
  have hNw : IntKind.i64.wrap ((n : Int) * (m : Int)) = (N : Int) := by rw [hNi]; exact IntWalk.i64_in _ (by omega)
  have hcl : cs.length = N := hclen.trans hN
  have hN144 : N ≤ 144 := by omega
  have hN1 : 1 ≤ N := by omega
  have hN' : m * n = N := hN
  clear hmn hmn1 hclen hN hNi
  obtain ⟨L, hLL⟩ : ∃ u, cs.length = u := ⟨_, rfl⟩
  have hLN : L = N := hLL.symm.trans hcl
  subst hLN
  rw [hLL] at hcp ⊢
  have H_hrow4 := Lib.hid hrow4
  clear hrow4
  have H_hcs := Lib.hid hcs
  clear hcs
  have H_hsm := Lib.hid hsm
  clear hsm
  have H_hcl := Lib.hid hcl
  clear hcl
  have H_hLL := Lib.hid hLL
  clear hLL
  have H_hNw := Lib.hid hNw
  clear hNw
  have H_hN' := Lib.hid hN'
  clear hN'
  go_wp2_with fail
  obtain ⟨gp, hgp⟩ : ∃ u, w4.heap.size = u := ⟨_, rfl⟩
  obtain ⟨w5, hw5⟩ : ∃ u, w4.alloc (.cells #[.int .i64 n, .int .i64 m, .slice (some ⟨gc, 0, none⟩) L cp] 27) = u := ⟨_, rfl⟩
  have hb5 : Below w.heap.size w w5 := by rw [← hw5]; exact by repeat' (first | (with_reducible first | exact bwR _ _ | assumption | refine bdn ?_ | refine bwA ?_ ?_ _ | refine bwD ?_ | refine bwS ?_ ?_ _) | omega | (simp <;> omega))
  have p0 : w5.cell? ⟨gp, 0, none⟩ = some (.int .i64 n) := by rw [← hw5, ← hgp, World.cell?_alloc_new]; rfl
  have p1 : w5.cell? ⟨gp, 1, none⟩ = some (.int .i64 m) := by rw [← hw5, ← hgp, World.cell?_alloc_new]; rfl
  have p2 : w5.cell? ⟨gp, 2, none⟩ = some (.slice (some ⟨gc, 0, none⟩) L cp) := by rw [← hw5, ← hgp, World.cell?_alloc_new]; rfl
  have hpj : ∀ j, w5.cell? ⟨gp, j, none⟩ = #[Value.int .i64 n, .int .i64 m, .slice (some ⟨gc, 0, none⟩) L cp][j]? := fun j => by rw [← hw5, ← hgp, World.cell?_alloc_new]
  have hrow5 : RowIn ESt w5 gc 0 cs := H_hrow4.out.keep (B := w4.heap.size) (by rw [← hw5]; exact (Below.refl _ _).alloc (Nat.le_refl _) _) hgc1
  have lgp : gp < w5.heap.size := by rw [← hw5, ← hgp]; simp
  have lgc : gc < w5.heap.size := by rw [← hw5]; simp; omega
  have gpw : w.heap.size ≤ gp := by rw [← hgp]; exact t4'
  rw [hgp, hw5]
  have H_hrow5 := Lib.hid hrow5
  clear hrow5
  have H_hpj := Lib.hid hpj
  clear hpj
  clear hw5 hgp H_hrow4 hgc0 hgc1 hB4 hb4 t4'
  refine (count_any cs gc L cp n m w5 H_hLL.out.symm hcp (by rw [H_hLL.out]; omega) lgc (fun s hs => by have := H_hsm.out s hs; unfold maxLen; omega) H_hrow5.out).mono ?_
  rintro _ w6 ⟨v1, v2, rfl, ⟨names, ho1, ho2, hmem, hnd, hasc⟩, hB6⟩
  have hb6 : Below w.heap.size w w6 := below_via hb5 hB6
  have t6 := hB6.size
  have hsum : (names.map (howMany cs)).sum = L := (sum_howMany names hnd cs (fun x hx => (hmem x).2 hx)).trans H_hLL.out
  have hpos : ∀ x ∈ names, 0 < howMany cs x := fun x hx => howMany_pos ((hmem x).1 hx)
  obtain ⟨g1, c1', rfl, hg1a, hg1, _, hm1, hr1⟩ : ∃ g1 c1, v1 = .slice (some ⟨g1, 0, none⟩) names.length c1 ∧ w5.heap.size ≤ g1 ∧ g1 < w6.heap.size ∧ names.length ≤ c1 ∧ names.length ≤ maxLen ∧ RowIn ESt w6 g1 0 names := by
    rcases ho1.form with ⟨_, h⟩ | h
    · rw [h] at hsum; simp at hsum; omega
    · exact h
  obtain ⟨g2, c2', rfl, hg2a, hg2, _, hm2, hr2⟩ : ∃ g2 c2, v2 = .slice (some ⟨g2, 0, none⟩) names.length c2 ∧ w5.heap.size ≤ g2 ∧ g2 < w6.heap.size ∧ names.length ≤ c2 ∧ names.length ≤ maxLen ∧ RowIn ECn w6 g2 0 (names.map (howMany cs)) := by
    rcases ho2.form with ⟨_, h⟩ | h
    · rw [h] at hsum; simp at hsum; omega
    · rw [List.length_map] at h; exact h
  have hnl : names.length ≤ L := by
    have h2 : ∀ (r : List ByteArray), (∀ x ∈ r, x ∈ names) → r.length ≤ (r.map (howMany cs)).sum := by
      intro r
      induction r with
      | nil => intro _; exact Nat.le_refl _
      | cons y r ih =>
        intro hm
        have h3 := ih (fun x hx => hm x (List.mem_cons_of_mem _ hx))
        have h4 := hpos y (hm y List.mem_cons_self)
        rw [List.map_cons, List.sum_cons, List.length_cons]; omega
    have := h2 names (fun x hx => hx)
    omega
  have r0 := (hB6.cell (p := ⟨gp, 0, none⟩) lgp).trans p0
  have r1 := (hB6.cell (p := ⟨gp, 1, none⟩) lgp).trans p1
  have r2 := (hB6.cell (p := ⟨gp, 2, none⟩) lgp).trans p2
  have hrow6 : RowIn ESt w6 gc 0 cs := H_hrow5.out.keep hB6 lgc
  have e0 : ((names.length : Int) != (names.length : Int)) = false := by simp
  have lgp6 : gp < w6.heap.size := by omega
  have lgc6 : gc < w6.heap.size := by omega
  clear ho1 ho2 p0 p1 p2 hm1 hm2 H_hrow5 hmem hnd
  have H_hr1 := Lib.hid hr1
  clear hr1
  have H_hr2 := Lib.hid hr2
  clear hr2
  have H_hrow6 := Lib.hid hrow6
  clear hrow6
  have H_hsum := Lib.hid hsum
  clear hsum
  have H_hpos := Lib.hid hpos
  clear hpos
  have H_hasc := Lib.hid hasc
  clear hasc
  go_wp2_with fail
  go_loopw [12, 13] (fun t12 t13 wr => ∃ i : Nat, i ≤ names.length ∧ t13 = .int .i64 i ∧ t12 = .int .i64 ((((names.map (howMany cs)).take i).sum : Nat) : Int) ∧ Below w6.heap.size w6 wr) (fun _ t13 _ => names.length - (intOf t13).toNat)
  case atStart => exact ⟨0, Nat.zero_le _, rfl, rfl, Below.refl _ _⟩
  case round =>
    obtain ⟨i, hi', rfl, rfl, hB⟩ := hrel
    have hzr := hB.size
    have s0 := (hB.cell (p := ⟨gp, 0, none⟩) lgp6).trans r0
    have s1 := (hB.cell (p := ⟨gp, 1, none⟩) lgp6).trans r1
    have s2 := (hB.cell (p := ⟨gp, 2, none⟩) lgp6).trans r2
    by_cases hlt : i < names.length
    · have hni : (names.map (howMany cs))[i]'(by rw [List.length_map]; exact hlt) = howMany cs names[i] := List.getElem_map _
      have hst := sum_take (l := names.map (howMany cs)) (i := i) (by rw [List.length_map]; exact hlt)
      rw [hni] at hst
      have hle : howMany cs names[i] ≤ L := by have := howMany_le cs names[i]; rw [H_hLL.out] at this; exact this
      have hpo := H_hpos.out names[i] (List.getElem_mem hlt)
      have hT1 : ((names.map (howMany cs)).take (i + 1)).sum ≤ L := by
        have h := H_hsum.out
        have h2 : (names.map (howMany cs)).sum = ((names.map (howMany cs)).take (i + 1)).sum + ((names.map (howMany cs)).drop (i + 1)).sum := by rw [← List.sum_append, List.take_append_drop]
        omega
      have q1 : wr.cell? ⟨g1, i, none⟩ = some (.string names[i]) := by
        have h := (H_hr1.out.keep hB hg1) i hlt 0 _ rfl
        simpa [ESt] using h
      have q2 : wr.cell? ⟨g2, i, none⟩ = some (.int .i64 ((howMany cs names[i] : Nat) : Int)) := by
        have h := (H_hr2.out.keep hB hg2) i (by rw [List.length_map]; exact hlt) 0 _ rfl
        rw [hni] at h
        simpa [ECn] using h
      have hprev : ∀ h0 : 0 < i, wr.cell? ⟨g1, i - 1, none⟩ = some (.string names[i - 1]) ∧ (Op.bytesLess names[i].toList names[i - 1].toList || names[i].toList == names[i - 1].toList) = false := by
        intro h0
        constructor
        · have h := (H_hr1.out.keep hB hg1) (i - 1) (by omega) 0 _ rfl
          simpa [ESt] using h
        · have h := pair_at H_hasc.out (i := i - 1) (by omega)
          have e : i - 1 + 1 = i := by omega
          simpa only [e] using h
      obtain ⟨s, hs'⟩ : ∃ s, names[i] = s := ⟨_, rfl⟩
      rw [hs'] at q1 q2 hst hle hpo hprev
      obtain ⟨A, hA⟩ : ∃ u, ((names.map (howMany cs)).take i).sum = u := ⟨_, rfl⟩
      obtain ⟨A', hA'⟩ : ∃ u, ((names.map (howMany cs)).take (i + 1)).sum = u := ⟨_, rfl⟩
      rw [hA, hA'] at hst
      rw [hA'] at hT1
      rw [hA]
      clear hni hs'
      have H_hprev := Lib.hid hprev
      clear hprev
      have H_hst := Lib.hid hst
      clear hst
      have H_hA := Lib.hid hA
      clear hA
      have H_hA' := Lib.hid hA'
      clear hA'
      have hAL : A + howMany cs s ≤ L := by have := H_hst.out; omega
      obtain ⟨wo, rfl⟩ : ∃ wo : World, wo = wr := ⟨_, rfl⟩
      go_wp2_with fail
      go_loopw [14, 15] (fun t14 t15 wi => ∃ k : Nat, k ≤ L ∧ t15 = .int .i64 k ∧ t14 = .int .i64 ((howMany (cs.take k) s : Nat) : Int) ∧ Below wo.heap.size wo wi) (fun _ t15 _ => L - (intOf t15).toNat)
      case atStart => exact ⟨0, Nat.zero_le _, rfl, rfl, Below.refl _ _⟩
      case round =>
        obtain ⟨k, hk, rfl, rfl, hBi⟩ := hrel
        have hzi := hBi.size
        have m2 := (hBi.cell (p := ⟨gp, 2, none⟩) (by show gp < _; omega)).trans s2
        by_cases hlk : k < L
        · have hk' : k < cs.length := by have := H_hLL.out; omega
          have hst2 : howMany (cs.take (k + 1)) s = howMany (cs.take k) s + (if cs[k] = s then 1 else 0) := by rw [List.take_succ_eq_append_getElem hk', howMany_snoc]
          have hle2 : howMany (cs.take k) s ≤ k := Nat.le_trans (howMany_le _ _) (List.length_take_le _ _)
          have u1 : wr.cell? ⟨gc, k, none⟩ = some (.string cs[k]) := by
            have h := (H_hrow6.out.keep (hB.trans (hBi.mono hzr)) lgc6) k hk' 0 _ rfl
            simpa [ESt] using h
          have u2 := (hBi.cell (p := ⟨g1, i, none⟩) (by show g1 < _; omega)).trans q1
          have hne : cs[k] ≠ s → (cs[k].toList == s.toList) = false := by
            intro h
            rw [beq_eq_false_iff_ne]
            intro h'
            rw [ByteArray.toList_eq, ByteArray.toList_eq] at h'
            exact h (by cases hx : cs[k]; cases hy : s; rw [hx, hy] at h'; simpa using h')
          obtain ⟨c, hc⟩ : ∃ c, cs[k] = c := ⟨_, rfl⟩
          rw [hc] at u1 hst2 hne
          obtain ⟨M, hM⟩ : ∃ u, howMany (cs.take k) s = u := ⟨_, rfl⟩
          rw [hM] at hst2 hle2 ⊢
          clear hc hM
          by_cases hcs' : c = s
          · rw [if_pos hcs'] at hst2
            rw [hcs'] at u1
            clear hne hcs'
            have H_hst2 := Lib.hid hst2
            clear hst2
            go_wp2_with fail
            go_region
            all_goals
              go_wp2_with fail
              go_roundw
              case rel => exact ⟨k + 1, by omega, by go_num, by rw [H_hst2.out]; go_num, by repeat' (first | (with_reducible first | exact bwR _ _ | assumption | refine bdn ?_ | refine bwA ?_ ?_ _ | refine bwD ?_ | refine bwS ?_ ?_ _) | omega | (simp <;> omega))⟩
              case measure => simp [intOf]; omega
          · rw [if_neg hcs'] at hst2
            have hne' := hne hcs'
            clear hne hcs'
            have H_hst2 := Lib.hid hst2
            clear hst2
            go_wp2_with fail
            go_region
            all_goals
              go_wp2_with fail
              go_roundw
              case rel => exact ⟨k + 1, by omega, by go_num, by rw [H_hst2.out]; rfl, by repeat' (first | (with_reducible first | exact bwR _ _ | assumption | refine bdn ?_ | refine bwA ?_ ?_ _ | refine bwD ?_ | refine bwS ?_ ?_ _) | omega | (simp <;> omega))⟩
              case measure => simp [intOf]; omega
        · obtain rfl : k = L := by omega
          rw [List.take_of_length_le (show cs.length ≤ k by rw [H_hLL.out]; exact Nat.le_refl _)]
          have v1 := (hBi.cell (p := ⟨g1, i, none⟩) (by show g1 < _; omega)).trans q1
          have v2 := (hBi.cell (p := ⟨g2, i, none⟩) (by show g2 < _; omega)).trans q2
          have hn0 : (((howMany cs s : Nat) : Int) == 0) = false := by rw [beq_eq_false_iff_ne]; omega
          have hBo : Below w6.heap.size w6 wr := hB.trans (hBi.mono hzr)
          clear q1 q2 s0 s1 s2
          by_cases hi0 : 0 < i
          · obtain ⟨b1, b2⟩ := H_hprev.out hi0
            have b1' := (hBi.cell (p := ⟨g1, i - 1, none⟩) (by show g1 < _; omega)).trans b1
            have hd0 : decide (0 < (i : Int)) = true := by simpa using hi0
            obtain ⟨t, ht⟩ : ∃ t, names[i - 1] = t := ⟨_, rfl⟩
            rw [ht] at b1' b2
            have hi1 : IntKind.i64.wrap ((i : Int) - 1) = ((i - 1 : Nat) : Int) := by rw [show (i : Int) - 1 = ((i - 1 : Nat) : Int) by omega]; exact IntWalk.i64_in _ (by omega)
            clear b1 ht
            go_wp2_with fail
            go_quiet (fail)
            all_goals
              go_wp2_with fail
              go_roundw
              case rel => exact ⟨i + 1, by omega, by go_num, by rw [H_hA'.out, H_hst.out]; go_num, by repeat' (first | exact hBo | refine bdn ?_ | refine bwD ?_)⟩
              case measure => simp [intOf]; omega
          · have hd0 : decide (0 < (i : Int)) = false := by simpa using hi0
            go_wp2_with fail
            go_quiet (fail)
            all_goals
              go_wp2_with fail
              go_roundw
              case rel => exact ⟨i + 1, by omega, by go_num, by rw [H_hA'.out, H_hst.out]; go_num, by repeat' (first | exact hBo | refine bdn ?_ | refine bwD ?_)⟩
              case measure => simp [intOf]; omega
    · obtain rfl : i = names.length := by omega
      have hall : ((names.map (howMany cs)).take names.length).sum = L := by rw [List.take_of_length_le (by rw [List.length_map]; exact Nat.le_refl _)]; exact H_hsum.out
      rw [hall]
      have hNw' := H_hNw.out
      have hbr : Below w.heap.size w wr := below_via hb6 hB
      have hrowr : RowIn ESt wr gc 0 cs := H_hrow6.out.keep hB lgc6
      have ne0 : ((L : Int) != (L : Int)) = false := by simp
      clear hall H_hsum H_hr1 H_hr2 H_hasc H_hpos
      have H_hrowr := Lib.hid hrowr
      clear hrowr
      go_wp2_with fail
      refine (same2_any cs cs gc gc L L cp cp n m true wr (by omega) (by omega) H_hrowr.out H_hrowr.out H_hLL.out.symm H_hLL.out.symm (by omega) (by omega) (by simp)).mono ?_
      rintro _ w7 ⟨rfl, hB7⟩
      have hb7 : Below w.heap.size w w7 := below_via hbr hB7
      have t7 := hB7.size
      have k0 := (hB7.cell (p := ⟨gp, 0, none⟩) (by show gp < _; omega)).trans s0
      have k1 := (hB7.cell (p := ⟨gp, 1, none⟩) (by show gp < _; omega)).trans s1
      have k2 := (hB7.cell (p := ⟨gp, 2, none⟩) (by show gp < _; omega)).trans s2
      have hpj7 : ∀ j, w7.cell? ⟨gp, j, none⟩ = #[Value.int .i64 n, .int .i64 m, .slice (some ⟨gc, 0, none⟩) L cp][j]? := fun j => by rw [hB7.cell (p := ⟨gp, j, none⟩) (by show gp < _; omega), hB.cell (p := ⟨gp, j, none⟩) lgp6, hB6.cell (p := ⟨gp, j, none⟩) lgp]; exact H_hpj.out j
      have hrow7 : RowIn ESt w7 gc 0 cs := H_hrowr.out.keep hB7 (by omega)
      have lgp7 : gp < w7.heap.size := by omega
      have lgc7 : gc < w7.heap.size := by omega
      clear s0 s1 s2 r0 r1 r2 hB hB7 hB6 H_hrowr H_hrow6 hb6 hbr
      have H_hrow7 := Lib.hid hrow7
      clear hrow7
      have H_k0 := Lib.hid k0
      clear k0
      have H_k1 := Lib.hid k1
      clear k1
      have H_k2 := Lib.hid k2
      clear k2
      have H_hpj7 := Lib.hid hpj7
      clear hpj7
      go_wp2_with fail
      refine (aspieces_own l oa len cap w7 (H_hs.out.keep hb7 rfl) hl8 H_h40.out).mono ?_
      rintro _ w8 ⟨v8, l8, rfl, hown8, hin8, hk8, hB8⟩
      have t8 := hB8.size
      have hl8' : l8.length ≤ 8 := by
        have h := congrArg List.length hk8
        simp at h; omega
      have H_hown8 := Lib.hid hown8
      clear hown8
      have H_hin8 := Lib.hid hin8
      clear hin8
      have H_hk8 := Lib.hid hk8
      clear hk8
      go_wp2_with fail
      refine (square_12 w8).mono ?_
      rintro _ w9 ⟨v9, rfl, hv9, hB9⟩
      have t9 := hB9.size
      obtain ⟨oa9, cap9, rfl, hs9⟩ := hv9.slp sqP_I
      have hown9 : OwnR EPc w9 w7.heap.size 50 v8 l8 := H_hown8.out.keep hB9
      have hin9 : PcsIn w9 v8.ownBlock l8 := H_hin8.out.keep hB9
      have hnew : PcsIn w9 v8.ownBlock [⟨0, oa9, sqP.length, cap9, sqP, zB, wB, 0⟩] := by
        intro q hq
        obtain rfl : q = _ := by simpa using hq
        refine ⟨hs9, fun a ha e => ?_⟩
        have h1 := (hv9.lt a.block (by simp only at ha; rw [ha]; rfl)).1
        have h2 := (H_hown8.out.lt a.block e).2
        omega
      have hinN := hin9.app hnew
      have hb9 : Below w.heap.size w w9 := below_via (below_via hb7 hB8) hB9
      have hB79 : Below w7.heap.size w7 w9 := below_via hB8 hB9
      clear hv9 hnew hin9 hs9
      have H_hown9 := Lib.hid hown9
      clear hown9
      have H_hinN := Lib.hid hinN
      clear hinN
      go_wp2_with (at_builtin; refine wp_append_told rfl (.tmp 133) (.tmp 137) 32 rfl EPc w7.heap.size 50 i0 _ 72 Tryd.underlying32 H_hi.out H_hz0.out H_hz1.out H_hz2.out rfl (by decide) _ l8 rfl _ _ 1 1 [⟨0, oa9, sqP.length, cap9, sqP, zB, wB, 0⟩] rfl rfl ?a1 ?a2 ?a3 ?a4 ?_)
      case a1 => simp; omega
      case a2 => exact H_hown9.out.alloc _
      case a3 => exact row_one (vs := #[.int .i64 0, .slice oa9 sqP.length cap9, .string zB, .string wB, .int .i64 0]) rfl (fun j => World.cell?_alloc_new _ _ _ _)
      case a4 => simp; omega
      intro v10 w10 hv10 hA10 hg10 ho10
      have hn10 := (H_hinN.out.keep (w' := _) ((Below.refl _ _).alloc (Nat.le_refl _) _)).grown hg10 (by rw [World.size_alloc]; exact ho10)
      obtain ⟨oaX, capX, rfl, hsX⟩ := slpc_own hv10 (fun p hp => (hn10 p hp).1)
      have hB710 : Below w7.heap.size w7 w10 := (hB79.alloc (by omega) _).trans hA10
      have hb10 : Below w.heap.size w w10 := below_via hb7 hB710
      have hkX : (l8 ++ [(⟨0, oa9, sqP.length, cap9, sqP, zB, wB, 0⟩ : Pc)]).map Pc.k = l.map Pc.k ++ [sqK] := by rw [List.map_append, H_hk8.out]; rfl
      have hokX : chkP ((l8 ++ [(⟨0, oa9, sqP.length, cap9, sqP, zB, wB, 0⟩ : Pc)]).map Pc.k) 0 = (0, none) := by rw [hkX]; exact chkP_sq H_hno.out
      have hcX : cellsP ((l8 ++ [(⟨0, oa9, sqP.length, cap9, sqP, zB, wB, 0⟩ : Pc)]).map Pc.k) n m = List.replicate L zB := by rw [hkX, cellsP_sq _ h2 h4, H_hN'.out]
      obtain ⟨lX, hlX⟩ : ∃ u, l8 ++ [(⟨0, oa9, sqP.length, cap9, sqP, zB, wB, 0⟩ : Pc)] = u := ⟨_, rfl⟩
      rw [hlX] at hsX hokX hcX ⊢
      clear hv10 hA10 hg10 ho10 hn10 hkX hlX H_hinN H_hown9 H_hown8 H_hin8 H_hk8
      have H_hsX := Lib.hid hsX
      clear hsX
      have H_hokX := Lib.hid hokX
      clear hokX
      have H_hcX := Lib.hid hcX
      clear hcX
      go_wp2_with fail
      refine (paint_ok ea lX oaX lX.length capX n m w10 H_hsX.out (H_hP.out.keep hb10 rfl) h1 (by omega) h3 (by omega) H_hokX.out).mono ?_
      rintro _ w11 ⟨gz, cq, rfl, hgz0, hgz1, hcq, hrowz, hB11⟩
      rw [H_hcX.out] at hcq hrowz ⊢
      rw [List.length_replicate] at hcq ⊢
      have t11 := hB11.size
      have hb11 : Below w.heap.size w w11 := below_via hb10 hB11
      have hB711 : Below w7.heap.size w7 w11 := below_via hB710 hB11
      have H_hrowz := Lib.hid hrowz
      clear hrowz
      go_wp2_with fail
      obtain ⟨gq, hgq⟩ : ∃ u, w11.heap.size = u := ⟨_, rfl⟩
      obtain ⟨we, hwe⟩ : ∃ u, w11.alloc (.cells #[.int .i64 n, .int .i64 m, .slice (some ⟨gz, 0, none⟩) L cq] 27) = u := ⟨_, rfl⟩
      have hbe : Below w.heap.size w we := by rw [← hwe]; exact hb11.alloc hb11.size _
      have hB7e : Below w7.heap.size w7 we := by rw [← hwe]; exact hB711.alloc hB711.size _
      have hqc : ∀ j, we.cell? ⟨gq, j, none⟩ = #[Value.int .i64 n, .int .i64 m, .slice (some ⟨gz, 0, none⟩) L cq][j]? := fun j => by rw [← hwe, ← hgq, World.cell?_alloc_new]
      have hpc : ∀ j, we.cell? ⟨gp, j, none⟩ = #[Value.int .i64 n, .int .i64 m, .slice (some ⟨gc, 0, none⟩) L cp][j]? := fun j => by
        rw [hB7e.cell (p := ⟨gp, j, none⟩) lgp7]
        exact H_hpj7.out j
      have hrowze : RowIn ESt we gz 0 (List.replicate L zB) := H_hrowz.out.keep (B := w11.heap.size) (by rw [← hwe]; exact (Below.refl _ _).alloc (Nat.le_refl _) _) hgz1
      have lze : gz < we.heap.size := by rw [← hwe]; simp; omega
      have lqe : gq < we.heap.size := by rw [← hwe, ← hgq]; simp
      have lpe : gp < we.heap.size := Nat.lt_of_lt_of_le lgp7 hB7e.size
      have lce : gc < we.heap.size := Nat.lt_of_lt_of_le lgc7 hB7e.size
      have hrowce : RowIn ESt we gc 0 cs := H_hrow7.out.keep hB7e lgc7
      have qz := hqc 2
      have hz : (zB.toList == [122]) = true := by rw [ByteArray.toList_eq]; rfl
      rw [hgq, hwe]
      clear hwe hgq hB711 hB710 hb11 hb10 hB11 hB79 hb9 H_hrowz H_k0 H_k1 H_k2 hB9 hB8
      have H_hrowze := Lib.hid hrowze
      clear hrowze
      have H_hqc := Lib.hid hqc
      clear hqc
      have H_hpc := Lib.hid hpc
      clear hpc
      have H_hrowce := Lib.hid hrowce
      clear hrowce
      go_loopw [18] (fun t18 wr => ∃ k : Nat, k ≤ L ∧ t18 = .int .i64 k ∧ Below we.heap.size we wr) (fun t18 _ => L - (intOf t18).toNat)
      case atStart => exact ⟨0, Nat.zero_le _, rfl, Below.refl _ _⟩
      case round =>
        obtain ⟨k, hk, rfl, hB⟩ := hrel
        have hzr := hB.size
        have q2 := (hB.cell (p := ⟨gq, 2, none⟩) lqe).trans qz
        by_cases hlk : k < L
        · have u1 : wr.cell? ⟨gz, k, none⟩ = some (.string zB) := by
            have h := (H_hrowze.out.keep hB lze) k (by rw [List.length_replicate]; exact hlk) 0 _ rfl
            rw [List.getElem_replicate] at h
            simpa [ESt] using h
          go_wp2_with fail
          go_roundw
          case rel => exact ⟨k + 1, by omega, by go_num, hB⟩
          case measure => simp [intOf]; omega
        · obtain rfl : k = L := by omega
          obtain ⟨r, hr⟩ : ∃ r, decide (cs = List.replicate k zB) = r := ⟨_, rfl⟩
          have SK : ∀ W, Below wr.heap.size wr W → Below wr.heap.size wr W ∧ (∀ j, W.cell? ⟨gp, j, none⟩ = #[Value.int .i64 n, .int .i64 m, .slice (some ⟨gc, 0, none⟩) k cp][j]?) ∧ (∀ j, W.cell? ⟨gq, j, none⟩ = #[Value.int .i64 n, .int .i64 m, .slice (some ⟨gz, 0, none⟩) k cq][j]?) :=
            fun W h => ⟨h, fun j => (h.cell (p := ⟨gp, j, none⟩) (by show gp < _; omega)).trans ((hB.cell (p := ⟨gp, j, none⟩) lpe).trans (H_hpc.out j)), fun j => (h.cell (p := ⟨gq, j, none⟩) (by show gq < _; omega)).trans ((hB.cell (p := ⟨gq, j, none⟩) lqe).trans (H_hqc.out j))⟩
          have hT : ∀ W, Below wr.heap.size wr W → gc < W.heap.size ∧ gz < W.heap.size ∧ RowIn ESt W gc 0 cs ∧ RowIn ESt W gz 0 (List.replicate k zB) :=
            fun W h => ⟨by have := h.size; omega, by have := h.size; omega, H_hrowce.out.keep (below_via hB h) lce, H_hrowze.out.keep (below_via hB h) lze⟩
          have hbr : Below w.heap.size w wr := below_via hbe hB
          clear qz hB
          have H_SK := Lib.hid SK
          clear SK
          have H_hT := Lib.hid hT
          clear hT
          have H_hr := Lib.hid hr
          clear hr
          go_wp2_with fail
          go_region_held3 (fun W => Below wr.heap.size wr W ∧ (∀ j, W.cell? ⟨gp, j, none⟩ = #[Value.int .i64 n, .int .i64 m, .slice (some ⟨gc, 0, none⟩) k cp][j]?) ∧ (∀ j, W.cell? ⟨gq, j, none⟩ = #[Value.int .i64 n, .int .i64 m, .slice (some ⟨gz, 0, none⟩) k cq][j]?)) (exact H_SK.out _ (by repeat' (first | (with_reducible first | exact bwR _ _ | assumption | refine bdn ?_ | refine bwA ?_ ?_ _ | refine bwD ?_ | refine bwS ?_ ?_ _) | omega | (simp <;> omega))))
            (first | (go_at_call 21; go_must ((refine (same2_any cs (List.replicate k zB) gc gz k k cp cq n m r _ (H_hT.out _ (by repeat' (first | (with_reducible first | exact bwR _ _ | assumption | refine bdn ?_ | refine bwA ?_ ?_ _ | refine bwD ?_ | refine bwS ?_ ?_ _) | omega | (simp <;> omega)))).1 (H_hT.out _ (by repeat' (first | (with_reducible first | exact bwR _ _ | assumption | refine bdn ?_ | refine bwA ?_ ?_ _ | refine bwD ?_ | refine bwS ?_ ?_ _) | omega | (simp <;> omega)))).2.1 (H_hT.out _ (by repeat' (first | (with_reducible first | exact bwR _ _ | assumption | refine bdn ?_ | refine bwA ?_ ?_ _ | refine bwD ?_ | refine bwS ?_ ?_ _) | omega | (simp <;> omega)))).2.2.1 (H_hT.out _ (by repeat' (first | (with_reducible first | exact bwR _ _ | assumption | refine bdn ?_ | refine bwA ?_ ?_ _ | refine bwD ?_ | refine bwS ?_ ?_ _) | omega | (simp <;> omega)))).2.2.2 H_hLL.out.symm (by rw [List.length_replicate]) (by omega) (by omega) H_hr.out).mono ?_); rintro en wS ⟨rfl, hS⟩; have hbS : Below wr.heap.size wr wS := below_via (by repeat' (first | (with_reducible first | exact bwR _ _ | assumption | refine bdn ?_ | refine bwA ?_ ?_ _ | refine bwD ?_ | refine bwS ?_ ?_ _) | omega | (simp <;> omega))) hS; have tS := hbS.size)) | (go_at_call 13; go_must ((refine (sametexts_all gc gz k cp k cq 0 0 cs (List.replicate k zB) r _ (H_hT.out _ (by repeat' (first | (with_reducible first | exact bwR _ _ | assumption | refine bdn ?_ | refine bwA ?_ ?_ _ | refine bwD ?_ | refine bwS ?_ ?_ _) | omega | (simp <;> omega)))).1 (H_hT.out _ (by repeat' (first | (with_reducible first | exact bwR _ _ | assumption | refine bdn ?_ | refine bwA ?_ ?_ _ | refine bwD ?_ | refine bwS ?_ ?_ _) | omega | (simp <;> omega)))).2.1 (H_hT.out _ (by repeat' (first | (with_reducible first | exact bwR _ _ | assumption | refine bdn ?_ | refine bwA ?_ ?_ _ | refine bwD ?_ | refine bwS ?_ ?_ _) | omega | (simp <;> omega)))).2.2.1 (H_hT.out _ (by repeat' (first | (with_reducible first | exact bwR _ _ | assumption | refine bdn ?_ | refine bwA ?_ ?_ _ | refine bwD ?_ | refine bwS ?_ ?_ _) | omega | (simp <;> omega)))).2.2.2 H_hLL.out.symm (by rw [List.length_replicate]) (by omega) (by omega) H_hr.out).mono ?_); rintro en wT ⟨rfl, hT'⟩; have hbT : Below wr.heap.size wr wT := below_via (by repeat' (first | (with_reducible first | exact bwR _ _ | assumption | refine bdn ?_ | refine bwA ?_ ?_ _ | refine bwD ?_ | refine bwS ?_ ?_ _) | omega | (simp <;> omega))) hT'; have tT := hbT.size)))
          all_goals
            go_wp2_with fail
            go_returns
            refine ⟨?_, ?_⟩
            · simp
            · first | exact below_via hbr (by assumption) | exact below_via hbr (by repeat' (first | (with_reducible first | exact bwR _ _ | assumption | refine bdn ?_ | refine bwA ?_ ?_ _ | refine bwD ?_ | refine bwS ?_ ?_ _) | omega | (simp <;> omega)))
/-- PaintCounts at any pieces. -/
theorem pq_law (ea : Nat → Addr) (l : List Pc) (oa : Option Addr) (len cap : Nat) (zw zh : Int) (w : World) (hs : ArgPc w oa len cap l) (hP : PGs ea w) :
    Calls Tryd.prog 4 #[.slice oa len cap, .int .i64 zw, .int .i64 zh] w fun e w' => e = .returned (.bool true) ∧ Below w.heap.size w w' := by
  by_cases hL : longB l = true
  · exact pq_far ea l oa len cap zw zh w hs hP (.inl hL)
  have hL' : longB l = false := by simpa using hL
  by_cases hin : 1 ≤ zw ∧ zw ≤ 12 ∧ 1 ≤ zh ∧ zh ≤ 12
  · obtain ⟨h1, h2, h3, h4⟩ := hin
    obtain ⟨n, rfl⟩ := Int.eq_ofNat_of_zero_le (show 0 ≤ zw by omega)
    obtain ⟨m, rfl⟩ := Int.eq_ofNat_of_zero_le (show 0 ≤ zh by omega)
    rcases chkP_some (l.map Pc.k) 0 with h | h
    · exact pq_ok ea l oa len cap n m w hs hP hL' (by omega) (by omega) (by omega) (by omega) h
    · exact pq_err ea l oa len cap n m w hs hP hL' (by omega) (by omega) (by omega) (by omega) h
  · exact pq_far ea l oa len cap zw zh w hs hP (.inr ⟨hL', by omega⟩)
end Go.Proofs.YtaidgecpglikpaaDoor
