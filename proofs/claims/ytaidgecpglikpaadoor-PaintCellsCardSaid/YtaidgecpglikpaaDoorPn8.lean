/-
  Walks over package paint: Paint.
-/
import Derived.Test.YtaidgecpglikpaaDoorPn7
import Derived.Deep.RegionLaw
namespace Lead
open Go Go.RowKit
def cellsP (l : List Pk) (n h : Nat) : List ByteArray := (List.range h).flatMap fun y => rowP l y (dots n)
theorem cellsP_step (l : List Pk) (n h : Nat) : cellsP l n (h + 1) = cellsP l n h ++ rowP l h (dots n) := by
  unfold cellsP
  rw [List.range_succ, List.flatMap_append]; simp
theorem cellsP_len (l : List Pk) (n h : Nat) : (cellsP l n h).length = h * n := by
  induction h with
  | zero => simp [cellsP]
  | succ h ih => rw [cellsP_step, List.length_append, ih, rowP_len]; simp [dots, Nat.succ_mul]
theorem row_of_heap {w : World} {g : Nat} {ss : List ByteArray} {t : TypeId} (h : w.heap[g]? = some (.cells (strs ss) t (0, 0))) : RowIn ESt w g 0 ss := by
  refine rowIn_of_cells fun j u hu => ?_
  have e : ESt.flat ss = ss.map Value.string := by
    show ss.flatMap (fun s => [Value.string s]) = _
    clear hu h
    induction ss with
    | nil => rfl
    | cons a r ih => simp [ih]
  rw [e] at hu
  rw [Nat.zero_add]
  exact heap_cell h (by unfold strs; rw [List.getElem?_toArray]; exact hu)
theorem step_append_row3 {α : Type} {P : Program} {ops : Array Oper} {o : Oper} {a : Act} {w : World} {K : Act → World → Prop} {Q : Exit → Act → World → Prop} {X : Prop} (hgd : o.guard = none) (s x : Operand) (t : TypeId)
    (ho : o.op = .call { callee := .builtin .append, args := #[s, x], argTypes := #[t, t] }) (E : Enc α)
    (base : Nat) (e : TypeId) (i : TypeInfo) (z : Value) (nb : Nat) (ht : P.underlying t = some (.slice e)) (hi : P.info? e = some i) (hz : i.zero = some z)
    (hsize : i.size = E.k) (hby : i.bytes = nb) (hzs : z.cells.size = E.k) (hnb : nb ≤ 1000) (v : Value) (qs : List α) (hs : a.eval s = v)
    (b off m c : Nat) (ps : List α) (hx : a.eval x = .slice (some ⟨b, off, none⟩) m c) (hm : m = ps.length) (hlen : qs.length + ps.length ≤ 1000000) (hown : OwnR E w base e v qs) (hp : RowIn E w b off ps)
    (hbase : base ≤ w.heap.size)
    (h : ∀ v' w', OwnR E w' base e v' (qs ++ ps) → Below base w w' → w.grownBy w' v.ownBlock → K (a.put o.dst v') w') : if Region.wanted o (yielded ops a.tmps) = true then Oper.wp P o a w K Q else X := by
  have hw : Region.wanted o (yielded ops a.tmps) = true := by simp [Region.wanted, hgd]
  rw [if_pos hw]
  have hbytes : (qs.length + m) * nb ≤ 140737488355328 := Nat.le_trans (Nat.mul_le_mul (show qs.length + m ≤ 1000000 by omega) hnb) (by decide)
  refine wp_append_own w s x t ho base e i z E.k nb ht hi hz hsize hby hzs E.pos v qs.length (E.flat qs) hs hown ⟨b, off, none⟩ m c (E.flat ps) hx (by rw [E.flat_len, hm]) hp.cells (E.flat_one ps)
    (by unfold maxLen; omega) hbytes hbase ?_
  intro v' w' hown' hgrow _
  refine h v' w' ?_ ((Below.refl base w).grown hgrow hbase (fun q hq => (World.ownsRow.lt hown q hq).1)) hgrow
  unfold OwnR
  rw [List.length_append, E.flat_append, ← hm]
  exact hown'
end Lead
namespace Go.Proofs.YtaidgecpglikpaaDoor
open Go.RowKit Lead
set_option maxHeartbeats 4000000 in
set_option maxRecDepth 100000 in
theorem paint_ok (ea : Nat → Addr) (l : List Pc) (oa : Option Addr) (len cap n m : Nat) (w : World) (hs : SlPc w oa len cap l) (hP : PGs ea w) (h1 : 1 ≤ n) (h40 : n ≤ 40) (hm1 : 1 ≤ m) (hm40 : m ≤ 40) (hok : chkP (l.map Pc.k) 0 = (0, none)) :
    Calls Tryd.prog 7 #[.slice oa len cap, .int .i64 n, .int .i64 m] w fun e w' => ∃ g cp, e = .returned (.tuple #[.agg #[.int .i64 n, .int .i64 m, .slice (some ⟨g, 0, none⟩) (cellsP (l.map Pc.k) n m).length cp], .nilIface]) ∧ w.heap.size ≤ g ∧ g < w'.heap.size ∧ (cellsP (l.map Pc.k) n m).length ≤ cp ∧ RowIn ESt w' g 0 (cellsP (l.map Pc.k) n m) ∧ Below w.heap.size w w' := by
  have hBound := hP.c2
  have hShape := hP.c3
  have hZero := hP.c11
  have zhShape := zlt hShape
  have xhShape := zlts hShape
  have yhShape := zne hShape
  have zhBound := zlt hBound
  have xhBound := zlts hBound
  have yhBound := zne hBound
  have zhZero := zlt hZero
  have xhZero := zlts hZero
  have yhZero := zne hZero
  have hall : ∀ x ∈ l, pkC x.k = 0 := fun x hx => chkP_ok hok _ (List.mem_map.2 ⟨x, hx, rfl⟩)
  have hsd : (decide (1 ≤ (n : Int)) && decide ((n : Int) ≤ 40)) = true := by simp; omega
  have hsm : (decide (1 ≤ (m : Int)) && decide ((m : Int) ≤ 40)) = true := by simp; omega
  obtain ⟨i0, hi, hz0, hz1, hz2⟩ := info_parts infoStr
  have H_hs := Lib.hid hs
  clear hs
  have H_hP := Lib.hid hP
  clear hP
  have H_hok := Lib.hid hok
  clear hok
  have H_hall := Lib.hid hall
  clear hall
  have H_hsd := Lib.hid hsd
  clear hsd
  have H_hsm := Lib.hid hsm
  clear hsm
  have H_hi := Lib.hid hi
  clear hi
  have H_hz0 := Lib.hid hz0
  clear hz0
  have H_hz1 := Lib.hid hz1
  clear hz1
  have H_hz2 := Lib.hid hz2
  clear hz2
  go_enter Tryd.func7, Tryd.ntmps7
  go_wp2_with fail
  refine call_bel (w := w) (by repeat' (first | (with_reducible first | exact bwR _ _ | assumption | refine bdn ?_ | refine bwA ?_ ?_ _ | refine bwD ?_ | refine bwS ?_ ?_ _) | omega | (simp <;> omega))) (fun HB => side_any n true _ H_hsd.out) ?_
  intro w1 hb1 hz1 c1 d1 hW1
  have t1 := hb1.size
  try simp only [szA] at hz1 c1 d1
  try simp only [szD] at hz1 c1 d1
  try simp only [szS] at hz1 c1 d1
  try simp only [World.heap_drewN] at hz1 c1 d1
  try simp only [szA] at hz1 c1 d1
  try simp only [szD] at hz1 c1 d1
  try simp only [szS] at hz1 c1 d1
  have s1_0 : w.heap.size < w1.heap.size := by omega
  have o1_0 := fun j => c1 (w.heap.size) j (by omega)
  have f1_0 := fun j => d1 (w.heap.size) j (by omega)
  clear c1 d1 hz1 hW1
  go_wp2_with fail
  refine call_bel (w := w) (by repeat' (first | (with_reducible first | exact bwR _ _ | assumption | refine bdn ?_ | refine bwA ?_ ?_ _ | refine bwD ?_ | refine bwS ?_ ?_ _) | omega | (simp <;> omega))) (fun HB => side_any m true _ H_hsm.out) ?_
  intro w2 hb2 hz2 c2 d2 hW2
  have t2 := hb2.size
  try simp only [szA] at hz2 c2 d2
  try simp only [szD] at hz2 c2 d2
  try simp only [szS] at hz2 c2 d2
  try simp only [World.heap_drewN] at hz2 c2 d2
  try simp only [szA] at hz2 c2 d2
  try simp only [szD] at hz2 c2 d2
  try simp only [szS] at hz2 c2 d2
  have s2_0 : w.heap.size < w2.heap.size := by omega
  have o2_0 := fun j => c2 (w.heap.size) j (by omega)
  have f2_0 := fun j => d2 (w.heap.size) j (by omega)
  clear c2 d2 hz2 hW2
  go_wp2_with fail
  refine call_ew (w := w) (by repeat' (first | (with_reducible first | exact bwR _ _ | assumption | refine bdn ?_ | refine bwA ?_ ?_ _ | refine bwD ?_ | refine bwS ?_ ?_ _) | omega | (simp <;> omega))) (fun HB => check_any ea l oa len cap _ (H_hs.out.keep HB rfl) (H_hP.out.keep HB rfl)) ?_
  rw [H_hok.out]
  intro x3 w3 hx3 hb3 hz3 c3 d3 hW3
  have t3 := hb3.size
  try simp only [szA] at hz3 c3 d3
  try simp only [szD] at hz3 c3 d3
  try simp only [szS] at hz3 c3 d3
  try simp only [World.heap_drewN] at hz3 c3 d3
  try simp only [szA] at hz3 c3 d3
  try simp only [szD] at hz3 c3 d3
  try simp only [szS] at hz3 c3 d3
  have s3_0 : w.heap.size < w3.heap.size := by omega
  have o3_0 := fun j => c3 (w.heap.size) j (by omega)
  have f3_0 := fun j => d3 (w.heap.size) j (by omega)
  clear c3 d3 hz3 hW3
  obtain rfl := hx3.nil rfl
  clear hx3
  go_wp2_with fail
  obtain ⟨s, hsx⟩ : ∃ u, w3.heap.size = u := ⟨_, rfl⟩
  obtain ⟨wq, hwq⟩ : ∃ u, w3.alloc (.cells #[.int .i64 n, .int .i64 m, .slice none 0 0] 27) = u := ⟨_, rfl⟩
  have hBq : Below w.heap.size w wq := by rw [← hwq]; exact hb3.alloc t3 _
  have k0 : ∀ j, wq.cell? ⟨w.heap.size, j, none⟩ = #[Value.int .i64 0, .int .i64 0, .slice none 0 0][j]? := fun j => by rw [← hwq, World.cell?_alloc_past _ _ _ s3_0, o3_0, o2_0, o1_0, World.cell?_alloc_new]
  have f0 : ∀ j, wq.frozen? ⟨w.heap.size, j, none⟩ = false := fun j => by rw [← hwq, World.frozen?_alloc_past _ _ _ s3_0, f3_0, f2_0, f1_0]; exact World.frozen?_alloc_new _ _ _ _
  have hh0 : wq.heap[s]? = some (.cells #[.int .i64 n, .int .i64 m, .slice none 0 0] 27 (0, 0)) := by rw [← hwq, ← hsx]; exact heap_alloc_new _ _
  have zq : wq.heap.size = s + 1 := by rw [← hwq, ← hsx]; simp
  have ls : w.heap.size < s := by rw [← hsx]; exact s3_0
  rw [hsx, hwq]
  clear o1_0 f1_0 o2_0 f2_0 o3_0 f3_0 s1_0 s2_0 s3_0 hb1 hb2 hb3 t1 t2 t3 hwq hsx
  clear w3
  clear w2
  clear w1
  have H_hh0 := Lib.hid hh0
  clear hh0
  go_loopw [31] (fun t31 wr => ∃ (j : Nat) (v : Value), j ≤ m ∧ t31 = .int .i64 j ∧ wr.heap[s]? = some (.cells #[.int .i64 n, .int .i64 m, v] 27 (0, 0)) ∧ OwnR ESt wr (s + 1) 9 v (cellsP (l.map Pc.k) n j) ∧ Below s wq wr) (fun t31 _ => m - (intOf t31).toNat)
  case atStart => exact ⟨0, _, Nat.zero_le _, rfl, H_hh0.out, OwnR.nil _ _ _ _, Below.refl _ _⟩
  case round =>
    obtain ⟨j, v, hj, rfl, hpic, hown, hB⟩ := hrel
    have hzr := hB.size
    have zs : s < wr.heap.size := by omega
    have hBr : Below w.heap.size w wr := hBq.trans (hB.mono (by omega))
    have r0 := fun j => (hB.cell (p := ⟨w.heap.size, j, none⟩) ls).trans (k0 j)
    have x0 := fun j => (hB.frozen (p := ⟨w.heap.size, j, none⟩) ls).trans (f0 j)
    by_cases hlt : j < m
    · have q2 : wr.cell? ⟨s, 2, none⟩ = some v := heap_cell hpic rfl
      have y2 : wr.frozen? ⟨s, 2, none⟩ = false := heap_free hpic
      have hcl := cellsP_len (l.map Pc.k) n j
      have hcs := cellsP_step (l.map Pc.k) n j
      have hrl : (rowP (l.map Pc.k) j (dots n)).length = n := by rw [rowP_len]; simp [dots]
      obtain ⟨cs, hcsx⟩ : ∃ c, cellsP (l.map Pc.k) n j = c := ⟨_, rfl⟩
      obtain ⟨rw', hrw⟩ : ∃ c, rowP (l.map Pc.k) j (dots n) = c := ⟨_, rfl⟩
      rw [hcsx] at hcl hcs hown
      rw [hrw] at hcs hrl
      have hcn : cs.length + n ≤ 1000000 := by rw [hcl]; have : j * n ≤ 40 * 40 := Nat.mul_le_mul (by omega) h40; omega
      clear hcl hcsx
      have H_hpic := Lib.hid hpic
      clear hpic
      have H_hown := Lib.hid hown
      clear hown
      have H_hcs := Lib.hid hcs
      clear hcs
      have H_hrl := Lib.hid hrl
      clear hrl
      have H_hrw := Lib.hid hrw
      clear hrw
      have H_hcn := Lib.hid hcn
      clear hcn
      go_wp2_with fail
      go_region_law (first | (go_simp; go_at_call 25; ((refine (row_any ea l oa len cap n j _ ?qs H_hall.out h1 h40 (by omega) ?g1 ?g2 ?g3).mono ?_); (case qs => exact H_hs.out.keep (B := w.heap.size) (by repeat' (first | (with_reducible first | exact bwR _ _ | assumption | refine bdn ?_ | refine bwA ?_ ?_ _ | refine bwD ?_ | refine bwS ?_ ?_ _) | omega | (simp <;> omega))) rfl); (case g1 => exact gkeep (B := w.heap.size) (by repeat' (first | (with_reducible first | exact bwR _ _ | assumption | refine bdn ?_ | refine bwA ?_ ?_ _ | refine bwD ?_ | refine bwS ?_ ?_ _) | omega | (simp <;> omega))) hShape rfl); (case g2 => exact gkeep (B := w.heap.size) (by repeat' (first | (with_reducible first | exact bwR _ _ | assumption | refine bdn ?_ | refine bwA ?_ ?_ _ | refine bwD ?_ | refine bwS ?_ ?_ _) | omega | (simp <;> omega))) hBound rfl); (case g3 => exact gkeep (B := w.heap.size) (by repeat' (first | (with_reducible first | exact bwR _ _ | assumption | refine bdn ?_ | refine bwA ?_ ?_ _ | refine bwD ?_ | refine bwS ?_ ?_ _) | omega | (simp <;> omega))) hZero rfl); rintro en w1 ⟨g, rfl, hg, hh, hb1⟩; rw [H_hrw.out] at hh; have hpic1 : w1.heap[s]? = some (.cells #[.int .i64 n, .int .i64 m, v] 27 (0, 0)) := (hb1.block s (by first | exact zs | (simp; exact zs))).trans H_hpic.out; have q21 : w1.cell? ⟨s, 2, none⟩ = some v := heap_cell hpic1 rfl; have y21 : w1.frozen? ⟨s, 2, none⟩ = false := heap_free hpic1; have hb1r : Below wr.heap.size wr w1 := below_via (by repeat' (first | (with_reducible first | exact bwR _ _ | assumption | refine bdn ?_ | refine bwA ?_ ?_ _ | refine bwD ?_ | refine bwS ?_ ?_ _) | omega | (simp <;> omega))) hb1; have t1r := hb1r.size; have hown1 : OwnR ESt w1 (s + 1) 9 v cs := H_hown.out.keep hb1r; have hrow1 : RowIn ESt w1 g 0 rw' := row_of_heap hh; have H_hpic1 := Lib.hid hpic1; have H_hown1 := Lib.hid hown1; have H_hrow1 := Lib.hid hrow1; clear hpic1 hown1 hrow1 hh)) | ((refine step_append_row3 rfl (.tmp 35) (.tmp 39) 25 rfl ESt (s + 1) 9 i0 _ 16 Tryd.underlying25 H_hi.out H_hz0.out H_hz1.out H_hz2.out rfl (by decide) v cs ?e1 g 0 n n rw' ?e2 ?a1 ?a2 ?a3 ?a4 ?a5 ?_); (case e1 => rfl); (case e2 => rfl); (case a1 => exact H_hrl.out.symm); (case a2 => rw [H_hrl.out]; exact H_hcn.out); (case a3 => first | exact H_hown1.out | exact H_hown1.out.keep (Below.refl _ _).drew); (case a4 => first | exact H_hrow1.out | exact H_hrow1.out.of (fun o => rfl)); (case a5 => first | omega | (simp; omega)); intro v' w4 hv4 hA4 hgr4; obtain ⟨g4, c4, hve, _⟩ : ∃ g4 c4, v' = .slice (some ⟨g4, 0, none⟩) (cs ++ rw').length c4 ∧ True := (by rcases hv4.form with ⟨_, h⟩ | ⟨a1, a2, h, _⟩; (· exact absurd (congrArg List.length h) (by rw [List.length_append, H_hrl.out]; show ¬ cs.length + n = 0; omega)); (· exact ⟨a1, a2, h, trivial⟩)); subst hve; have hpic4 : w4.heap[s]? = some (.cells #[.int .i64 n, .int .i64 m, v] 27 (0, 0)) := (hA4.block s (Nat.lt_succ_self s)).trans H_hpic1.out; have q24 : w4.cell? ⟨s, 2, none⟩ = some v := heap_cell hpic4 rfl; have y24 : w4.frozen? ⟨s, 2, none⟩ = false := heap_free hpic4; have hB4 : Below s wq w4 := (hB.trans (hb1r.mono (by omega))).trans (show Below s w1 w4 from hA4.mono (Nat.le_succ s)); have H_hpic4 := Lib.hid hpic4; have H_hv4 := Lib.hid hv4; clear hpic4 hv4 hA4 hgr4))
      all_goals
        go_wp2_with fail
        go_roundw
        case rel =>
          refine ⟨j + 1, .slice (some ⟨g4, 0, none⟩) (cs.length + rw'.length) c4, by omega, by go_num, ?_, ?_, ?_⟩
          · exact (heap_set H_hpic4.out).trans (by simp)
          · rw [H_hcs.out]
            have h4 := H_hv4.out
            try rw [List.length_append] at h4
            exact ownsRow_setCell_below h4 (show s < s + 1 by omega) _
          · exact hB4.setCell (Nat.le_refl s) _
        case measure => simp [intOf]; omega
    · obtain rfl : j = m := by omega
      have hne : cellsP (l.map Pc.k) n j ≠ [] := by
        intro e
        have h := cellsP_len (l.map Pc.k) n j
        rw [e] at h
        have : 1 * 1 ≤ j * n := Nat.mul_le_mul hm1 h1
        simp at h
        omega
      obtain ⟨g, cp, rfl, hg1, hg2, hcp, _, hrow⟩ : ∃ gr cap, v = .slice (some ⟨gr, 0, none⟩) (cellsP (l.map Pc.k) n j).length cap ∧ s + 1 ≤ gr ∧ gr < wr.heap.size ∧ (cellsP (l.map Pc.k) n j).length ≤ cap ∧ (cellsP (l.map Pc.k) n j).length ≤ maxLen ∧ RowIn ESt wr gr 0 (cellsP (l.map Pc.k) n j) := by
        rcases hown.form with ⟨_, h⟩ | h
        · exact absurd h hne
        · exact h
      have c0 : wr.cell? ⟨s, 0, none⟩ = some (.int .i64 n) := heap_cell hpic rfl
      have c1 : wr.cell? ⟨s, 1, none⟩ = some (.int .i64 j) := heap_cell hpic rfl
      have c2 : wr.cell? ⟨s, 2, none⟩ = some (.slice (some ⟨g, 0, none⟩) (cellsP (l.map Pc.k) n j).length cp) := heap_cell hpic rfl
      clear hne hown
      have H_hpic := Lib.hid hpic
      clear hpic
      have H_hrow := Lib.hid hrow
      clear hrow
      go_wp2_with fail
      refine bodyPost_ret (by simp [results, Tryd.results7, go_sem, *]; try rfl) rfl ?_
      have hne0 : g ≠ w.heap.size := by omega
      refine ⟨g, cp, rfl, by omega, by (simp <;> omega), hcp, ?_, by repeat' (first | (with_reducible first | exact bwR _ _ | assumption | refine bdn ?_ | refine bwA ?_ ?_ _ | refine bwD ?_ | refine bwS ?_ ?_ _) | omega | (simp <;> omega))⟩
      refine H_hrow.out.of (fun o => ?_)
      try simp only [World.cell?_drew]
      rw [World.cell?_setCell_other _ _ _ _ (fun q => hne0 (by injection q with q1; exact q1.symm)), World.cell?_setCell_other _ _ _ _ (fun q => hne0 (by injection q with q1; exact q1.symm)), World.cell?_setCell_other _ _ _ _ (fun q => hne0 (by injection q with q1; exact q1.symm))]
end Go.Proofs.YtaidgecpglikpaaDoor
