/-
  Walks over the reference: FlatFault.
-/
import Derived.Test.YtndlmmpheecleaaGreatDoorAk1
import Derived.Test.YtndlmmpheecleaaGreatDoorUd
namespace Lead.Dc
open Go Go.RowKit Lead
/-- The first node that is no right one: its place and its error (or how many there are, and 0). -/
def ffE : List FlatV → Nat → Nat × Nat
  | [], i => (i, 0)
  | f :: r, i => if nodeE f.name f.attrs i f.deep.toNat ≠ 0 then (i, nodeE f.name f.attrs i f.deep.toNat) else ffE r (i + 1)
def ffV (r : Nat × Nat) : Value := .agg #[.int .i64 (r.2 : Int), .int .i64 (if r.2 = 0 then -1 else (r.1 : Int))]
theorem ffV_n {i c : Nat} (h : c ≠ 0) : ffV (i, c) = .agg #[.int .i64 (c : Int), .int .i64 (i : Int)] := by
  unfold ffV
  rw [if_neg h]
theorem ffE_drop {L : List FlatV} {k : Nat} (h : k < L.length) : ffE (L.drop k) k = if nodeE L[k].name L[k].attrs k L[k].deep.toNat ≠ 0 then (k, nodeE L[k].name L[k].attrs k L[k].deep.toNat) else ffE (L.drop (k + 1)) (k + 1) := by
  rw [List.drop_eq_getElem_cons h]; rfl
theorem ffE_end {L : List FlatV} {k : Nat} (h : L.length ≤ k) : (ffE (L.drop k) k).2 = 0 := by
  rw [List.drop_eq_nil_of_le h]; rfl
theorem atC_drop {l : List (ByteArray × ByteArray)} {m : Nat} (h : m < l.length) : atC (l.take m) (l.drop m) = if nmOk l[m].1 = false then 4 else if (l.take m).any (fun b => decide (b.1 = l[m].1)) then 6 else if vlOk l[m].2 = false then 10 else atC (l.take (m + 1)) (l.drop (m + 1)) := by
  rw [List.drop_eq_getElem_cons h, List.take_succ_eq_append_getElem h]; rfl
theorem atC_fin {l : List (ByteArray × ByteArray)} {m : Nat} (h : l.length ≤ m) : atC (l.take m) (l.drop m) = 0 := by
  rw [List.drop_eq_nil_of_le h]; rfl
theorem any_take {l : List (ByteArray × ByteArray)} {m j : Nat} {s : ByteArray} (hj : j < m) (hm : m < l.length) (h : l[j].1 = s) : (l.take m).any (fun b => decide (b.1 = s)) = true := by
  rw [List.any_eq_true]
  exact ⟨l[j], List.mem_iff_getElem.2 ⟨j, by rw [List.length_take]; omega, by rw [List.getElem_take]⟩, decide_eq_true h⟩
theorem any_none {l : List (ByteArray × ByteArray)} {m : Nat} {s : ByteArray} (h : ∀ j (hj : j < l.length), j < m → l[j].1 ≠ s) : (l.take m).any (fun b => decide (b.1 = s)) = false := by
  rw [List.any_eq_false]
  intro b hb
  obtain ⟨j, hj, rfl⟩ := List.mem_iff_getElem.1 hb
  rw [List.length_take] at hj
  rw [List.getElem_take, decide_eq_true_eq]
  exact h j (by omega) (by omega)
theorem fill2 {W : World} {g : Nat} {y0 y1 : Value} {t : TypeId} (h : W.heap[g]? = some (.cells #[y0, y1] t (0, 0))) (x0 x1 : Value) :
    ∀ j, ((W.setCell ⟨g, 0, none⟩ x0).setCell ⟨g, 1, none⟩ x1).cell? ⟨g, j, none⟩ = (#[x0, x1] : Array Value)[j]? := fun j => by
  rw [cell_of (heap_setCell_same _ g 1 _ _ x1 (heap_setCell_same W g 0 _ _ x0 h))]
  rfl
end Lead.Dc
namespace Go.Proofs.YtndlmmpheecleaaGreatDoor
open Go.RowKit Lead Lead.Dc
theorem rres_ff (tmps : Array Value) (w0 : World) (g : Nat) (y0 y1 : Value) (h4 : tmps[2]?.getD undef = .pointer (some ⟨g, 0, none⟩)) (hc : ∀ j, w0.cell? ⟨g, j, none⟩ = (#[y0, y1] : Array Value)[j]?) :
    (results Tryz.f8 tmps).run Tryz.prog w0 = .ok (.agg #[y0, y1]) w0 := by
  simp [results, Tryz.results8, go_sem, h4, hc]
theorem rfine4_any (w : World) : Calls Tryz.prog 45 #[] w fun e w' => e = .returned (.agg #[.int .i64 0, .int .i64 (-1)]) ∧ Below w.heap.size w w' := by
  go_enter Tryz.func45, Tryz.ntmps45
  go_wp2_with fail
  refine bodyPost_ret (by simp [results, Tryz.results45, go_sem, *]; try rfl) rfl ?_
  exact ⟨rfl, by repeat' (first | (with_reducible first | exact bwR _ _ | assumption | refine bdn ?_ | refine bwA ?_ ?_ _ | refine bwD ?_ | refine bwS ?_ ?_ _) | omega | (simp <;> omega))⟩
set_option maxHeartbeats 8000000 in
set_option maxRecDepth 100000 in
theorem flatfault_any (o : Option Addr) (len c : Nat) (fs : List FlX) (w0 w : World) (hS : SlA EFl w o len c fs) (hA : ∀ x ∈ fs, SlA EAt w0 x.ao x.al x.ac x.ats) (hb0 : Below w0.heap.size w0 w) (hl : len ≤ 1000) (hat : ∀ x ∈ fs, x.nm.size ≤ 1000000 ∧ ∀ a ∈ x.ats, a.1.size ≤ 1000000 ∧ a.2.size ≤ 1000000) :
    Calls Tryz.prog 8 #[.slice o len c] w fun en w' => en = .returned (ffV (ffE (fs.map fv) 0)) ∧ Below w.heap.size w w' := by
  have hlen : len = fs.length := hS.1
  have hb1 : Below w.heap.size w (w.alloc (.cells #[.int .i64 0, .int .i64 0] 36)) := (Below.refl _ _).alloc (Nat.le_refl _) _
  obtain ⟨w1, hw1⟩ : ∃ u, w.alloc (.cells #[.int .i64 0, .int .i64 0] 36) = u := ⟨_, rfl⟩
  have hres1 : w1.heap[w.heap.size]? = some (.cells #[.int .i64 0, .int .i64 0] 36 (0, 0)) := by rw [← hw1]; exact heap_alloc_new _ _
  rw [hw1] at hb1
  have hz1 := Dc.hlt hres1
  have hbox := fun (W : World) (hW : Below w1.heap.size w1 W) => (hW.block _ hz1).trans hres1
  have hcF := fun (s : ByteArray) (h : s.size ≤ 1000000) (W : World) => risname_any s W h
  have hcV := fun (s : ByteArray) (h : s.size ≤ 1000000) (W : World) => risvalue_any s W h
  have hS1 := hS.keep hb1 rfl
  have hb01 : Below w0.heap.size w0 w1 := hb0.trans (hb1.mono hb0.size)
  have hs01 := hb01.size
  obtain ⟨L, hL⟩ : ∃ u, fs.map fv = u := ⟨_, rfl⟩
  have hLl : L.length = len := by rw [← hL, List.length_map, hlen]
  rw [hL]
  obtain ⟨R, hR⟩ : ∃ u, ffE L 0 = u := ⟨_, rfl⟩
  rw [hR]
  clear hS hb0
  have H_hA := Lib.hid hA
  clear hA
  have H_hat := Lib.hid hat
  clear hat
  have H_hlen := Lib.hid hlen
  clear hlen
  have H_hres1 := Lib.hid hres1
  clear hres1
  have H_hbox := Lib.hid hbox
  clear hbox
  have H_hcF := Lib.hid hcF
  clear hcF
  have H_hcV := Lib.hid hcV
  clear hcV
  have H_hS1 := Lib.hid hS1
  clear hS1
  have H_hL := Lib.hid hL
  clear hL
  have H_hLl := Lib.hid hLl
  clear hLl
  have H_hR := Lib.hid hR
  clear hR
  go_enter Tryz.func8, Tryz.ntmps8
  go_wp2_with fail
  go_loopw [3] (fun t3 wr => ∃ k : Nat, k ≤ len ∧ t3 = .int .i64 k ∧ RowKit.Hid (R = ffE (L.drop k) k) ∧ Below w1.heap.size w1 wr) (fun t3 _ => len - (intOf t3).toNat)
  case atStart => exact ⟨0, Nat.zero_le _, rfl, Lib.hid H_hR.out.symm, Below.refl _ _⟩
  case round =>
    obtain ⟨k, hk, rfl, H_f, hB⟩ := hrel
    have hBw : Below w.heap.size w wr := below_via hb1 hB
    have hbx := H_hbox.out wr hB
    have x0 := Dc.hcell (j := 0) hbx rfl
    have x1 := Dc.hcell (j := 1) hbx rfl
    have xf := fun j => Dc.hfree (i := j) hbx
    have H_bx := Lib.hid hbx
    clear hbx
    by_cases hlt : k < len
    · have hk' : k < fs.length := by have := H_hlen.out; omega
      obtain ⟨g, off, rfl, hgl, hr⟩ := H_hS1.out.2.2.2.resolve_left (by intro h; rw [h] at hk'; simp at hk')
      have hcl := fun (W : World) (hW : Below w1.heap.size w1 W) (q : Nat) (v : Value) (hq : (EFl.enc fs[k])[q]? = some v) => (hr.keep hW hgl) k hk' q v hq
      have hsl := H_hA.out _ (List.getElem_mem hk')
      have hbd := H_hat.out _ (List.getElem_mem hk')
      have hff := ffE_drop (L := L) (k := k) (by rw [H_hLl.out]; exact hlt)
      have hLk : L[k]'(by rw [H_hLl.out]; exact hlt) = fv fs[k] := by
        have h := H_hL.out
        subst h
        exact List.getElem_map _
      rw [hLk, ← H_f.out] at hff
      obtain ⟨x, hx⟩ : ∃ x, fs[k] = x := ⟨_, rfl⟩
      rw [hx] at hcl hsl hbd hff
      obtain ⟨nm, ao, al, ac, ats, par, dp⟩ := x
      have hq : ∀ W, Below w1.heap.size w1 W → W.cell? ⟨g, off + k * 4, none⟩ = some (.string nm) ∧ W.cell? ⟨g, off + k * 4 + 1, none⟩ = some (.slice ao al ac) ∧ W.cell? ⟨g, off + k * 4 + 3, none⟩ = some (.int .i64 dp) := fun W hW => ⟨hcl W hW 0 _ rfl, hcl W hW 1 _ rfl, hcl W hW 3 _ rfl⟩
      obtain ⟨q0, q1, q3⟩ := hq wr hB
      have hSA : SlA EAt w0 ao al ac ats := hsl
      have hal : al = ats.length := hSA.1
      have hnm : nm.size ≤ 1000000 := hbd.1
      have hab : ∀ a ∈ ats, a.1.size ≤ 1000000 ∧ a.2.size ≤ 1000000 := hbd.2
      have hff2 : R = if nodeE nm ats k dp.toNat ≠ 0 then (k, nodeE nm ats k dp.toNat) else ffE (L.drop (k + 1)) (k + 1) := hff
      clear hff
      have hbad : ∀ C : Nat, C ≠ 0 → nodeE nm ats k dp.toNat = C → R = (k, C) := fun C h1 h2 => by rw [hff2, h2, if_pos h1]
      have hgood : nodeE nm ats k dp.toNat = 0 → R = ffE (L.drop (k + 1)) (k + 1) := fun h => by rw [hff2, h, if_neg (fun e => e rfl)]
      clear hcl hsl hbd hr hLk hff2 hx
      unfold nodeE at hbad hgood
      have H_hq := Lib.hid hq
      clear hq
      have H_hSA := Lib.hid hSA
      clear hSA
      by_cases hd : 10 < dp
      · have g1 : (10 : Int) < dp := hd
        have ret := hbad 8 (by decide) (if_pos (by omega))
        clear hbad hgood
        have H_ret := Lib.hid ret
        clear ret
        go_wp2_with fail
        try go_simp
        repeat go_step
        with_reducible refine bodyPost_ret (rres_ff _ _ w.heap.size _ _ ?h4 (fill2 H_bx.out _ _)) rfl ?_
        case h4 => simp
        exact ⟨by rw [H_ret.out]; exact congrArg Ending.returned (ffV_n (by decide)).symm, by repeat' (first | (with_reducible first | exact bwR _ _ | assumption | refine bdn ?_ | refine bwA ?_ ?_ _ | refine bwD ?_ | refine bwS ?_ ?_ _) | omega | (simp <;> omega))⟩
      · have g1 : ¬ (10 : Int) < dp := hd
        rw [if_neg (show ¬ 10 < dp.toNat by omega)] at hbad hgood
        by_cases h100 : 100 ≤ k
        · have g2 : (100 : Int) ≤ (k : Int) := by omega
          have ret := hbad 7 (by decide) (if_pos h100)
          clear hbad hgood
          have H_ret := Lib.hid ret
          clear ret
          go_wp2_with fail
          try go_simp
          repeat go_step
          with_reducible refine bodyPost_ret (rres_ff _ _ w.heap.size _ _ ?h4 (fill2 H_bx.out _ _)) rfl ?_
          case h4 => simp
          exact ⟨by rw [H_ret.out]; exact congrArg Ending.returned (ffV_n (by decide)).symm, by repeat' (first | (with_reducible first | exact bwR _ _ | assumption | refine bdn ?_ | refine bwA ?_ ?_ _ | refine bwD ?_ | refine bwS ?_ ?_ _) | omega | (simp <;> omega))⟩
        · have g2 : ¬ (100 : Int) ≤ (k : Int) := by omega
          rw [if_neg h100] at hbad hgood
          have cN := H_hcF.out nm hnm
          go_wp2_with fail
          refine (cN _).mono ?_
          rintro _ w2 ⟨rfl, hb2⟩
          have hB2 : Below w1.heap.size w1 w2 := below_via hB hb2
          have hBw2 : Below w.heap.size w w2 := below_via hb1 hB2
          clear hb2 q0 q1 q3 x0 x1 xf H_bx cN
          obtain ⟨q0, q1, q3⟩ := H_hq.out w2 hB2
          have hbx := H_hbox.out w2 hB2
          have x0 := Dc.hcell (j := 0) hbx rfl
          have x1 := Dc.hcell (j := 1) hbx rfl
          have xf := fun j => Dc.hfree (i := j) hbx
          have H_bx := Lib.hid hbx
          clear hbx
          by_cases hnb : nmOk nm = false
          · have ret := hbad 4 (by decide) (if_pos hnb)
            clear hbad hgood
            have H_ret := Lib.hid ret
            clear ret
            rw [hnb]
            clear hnb
            go_wp2_with fail
            try go_simp
            repeat go_step
            with_reducible refine bodyPost_ret (rres_ff _ _ w.heap.size _ _ ?h4 (fill2 H_bx.out _ _)) rfl ?_
            case h4 => simp
            exact ⟨by rw [H_ret.out]; exact congrArg Ending.returned (ffV_n (by decide)).symm, by repeat' (first | (with_reducible first | exact bwR _ _ | assumption | refine bdn ?_ | refine bwA ?_ ?_ _ | refine bwD ?_ | refine bwS ?_ ?_ _) | omega | (simp <;> omega))⟩
          · rw [if_neg hnb] at hbad hgood
            have hnt : nmOk nm = true := by cases h : nmOk nm <;> simp_all
            rw [hnt]
            clear hnb hnt
            unfold atE at hbad hgood
            by_cases h12 : 12 < al
            · have g3 : (12 : Int) < (al : Int) := by omega
              have ret := hbad 7 (by decide) (if_pos (by omega))
              clear hbad hgood
              have H_ret := Lib.hid ret
              clear ret
              go_wp2_with fail
              try go_simp
              repeat go_step
              with_reducible refine bodyPost_ret (rres_ff _ _ w.heap.size _ _ ?h4 (fill2 H_bx.out _ _)) rfl ?_
              case h4 => simp
              exact ⟨by rw [H_ret.out]; exact congrArg Ending.returned (ffV_n (by decide)).symm, by repeat' (first | (with_reducible first | exact bwR _ _ | assumption | refine bdn ?_ | refine bwA ?_ ?_ _ | refine bwD ?_ | refine bwS ?_ ?_ _) | omega | (simp <;> omega))⟩
            · have g3 : ¬ (12 : Int) < (al : Int) := by omega
              rw [if_neg (show ¬ 12 < ats.length by omega)] at hbad hgood
              obtain ⟨Q, hQ⟩ : ∃ u, atC [] ats = u := ⟨_, rfl⟩
              rw [hQ] at hbad hgood
              have H_hbad := Lib.hid hbad
              clear hbad
              have H_hgood := Lib.hid hgood
              clear hgood
              have H_hQ := Lib.hid hQ
              clear hQ
              have H_hal := Lib.hid hal
              clear hal
              have H_hab := Lib.hid hab
              clear hab
              go_wp2_with fail
              go_loopw [5] (fun t5 wr => ∃ m : Nat, m ≤ al ∧ t5 = .int .i64 m ∧ RowKit.Hid (Q = atC (ats.take m) (ats.drop m)) ∧ Below w1.heap.size w1 wr) (fun t5 _ => al - (intOf t5).toNat)
              case atStart => exact ⟨0, Nat.zero_le _, rfl, Lib.hid H_hQ.out.symm, hB2⟩
              case round =>
                obtain ⟨m, hm, rfl, H_q, hB3⟩ := hrel
                clear q0 q1 q3 x0 x1 xf H_bx
                obtain ⟨q0, q1, q3⟩ := H_hq.out wr hB3
                have hbx := H_hbox.out wr hB3
                have x0 := Dc.hcell (j := 0) hbx rfl
                have x1 := Dc.hcell (j := 1) hbx rfl
                have xf := fun j => Dc.hfree (i := j) hbx
                have H_bx := Lib.hid hbx
                clear hbx
                by_cases hlm : m < al
                · have hm' : m < ats.length := by have := H_hal.out; omega
                  have hBw3 : Below w.heap.size w wr := below_via hb1 hB3
                  have t3 := hB3.size
                  obtain ⟨g2, off2, rfl, hgw2, hra⟩ := H_hSA.out.2.2.2.resolve_left (by intro h; rw [h] at hm'; simp at hm')
                  have hp : ∀ W, Below w1.heap.size w1 W → ∀ j (hj : j < ats.length), W.cell? ⟨g2, off2 + j * 2, none⟩ = some (.string ats[j].1) ∧ W.cell? ⟨g2, off2 + j * 2 + 1, none⟩ = some (.string ats[j].2) := fun W hW j hj =>
                    ⟨(hra.keep (hb01.trans (hW.mono hs01)) hgw2) j hj 0 _ rfl, (hra.keep (hb01.trans (hW.mono hs01)) hgw2) j hj 1 _ rfl⟩
                  obtain ⟨p0, p1⟩ := hp wr hB3 m hm'
                  have hQd := atC_drop hm'
                  rw [← H_q.out] at hQd
                  have hsz := H_hab.out _ (List.getElem_mem hm')
                  have han := fun (s : ByteArray) => any_none (l := ats) (m := m) (s := s)
                  have hay := fun (s : ByteArray) (j : Nat) (hj : j < m) => any_take (l := ats) (m := m) (s := s) hj hm'
                  obtain ⟨a1, ha1⟩ : ∃ u, ats[m].1 = u := ⟨_, rfl⟩
                  obtain ⟨a2, ha2⟩ : ∃ u, ats[m].2 = u := ⟨_, rfl⟩
                  rw [ha1] at p0
                  rw [ha2] at p1
                  rw [ha1, ha2] at hQd hsz
                  have cN := H_hcF.out a1 hsz.1
                  have cV := H_hcV.out a2 hsz.2
                  obtain ⟨na, hna⟩ : ∃ u, wr.heap.size = u := ⟨_, rfl⟩
                  clear hra hsz
                  have H_hp := Lib.hid hp
                  clear hp
                  have H_hQd := Lib.hid hQd
                  clear hQd
                  have H_han := Lib.hid han
                  clear han
                  have H_hay := Lib.hid hay
                  clear hay
                  have H_cV := Lib.hid cV
                  clear cV
                  have H_ha1 := Lib.hid ha1
                  clear ha1
                  have H_ha2 := Lib.hid ha2
                  clear ha2
                  go_wp2_with fail
                  refine (cN _).mono ?_
                  rintro _ w3 ⟨rfl, hb3⟩
                  have hB4 : Below w1.heap.size w1 w3 := below_via (by repeat' (first | (with_reducible first | exact bwR _ _ | assumption | refine bdn ?_ | refine bwA ?_ ?_ _ | refine bwD ?_ | refine bwS ?_ ?_ _) | omega | (simp <;> omega))) hb3
                  have hBw4 : Below w.heap.size w w3 := below_via hb1 hB4
                  have hbox : w3.heap[wr.heap.size]? = some (.cells #[.string a1, .string a2] 59 (0, 0)) := (hb3.block _ (by simp)).trans (heap_alloc_new _ _)
                  rw [hna] at hbox
                  have zx := Dc.hlt hbox
                  have y0 := Dc.hcell (j := 0) hbox rfl
                  have y1 := Dc.hcell (j := 1) hbox rfl
                  clear hb3 q0 q1 q3 x0 x1 xf H_bx cN p0 p1 hbox
                  obtain ⟨q0, q1, q3⟩ := H_hq.out w3 hB4
                  have hbx := H_hbox.out w3 hB4
                  have x0 := Dc.hcell (j := 0) hbx rfl
                  have x1 := Dc.hcell (j := 1) hbx rfl
                  have xf := fun j => Dc.hfree (i := j) hbx
                  have H_bx := Lib.hid hbx
                  clear hbx
                  have hQ2 := H_hQd.out
                  by_cases hnb : nmOk a1 = false
                  · rw [if_pos hnb] at hQ2
                    have ret := H_hbad.out 4 (by decide) hQ2
                    clear hQ2
                    have H_ret := Lib.hid ret
                    clear ret
                    rw [hnb]
                    clear hnb
                    go_wp2_with fail
                    try go_simp
                    repeat go_step
                    with_reducible refine bodyPost_ret (rres_ff _ _ w.heap.size _ _ ?h4 (fill2 H_bx.out _ _)) rfl ?_
                    case h4 => simp
                    exact ⟨by rw [H_ret.out]; exact congrArg Ending.returned (ffV_n (by decide)).symm, by repeat' (first | (with_reducible first | exact bwR _ _ | assumption | refine bdn ?_ | refine bwA ?_ ?_ _ | refine bwD ?_ | refine bwS ?_ ?_ _) | omega | (simp <;> omega))⟩
                  · rw [if_neg hnb] at hQ2
                    have hnt : nmOk a1 = true := by cases h : nmOk a1 <;> simp_all
                    rw [hnt]
                    clear hnb hnt
                    have H_hQ2 := Lib.hid hQ2
                    clear hQ2
                    go_wp2_with fail
                    go_loopw [8] (fun t8 wr => ∃ j : Nat, j ≤ m ∧ t8 = .int .i64 j ∧ RowKit.Hid (∀ i (hi : i < ats.length), i < j → ats[i].1 ≠ a1) ∧ Below w3.heap.size w3 wr) (fun t8 _ => m - (intOf t8).toNat)
                    case atStart => exact ⟨0, Nat.zero_le _, rfl, Lib.hid (fun _ _ h => absurd h (Nat.not_lt_zero _)), Below.refl _ _⟩
                    case round =>
                      obtain ⟨j, hj, rfl, H_j, hB5'⟩ := hrel
                      have hB5 : Below w1.heap.size w1 wr := below_via hB4 hB5'
                      have hBw5 : Below w.heap.size w wr := below_via hb1 hB5
                      have y0 := (hB5'.cell (p := ⟨na, 0, none⟩) zx).trans y0
                      have y1 := (hB5'.cell (p := ⟨na, 1, none⟩) zx).trans y1
                      clear q0 q1 q3 x0 x1 xf H_bx
                      obtain ⟨q0, q1, q3⟩ := H_hq.out wr hB5
                      have hbx := H_hbox.out wr hB5
                      have x0 := Dc.hcell (j := 0) hbx rfl
                      have x1 := Dc.hcell (j := 1) hbx rfl
                      have xf := fun j => Dc.hfree (i := j) hbx
                      have H_bx := Lib.hid hbx
                      clear hbx
                      by_cases hjm : j < m
                      · have hj' : j < ats.length := by omega
                        obtain ⟨p0, _⟩ := H_hp.out wr hB5 j hj'
                        have hyes := H_hay.out a1 j hjm
                        have hnxt : ats[j].1 ≠ a1 → ∀ i (hi : i < ats.length), i < j + 1 → ats[i].1 ≠ a1 := fun hne i hi hlt => by
                          by_cases e : i = j
                          · subst e; exact hne
                          · exact H_j.out i hi (by omega)
                        obtain ⟨b1, hb1'⟩ : ∃ u, ats[j].1 = u := ⟨_, rfl⟩
                        rw [hb1'] at p0 hyes hnxt
                        have gq := ba_eqD b1 a1
                        by_cases hba : b1 = a1
                        · rw [decide_eq_true hba] at gq
                          have hQ3 := H_hQ2.out
                          rw [if_pos (hyes hba)] at hQ3
                          have ret := H_hbad.out 6 (by decide) hQ3
                          clear hQ3 hnxt hyes
                          have H_ret := Lib.hid ret
                          clear ret
                          have H_hba := Lib.hid hba
                          clear hba
                          have H_hb1' := Lib.hid hb1'
                          clear hb1'
                          go_wp2_with fail
                          go_region
                          all_goals
                            go_wp2_with fail
                            try go_simp
                            repeat go_step
                            with_reducible refine bodyPost_ret (rres_ff _ _ w.heap.size _ _ ?h4 (fun j => (World.cell?_drew _ _).trans (fill2 H_bx.out _ _ j))) rfl ?_
                            case h4 => simp
                            exact ⟨by rw [H_ret.out]; exact congrArg Ending.returned (ffV_n (by decide)).symm, by repeat' (first | (with_reducible first | exact bwR _ _ | assumption | refine bdn ?_ | refine bwA ?_ ?_ _ | refine bwD ?_ | refine bwS ?_ ?_ _) | omega | (simp <;> omega))⟩
                        · rw [decide_eq_false hba] at gq
                          have hn := hnxt hba
                          clear hnxt hyes
                          have H_hn := Lib.hid hn
                          clear hn
                          have H_hba := Lib.hid hba
                          clear hba
                          have H_hb1' := Lib.hid hb1'
                          clear hb1'
                          go_wp2_with fail
                          go_region
                          all_goals
                            go_wp2_with fail
                            go_roundw
                            case rel => exact ⟨j + 1, by omega, by go_num, H_hn, by first | exact hB5' | exact hB5'.drew⟩
                            case measure => simp [intOf]; omega
                      · obtain rfl : j = m := by omega
                        have hQ3 := H_hQ2.out
                        rw [if_neg (by rw [H_han.out a1 (fun i hi hlt => H_j.out i hi hlt)]; decide)] at hQ3
                        have H_hQ3 := Lib.hid hQ3
                        clear hQ3
                        go_wp2_with fail
                        refine (H_cV.out _).mono ?_
                        rintro _ w6 ⟨rfl, hb6⟩
                        have hB6 : Below w1.heap.size w1 w6 := below_via hB5 hb6
                        have hBw6 : Below w.heap.size w w6 := below_via hb1 hB6
                        clear hb6 q0 q1 q3 x0 x1 xf H_bx y0 y1
                        obtain ⟨q0, q1, q3⟩ := H_hq.out w6 hB6
                        have hbx := H_hbox.out w6 hB6
                        have x0 := Dc.hcell (j := 0) hbx rfl
                        have x1 := Dc.hcell (j := 1) hbx rfl
                        have xf := fun j => Dc.hfree (i := j) hbx
                        have H_bx := Lib.hid hbx
                        clear hbx
                        have hQ4 := H_hQ3.out
                        by_cases hvb : vlOk a2 = false
                        · rw [if_pos hvb] at hQ4
                          have ret := H_hbad.out 10 (by decide) hQ4
                          clear hQ4
                          have H_ret := Lib.hid ret
                          clear ret
                          rw [hvb]
                          clear hvb
                          go_wp2_with fail
                          try go_simp
                          repeat go_step
                          with_reducible refine bodyPost_ret (rres_ff _ _ w.heap.size _ _ ?h4 (fill2 H_bx.out _ _)) rfl ?_
                          case h4 => simp
                          exact ⟨by rw [H_ret.out]; exact congrArg Ending.returned (ffV_n (by decide)).symm, by repeat' (first | (with_reducible first | exact bwR _ _ | assumption | refine bdn ?_ | refine bwA ?_ ?_ _ | refine bwD ?_ | refine bwS ?_ ?_ _) | omega | (simp <;> omega))⟩
                        · rw [if_neg hvb] at hQ4
                          have hvt : vlOk a2 = true := by cases h : vlOk a2 <;> simp_all
                          rw [hvt]
                          clear hvb hvt
                          have H_hQ4 := Lib.hid hQ4
                          clear hQ4
                          go_wp2_with fail
                          go_roundw
                          case rel => exact ⟨j + 1, by omega, by go_num, H_hQ4, hB6⟩
                          case measure => simp [intOf]; omega
                · obtain rfl : m = al := by omega
                  have hgg := H_hgood.out (H_q.out.trans (atC_fin (by have := H_hal.out; omega)))
                  have H_hgg := Lib.hid hgg
                  clear hgg
                  go_wp2_with fail
                  go_roundw
                  case rel => exact ⟨k + 1, by omega, by go_num, H_hgg, hB3⟩
                  case measure => simp [intOf]; omega
    · obtain rfl : k = len := by omega
      have hend := ffE_end (L := L) (k := k) (by have := H_hLl.out; omega)
      rw [← H_f.out] at hend
      have hcE := rfine4_any
      have H_hend := Lib.hid hend
      clear hend
      go_wp2_with fail
      refine (hcE _).mono ?_
      rintro _ w2 ⟨rfl, hb2⟩
      have hB2 : Below w1.heap.size w1 w2 := below_via hB hb2
      clear hb2 x0 x1 xf H_bx hcE
      have hbx := H_hbox.out w2 hB2
      have x0 := Dc.hcell (j := 0) hbx rfl
      have x1 := Dc.hcell (j := 1) hbx rfl
      have xf := fun j => Dc.hfree (i := j) hbx
      have H_bx := Lib.hid hbx
      clear hbx
      have hBw2 : Below w.heap.size w w2 := below_via hb1 hB2
      go_wp2_with fail
      try go_simp
      repeat go_step
      with_reducible refine bodyPost_ret (rres_ff _ _ w.heap.size _ _ ?h4 (fill2 H_bx.out _ _)) rfl ?_
      case h4 => simp
      exact ⟨by unfold ffV; rw [H_hend.out, if_pos rfl]; rfl, by repeat' (first | (with_reducible first | exact bwR _ _ | assumption | refine bdn ?_ | refine bwA ?_ ?_ _ | refine bwD ?_ | refine bwS ?_ ?_ _) | omega | (simp <;> omega))⟩
end Go.Proofs.YtndlmmpheecleaaGreatDoor
