/-
  Walks over package paint: row.
-/
import Derived.Test.YtaidgecpglikpaaDoorPn4
import Derived.Deep.DeepCutAuto
namespace Lead
open Go Go.RowKit
theorem rowP_step {l : List Pc} {k y : Nat} {out : List ByteArray} (h : k < l.length) : rowP ((l.take (k + 1)).map Pc.k) y out = onRow l[k].k y (rowP ((l.take k).map Pc.k) y out) := by
  rw [List.take_succ_eq_append_getElem h, List.map_append]
  unfold rowP
  rw [List.foldl_append]; rfl
theorem onRow_no {x : Pk} {y : Nat} {out : List ByteArray} (h : rcB x.ps (mid y) = false) : onRow x y out = out := by unfold onRow; rw [h]; rfl
theorem onRow_yes {x : Pk} {y : Nat} {out : List ByteArray} (h : rcB x.ps (mid y) = true) : onRow x y out = onC x y 0 out := by unfold onRow; rw [if_pos h]
end Lead
namespace Go.Proofs.YtaidgecpglikpaaDoor
open Go.RowKit Lead
set_option maxHeartbeats 4000000 in
set_option maxRecDepth 100000 in
theorem row_any (ea : Nat → Addr) (l : List Pc) (oa : Option Addr) (len cap n y : Nat) (w : World) (hs : SlPc w oa len cap l) (hok : ∀ x ∈ l, pkC x.k = 0) (h1 : 1 ≤ n) (h40 : n ≤ 40) (hy : y < 40) (hShape : w.cell? ⟨3, 0, none⟩ = some (.iface 181 (.pointer (some (ea 3))))) (hBound : w.cell? ⟨0, 0, none⟩ = some (.iface 181 (.pointer (some (ea 2))))) (hZero : w.cell? ⟨10, 0, none⟩ = some (.iface 181 (.pointer (some (ea 11))))) :
    Calls Tryd.prog 25 #[.slice oa len cap, .int .i64 n, .int .i64 y] w fun e w' => ∃ g, e = .returned (.slice (some ⟨g, 0, none⟩) n n) ∧ w.heap.size ≤ g ∧ w'.heap[g]? = some (.cells (strs (rowP (l.map Pc.k) y (dots n))) 9 (0, 0)) ∧ Below w.heap.size w w' := by
  have zhShape := zlt hShape
  have xhShape := zlts hShape
  have yhShape := zne hShape
  have zhBound := zlt hBound
  have xhBound := zlts hBound
  have yhBound := zne hBound
  have zhZero := zlt hZero
  have xhZero := zlts hZero
  have yhZero := zne hZero
  obtain ⟨hl, hlc, hm, hSl, hcase⟩ := hs
  unfold maxLen at hm
  have H_hl := Lib.hid hl
  clear hl
  have H_hSl := Lib.hid hSl
  clear hSl
  have H_hcase := Lib.hid hcase
  clear hcase
  have H_hok := Lib.hid hok
  clear hok
  go_enter Tryd.func25, Tryd.ntmps25
  go_wp2_with fail
  have hB0 : Below w.heap.size w (w.alloc (.cells #[.string ⟨#[46]⟩] 9)) := (Below.refl _ _).alloc (Nat.le_refl _) _
  refine (repeat_any n w.heap.size _ h1 h40 (by simp) (by rw [World.cell?_alloc_new]; rfl)).mono ?_
  rintro _ wq ⟨g, rfl, hg, hheap, hBg⟩
  have hBq : Below w.heap.size w wq := hB0.trans (hBg.mono (by simp))
  have lg : w.heap.size < g := by simp at hg; omega
  have zq : g < wq.heap.size := (Array.getElem?_eq_some_iff.1 hheap).1
  rw [← strs_dots] at hheap
  clear hB0 hBg hg
  have H_hheap := Lib.hid hheap
  clear hheap
  go_wp2_with fail
  go_loopw [18] (fun t18 wr => ∃ k : Nat, k ≤ len ∧ t18 = .int .i64 k ∧ wr.heap[g]? = some (.cells (strs (rowP ((l.take k).map Pc.k) y (dots n))) 9 (0, 0)) ∧ Below w.heap.size w wr) (fun t18 _ => len - (intOf t18).toNat)
  case atStart => exact ⟨0, Nat.zero_le _, rfl, H_hheap.out, hBq⟩
  case round =>
    obtain ⟨k, hk, rfl, hrow, hB⟩ := hrel
    have hzr := hB.size
    have zg : g < wr.heap.size := (Array.getElem?_eq_some_iff.1 hrow).1
    by_cases hlt : k < len
    · have hk' : k < l.length := by have := H_hl.out; omega
      obtain ⟨b', off, rfl, hbl, hp⟩ : ∃ b off, oa = some ⟨b, off, none⟩ ∧ b < w.heap.size ∧ RowIn EPc w b off l := by
        rcases H_hcase.out with ⟨_, h, _⟩ | h
        · omega
        · exact h
      obtain ⟨q0, q1, q2, q3, q4⟩ := pc_cells (hp.keep hB hbl) hk'
      have hst := rowP_step (y := y) (out := dots n) hk'
      have hlen : (rowP ((l.take k).map Pc.k) y (dots n)).length = n := by rw [rowP_len]; simp [dots]
      obtain ⟨out, hout⟩ : ∃ o, rowP ((l.take k).map Pc.k) y (dots n) = o := ⟨_, rfl⟩
      rw [hout] at hrow hst hlen
      have hmem := List.getElem_mem hk'
      have hpk := H_hok.out _ hmem
      have hsl := H_hSl.out _ hmem
      obtain ⟨p, hpe⟩ : ∃ p, l[k] = p := ⟨_, rfl⟩
      rw [hpe] at q0 q1 q2 q3 q4 hst hpk hsl
      clear hmem hpe hp
      obtain ⟨hshc, hrul⟩ := pk_ok hpk
      obtain ⟨_, _, hall⟩ := shC_ok hshc
      have hR : ∀ q ∈ p.ps, Right q.yn q.yd := fun q hq => (hall q hq).y
      obtain ⟨rb, hrb⟩ : ∃ b, rcB p.ps (mid y) = b := ⟨_, rfl⟩
      obtain ⟨node, poa, plen, pcap, ps, fill, rule, level⟩ := p
      simp only [Pc.k] at q0 q1 q2 q3 q4 hst hpk hsl hR hrb
      clear hshc hrul hall hout
      have H_hst := Lib.hid hst
      clear hst
      have H_hlen := Lib.hid hlen
      clear hlen
      have H_hpk := Lib.hid hpk
      clear hpk
      have H_hsl := Lib.hid hsl
      clear hsl
      have H_hR := Lib.hid hR
      clear hR
      have H_hrb := Lib.hid hrb
      clear hrb
      have H_hrow := Lib.hid hrow
      clear hrow
      go_wp2_with fail
      obtain ⟨B9, hB9⟩ : ∃ u, wr.heap.size = u := ⟨_, rfl⟩
      obtain ⟨wa, hwa⟩ : ∃ u, wr.alloc (.cells #[.int .i64 node, .slice poa plen pcap, .string fill, .string rule, .int .i64 level] 50) = u := ⟨_, rfl⟩
      have hBa : Below w.heap.size w wa := by rw [← hwa]; exact hB.alloc hzr _
      have ka : ∀ j, wa.cell? ⟨B9, j, none⟩ = #[Value.int .i64 node, .slice poa plen pcap, .string fill, .string rule, .int .i64 level][j]? := fun j => by rw [← hwa, ← hB9, World.cell?_alloc_new]
      have hra : wa.heap[g]? = some (.cells (strs out) 9 (0, 0)) := by rw [← hwa]; exact (Below.heap_alloc wr _ g zg).trans H_hrow.out
      have za : wa.heap.size = B9 + 1 := by rw [← hwa, ← hB9]; simp
      have lgB : g < B9 := by omega
      rw [hB9, hwa]
      clear hwa hB9 q0 q1 q2 q3 q4 H_hrow hB hzr zg
      clear wr
      have H_hra := Lib.hid hra
      clear hra
      go_wp2_with fail
      refine call_bel (w := w) (by repeat' (first | (with_reducible first | exact bwR _ _ | assumption | refine bdn ?_ | refine bwA ?_ ?_ _ | refine bwD ?_ | refine bwS ?_ ?_ _) | omega | (simp <;> omega))) (fun HB => reach_any ea ⟨node, poa, plen, pcap, ps, fill, rule, level⟩ y rb _ (H_hsl.out.keep HB rfl) H_hR.out hy (gkeep HB hShape rfl) (gkeep HB hBound rfl) (gkeep HB hZero rfl) H_hrb.out) ?_
      intro w1 hb1 hz1 c1 d1 hW1
      have t1 := hb1.size
      have e1_a : Below wa.heap.size wa w1 := below_via (by repeat' (first | (with_reducible first | exact bwR _ _ | assumption | refine bdn ?_ | refine bwA ?_ ?_ _ | refine bwD ?_ | refine bwS ?_ ?_ _) | omega | (simp <;> omega))) hW1
      have te1_a := e1_a.size
      try simp only [szA] at hz1 c1 d1
      try simp only [szD] at hz1 c1 d1
      try simp only [szS] at hz1 c1 d1
      try simp only [World.heap_drewN] at hz1 c1 d1
      try simp only [szA] at hz1 c1 d1
      try simp only [szD] at hz1 c1 d1
      try simp only [szS] at hz1 c1 d1
      have s1_0 : B9 < w1.heap.size := by omega
      have o1_0 := fun j => c1 (B9) j (by omega)
      have f1_0 := fun j => d1 (B9) j (by omega)
      clear c1 d1 hz1 hW1
      have hr1 : w1.heap[g]? = some (.cells (strs out) 9 (0, 0)) := (e1_a.block g (by omega)).trans H_hra.out
      have k1 := fun j => (o1_0 j).trans (ka j)
      clear o1_0 f1_0 ka H_hra e1_a
      have H_hr1 := Lib.hid hr1
      clear hr1
      rcases rb with _ | _
      · go_wp2_with fail
        go_roundw
        case rel =>
          refine ⟨k + 1, by omega, by go_num, ?_, by repeat' (first | (with_reducible first | exact bwR _ _ | assumption | refine bdn ?_ | refine bwA ?_ ?_ _ | refine bwD ?_ | refine bwS ?_ ?_ _) | omega | (simp <;> omega))⟩
          rw [H_hst.out, onRow_no H_hrb.out]
          exact H_hr1.out
        case measure => simp [intOf]; omega
      · go_wp2_with fail
        go_loopw [28] (fun t28 wr => ∃ i : Nat, i ≤ n ∧ t28 = .int .i64 i ∧ wr.heap[g]? = some (.cells (strs (half ⟨ps, fill, rule⟩ y i out)) 9 (0, 0)) ∧ (∀ j, wr.cell? ⟨B9, j, none⟩ = #[Value.int .i64 node, .slice poa plen pcap, .string fill, .string rule, .int .i64 level][j]?) ∧ B9 < wr.heap.size ∧ Below w.heap.size w wr) (fun t28 _ => n - (intOf t28).toNat)
        case atStart => exact ⟨0, Nat.zero_le _, rfl, by rw [half_0]; exact H_hr1.out, k1, s1_0, hb1⟩
        case round =>
          obtain ⟨i, hi, rfl, hrow, kr, zB, hB⟩ := hrel
          have hzr := hB.size
          by_cases hin : i < n
          · have hio : i < out.length := by have := H_hlen.out; omega
            have hhl : i < (half ⟨ps, fill, rule⟩ y i out).length := by rw [half_len]; exact hio
            have hstep := half_step ⟨ps, fill, rule⟩ y hio
            obtain ⟨hit, hhit⟩ : ∃ b, hitB ⟨ps, fill, rule⟩ (cen i y) = b := ⟨_, rfl⟩
            rw [hhit] at hstep
            have cg : ∃ s, wr.cell? ⟨g, i, none⟩ = some (.string s) := ⟨_, heap_cell hrow (strs_at hhl)⟩
            obtain ⟨sg, cg⟩ := cg
            have fg : wr.frozen? ⟨g, i, none⟩ = false := heap_free hrow
            have hSK : ∀ W, Below wr.heap.size wr W → Below wr.heap.size wr W ∧ (∀ j, W.cell? ⟨B9, j, none⟩ = #[Value.int .i64 node, .slice poa plen pcap, .string fill, .string rule, .int .i64 level][j]?) := fun W h => ⟨h, fun j => (h.cell (p := ⟨B9, j, none⟩) zB).trans (kr j)⟩
            obtain ⟨hf, hhf⟩ : ∃ h, half ⟨ps, fill, rule⟩ y i out = h := ⟨_, rfl⟩
            rw [hhf] at hrow hstep hhl
            have zg : g < wr.heap.size := by omega
            clear hhf
            have H_hstep := Lib.hid hstep
            clear hstep
            have H_hhit := Lib.hid hhit
            clear hhit
            have H_hSK := Lib.hid hSK
            clear hSK
            have H_hrow := Lib.hid hrow
            clear hrow
            have H_hhl := Lib.hid hhl
            clear hhl
            go_wp2_with fail
            go_region_held3 (fun W => Below wr.heap.size wr W ∧ (∀ j, W.cell? ⟨B9, j, none⟩ = #[Value.int .i64 node, .slice poa plen pcap, .string fill, .string rule, .int .i64 level][j]?)) (exact H_hSK.out _ (by repeat' (first | (with_reducible first | exact bwR _ _ | assumption | refine bdn ?_ | refine bwA ?_ ?_ _ | refine bwD ?_ | refine bwS ?_ ?_ _) | omega | (simp <;> omega))))
              (first | (go_at_call 45; go_must ((first | (with_reducible refine (centre_any i _ (by omega)).mono ?_) | (with_reducible refine (centre_any y _ (by omega)).mono ?_)); rintro en wU ⟨rfl, hU⟩; have hbU : Below wr.heap.size wr wU := below_via (by repeat' (first | (with_reducible first | exact bwR _ _ | assumption | refine bdn ?_ | refine bwA ?_ ?_ _ | refine bwD ?_ | refine bwS ?_ ?_ _) | omega | (simp <;> omega))) hU; have tU := hbU.size)) | (go_at_call 44; go_must ((refine (holds_ok ea ps poa plen pcap rule fill (cen i y) hit _ ?hs H_hpk.out (mid_ok i y (by omega) hy) ?h1 ?h2 H_hhit.out).mono ?_); (case hs => exact H_hsl.out.keep (B := w.heap.size) (hB.trans (Below.mono (B := wr.heap.size) (by repeat' (first | (with_reducible first | exact bwR _ _ | assumption | refine bdn ?_ | refine bwA ?_ ?_ _ | refine bwD ?_ | refine bwS ?_ ?_ _) | omega | (simp <;> omega))) hzr)) rfl); (case h1 => exact gkeep (B := w.heap.size) (hB.trans (Below.mono (B := wr.heap.size) (by repeat' (first | (with_reducible first | exact bwR _ _ | assumption | refine bdn ?_ | refine bwA ?_ ?_ _ | refine bwD ?_ | refine bwS ?_ ?_ _) | omega | (simp <;> omega))) hzr)) hShape rfl); (case h2 => exact gkeep (B := w.heap.size) (hB.trans (Below.mono (B := wr.heap.size) (by repeat' (first | (with_reducible first | exact bwR _ _ | assumption | refine bdn ?_ | refine bwA ?_ ?_ _ | refine bwD ?_ | refine bwS ?_ ?_ _) | omega | (simp <;> omega))) hzr)) hBound rfl); rintro en wH ⟨rfl, hH⟩; have hbH : Below wr.heap.size wr wH := below_via (by repeat' (first | (with_reducible first | exact bwR _ _ | assumption | refine bdn ?_ | refine bwA ?_ ?_ _ | refine bwD ?_ | refine bwS ?_ ?_ _) | omega | (simp <;> omega))) hH; have tH := hbH.size)))
            all_goals
              have hB2 : Below w.heap.size w wH := hB.trans (hbH.mono hzr)
              have hrH : wH.heap[g]? = some (.cells (strs hf) 9 (0, 0)) := (hbH.block g zg).trans H_hrow.out
              have kH := fun j => (hbH.cell (p := ⟨B9, j, none⟩) zB).trans (kr j)
              have zH : B9 < wH.heap.size := Nat.lt_of_lt_of_le zB hbH.size
              have cH := heap_cell hrH (strs_at H_hhl.out)
              have fH : wH.frozen? ⟨g, i, none⟩ = false := heap_free hrH
              have hgB : B9 ≠ g := by omega
              clear cg fg kr
              have H_hrH := Lib.hid hrH
              clear hrH
              rcases hit with _ | _
              · go_wp2_with fail
                go_roundw
                case rel =>
                  refine ⟨i + 1, by omega, by go_num, ?_, kH, zH, hB2⟩
                  rw [H_hstep.out]
                  exact H_hrH.out
                case measure => simp [intOf]; omega
              · go_wp2_with fail
                go_roundw
                case rel =>
                  refine ⟨i + 1, by omega, by go_num, ?_, ?_, ?_, ?_⟩
                  · rw [H_hstep.out, if_pos rfl, ← strs_set]
                    exact heap_set H_hrH.out
                  · intro j
                    rw [World.cell?_setCell_other _ _ _ _ (fun q => hgB (by injection q with q1; exact q1.symm))]
                    exact kH j
                  · simp; exact zH
                  · exact hB2.setCell (show w.heap.size ≤ g by omega) _
                case measure => simp [intOf]; omega
          · have hin' : i = n := by omega
            have hh := half_all ⟨ps, fill, rule⟩ y (i := i) (out := out) (by have := H_hlen.out; omega)
            rw [hh] at hrow
            clear hh kr
            have H_hrow := Lib.hid hrow
            clear hrow
            go_wp2_with fail
            go_roundw
            case rel =>
              refine ⟨k + 1, by omega, by go_num, ?_, hB⟩
              rw [H_hst.out, onRow_yes H_hrb.out]
              exact H_hrow.out
            case measure => simp [intOf]; omega
    · have e : l.take k = l := List.take_of_length_le (by have := H_hl.out; omega)
      rw [e] at hrow
      have H_hrow := Lib.hid hrow
      clear hrow
      clear e
      go_wp2_with fail
      go_returns
      exact ⟨g, rfl, by omega, H_hrow.out, hB⟩
end Go.Proofs.YtaidgecpglikpaaDoor
