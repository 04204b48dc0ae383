/-
  Walks over package move: Read. A text that is not empty.
-/
import Derived.Test.YtlhadgnpkooiaaaGreatDoorRdK
import Derived.Test.YtlhadgnpkooiaaaGreatDoorRdR
import Derived.Test.YtlhadgnpkooiaaaGreatDoorHeld
import Derived.Test.YtlhadgnpkooiaaaGreatDoorMv7
import Derived.RangeFuncNested
import Derived.RangeFuncCalls
import Derived.Deep.DeepCutAuto
import Derived.Deep.CutRange
import Derived.Deep.RegionLaw
namespace Go.Proofs.YtlhadgnpkooiaaaGreatDoor
open Go.RowKit Lead
attribute [local go_sem] Oper.semAt_some
variable {gz : Bool}

theorem res_readH (tmps : Array Value) (w0 : World) (g e : Nat) (v0 v1 v2 v3 v4 v5 v6 v7 v8 v9 v10 v11 x : Value) (h2 : tmps[2]?.getD undef = .pointer (some ⟨g, 0, none⟩)) (h3 : tmps[3]?.getD undef = .pointer (some ⟨e, 0, none⟩))
    (hH : Held w0 g #[v0, v1, v2, v3, v4, v5, v6, v7, v8, v9, v10, v11]) (he : Held w0 e #[x]) :
    (results Tryz.f15 tmps).run Tryz.prog w0 = .ok (.tuple #[.agg #[v0, v1, v2, v3, v4, v5, v6, v7, v8, v9, v10, v11], x]) w0 := by
  obtain ⟨q0, q1, q2, q3, q4, q5, q6, q7, q8, q9, q10, q11⟩ := hH.c12
  have he0 := (he 0 _ rfl).1
  simp [results, Tryz.results15, go_sem, h2, h3, q0, q1, q2, q3, q4, q5, q6, q7, q8, q9, q10, q11, he0]
theorem infoM : (Tryz.prog.info? 30).map (fun i => (i.zero, i.size, i.bytes)) = some (some (.agg #[.int .i64 0, .int .i64 0, .int .i64 0, .int .i64 0, .int .i64 0, .int .i64 0, .int .i64 0, .int .i64 0, .int .i64 0, .int .i64 0, .int .i64 0, .int .i64 0]), 12, 96) := by kernel_rfl
set_option maxHeartbeats 1000000 in
set_option maxRecDepth 100000 in
theorem mread_some (ea : Nat → Addr) (s : ByteArray) (ws : List (List UInt8)) (w : World) (h1 : (s.toList == []) = false) (hs : s.size ≤ 100000) (hws : cutL 32 s.data.toList = ws) (hN : 1 ≤ ws.length) (hsz : ∀ l ∈ ws, l.length ≤ 100000) (hlen : ws.length ≤ 100000) (hL : Libs w) (hG : Gs gz ea w) (hng : 20 ≤ w.heap.size) (hText : w.cell? ⟨1, 0, none⟩ = some (.iface 183 (.pointer (some (ea 1))))) (c : Nat) (v : Mv) (hc : moveC s.data.toList = c) (hv : moveV s.data.toList = v) :
    Calls Tryz.prog 15 #[.string s] w fun e w' => e = .returned (.tuple #[.agg #[.int .i64 v.A.n, .int .i64 v.A.d, .int .i64 v.B.n, .int .i64 v.B.d, .int .i64 v.C.n, .int .i64 v.C.d, .int .i64 v.D.n, .int .i64 v.D.d, .int .i64 v.E.n, .int .i64 v.E.d, .int .i64 v.F.n, .int .i64 v.F.d], evl 183 ea c]) ∧ Below w.heap.size w w' := by
  have hBound := hG.c2
  have hShape := hG.c3
  have zhText := zlt hText
  have xhText := zlts hText
  have yhText := zne hText
  have zhShape := zlt hShape
  have xhShape := zlts hShape
  have yhShape := zne hShape
  have zhBound := zlt hBound
  have xhBound := zlts hBound
  have yhBound := zne hBound
  have hne0 : s.data.toList ≠ [] := by
    rcases tst s [] with ⟨k, _⟩ | ⟨_, k⟩
    · rw [h1] at k; exact absurd k (by decide)
    · exact k
  obtain ⟨i0, hi, hz0, hz1, hz2⟩ := info_parts infoM
  have H_hws := Lib.hid hws
  clear hws
  have H_hsz := Lib.hid hsz
  clear hsz
  have H_hL := Lib.hid hL
  clear hL
  have H_hG := Lib.hid hG
  clear hG
  have H_hc := Lib.hid hc
  clear hc
  have H_hv := Lib.hid hv
  clear hv
  have H_hi := Lib.hid hi
  clear hi
  have H_hz0 := Lib.hid hz0
  clear hz0
  have H_hz1 := Lib.hid hz1
  clear hz1
  have H_hz2 := Lib.hid hz2
  clear hz2
  refine enter_marks Tryz.func15 rfl ?_
  simp only [Tryz.ntmps15, List.size_toArray, List.length_cons, List.length_nil, Nat.reduceAdd, Nat.reduceSub, Array.replicate_succ, Array.replicate_zero, List.push_toArray, List.append_toArray, List.nil_append, List.cons_append]
  ((try go_simp); (repeat go_step))
  refine call_bel (w := w) (by repeat' (first | (with_reducible first | exact bwR _ _ | assumption | refine bdn ?_ | refine bwA ?_ ?_ _ | refine bwD ?_ | refine bwS ?_ ?_ _) | omega | (simp <;> omega))) (fun HB => mone_any _) ?_
  intro w1 hb1 hz1 c1 d1 hW1
  have t1 := hb1.size
  try simp only [szA] at hz1 c1 d1
  try simp only [szD] at hz1 c1 d1
  try simp only [szS] at hz1 c1 d1
  try simp only [World.heap_drewN] at hz1 c1 d1
  try simp only [szA] at hz1 c1 d1
  try simp only [szD] at hz1 c1 d1
  try simp only [szS] at hz1 c1 d1
  have s1_0 : w.heap.size < w1.heap.size := by omega
  have o1_0 := fun j => c1 (w.heap.size) j (by omega)
  have f1_0 := fun j => d1 (w.heap.size) j (by omega)
  have s1_1 : w.heap.size + 1 < w1.heap.size := by omega
  have o1_1 := fun j => c1 (w.heap.size + 1) j (by omega)
  have f1_1 := fun j => d1 (w.heap.size + 1) j (by omega)
  clear c1 d1 hz1 hW1
  ((try go_simp); (repeat go_step))
  have HB : Below w.heap.size w (w1.alloc (.cells #[.int .i64 oneM.A.n, .int .i64 oneM.A.d, .int .i64 oneM.B.n, .int .i64 oneM.B.d, .int .i64 oneM.C.n, .int .i64 oneM.C.d, .int .i64 oneM.D.n, .int .i64 oneM.D.d, .int .i64 oneM.E.n, .int .i64 oneM.E.d, .int .i64 oneM.F.n, .int .i64 oneM.F.d] 30)) := by repeat' (first | (with_reducible first | exact bwR _ _ | assumption | refine bdn ?_ | refine bwA ?_ ?_ _ | refine bwD ?_ | refine bwS ?_ ?_ _) | omega | (simp <;> omega))
  refine (msplit_any s _ hs (H_hL.out.keep HB rfl)).mono ?_
  rintro _ w2 ⟨g, rfl, hg1, hg2, hst, hb2⟩
  rw [H_hws.out] at hst
  rw [H_hws.out]
  obtain ⟨B4, hB4⟩ : ∃ u, w1.heap.size = u := ⟨_, rfl⟩
  have lB4 : w.heap.size + 1 < B4 := by rw [← hB4]; exact s1_1
  have hg1' : B4 < g := by rw [← hB4]; simp at hg1; omega
  have hB2 : Below w.heap.size w w2 := HB.trans (hb2.mono (by simp; omega))
  have p0 : ∀ j, w2.cell? ⟨w.heap.size, j, none⟩ = (#[.int .i64 0, .int .i64 0, .int .i64 0, .int .i64 0, .int .i64 0, .int .i64 0, .int .i64 0, .int .i64 0, .int .i64 0, .int .i64 0, .int .i64 0, .int .i64 0] : Array Value)[j]? := fun j => by rw [hb2.cell (by simp; omega), World.cell?_alloc_past _ _ _ s1_0, o1_0, World.cell?_alloc_past _ _ _ (by simp), World.cell?_alloc_at _ _ _ _ rfl]
  have k0 : ∀ j, w2.frozen? ⟨w.heap.size, j, none⟩ = false := fun j => by rw [hb2.frozen (by simp; omega), World.frozen?_alloc_past _ _ _ s1_0, f1_0, World.frozen?_alloc_past _ _ _ (by simp), World.frozen?_alloc_at _ _ _ _ rfl]
  have p1 : w2.cell? ⟨w.heap.size + 1, 0, none⟩ = some .nilIface := by rw [hb2.cell (by simp; omega), World.cell?_alloc_past _ _ _ s1_1, o1_1, World.cell?_alloc_at _ _ _ _ (by simp)]; rfl
  have k1 : w2.frozen? ⟨w.heap.size + 1, 0, none⟩ = false := by rw [hb2.frozen (by simp; omega), World.frozen?_alloc_past _ _ _ s1_1, f1_1, World.frozen?_alloc_at _ _ _ _ (by simp)]
  have p4 : ∀ j, w2.cell? ⟨B4, j, none⟩ = #[.int .i64 oneM.A.n, .int .i64 oneM.A.d, .int .i64 oneM.B.n, .int .i64 oneM.B.d, .int .i64 oneM.C.n, .int .i64 oneM.C.d, .int .i64 oneM.D.n, .int .i64 oneM.D.d, .int .i64 oneM.E.n, .int .i64 oneM.E.d, .int .i64 oneM.F.n, .int .i64 oneM.F.d][j]? := fun j => by rw [← hB4, hb2.cell (by simp), World.cell?_alloc_at _ _ _ _ rfl]
  have k4 : ∀ j, w2.frozen? ⟨B4, j, none⟩ = false := fun j => by rw [← hB4, hb2.frozen (by simp), World.frozen?_alloc_at _ _ _ _ rfl]
  rw [hB4]
  clear HB hb2 o1_0 f1_0 o1_1 f1_1 s1_0 s1_1 t1 hb1 hg1 hB4
  clear w1
  ((try go_simp); (repeat go_step))
  go_loopw [5, 6] (fun t5 t6 wr => ∃ (k d off : Nat) (acc : List Mv), k + d = ws.length ∧ (0 < d → off = k) ∧ t5 = .slice (some ⟨g, off, none⟩) d d ∧ OwnR EM wr w2.heap.size 30 t6 acc ∧ RdAt ws k acc ∧ (k = 0 ∨ acc ≠ []) ∧ acc.length ≤ k ∧ Below w2.heap.size w2 wr) (fun t5 _ _ => slLen t5)
  case atStart => exact ⟨0, ws.length, 0, [], by omega, fun _ => rfl, rfl, OwnR.nil _ _ _ _, RdAt.start ws, .inl rfl, Nat.le_refl _, Below.refl _ _⟩
  case round =>
    obtain ⟨k, d, off, acc, hkd, hoff, rfl, hown, hat, hne, hacc, hB⟩ := hrel
    have hzr := hB.size
    have hBr : Below w.heap.size w wr := hB2.trans (hB.mono hB2.size)
    have r0 := fun j => (hB.cell (p := ⟨w.heap.size, j, none⟩) (show w.heap.size < w2.heap.size by omega)).trans (p0 j)
    have x0 := fun j => (hB.frozen (p := ⟨w.heap.size, j, none⟩) (show w.heap.size < w2.heap.size by omega)).trans (k0 j)
    have r1 := (hB.cell (p := ⟨w.heap.size + 1, 0, none⟩) (show w.heap.size + 1 < w2.heap.size by omega)).trans p1
    have x1 := (hB.frozen (p := ⟨w.heap.size + 1, 0, none⟩) (show w.heap.size + 1 < w2.heap.size by omega)).trans k1
    have r4 := fun j => (hB.cell (p := ⟨B4, j, none⟩) (show B4 < w2.heap.size by omega)).trans (p4 j)
    have x4 := fun j => (hB.frozen (p := ⟨B4, j, none⟩) (show B4 < w2.heap.size by omega)).trans (k4 j)
    have z0 : w.heap.size < wr.heap.size := by omega
    have z1 : w.heap.size + 1 < wr.heap.size := by omega
    have z4 : B4 < wr.heap.size := by omega
    have zg : g < wr.heap.size := by omega
    by_cases hd : 0 < d
    · obtain rfl := hoff hd
      have hst' : StrIn wr g 0 ws := hst.keep hB hg2
      have hk : off < ws.length := by omega
      have hq : wr.cell? ⟨g, off, none⟩ = some (.string ⟨(ws.getD off []).toArray⟩) := by
        have := hst' off hk
        rw [Nat.zero_add] at this
        rw [this, List.getD_eq_getElem?_getD, List.getElem?_eq_getElem hk]; rfl
      have hstop := hat.stop hk
      have herr := hat.err hk
      have hnext := hat.next hk
      obtain ⟨a, ha⟩ : ∃ a, ws.getD off [] = a := ⟨_, rfl⟩
      rw [ha] at hq hstop herr hnext
      obtain ⟨n, hn⟩ : ∃ n, manyW a = n := ⟨_, rfl⟩
      rw [hn] at hstop herr hnext
      have hd' : decide (0 < (d : Int)) = true := by simp; omega
      have hn2 : n ≤ 2 := by
        rw [← hn]; unfold manyW
        split
        · omega
        · split <;> omega
      clear hoff
      have H_hown := Lib.hid hown
      clear hown
      have H_hat := Lib.hid hat
      clear hat
      have H_hstop := Lib.hid hstop
      clear hstop
      have H_herr := Lib.hid herr
      clear herr
      have H_hnext := Lib.hid hnext
      clear hnext
      have H_ha := Lib.hid ha
      clear ha
      have H_hn := Lib.hid hn
      clear hn
      have H_hst' := Lib.hid hst'
      clear hst'
      ((try go_simp); (repeat go_step))
      refine call_bel (w := w) (by repeat' (first | (with_reducible first | exact bwR _ _ | assumption | refine bdn ?_ | refine bwA ?_ ?_ _ | refine bwD ?_ | refine bwS ?_ ?_ _) | omega | (simp <;> omega))) (fun HB => mmany_any ⟨a.toArray⟩ n _ (congrArg Nat.cast H_hn.out)) ?_
      intro w3 hb3 hz3 c3 d3 hW3
      have t3 := hb3.size
      have e3_r : Below wr.heap.size wr w3 := below_via (by repeat' (first | (with_reducible first | exact bwR _ _ | assumption | refine bdn ?_ | refine bwA ?_ ?_ _ | refine bwD ?_ | refine bwS ?_ ?_ _) | omega | (simp <;> omega))) hW3
      have te3_r := e3_r.size
      try simp only [szA] at hz3 c3 d3
      try simp only [szD] at hz3 c3 d3
      try simp only [szS] at hz3 c3 d3
      try simp only [World.heap_drewN] at hz3 c3 d3
      try simp only [szA] at hz3 c3 d3
      try simp only [szD] at hz3 c3 d3
      try simp only [szS] at hz3 c3 d3
      have s3_0 : w.heap.size < w3.heap.size := by omega
      have o3_0 := fun j => c3 (w.heap.size) j (by omega)
      have f3_0 := fun j => d3 (w.heap.size) j (by omega)
      have s3_1 : w.heap.size + 1 < w3.heap.size := by omega
      have o3_1 := fun j => c3 (w.heap.size + 1) j (by omega)
      have f3_1 := fun j => d3 (w.heap.size + 1) j (by omega)
      have s3_2 : B4 < w3.heap.size := by omega
      have o3_2 := fun j => c3 (B4) j (by omega)
      have f3_2 := fun j => d3 (B4) j (by omega)
      have s3_3 : g < w3.heap.size := by omega
      have o3_3 := fun j => c3 (g) j (by omega)
      have f3_3 := fun j => d3 (g) j (by omega)
      clear c3 d3 hz3 hW3
      by_cases hs : n = 0 ∨ d ≤ n
      · obtain ⟨hce, hve⟩ := moveC_err hne0 H_hws.out (H_hstop.out (by omega)) (by decide)
        rw [H_hc.out] at hce
        rw [H_hv.out] at hve
        have SKB : ∀ W, Below w.heap.size w W → W.cell? ⟨1, 0, none⟩ = some (.iface 183 (.pointer (some (ea 1)))) := fun W h => gkeep h hText rfl
        have H_SKB := Lib.hid SKB
        clear SKB
        have H_hce := Lib.hid hce
        clear hce
        have H_hve := Lib.hid hve
        clear hve
        rcases hs with h0 | h0
        · subst h0
          ((try go_simp); (repeat go_step))
          go_region_held3 (fun W => W.cell? ⟨1, 0, none⟩ = some (.iface 183 (.pointer (some (ea 1))))) (exact H_SKB.out _ (by repeat' (first | (with_reducible first | exact bwR _ _ | assumption | refine bdn ?_ | refine bwA ?_ ?_ _ | refine bwD ?_ | refine bwS ?_ ?_ _) | omega | (simp <;> omega)))) (fail)
          all_goals
            ((try go_simp); (repeat go_step))
            with_reducible refine postM_ret (res_read _ _ (w.heap.size) (w.heap.size + 1) _ _ _ _ _ _ _ _ _ _ _ _ _ ?h2 ?h3 (set12fd (y := .nilIface) ?hne ?hz ?hy _ _ _ _ _ _ _ _ _ _ _ _)) rfl ?_
            case h2 => simp
            case h3 => simp
            case hne => omega
            case hz => intro j; rw [o3_0]; exact r0 j
            case hy => rw [o3_1]; exact r1
            rw [H_hce.out, H_hve.out, evl_n (by decide)]
            exact ⟨rfl, by repeat' (first | (with_reducible first | exact bwR _ _ | assumption | refine bdn ?_ | refine bwA ?_ ?_ _ | refine bwD ?_ | refine bwS ?_ ?_ _) | omega | (simp <;> omega))⟩
        · by_cases h00 : n = 0
          · subst h00
            exact absurd h0 (by omega)
          · have h0' : ((n : Int) == 0) = false := by rw [beq_eq_false_iff_ne]; omega
            have h0'' : (d : Int) ≤ n := by omega
            clear h00
            ((try go_simp); (repeat go_step))
            go_region_held3 (fun W => W.cell? ⟨1, 0, none⟩ = some (.iface 183 (.pointer (some (ea 1))))) (exact H_SKB.out _ (by repeat' (first | (with_reducible first | exact bwR _ _ | assumption | refine bdn ?_ | refine bwA ?_ ?_ _ | refine bwD ?_ | refine bwS ?_ ?_ _) | omega | (simp <;> omega)))) (fail)
            all_goals
              ((try go_simp); (repeat go_step))
              with_reducible refine postM_ret (res_read _ _ (w.heap.size) (w.heap.size + 1) _ _ _ _ _ _ _ _ _ _ _ _ _ ?h2 ?h3 (set12fd (y := .nilIface) ?hne ?hz ?hy _ _ _ _ _ _ _ _ _ _ _ _)) rfl ?_
              case h2 => simp
              case h3 => simp
              case hne => omega
              case hz => intro j; rw [o3_0]; exact r0 j
              case hy => rw [o3_1]; exact r1
              rw [H_hce.out, H_hve.out, evl_n (by decide)]
              exact ⟨rfl, by repeat' (first | (with_reducible first | exact bwR _ _ | assumption | refine bdn ?_ | refine bwA ?_ ?_ _ | refine bwD ?_ | refine bwS ?_ ?_ _) | omega | (simp <;> omega))⟩
      · have hn0 : n ≠ 0 := fun h => hs (.inl h)
        have hnd : n < d := by omega
        have h0' : ((n : Int) == 0) = false := by rw [beq_eq_false_iff_ne]; omega
        have h0'' : ¬ ((d : Int) ≤ n) := by omega
        have H_hs := Lib.hid hs
        have H_hn0 := Lib.hid hn0
        have i1 : IntKind.i64.wrap (1 + (n : Int)) = 1 + (n : Int) := IntWalk.i64_in _ (by omega)
        have j1 : (1 : Int) ≤ 1 + (n : Int) := by omega
        have j2 : 1 + (n : Int) ≤ (d : Int) := by omega
        have j3 : (0 : Int) ≤ 1 + (n : Int) := by omega
        have j4 : (1 + (n : Int)).toNat = n + 1 := by omega
        have j5 : 1 ≤ d := by omega
        have j7 : (d = 1) = False := eq_false (by omega)
        have j6 : n + 1 ≤ d := by omega
        have hnp : 0 < n := by omega
        clear hs hn0
        obtain ⟨ss, hss⟩ : ∃ ss, (ws.drop (off + 1)).take n = ss := ⟨_, rfl⟩
        have hssl : ss.length = n := by rw [← hss, List.length_take, List.length_drop]; omega
        have hsin : StrIn wr g (off + 1) ss := by
          intro i hi
          have hi' : off + 1 + i < ws.length := by omega
          have e1 : ss[i] = ws[off + 1 + i] := by simp only [← hss, List.getElem_take, List.getElem_drop]
          have := H_hst'.out (off + 1 + i) hi'
          rw [Nat.zero_add] at this
          rw [e1, this]
        have hssz : ∀ l ∈ ss, l.length ≤ 100000 := fun l hl => H_hsz.out l (by rw [← hss] at hl; exact List.mem_of_mem_drop (List.mem_of_mem_take hl))
        have hb1' : ss.getD 0 [] = ws.getD (off + 1) [] := by
          rw [← hss, List.getD_eq_getElem?_getD, List.getD_eq_getElem?_getD, List.getElem?_take, if_pos (by omega), List.getElem?_drop]; try rfl
        have hb2' : ss.getD (n - 1) [] = ws.getD (off + n) [] := by
          rw [← hss, List.getD_eq_getElem?_getD, List.getD_eq_getElem?_getD, List.getElem?_take, if_pos (by omega), List.getElem?_drop]
          congr 2; omega
        have hherr := H_herr.out (by omega)
        have hhnext := H_hnext.out (by omega)
        rw [← hb1', ← hb2'] at hherr hhnext
        obtain ⟨co, hco⟩ : ∃ co, oneC a (ss.getD 0 []) (ss.getD (n - 1) []) = co := ⟨_, rfl⟩
        obtain ⟨q, hq'⟩ : ∃ q, (if co = 0 then oneV a (ss.getD 0 []) (ss.getD (n - 1) []) else zMv) = q := ⟨_, rfl⟩
        rw [hco] at hherr hhnext
        have hcoB : oneC (⟨a.toArray⟩ : ByteArray).data.toList (ss.getD 0 []) (ss.getD (n - 1) []) = co := hco
        have hqB : (if co = 0 then oneV (⟨a.toArray⟩ : ByteArray).data.toList (ss.getD 0 []) (ss.getD (n - 1) []) else zMv) = q := hq'
        have hnB : manyW (⟨a.toArray⟩ : ByteArray).data.toList = n := H_hn.out
        have SKO : ∀ W, Below w3.heap.size w3 W → Below w3.heap.size w3 W ∧ W.cell? ⟨g, off, none⟩ = some (.string ⟨a.toArray⟩) := fun W h => ⟨h, by rw [h.cell (p := ⟨g, off, none⟩) s3_3, o3_3]; exact hq⟩
        have hL3 : Libs w3 := H_hL.out.keep hb3 rfl
        have hT3 := gkeep hb3 hText rfl
        have hS3 := gkeep hb3 hShape rfl
        have hB3 := gkeep hb3 hBound rfl
        have hsin3 : StrIn w3 g (off + 1) ss := hsin.keep e3_r zg
        clear hb1' hb2' hss hco hsin
        have H_hssl := Lib.hid hssl
        clear hssl
        have H_hssz := Lib.hid hssz
        clear hssz
        have H_hcoB := Lib.hid hcoB
        clear hcoB
        have H_hqB := Lib.hid hqB
        clear hqB
        have H_hnB := Lib.hid hnB
        clear hnB
        have H_SKO := Lib.hid SKO
        clear SKO
        have H_hL3 := Lib.hid hL3
        clear hL3
        have H_hsin3 := Lib.hid hsin3
        clear hsin3
        have H_hherr := Lib.hid hherr
        clear hherr
        have H_hhnext := Lib.hid hhnext
        clear hhnext
        have H_hq' := Lib.hid hq'
        clear hq'
        go_upto_region 10 with fail
        go_cut [8, 9] from 19 to 58 (fun s8 s9 wx => MadeM w3 #[.int .i64 q.A.n, .int .i64 q.A.d, .int .i64 q.B.n, .int .i64 q.B.d, .int .i64 q.C.n, .int .i64 q.C.d, .int .i64 q.D.n, .int .i64 q.D.d, .int .i64 q.E.n, .int .i64 q.E.d, .int .i64 q.F.n, .int .i64 q.F.d] s8 wx ∧ s9 = evl 183 ea co)
        case first =>
          go_region_held3 (fun W => Below w3.heap.size w3 W ∧ W.cell? ⟨g, off, none⟩ = some (.string ⟨a.toArray⟩)) (exact H_SKO.out _ (by repeat' (first | (with_reducible first | exact bwR _ _ | assumption | refine bdn ?_ | refine bwA ?_ ?_ _ | refine bwD ?_ | refine bwS ?_ ?_ _) | omega | (simp <;> omega))))
            (first | ((with_reducible refine (mone_all ea ⟨a.toArray⟩ ss g (off + 1) n (d - 1) _ H_hnB.out H_hn0.out H_hssl.out co q H_hcoB.out H_hqB.out H_hssz.out ?qs ?ql ?qL ?q1 ?q2 ?q3).mono ?_); (case qs => exact H_hsin3.out.keep (B := w3.heap.size) (by repeat' (first | (with_reducible first | exact bwR _ _ | assumption | refine bdn ?_ | refine bwA ?_ ?_ _ | refine bwD ?_ | refine bwS ?_ ?_ _) | omega | (simp <;> omega))) s3_3); (case ql => (simp <;> omega)); (case qL => exact H_hL3.out.keep (B := w3.heap.size) (by repeat' (first | (with_reducible first | exact bwR _ _ | assumption | refine bdn ?_ | refine bwA ?_ ?_ _ | refine bwD ?_ | refine bwS ?_ ?_ _) | omega | (simp <;> omega))) rfl); (case q1 => exact gkeep (B := w3.heap.size) (by repeat' (first | (with_reducible first | exact bwR _ _ | assumption | refine bdn ?_ | refine bwA ?_ ?_ _ | refine bwD ?_ | refine bwS ?_ ?_ _) | omega | (simp <;> omega))) hT3 rfl); (case q2 => exact gkeep (B := w3.heap.size) (by repeat' (first | (with_reducible first | exact bwR _ _ | assumption | refine bdn ?_ | refine bwA ?_ ?_ _ | refine bwD ?_ | refine bwS ?_ ?_ _) | omega | (simp <;> omega))) hS3 rfl); (case q3 => exact gkeep (B := w3.heap.size) (by repeat' (first | (with_reducible first | exact bwR _ _ | assumption | refine bdn ?_ | refine bwA ?_ ?_ _ | refine bwD ?_ | refine bwS ?_ ?_ _) | omega | (simp <;> omega))) hB3 rfl); rintro en wO ⟨rfl, hO⟩; have hbO : Below w3.heap.size w3 wO := below_via (by repeat' (first | (with_reducible first | exact bwR _ _ | assumption | refine bdn ?_ | refine bwA ?_ ?_ _ | refine bwD ?_ | refine bwS ?_ ?_ _) | omega | (simp <;> omega))) hO; have tO : w3.heap.size ≤ wO.heap.size := hbO.size; (try have zO : w3.heap.size < wO.heap.size := Nat.lt_of_lt_of_le (by simp only [World.size_alloc, World.size_drew]; exact Nat.lt_succ_self _) hO.size); (try have oO := fun j => hO.cell (p := ⟨w3.heap.size, j, none⟩) (by simp only [World.size_alloc, World.size_drew]; exact Nat.lt_succ_self _)); (try have fO := fun j => hO.frozen (p := ⟨w3.heap.size, j, none⟩) (by simp only [World.size_alloc, World.size_drew]; exact Nat.lt_succ_self _))))
          all_goals
            ((try go_simp); (repeat go_step))
            go_meet
            refine ⟨?_, rfl⟩
            first | with_reducible exact madeM_last hbO _ | with_reducible exact madeM_first (Below.refl _ _) hO _ _ _ _ _ _ _ _ _ _ _ _ | with_reducible exact madeM_first (Below.refl _ _).drew hO _ _ _ _ _ _ _ _ _ _ _ _ | with_reducible exact madeM_first (Below.refl _ _) (Below.undrew hO) _ _ _ _ _ _ _ _ _ _ _ _ | trace_state
        case rest =>
          obtain ⟨⟨gm, rfl, hgm, hgm1, hgm2, hBc⟩, rfl⟩ := hcut
          have hBrc : Below wr.heap.size wr wc := below_via e3_r hBc
          have hBwc : Below w.heap.size w wc := below_via hBr hBrc
          have tc := hBrc.size
          have c0 := fun j => (hBrc.cell (p := ⟨w.heap.size, j, none⟩) z0).trans (r0 j)
          have c0f := fun j => (hBrc.frozen (p := ⟨w.heap.size, j, none⟩) z0).trans (x0 j)
          have c1 := (hBrc.cell (p := ⟨w.heap.size + 1, 0, none⟩) z1).trans r1
          have c1f := (hBrc.frozen (p := ⟨w.heap.size + 1, 0, none⟩) z1).trans x1
          have hgm3 : wr.heap.size ≤ gm := by omega
          have y0 : w.heap.size < wc.heap.size := by omega
          have y1 : w.heap.size + 1 < wc.heap.size := by omega
          clear o3_0 f3_0 o3_1 f3_1 o3_2 f3_2 o3_3 f3_3 s3_0 s3_1 s3_2 s3_3 H_SKO H_hL3 hT3 hS3 hB3 H_hsin3 hBc hgm1 e3_r te3_r hb3 t3
          clear w3
          by_cases hc0 : co = 0
          · have hnx := H_hhnext.out hc0
            have e1 : evl 183 ea co = .nilIface := evl_0 hc0
            rw [e1]
            have hqq := H_hq'.out
            rw [if_pos hc0] at hqq
            rw [hqq] at hnx
            have hownc : OwnR EM wc w2.heap.size 30 _ acc := H_hown.out.keep hBrc
            have hB2c : Below w2.heap.size w2 wc := below_via hB hBrc
            clear hqq e1
            have H_hc0 := Lib.hid hc0
            clear hc0
            have H_hnx := Lib.hid hnx
            clear hnx
            have H_hownc := Lib.hid hownc
            clear hownc
            by_cases hdn : d = n + 1
            · have j8 : (d = n + 1) = True := eq_true hdn
              have hdn' : d ≤ n + 1 := by omega
              clear hdn
              go_upto_region 13 with fail
              have hgmL : gm < wc.heap.size := hgm2
              have hgo : ∀ k, Value.ownBlock u6 = some k → k ≠ gm := fun k hk h => by have := (H_hown.out.lt k hk).2; omega
              have H_hgo := Lib.hid hgo
              clear hgo
              go_region_held3 (fun W => Below w2.heap.size w2 W ∧ ∀ j, W.cell? ⟨gm, j, none⟩ = #[.int .i64 q.A.n, .int .i64 q.A.d, .int .i64 q.B.n, .int .i64 q.B.d, .int .i64 q.C.n, .int .i64 q.C.d, .int .i64 q.D.n, .int .i64 q.D.d, .int .i64 q.E.n, .int .i64 q.E.d, .int .i64 q.F.n, .int .i64 q.F.d][j]?) ((refine ⟨?_, fun j => ?_⟩; (exact by repeat' (first | (with_reducible first | exact bwR _ _ | assumption | refine bdn ?_ | refine bwA ?_ ?_ _ | refine bwD ?_ | refine bwS ?_ ?_ _) | omega | (simp <;> omega))); (first | with_reducible exact hgm j | with_reducible exact hgA j | (repeat (first | with_reducible exact hgm j | rw [World.cell?_drew] | rw [World.cell?_alloc_past _ _ _ hgmL])))))
                (first | ((refine step_append_row2 rfl (.tmp 51) (.tmp 53) 75 rfl EM w2.heap.size 30 i0 _ 96 Tryz.underlying75 H_hi.out H_hz0.out H_hz1.out H_hz2.out rfl (by decide) _ acc rfl _ _ 1 1 [q] rfl rfl ?_ ?_ ?_ ?_ ?_); (simp; omega); (first | exact H_hownc.out.alloc _ | exact (H_hownc.out.alloc _).keep (Below.refl _ _).drew); (first | exact row_one (vs := #[.int .i64 q.A.n, .int .i64 q.A.d, .int .i64 q.B.n, .int .i64 q.B.d, .int .i64 q.C.n, .int .i64 q.C.d, .int .i64 q.D.n, .int .i64 q.D.d, .int .i64 q.E.n, .int .i64 q.E.d, .int .i64 q.F.n, .int .i64 q.F.d]) rfl (fun j => World.cell?_alloc_new _ _ _ _) | exact row_one (vs := #[.int .i64 q.A.n, .int .i64 q.A.d, .int .i64 q.B.n, .int .i64 q.B.d, .int .i64 q.C.n, .int .i64 q.C.d, .int .i64 q.D.n, .int .i64 q.D.d, .int .i64 q.E.n, .int .i64 q.E.d, .int .i64 q.F.n, .int .i64 q.F.d]) rfl (fun j => by rw [World.cell?_drew]; exact World.cell?_alloc_new _ _ _ _)); (simp <;> omega); (intro v' wA hvA hAA hgr; have hbA : Below w2.heap.size w2 wA := Below.trans (by repeat' (first | (with_reducible first | exact bwR _ _ | assumption | refine bdn ?_ | refine bwA ?_ ?_ _ | refine bwD ?_ | refine bwS ?_ ?_ _) | omega | (simp <;> omega))) hAA; have hgA : ∀ j, wA.cell? ⟨gm, j, none⟩ = #[.int .i64 q.A.n, .int .i64 q.A.d, .int .i64 q.B.n, .int .i64 q.B.d, .int .i64 q.C.n, .int .i64 q.C.d, .int .i64 q.D.n, .int .i64 q.D.d, .int .i64 q.E.n, .int .i64 q.E.d, .int .i64 q.F.n, .int .i64 q.F.d][j]? := fun j => (World.cell?_of_block (a := ⟨gm, j, none⟩) (hgr.block gm (by simp; omega) (fun h => H_hgo.out gm h.symm rfl))).trans (by repeat (first | with_reducible exact hgm j | rw [World.cell?_drew] | rw [World.cell?_alloc_past _ _ _ hgmL])); have H_hvA := Lib.hid hvA; clear hvA hAA hgr)))
              all_goals
                clear hgA
                have hlast : OwnR EM wA w2.heap.size 30 v' (acc ++ [q]) := H_hvA.out
                have H_hlast := Lib.hid hlast
                clear hlast
                ((try go_simp); (repeat go_step))
                refine ⟨⟨_, _, ⟨off + 1 + n, 0, by omega, off, fun h => absurd h (by omega), rfl, acc ++ [q], H_hlast.out, H_hnx.out, .inr (by simp), by simp; omega, hbA⟩, ?_⟩, ?_⟩
                · repeat apply Exists.intro
                  first | rfl | exact ⟨rfl, rfl⟩ | trace_state
                · simp [slLen] <;> omega
            · have j8 : (d = n + 1) = False := eq_false hdn
              clear hdn
              go_upto_region 13 with fail
              have hgmL : gm < wc.heap.size := hgm2
              have hgo : ∀ k, Value.ownBlock u6 = some k → k ≠ gm := fun k hk h => by have := (H_hown.out.lt k hk).2; omega
              have H_hgo := Lib.hid hgo
              clear hgo
              go_region_held3 (fun W => Below w2.heap.size w2 W ∧ ∀ j, W.cell? ⟨gm, j, none⟩ = #[.int .i64 q.A.n, .int .i64 q.A.d, .int .i64 q.B.n, .int .i64 q.B.d, .int .i64 q.C.n, .int .i64 q.C.d, .int .i64 q.D.n, .int .i64 q.D.d, .int .i64 q.E.n, .int .i64 q.E.d, .int .i64 q.F.n, .int .i64 q.F.d][j]?) ((refine ⟨?_, fun j => ?_⟩; (exact by repeat' (first | (with_reducible first | exact bwR _ _ | assumption | refine bdn ?_ | refine bwA ?_ ?_ _ | refine bwD ?_ | refine bwS ?_ ?_ _) | omega | (simp <;> omega))); (first | with_reducible exact hgm j | with_reducible exact hgA j | (repeat (first | with_reducible exact hgm j | rw [World.cell?_drew] | rw [World.cell?_alloc_past _ _ _ hgmL])))))
                (first | ((refine step_append_row2 rfl (.tmp 51) (.tmp 53) 75 rfl EM w2.heap.size 30 i0 _ 96 Tryz.underlying75 H_hi.out H_hz0.out H_hz1.out H_hz2.out rfl (by decide) _ acc rfl _ _ 1 1 [q] rfl rfl ?_ ?_ ?_ ?_ ?_); (simp; omega); (first | exact H_hownc.out.alloc _ | exact (H_hownc.out.alloc _).keep (Below.refl _ _).drew); (first | exact row_one (vs := #[.int .i64 q.A.n, .int .i64 q.A.d, .int .i64 q.B.n, .int .i64 q.B.d, .int .i64 q.C.n, .int .i64 q.C.d, .int .i64 q.D.n, .int .i64 q.D.d, .int .i64 q.E.n, .int .i64 q.E.d, .int .i64 q.F.n, .int .i64 q.F.d]) rfl (fun j => World.cell?_alloc_new _ _ _ _) | exact row_one (vs := #[.int .i64 q.A.n, .int .i64 q.A.d, .int .i64 q.B.n, .int .i64 q.B.d, .int .i64 q.C.n, .int .i64 q.C.d, .int .i64 q.D.n, .int .i64 q.D.d, .int .i64 q.E.n, .int .i64 q.E.d, .int .i64 q.F.n, .int .i64 q.F.d]) rfl (fun j => by rw [World.cell?_drew]; exact World.cell?_alloc_new _ _ _ _)); (simp <;> omega); (intro v' wA hvA hAA hgr; have hbA : Below w2.heap.size w2 wA := Below.trans (by repeat' (first | (with_reducible first | exact bwR _ _ | assumption | refine bdn ?_ | refine bwA ?_ ?_ _ | refine bwD ?_ | refine bwS ?_ ?_ _) | omega | (simp <;> omega))) hAA; have hgA : ∀ j, wA.cell? ⟨gm, j, none⟩ = #[.int .i64 q.A.n, .int .i64 q.A.d, .int .i64 q.B.n, .int .i64 q.B.d, .int .i64 q.C.n, .int .i64 q.C.d, .int .i64 q.D.n, .int .i64 q.D.d, .int .i64 q.E.n, .int .i64 q.E.d, .int .i64 q.F.n, .int .i64 q.F.d][j]? := fun j => (World.cell?_of_block (a := ⟨gm, j, none⟩) (hgr.block gm (by simp; omega) (fun h => H_hgo.out gm h.symm rfl))).trans (by repeat (first | with_reducible exact hgm j | rw [World.cell?_drew] | rw [World.cell?_alloc_past _ _ _ hgmL])); have H_hvA := Lib.hid hvA; clear hvA hAA hgr)))
              all_goals
                clear hgA
                have hlast : OwnR EM wA w2.heap.size 30 v' (acc ++ [q]) := H_hvA.out
                have H_hlast := Lib.hid hlast
                clear hlast
                ((try go_simp); (repeat go_step))
                refine ⟨⟨_, _, ⟨off + 1 + n, d - (n + 1), by omega, off + (n + 1), fun h => by omega, rfl, acc ++ [q], H_hlast.out, H_hnx.out, .inr (by simp), by simp; omega, hbA⟩, ?_⟩, ?_⟩
                · repeat apply Exists.intro
                  first | rfl | exact ⟨rfl, rfl⟩ | trace_state
                · simp [slLen] <;> omega
          · have hee := H_hherr.out hc0
            obtain ⟨hce, hve⟩ := moveC_err hne0 H_hws.out hee hc0
            rw [H_hc.out] at hce
            rw [H_hv.out] at hve
            have e1 : evl 183 ea co = .iface 183 (.pointer (some (ea co))) := evl_n hc0
            rw [e1]
            clear e1
            have H_hc0 := Lib.hid hc0
            clear hc0
            have H_hce := Lib.hid hce
            clear hce
            have H_hve := Lib.hid hve
            clear hve
            have H_hee := Lib.hid hee
            clear hee
            ((try go_simp); (repeat go_step))
            with_reducible refine postM_ret (res_read _ _ (w.heap.size) (w.heap.size + 1) _ _ _ _ _ _ _ _ _ _ _ _ _ ?h2 ?h3 (set12f (y := .nilIface) ?hne ?hz ?hy _ _ _ _ _ _ _ _ _ _ _ _)) rfl ?_
            case h2 => simp
            case h3 => simp
            case hne => omega
            case hz => intro j; exact c0 j
            case hy => exact c1
            rw [H_hce.out, H_hve.out, evl_n H_hc0.out]
            exact ⟨rfl, by repeat' (first | (with_reducible first | exact bwR _ _ | assumption | refine bdn ?_ | refine bwA ?_ ?_ _ | refine bwD ?_ | refine bwS ?_ ?_ _) | omega | (simp <;> omega))⟩
    · obtain rfl : d = 0 := by omega
      obtain ⟨hcC, hvC⟩ := moveC_ok hne0 H_hws.out (hat.done (by omega))
      rw [H_hc.out] at hcC
      rw [H_hv.out] at hvC
      obtain ⟨gr, cap, rfl, hgr1, hgr2, hcap, _, hrow⟩ : ∃ gr cap, u6 = .slice (some ⟨gr, 0, none⟩) acc.length cap ∧ w2.heap.size ≤ gr ∧ gr < wr.heap.size ∧ acc.length ≤ cap ∧ acc.length ≤ maxLen ∧ RowIn EM wr gr 0 acc := by
        rcases hown.form with ⟨_, h⟩ | h
        · rcases hne with h' | h'
          · omega
          · exact absurd h h'
        · exact h
      have hacR : ∀ m ∈ acc, m.R := by
        have := hat.done (by omega)
        intro m hm
        have h2 := rdW_R ws.length ws m
        rw [this] at h2
        exact h2 hm
      have hdz : decide (0 < ((0 : Nat) : Int)) = false := by simp
      have H_hcC := Lib.hid hcC
      clear hcC
      have H_hvC := Lib.hid hvC
      clear hvC
      have H_hown := Lib.hid hown
      clear hown
      have H_hat := Lib.hid hat
      clear hat
      have H_hrow := Lib.hid hrow
      clear hrow
      have H_hacR := Lib.hid hacR
      clear hacR
      clear hoff hd
      ((try go_simp); (repeat go_step))
      refine (callsIn_wide.1 (bwd_in Fence.wide 8 trivial rfl _ _ _ _)).mono ?_
      rintro _ _ ⟨rfl, rfl⟩
      ((try go_simp); (repeat go_step))
      obtain ⟨W0, hW0⟩ : ∃ u, wr.alloc (.cells #[.slice (some ⟨gr, 0, none⟩) acc.length cap] 75) = u := ⟨_, rfl⟩
      obtain ⟨Bs, hBs⟩ : ∃ u, wr.heap.size = u := ⟨_, rfl⟩
      have zBs : W0.heap.size = Bs + 1 := by rw [← hW0, ← hBs]; simp
      have hB0 : Below w.heap.size w W0 := by rw [← hW0]; exact hBr.alloc hBr.size _
      have e0 : Held W0 w.heap.size #[.int .i64 0, .int .i64 0, .int .i64 0, .int .i64 0, .int .i64 0, .int .i64 0, .int .i64 0, .int .i64 0, .int .i64 0, .int .i64 0, .int .i64 0, .int .i64 0] := by rw [← hW0]; exact (held_of r0 x0).alloc z0 _
      have e1 : Held W0 (w.heap.size + 1) #[.nilIface] := by rw [← hW0]; exact (held_one r1 x1).alloc z1 _
      have e4 : Held W0 B4 #[.int .i64 (fM []).2.A.n, .int .i64 (fM []).2.A.d, .int .i64 (fM []).2.B.n, .int .i64 (fM []).2.B.d, .int .i64 (fM []).2.C.n, .int .i64 (fM []).2.C.d, .int .i64 (fM []).2.D.n, .int .i64 (fM []).2.D.d, .int .i64 (fM []).2.E.n, .int .i64 (fM []).2.E.d, .int .i64 (fM []).2.F.n, .int .i64 (fM []).2.F.d] := by rw [← hW0]; exact (held_of r4 x4).alloc z4 _
      have cBs : W0.cell? ⟨Bs, 0, none⟩ = some (.slice (some ⟨gr, 0, none⟩) acc.length cap) := by rw [← hW0, ← hBs, World.cell?_alloc_new]; rfl
      have hrow0 : RowIn EM W0 gr 0 acc := H_hrow.out.of (fun o => by rw [← hW0, World.cell?_alloc_past _ _ _ hgr2])
      obtain ⟨zs, hzs⟩ : ∃ zs : List RMv, zs.map (·.1) = acc := ⟨acc.pmap Subtype.mk H_hacR.out, by simp [List.map_pmap]⟩
      have hzl : zs.length = acc.length := by rw [← hzs]; simp
      have hgrB : gr < W0.heap.size := by omega
      have hBsB : Bs < W0.heap.size := by omega
      have hne4 : B4 ≠ w.heap.size := by omega
      rw [hW0, hBs]
      refine (wpIn_wide (n := 9)).1 ?_
      refine wpIn_rangeFunc_ownH (F := Fence.wide) rfl (by decide) (gf := 50) (lb := #[.pointer (some ⟨Bs, 0, none⟩)]) rfl trivial (enters_of Tryz.func50 (by kernel_rfl) rfl)
        (bwd_stops Fence.wide 8 trivial rfl (by decide) Bs gr 0 cap zs (by omega) W0 hBsB hgrB (by rw [hzl]; exact cBs) (by rw [hzs]; exact hrow0)) Same2.trans (Same2.put hgrB hBsB) (Below.refl _ _) (fun _ => rfl)
        (fun pre W => (Held W B4 #[.int .i64 (fM pre).2.A.n, .int .i64 (fM pre).2.A.d, .int .i64 (fM pre).2.B.n, .int .i64 (fM pre).2.B.d, .int .i64 (fM pre).2.C.n, .int .i64 (fM pre).2.C.d, .int .i64 (fM pre).2.D.n, .int .i64 (fM pre).2.D.d, .int .i64 (fM pre).2.E.n, .int .i64 (fM pre).2.E.d, .int .i64 (fM pre).2.F.n, .int .i64 (fM pre).2.F.d] ∧ Held W w.heap.size #[.int .i64 0, .int .i64 0, .int .i64 0, .int .i64 0, .int .i64 0, .int .i64 0, .int .i64 0, .int .i64 0, .int .i64 0, .int .i64 0, .int .i64 0, .int .i64 0] ∧ Held W (w.heap.size + 1) #[.nilIface] ∧ (fM pre).1 = 0 ∧ W0.heap.size ≤ W.heap.size) ∧ Below w.heap.size w W)
        (fun c pre W => (c = .ret ∧ Held W w.heap.size #[.int .i64 0, .int .i64 0, .int .i64 0, .int .i64 0, .int .i64 0, .int .i64 0, .int .i64 0, .int .i64 0, .int .i64 0, .int .i64 0, .int .i64 0, .int .i64 0] ∧ Held W (w.heap.size + 1) #[.iface 183 (.pointer (some (ea 2)))] ∧ (fM pre).1 = 2) ∧ Below w.heap.size w W)
        (OwnFrom.and (Own.from (fun s A B row hs hg hr => ⟨hs.1.kept hg hr, hs.2.1.kept hg hr, hs.2.2.1.kept hg hr, hs.2.2.2.1, Nat.le_trans hs.2.2.2.2 hg.size⟩) _) (ownFrom_below (Nat.le_refl _) (by omega)))
        (fun c => OwnFrom.and (Own.from (fun s A B row hs hg hr => ⟨hs.1, hs.2.1.kept hg hr, hs.2.2.1.kept hg hr, hs.2.2.2⟩) _) (ownFrom_below (Nat.le_refl _) (by omega)))
        ⟨⟨e4, e0, e1, rfl, Nat.le_refl _⟩, hB0⟩
        (fun x a' W => ∃ Bx, W0.heap.size ≤ Bx ∧ Held W Bx #[.int .i64 x.2.1.A.n, .int .i64 x.2.1.A.d, .int .i64 x.2.1.B.n, .int .i64 x.2.1.B.d, .int .i64 x.2.1.C.n, .int .i64 x.2.1.C.d, .int .i64 x.2.1.D.n, .int .i64 x.2.1.D.d, .int .i64 x.2.1.E.n, .int .i64 x.2.1.E.d, .int .i64 x.2.1.F.n, .int .i64 x.2.1.F.d] ∧ a' = { tmps := #[.string s, undef, .pointer (some ⟨w.heap.size, 0, none⟩), .pointer (some ⟨w.heap.size + 1, 0, none⟩), .pointer (some ⟨B4, 0, none⟩), .slice (some ⟨g, off, none⟩) 0 0, .slice (some ⟨gr, 0, none⟩) acc.length cap, u7, u8, u9, undef, .pointer (some ⟨Bx, 0, none⟩), undef, .agg #[.int .i64 1, .int .i64 1, .int .i64 0, .int .i64 1, .int .i64 0, .int .i64 1, .int .i64 1, .int .i64 1, .int .i64 0, .int .i64 1, .int .i64 0, .int .i64 1], .string s, .bool false, undef, .string s, .slice (some ⟨g, 0, none⟩) ws.length ws.length, .slice (some ⟨g, off, none⟩) 0 0, .int .i64 0, .bool false, u22, u23, u24, u25, u26, u27, u28, u29, u30, u31, u32, u33, u34, u35, u36, u37, u38, u39, u40, u41, u42, u43, u44, u45, u46, u47, u48, u49, u50, u51, u52, u53, u54, u55, u56, u57, u58, .slice (some ⟨gr, 0, none⟩) acc.length cap, .func (.func 50) #[] #[.pointer (some ⟨Bs, 0, none⟩)], .int .i64 (x.1 : Int), .agg #[.int .i64 x.2.1.A.n, .int .i64 x.2.1.A.d, .int .i64 x.2.1.B.n, .int .i64 x.2.1.B.d, .int .i64 x.2.1.C.n, .int .i64 x.2.1.C.d, .int .i64 x.2.1.D.n, .int .i64 x.2.1.D.d, .int .i64 x.2.1.E.n, .int .i64 x.2.1.E.d, .int .i64 x.2.1.F.n, .int .i64 x.2.1.F.d], undef, undef, undef, undef, undef, undef, undef, undef, undef, undef, undef], defers := [] })
        (fun x a' _ X Y row hs hg hr => by obtain ⟨Bx, h1, h2, h3⟩ := hs; exact ⟨Bx, h1, h2.kept hg (fun r e => (hr r e).2), h3⟩)
        ?assign ?body ?done ?stop
      case assign =>
        rintro l pre x W K ⟨⟨h4, h0, h1, hf, hz⟩, hB1⟩ hK
        gi_wp2
        have s4 := h4.lt rfl
        have s0 := h0.lt rfl
        have s1 := h1.lt rfl
        exact hK _ _ ((KeepsOthers.alloc _ _).from _) ⟨Below.heap_alloc _ _ _ (by omega), Below.heap_alloc _ _ _ (by omega)⟩ ⟨⟨h4.alloc s4 _, h0.alloc s0 _, h1.alloc s1 _, hf, by simp; omega⟩, hB1.alloc hB1.size _⟩ ⟨W.heap.size, hz, held_new _ _ _, rfl⟩
      case body =>
        rintro l pre x a' W hl ⟨r, hr⟩ ⟨⟨h4, h0, h1, hf, hz⟩, hB1⟩ ⟨Bx, hBx, bX, rfl⟩ hlt
        have hcR : (fM pre).2.R := by
          rcases foldM_R (pre.map fun x => x.2.1) oneM oneM_R (fun m hm => by obtain ⟨y, _, rfl⟩ := List.mem_map.1 hm; exact y.2.2) with h | h
          · exact h.2
          · exact absurd (hf.symm.trans h.1) (by decide)
        have hsn := fM_snoc (x := x) hf
        have hxR := x.2.2
        obtain ⟨m, hm⟩ : ∃ m, x.2.1 = m := ⟨_, rfl⟩
        obtain ⟨cur, hcu⟩ : ∃ m, (fM pre).2 = m := ⟨_, rfl⟩
        obtain ⟨ix, hix⟩ : ∃ i : Int, (x.1 : Int) = i := ⟨_, rfl⟩
        rw [hm] at bX hsn hxR
        rw [hcu] at h4 hsn hcR
        rw [hm, hix]
        have s4 := h4.lt rfl
        have s0 := h0.lt rfl
        have s1 := h1.lt rfl
        have sx := bX.lt rfl
        have HT := mthen_any ea cur m W hcR.I hxR.I (H_hG.out.keep hB1 rfl) (Nat.le_trans hng hB1.size)
        have c4 := h4.c12
        have cx := bX.c12
        by_cases hth : thenC cur m = (0, none)
        · rw [if_pos hth] at hsn
          obtain ⟨q, hq⟩ : ∃ q, thenV cur m = q := ⟨_, rfl⟩
          rw [hth, hq] at HT
          rw [hq] at hsn
          have H_hsn := Lib.hid hsn
          clear hsn
          have H_hth := Lib.hid hth
          clear hth
          have H_hq := Lib.hid hq
          clear hq
          have H_hcu := Lib.hid hcu
          clear hcu
          have H_hm := Lib.hid hm
          clear hm
          have H_hf := Lib.hid hf
          clear hf
          have H_hcR := Lib.hid hcR
          clear hcR
          have H_hxR := Lib.hid hxR
          clear hxR
          have H_h4 := Lib.hid h4
          clear h4
          have H_bX := Lib.hid bX
          clear bX
          have H_h0 := Lib.hid h0
          clear h0
          have H_h1 := Lib.hid h1
          clear h1
          gi_wp2_with (refine ⟨trivial, ?_⟩; gi_at_call 13; refine (CallsIn.inRound l (callsIn_wide.2 HT)).mono ?_; clear HT; rintro e w5 ⟨xx, rfl, hxx, hbb⟩; obtain rfl := hxx.nil rfl; have h4b := H_h4.out.below hbb s4; have h4c := h4b.c12; have h4f := h4b.f12; clear c4 cx; have H_h4b := Lib.hid h4b; clear h4b hxx)
          have s40 : w.heap.size ≠ B4 := fun h => hne4 h.symm
          have s41 : w.heap.size + 1 ≠ B4 := by omega
          have g4 : gr ≠ B4 := by omega
          have b4 : Bs ≠ B4 := by omega
          have hgW : gr < W.heap.size := by omega
          have hBW : Bs < W.heap.size := by omega
          have lB : w.heap.size ≤ B4 := by omega
          have hz5 : W0.heap.size ≤ w5.heap.size := Nat.le_trans hz hbb.size
          have hB5 : Below w.heap.size w w5 := below_via hB1 hbb
          refine ⟨?_, ?_, ?_⟩
          · with_reducible exact ((kept_below hbb).trans (kept_set12 _ _ _ _ _ _ _ _ _ _ _ _ _ _)).from _
          · with_reducible exact (same2_below hbb hgW hBW).trans (same2_set12 g4 b4 _ _ _ _ _ _ _ _ _ _ _ _)
          · dsimp only
            rw [H_hsn.out]
            refine ⟨⟨?_, ?_, ?_, rfl, ?_⟩, ?_⟩
            · with_reducible exact H_h4b.out.set12 _ _ _ _ _ _ _ _ _ _ _ _
            · with_reducible exact (H_h0.out.below hbb s0).other12 s40 _ _ _ _ _ _ _ _ _ _ _ _
            · with_reducible exact (H_h1.out.below hbb s1).other12 s41 _ _ _ _ _ _ _ _ _ _ _ _
            · rw [size_set12]; exact hz5
            · with_reducible exact below_set12 hB5 lB _ _ _ _ _ _ _ _ _ _ _ _
        · rw [if_neg hth] at hsn
          obtain ⟨hth2, _, hq⟩ := then_two hcR hxR hth
          rw [hth2, hq] at HT
          have c0 := h0.c12
          have c0f := h0.f12
          have c1 := (h1 0 _ rfl).1
          have c1f := (h1 0 _ rfl).2
          clear hth hth2
          have H_hsn := Lib.hid hsn
          clear hsn
          have H_hq := Lib.hid hq
          clear hq
          have H_hcu := Lib.hid hcu
          clear hcu
          have H_hm := Lib.hid hm
          clear hm
          have H_hf := Lib.hid hf
          clear hf
          have H_hcR := Lib.hid hcR
          clear hcR
          have H_hxR := Lib.hid hxR
          clear hxR
          have H_h4 := Lib.hid h4
          clear h4
          have H_bX := Lib.hid bX
          clear bX
          have H_h0 := Lib.hid h0
          clear h0
          have H_h1 := Lib.hid h1
          clear h1
          gi_wp2_with (refine ⟨trivial, ?_⟩; gi_at_call 13; refine (CallsIn.inRound l (callsIn_wide.2 HT)).mono ?_; clear HT; rintro e w5 ⟨xx, rfl, hxx, hbb⟩; obtain rfl : xx = .iface 183 (.pointer (some (ea 2))) := hxx.trans (evl_n (by decide)); have h4b := H_h4.out.below hbb s4; have h4c := h4b.c12; have h4f := h4b.f12; have h0b := H_h0.out.below hbb s0; have h0c := h0b.c12; have h0f := h0b.f12; have h1b := H_h1.out.below hbb s1; have h1c := (h1b 0 _ rfl).1; have h1f := (h1b 0 _ rfl).2; clear c4 cx c0 c0f c1 c1f; have H_h4b := Lib.hid h4b; have H_h0b := Lib.hid h0b; have H_h1b := Lib.hid h1b; clear h4b h0b h1b hxx)
          have s40 : w.heap.size ≠ B4 := fun h => hne4 h.symm
          have s41 : w.heap.size + 1 ≠ B4 := by omega
          have s01 : w.heap.size ≠ w.heap.size + 1 := by omega
          have s10 : w.heap.size + 1 ≠ w.heap.size := by omega
          have lB : w.heap.size ≤ B4 := by omega
          have hB5 : Below w.heap.size w w5 := below_via hB1 hbb
          refine ⟨?_, ?_⟩
          · with_reducible exact ((((kept_below hbb).trans (kept_set12 _ _ _ _ _ _ _ _ _ _ _ _ _ _)).trans (kept_set12 _ _ _ _ _ _ _ _ _ _ _ _ _ _)).trans (KeepsOthers.setCell _ _ _)).from _
          · dsimp only
            rw [H_hsn.out]
            refine ⟨⟨rfl, ?_, ?_, rfl⟩, ?_⟩
            · with_reducible exact ((H_h0b.out.other12 s40 _ _ _ _ _ _ _ _ _ _ _ _).set12 _ _ _ _ _ _ _ _ _ _ _ _).other s01 _
            · exact ((H_h1b.out.other12 s41 _ _ _ _ _ _ _ _ _ _ _ _).other12 s10 _ _ _ _ _ _ _ _ _ _ _ _).set _ (by simp)
            · with_reducible exact (below_set12 (below_set12 hB5 lB _ _ _ _ _ _ _ _ _ _ _ _) (Nat.le_refl _) _ _ _ _ _ _ _ _ _ _ _ _).setCell (p := ⟨w.heap.size + 1, 0, none⟩) (Nat.le_succ _) _
      case done =>
        rintro D xs W hD rfl ⟨⟨h4, h0, h1, hf, hz⟩, hB1⟩ hK
        have hfm := fM_bwd hzs
        rw [hfm] at h4 hf
        obtain ⟨r, hr⟩ : ∃ r, foldM oneM acc.reverse = r := ⟨_, rfl⟩
        have hcc := H_hcC.out
        have hvv := H_hvC.out
        rw [hr] at hcc hvv h4 hf
        rw [hf] at hcc
        rw [← hvv] at h4
        have c4 := h4.c12
        have c0 := h0.c12
        have c0f := h0.f12
        have c1 := (h1 0 _ rfl).1
        have c1f := (h1 0 _ rfl).2
        clear hfm
        have H_h4 := Lib.hid h4
        clear h4
        have H_h0 := Lib.hid h0
        clear h0
        have H_h1 := Lib.hid h1
        clear h1
        have H_hf := Lib.hid hf
        clear hf
        have H_hcc := Lib.hid hcc
        clear hcc
        have H_hvv := Lib.hid hvv
        clear hvv
        have H_hr := Lib.hid hr
        clear hr
        have s01 : w.heap.size ≠ w.heap.size + 1 := by omega
        have s10 : w.heap.size + 1 ≠ w.heap.size := by omega
        gi_wp2
        ((try go_simp); (repeat go_step))
        have hKo := ((kept_set12 W w.heap.size (.int .i64 v.A.n) (.int .i64 v.A.d) (.int .i64 v.B.n) (.int .i64 v.B.d) (.int .i64 v.C.n) (.int .i64 v.C.d) (.int .i64 v.D.n) (.int .i64 v.D.d) (.int .i64 v.E.n) (.int .i64 v.E.d) (.int .i64 v.F.n) (.int .i64 v.F.d)).trans (KeepsOthers.setCell _ ⟨w.heap.size + 1, 0, none⟩ .nilIface)).same D _ hK rfl
        have hBo := (below_set12 hB1 (Nat.le_refl w.heap.size) (.int .i64 v.A.n) (.int .i64 v.A.d) (.int .i64 v.B.n) (.int .i64 v.B.d) (.int .i64 v.C.n) (.int .i64 v.C.d) (.int .i64 v.D.n) (.int .i64 v.D.d) (.int .i64 v.E.n) (.int .i64 v.E.d) (.int .i64 v.F.n) (.int .i64 v.F.d)).setCell (p := ⟨w.heap.size + 1, 0, none⟩) (Nat.le_succ _) .nilIface
        have hk0 := ((H_h0.out.set12 (.int .i64 v.A.n) (.int .i64 v.A.d) (.int .i64 v.B.n) (.int .i64 v.B.d) (.int .i64 v.C.n) (.int .i64 v.C.d) (.int .i64 v.D.n) (.int .i64 v.D.d) (.int .i64 v.E.n) (.int .i64 v.E.d) (.int .i64 v.F.n) (.int .i64 v.F.d)).other (i := 0) s01 .nilIface).kept (grownBy_putObj' _ D (.deferred none)) (fun r e => by cases e; exact ⟨_, hKo, rfl⟩)
        have hk1 := ((H_h1.out.other12 s10 (.int .i64 v.A.n) (.int .i64 v.A.d) (.int .i64 v.B.n) (.int .i64 v.B.d) (.int .i64 v.C.n) (.int .i64 v.C.d) (.int .i64 v.D.n) (.int .i64 v.D.d) (.int .i64 v.E.n) (.int .i64 v.E.d) (.int .i64 v.F.n) (.int .i64 v.F.d)).set (i := 0) .nilIface (by simp)).kept (grownBy_putObj' _ D (.deferred none)) (fun r e => by cases e; exact ⟨_, hKo, rfl⟩)
        refine ⟨by simp, .inl ⟨_, _, rfl, run_takeDeferred hKo, ?_⟩⟩
        refine ⟨_, res_readH _ _ (w.heap.size) (w.heap.size + 1) _ _ _ _ _ _ _ _ _ _ _ _ _ ?h2 ?h3 (hk0) (hk1), ?_⟩
        case h2 => simp
        case h3 => simp
        rw [H_hcc.out, evl_0 rfl]
        exact ⟨rfl, hBo.trans (belowK_b (w := w) (Nat.le_refl _) _ D _ _ (by omega) hKo rfl rfl)⟩
      case stop =>
        rintro D c' pre W hD ⟨k, hk, rfl⟩ ⟨⟨rfl, h0, h1, hf⟩, hB1⟩ hK
        have hfm := fM_stop hzs hk (by rw [hf]; decide)
        rw [hf] at hfm
        have hcc := H_hcC.out
        rw [hfm] at hcc
        have hvv : v = zMv := by
          rw [H_hvC.out]
          rcases foldM_R acc.reverse oneM oneM_R (fun m hm => H_hacR.out m (List.mem_reverse.1 hm)) with h | h
          · exact absurd (hfm.symm.trans h.1) (by decide)
          · exact h.2
        have hk0 := h0.kept (grownBy_putObj' _ D (.deferred none)) (fun r e => by cases e; exact ⟨_, hK, rfl⟩)
        have hk1 := h1.kept (grownBy_putObj' _ D (.deferred none)) (fun r e => by cases e; exact ⟨_, hK, rfl⟩)
        gi_wp2
        refine ⟨by simp, .inl ⟨_, _, rfl, run_takeDeferred hK, ?_⟩⟩
        refine ⟨_, res_readH _ _ (w.heap.size) (w.heap.size + 1) _ _ _ _ _ _ _ _ _ _ _ _ _ ?h2 ?h3 (hk0) (hk1), ?_⟩
        case h2 => simp
        case h3 => simp
        rw [hcc, hvv, evl_n (by decide)]
        exact ⟨rfl, hB1.trans (belowK_b (w := w) (Nat.le_refl _) W D _ _ (by omega) hK rfl rfl)⟩
end Go.Proofs.YtlhadgnpkooiaaaGreatDoor
