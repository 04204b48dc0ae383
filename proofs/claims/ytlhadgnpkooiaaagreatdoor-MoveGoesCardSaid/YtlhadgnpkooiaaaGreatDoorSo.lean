/-
  The walk over the document's answer: SixOf, a move out of a text. (Written by wip/mkso.py.)
-/
import Derived.Test.YtlhadgnpkooiaaaGreatDoorSop
import Derived.Test.YtlhadgnpkooiaaaGreatDoorTo
import Derived.Test.YtlhadgnpkooiaaaGreatDoorDec6
namespace Go.Proofs.YtlhadgnpkooiaaaGreatDoor
open Go.RowKit Lead
theorem infoX : (Tryz.prog.info? 25).map (fun i => (i.zero, i.size, i.bytes)) = some (some (.agg #[.int .i64 0, .int .i64 0, .int .i64 0, .int .i64 0, .int .i64 0, .int .i64 0, .int .i64 0, .int .i64 0, .int .i64 0, .int .i64 0, .int .i64 0, .int .i64 0]), 12, 96) := by kernel_rfl
theorem rcut_32 (s : ByteArray) (w : World) (hs : s.size ≤ 100000) (ss : List (List UInt8)) (hss : cutL 32 s.data.toList = ss) :
    Calls Tryz.prog 33 #[.string s, .int .u8 32] w (RetSs 9 ss w) := by
  rw [← hss]; exact rcut_any s 32 w hs
theorem rfr_ok (l : List UInt8) (q r : Int) (w : World) (h : rdC l = 0) (hq : rdN l = q) (hr : rdD l = r) (hs : l.length ≤ 100000) :
    Calls Tryz.prog 35 #[.string ⟨l.toArray⟩] w fun e w' => e = .returned (.tuple #[.agg #[.int .i64 q, .int .i64 r], .int .i64 0]) ∧ Below w.heap.size w w' := by
  have k := rfracof_any ⟨l.toArray⟩ w hs
  have e : frN (rdC (⟨l.toArray⟩ : ByteArray).data.toList) (rdN (⟨l.toArray⟩ : ByteArray).data.toList) (rdD (⟨l.toArray⟩ : ByteArray).data.toList) = .tuple #[.agg #[.int .i64 q, .int .i64 r], .int .i64 0] := by
    show frN (rdC l) (rdN l) (rdD l) = _
    rw [frN_0 h, hq, hr]
  rw [e] at k
  exact k
theorem rfr_no (l : List UInt8) (c : Int) (w : World) (h : rdC l ≠ 0) (hc : (rdC l : Int) = c) (hs : l.length ≤ 100000) :
    Calls Tryz.prog 35 #[.string ⟨l.toArray⟩] w fun e w' => e = .returned (.tuple #[.agg #[.int .i64 0, .int .i64 0], .int .i64 c]) ∧ Below w.heap.size w w' := by
  have k := rfracof_any ⟨l.toArray⟩ w hs
  have e : frN (rdC (⟨l.toArray⟩ : ByteArray).data.toList) (rdN (⟨l.toArray⟩ : ByteArray).data.toList) (rdD (⟨l.toArray⟩ : ByteArray).data.toList) = .tuple #[.agg #[.int .i64 0, .int .i64 0], .int .i64 c] := by
    show frN (rdC l) (rdN l) (rdD l) = _
    rw [frN_n h, hc]
  rw [e] at k
  exact k
theorem rturn_l (l : List UInt8) (q : Mv) (b : Bool) (w : World) (hq : (qtr l).getD zMv = q) (hb : (qtr l).isSome = b) :
    Calls Tryz.prog 34 #[.string ⟨l.toArray⟩] w fun e w' => e = .returned (.tuple #[.agg #[.int .i64 q.A.n, .int .i64 q.A.d, .int .i64 q.B.n, .int .i64 q.B.d, .int .i64 q.C.n, .int .i64 q.C.d, .int .i64 q.D.n, .int .i64 q.D.d, .int .i64 q.E.n, .int .i64 q.E.d, .int .i64 q.F.n, .int .i64 q.F.d], .bool b]) ∧ Below w.heap.size w w' := rturn_any ⟨l.toArray⟩ q b w hq hb
theorem res_six (tmps : Array Value) (w0 : World) (g : Nat) (v0 v1 v2 v3 v4 v5 v6 v7 v8 v9 v10 v11 : Value) (h2 : tmps[2]?.getD undef = .pointer (some ⟨g, 0, none⟩)) (hc : ∀ j, w0.cell? ⟨g, j, none⟩ = (#[v0, v1, v2, v3, v4, v5, v6, v7, v8, v9, v10, v11] : Array Value)[j]?) :
    (results Tryz.f16 tmps).run Tryz.prog w0 = .ok (.tuple #[.agg #[v0, v1, v2, v3, v4, v5, v6, v7, v8, v9, v10, v11], tmps[3]?.getD undef]) w0 := by
  simp [results, Tryz.results16, go_sem, h2, hc]
set_option maxHeartbeats 1000000 in
set_option maxRecDepth 100000 in
theorem rsixof_nil (s : ByteArray) (w : World) (h1 : (s.toList == []) = true) :
    Calls Tryz.prog 16 #[.string s] w fun e w' => e = .returned (.tuple #[.agg #[.int .i64 1, .int .i64 1, .int .i64 0, .int .i64 1, .int .i64 0, .int .i64 1, .int .i64 1, .int .i64 1, .int .i64 0, .int .i64 1, .int .i64 0, .int .i64 1], .int .i64 0]) ∧ Below w.heap.size w w' := by
  go_enter Tryz.func16, Tryz.ntmps16
  ((try go_simp); (repeat go_step))
  refine call_bel (w := w) (by repeat' (first | (with_reducible first | exact bwR _ _ | assumption | refine bdn ?_ | refine bwA ?_ ?_ _ | refine bwD ?_ | refine bwS ?_ ?_ _) | omega | (simp <;> omega))) (fun HB => rstay_any _) ?_
  intro w1 hb1 hz1 c1 d1 hW1
  have t1 := hb1.size
  try simp only [szA] at hz1 c1 d1
  try simp only [szD] at hz1 c1 d1
  try simp only [szS] at hz1 c1 d1
  try simp only [World.heap_drewN] at hz1 c1 d1
  try simp only [szA] at hz1 c1 d1
  try simp only [szD] at hz1 c1 d1
  try simp only [szS] at hz1 c1 d1
  have s1_0 : w.heap.size < w1.heap.size := by omega
  have o1_0 := fun j => c1 (w.heap.size) j (by omega)
  have f1_0 := fun j => d1 (w.heap.size) j (by omega)
  clear c1 d1 hz1 hW1
  ((try go_simp); (repeat go_step))
  first
    | (with_reducible refine bodyPost_ret (res_six _ _ (w.heap.size) _ _ _ _ _ _ _ _ _ _ _ _ ?hp (set12 ?hz _ _ _ _ _ _ _ _ _ _ _ _)) rfl ?_)
    | (with_reducible refine bodyPost_ret (res_six _ _ (w.heap.size) _ _ _ _ _ _ _ _ _ _ _ _ ?hp (set12d ?hz _ _ _ _ _ _ _ _ _ _ _ _)) rfl ?_)
    | (with_reducible refine bodyPost_ret (res_six _ _ (w.heap.size) _ _ _ _ _ _ _ _ _ _ _ _ ?hp (set12a ?hg ?hz _ _ _ _ _ _ _ _ _ _ _ _)) rfl ?_)
    | (with_reducible refine bodyPost_ret (res_six _ _ (w.heap.size) _ _ _ _ _ _ _ _ _ _ _ _ ?hp (set12ad ?hg ?hz _ _ _ _ _ _ _ _ _ _ _ _)) rfl ?_)
  case hp => simp
  case hz => (intro j; rw [o1_0, World.cell?_alloc_new])
  try (case hg => (exact s1_0))
  show _ ∧ _
  exact ⟨rfl, by repeat' (first | (with_reducible first | exact bwR _ _ | assumption | refine bdn ?_ | refine bwA ?_ ?_ _ | refine bwD ?_ | refine bwS ?_ ?_ _) | omega | (simp <;> omega))⟩
set_option maxHeartbeats 40000000 in
set_option maxRecDepth 100000 in
theorem rsixof_some (s : ByteArray) (ws : List (List UInt8)) (w : World) (h1 : (s.toList == []) = false) (hs : s.size ≤ 100000) (hws : cutL 32 s.data.toList = ws) (hsz : ∀ l ∈ ws, l.length ≤ 100000) (hlen : ws.length ≤ 100000) (c : Nat) (v : Mv) (hc : moveC s.data.toList = c) (hv : moveV s.data.toList = v) :
    Calls Tryz.prog 16 #[.string s] w fun e w' => e = .returned (.tuple #[.agg #[.int .i64 v.A.n, .int .i64 v.A.d, .int .i64 v.B.n, .int .i64 v.B.d, .int .i64 v.C.n, .int .i64 v.C.d, .int .i64 v.D.n, .int .i64 v.D.d, .int .i64 v.E.n, .int .i64 v.E.d, .int .i64 v.F.n, .int .i64 v.F.d], .int .i64 c]) ∧ Below w.heap.size w w' := by
  have hne0 : s.data.toList ≠ [] := by
    rcases tst s [] with ⟨k, _⟩ | ⟨_, k⟩
    · rw [h1] at k; exact absurd k (by decide)
    · exact k
  have hwn : ws ≠ [] := by rw [← hws]; exact cutL_ne _ _
  obtain ⟨S0, Si, Sz0, Sz1, Sz2⟩ := info_parts infoX
  obtain ⟨N, hN⟩ : ∃ N, ws.length = N := ⟨_, rfl⟩
  have hN0 : 0 < N := by rw [← hN]; exact List.length_pos_iff.2 hwn
  have H_hws := Lib.hid hws
  clear hws
  have H_hsz := Lib.hid hsz
  clear hsz
  have H_hc := Lib.hid hc
  clear hc
  have H_hv := Lib.hid hv
  clear hv
  have H_Si := Lib.hid Si
  clear Si
  have H_Sz0 := Lib.hid Sz0
  clear Sz0
  have H_Sz1 := Lib.hid Sz1
  clear Sz1
  have H_Sz2 := Lib.hid Sz2
  clear Sz2
  have H_hN := Lib.hid hN
  clear hN
  have H_hwn := Lib.hid hwn
  clear hwn
  go_enter Tryz.func16, Tryz.ntmps16
  ((try go_simp); (repeat go_step))
  refine call_bel (w := w) (by repeat' (first | (with_reducible first | exact bwR _ _ | assumption | refine bdn ?_ | refine bwA ?_ ?_ _ | refine bwD ?_ | refine bwS ?_ ?_ _) | omega | (simp <;> omega))) (fun HB => rstay_any _) ?_
  intro w1 hb1 hz1 c1 d1 hW1
  have t1 := hb1.size
  try simp only [szA] at hz1 c1 d1
  try simp only [szD] at hz1 c1 d1
  try simp only [szS] at hz1 c1 d1
  try simp only [World.heap_drewN] at hz1 c1 d1
  try simp only [szA] at hz1 c1 d1
  try simp only [szD] at hz1 c1 d1
  try simp only [szS] at hz1 c1 d1
  have s1_0 : w.heap.size < w1.heap.size := by omega
  have o1_0 := fun j => c1 (w.heap.size) j (by omega)
  have f1_0 := fun j => d1 (w.heap.size) j (by omega)
  clear c1 d1 hz1 hW1
  ((try go_simp); (repeat go_step))
  refine call_ss (w := w) (by repeat' (first | (with_reducible first | exact bwR _ _ | assumption | refine bdn ?_ | refine bwA ?_ ?_ _ | refine bwD ?_ | refine bwS ?_ ?_ _) | omega | (simp <;> omega))) (fun HB => rcut_32 s _ hs ws H_hws.out) H_hwn.out H_hN.out ?_
  intro gg2 cap2 w2 hg2 hgl2 hcl2 hb2 hz2 c2 d2 hW2
  have t2 := hb2.size
  try simp only [szA] at hz2 c2 d2
  try simp only [szD] at hz2 c2 d2
  try simp only [szS] at hz2 c2 d2
  try simp only [World.heap_drewN] at hz2 c2 d2
  try simp only [szA] at hz2 c2 d2
  try simp only [szD] at hz2 c2 d2
  try simp only [szS] at hz2 c2 d2
  have s2_0 : w.heap.size < w2.heap.size := by omega
  have o2_0 := fun j => c2 (w.heap.size) j (by omega)
  have f2_0 := fun j => d2 (w.heap.size) j (by omega)
  have s2_1 : w1.heap.size < w2.heap.size := by omega
  have o2_1 := fun j => c2 (w1.heap.size) j (by omega)
  have f2_1 := fun j => d2 (w1.heap.size) j (by omega)
  clear c2 d2 hz2 hW2
  have p0 : ∀ j, w2.cell? ⟨w.heap.size, j, none⟩ = (#[.int .i64 0, .int .i64 0, .int .i64 0, .int .i64 0, .int .i64 0, .int .i64 0, .int .i64 0, .int .i64 0, .int .i64 0, .int .i64 0, .int .i64 0, .int .i64 0] : Array Value)[j]? := fun j => by rw [o2_0, World.cell?_alloc_past _ _ _ s1_0, o1_0, World.cell?_alloc_at _ _ _ _ rfl]
  have k0 : ∀ j, w2.frozen? ⟨w.heap.size, j, none⟩ = false := fun j => by rw [f2_0, World.frozen?_alloc_past _ _ _ s1_0, f1_0, World.frozen?_alloc_at _ _ _ _ rfl]
  obtain ⟨B4, hB4⟩ : ∃ u, w1.heap.size = u := ⟨_, rfl⟩
  have p4 : ∀ j, w2.cell? ⟨B4, j, none⟩ = (#[.int .i64 1, .int .i64 1, .int .i64 0, .int .i64 1, .int .i64 0, .int .i64 1, .int .i64 1, .int .i64 1, .int .i64 0, .int .i64 1, .int .i64 0, .int .i64 1] : Array Value)[j]? := fun j => by rw [← hB4, o2_1, World.cell?_alloc_at _ _ _ _ rfl]
  have k4 : ∀ j, w2.frozen? ⟨B4, j, none⟩ = false := fun j => by rw [← hB4, f2_1, World.frozen?_alloc_at _ _ _ _ rfl]
  rw [hB4] at s2_1
  have lB4 : w.heap.size < B4 := by rw [← hB4]; exact s1_0
  have hgB : B4 < gg2 := by simp at hg2; omega
  rw [hB4]
  clear o1_0 f1_0 s1_0 o2_0 f2_0 o2_1 f2_1 hb1 t1 hg2 hB4
  clear w1
  have H_hcl2 := Lib.hid hcl2
  clear hcl2
  ((try go_simp); (repeat go_step))
  go_loopw [6, 7] (fun t6 t7 wr => ∃ (k : Nat) (acc : List Mv), k ≤ N ∧ t7 = .int .i64 k ∧ OwnR EM wr w2.heap.size 25 t6 acc ∧ RdAt ws k acc ∧ (k = 0 ∨ acc ≠ []) ∧ acc.length ≤ k ∧ Below w2.heap.size w2 wr) (fun _ t7 _ => N - (intOf t7).toNat)
  case atStart => exact ⟨0, [], Nat.zero_le _, rfl, OwnR.nil _ _ _ _, RdAt.start ws, .inl rfl, Nat.le_refl _, Below.refl _ _⟩
  case round =>
    obtain ⟨k, acc, hkN, rfl, hown, hat, hne00, hacc, hB⟩ := hrel
    have hzr := hB.size
    have hBr : Below w.heap.size w wr := below_via hb2 hB
    have r0 := fun j => (hB.cell (p := ⟨w.heap.size, j, none⟩) s2_0).trans (p0 j)
    have x0 := fun j => (hB.frozen (p := ⟨w.heap.size, j, none⟩) s2_0).trans (k0 j)
    have r4 := fun j => (hB.cell (p := ⟨B4, j, none⟩) s2_1).trans (p4 j)
    have x4 := fun j => (hB.frozen (p := ⟨B4, j, none⟩) s2_1).trans (k4 j)
    have z0 : w.heap.size < wr.heap.size := by omega
    have z4 : B4 < wr.heap.size := by omega
    have zg : gg2 < wr.heap.size := by omega
    have l0 : w.heap.size < gg2 := by omega
    by_cases hk : k < N
    · clear hne00
      have hk' : k < ws.length := by rw [H_hN.out]; exact hk
      have hq : ∀ i, i < N → wr.cell? ⟨gg2, i, none⟩ = some (.string ⟨(ws.getD i []).toArray⟩) := fun i hi => by
        have hi' : i < ws.length := by rw [H_hN.out]; exact hi
        rw [hB.cell (p := ⟨gg2, i, none⟩) hgl2, H_hcl2.out i hi', List.getD_eq_getElem?_getD, List.getElem?_eq_getElem hi']; rfl
      have hsz' : ∀ i, (ws.getD i []).length ≤ 100000 := fun i => by
        rw [List.getD_eq_getElem?_getD]
        cases h : ws[i]? with
        | none => exact Nat.zero_le _
        | some l => exact H_hsz.out l (List.mem_of_getElem? h)
      have q0 := hq k hk
      have hstop := hat.stop hk'
      have herr := hat.err hk'
      have hnext := hat.next hk'
      obtain ⟨a, ha⟩ : ∃ a, ws.getD k [] = a := ⟨_, rfl⟩
      rw [ha] at q0 hstop herr hnext
      obtain ⟨sa, hsa⟩ : ∃ sa, (⟨a.toArray⟩ : ByteArray) = sa := ⟨_, rfl⟩
      have hsl : sa.data.toList = a := by rw [← hsa]
      rw [hsa] at q0
      have hd0 : decide ((k : Int) < (N : Int)) = true := by simp; omega
      obtain ⟨k1, hk1⟩ : ∃ u, k + 1 = u := ⟨_, rfl⟩
      obtain ⟨k2, hk2⟩ : ∃ u, k + 2 = u := ⟨_, rfl⟩
      obtain ⟨k3, hk3⟩ : ∃ u, k + 3 = u := ⟨_, rfl⟩
      have i1 : IntKind.i64.wrap ((k : Int) + 1) = (k1 : Int) := by rw [IntWalk.i64_in _ (by omega)]; omega
      have i2 : IntKind.i64.wrap ((k : Int) + 2) = (k2 : Int) := by rw [IntWalk.i64_in _ (by omega)]; omega
      have i3 : IntKind.i64.wrap ((k1 : Int) + 1) = (k2 : Int) := by rw [IntWalk.i64_in _ (by omega)]; omega
      have i4 : IntKind.i64.wrap ((k2 : Int) + 1) = (k3 : Int) := by rw [IntWalk.i64_in _ (by omega)]; omega
      rw [hk1] at hstop herr hnext
      have H_hstop := Lib.hid hstop
      clear hstop
      have H_herr := Lib.hid herr
      clear herr
      have H_hnext := Lib.hid hnext
      clear hnext
      have H_hat := Lib.hid hat
      clear hat
      have H_hown := Lib.hid hown
      clear hown
      have H_hq := Lib.hid hq
      clear hq
      have H_hsz' := Lib.hid hsz'
      clear hsz'
      have H_hsa := Lib.hid hsa
      clear hsa
      have H_ha := Lib.hid ha
      clear ha
      have H_hk1 := Lib.hid hk1
      clear hk1
      have H_hk2 := Lib.hid hk2
      clear hk2
      have H_hk3 := Lib.hid hk3
      clear hk3
      rcases kind_cases sa with ⟨t1, t2, t3, t4, ek⟩ | ⟨t1, t2, t3, t4, ek⟩ | ⟨t1, t2, t3, t4, ek⟩ | ⟨t1, t2, t3, t4, ek⟩ | ⟨t1, t2, t3, t4, ek⟩
      · have hn : manyW a = 2 := by rw [← hsl, ek]; rfl
        have hak : a = kMove := hsl.symm.trans ek
        by_cases hsh : N ≤ k2
        · have hst := H_hstop.out (.inr (by rw [hn]; have := H_hk1.out; have := H_hk2.out; have := H_hN.out; omega))
          clear hsl ek hn hak
          obtain ⟨hce, hve⟩ := moveC_err hne0 H_hws.out hst (by decide)
          obtain rfl := H_hc.out.symm.trans hce
          obtain rfl := H_hv.out.symm.trans hve
          clear hce hve
          have H_hst := Lib.hid hst
          clear hst
          have hsi : (N : Int) ≤ (k2 : Int) := by omega
          ((try go_simp); (repeat go_step))
          ((try go_simp); (repeat go_step))
          first
            | (with_reducible refine bodyPost_ret (res_six _ _ (w.heap.size) _ _ _ _ _ _ _ _ _ _ _ _ ?hp (set12 ?hz _ _ _ _ _ _ _ _ _ _ _ _)) rfl ?_)
            | (with_reducible refine bodyPost_ret (res_six _ _ (w.heap.size) _ _ _ _ _ _ _ _ _ _ _ _ ?hp (set12d ?hz _ _ _ _ _ _ _ _ _ _ _ _)) rfl ?_)
            | (with_reducible refine bodyPost_ret (res_six _ _ (w.heap.size) _ _ _ _ _ _ _ _ _ _ _ _ ?hp (set12a ?hg ?hz _ _ _ _ _ _ _ _ _ _ _ _)) rfl ?_)
            | (with_reducible refine bodyPost_ret (res_six _ _ (w.heap.size) _ _ _ _ _ _ _ _ _ _ _ _ ?hp (set12ad ?hg ?hz _ _ _ _ _ _ _ _ _ _ _ _)) rfl ?_)
          case hp => simp
          case hz => (intro j; exact r0 j)
          try (case hg => (exact z0))
          show _ ∧ _
          exact ⟨rfl, by repeat' (first | (with_reducible first | exact bwR _ _ | assumption | refine bdn ?_ | refine bwA ?_ ?_ _ | refine bwD ?_ | refine bwS ?_ ?_ _) | omega | (simp <;> omega))⟩
        · have hns : ¬ ((N : Int) ≤ (k2 : Int)) := by omega
          have hlt1 : k1 < N := by have := H_hk1.out; have := H_hk2.out; omega
          have hlt2 : k2 < N := by omega
          have q1 := H_hq.out k1 hlt1
          have q2 := H_hq.out k2 hlt2
          have hz1 := H_hsz'.out k1
          have hz2 := H_hsz'.out k2
          have hne := H_herr.out (by rw [hn]; have := H_hk1.out; have := H_hk2.out; have := H_hN.out; omega)
          have hnx := H_hnext.out (by rw [hn]; have := H_hk1.out; have := H_hk2.out; have := H_hN.out; omega)
          rw [hn, H_hk2.out, hak] at hne hnx
          obtain ⟨b, hb⟩ : ∃ b, ws.getD k1 [] = b := ⟨_, rfl⟩
          rw [hb] at q1 hz1 hne hnx
          obtain ⟨d, hd⟩ : ∃ b, ws.getD k2 [] = b := ⟨_, rfl⟩
          rw [hd] at q2 hz2 hne hnx
          clear hsl ek hn hak hsh
          obtain ⟨e1, e2⟩ := one_move b d
          rw [e1] at hne hnx
          rw [e2] at hnx
          clear e1 e2
          by_cases hb0 : rdC b = 0
          · rw [if_pos hb0] at hne hnx
            obtain ⟨bn, hbn⟩ : ∃ u, rdN b = u := ⟨_, rfl⟩
            obtain ⟨bd, hbd⟩ : ∃ u, rdD b = u := ⟨_, rfl⟩
            have hbF : rdF b = ⟨bn, bd⟩ := by unfold rdF; rw [hbn, hbd]
            rw [hbF] at hnx
            by_cases hd0 : rdC d = 0
            · have hnx := hnx hd0
              obtain ⟨dn, hdn⟩ : ∃ u, rdN d = u := ⟨_, rfl⟩
              obtain ⟨dd, hdd⟩ : ∃ u, rdD d = u := ⟨_, rfl⟩
              have hdF : rdF d = ⟨dn, dd⟩ := by unfold rdF; rw [hdn, hdd]
              rw [hdF] at hnx
              clear hne hbF hdF
              have H_hnx := Lib.hid hnx
              clear hnx
              have H_hb0 := Lib.hid hb0
              clear hb0
              have H_hbn := Lib.hid hbn
              clear hbn
              have H_hbd := Lib.hid hbd
              clear hbd
              have H_hz1 := Lib.hid hz1
              clear hz1
              have H_hd0 := Lib.hid hd0
              clear hd0
              have H_hdn := Lib.hid hdn
              clear hdn
              have H_hdd := Lib.hid hdd
              clear hdd
              have H_hz2 := Lib.hid hz2
              clear hz2
              have H_hb := Lib.hid hb
              clear hb
              have H_hd := Lib.hid hd
              clear hd
              ((try go_simp); (repeat go_step))
              refine call_bel (w := w) (by repeat' (first | (with_reducible first | exact bwR _ _ | assumption | refine bdn ?_ | refine bwA ?_ ?_ _ | refine bwD ?_ | refine bwS ?_ ?_ _) | omega | (simp <;> omega))) (fun HB => rstay_any _) ?_
              intro w3 hb3 hz3 c3 d3 hW3
              have t3 := hb3.size
              have e3_r : Below wr.heap.size wr w3 := below_via (by repeat' (first | (with_reducible first | exact bwR _ _ | assumption | refine bdn ?_ | refine bwA ?_ ?_ _ | refine bwD ?_ | refine bwS ?_ ?_ _) | omega | (simp <;> omega))) hW3
              have te3_r := e3_r.size
              try simp only [szA] at hz3 c3 d3
              try simp only [szD] at hz3 c3 d3
              try simp only [szS] at hz3 c3 d3
              try simp only [World.heap_drewN] at hz3 c3 d3
              try simp only [szA] at hz3 c3 d3
              try simp only [szD] at hz3 c3 d3
              try simp only [szS] at hz3 c3 d3
              have s3_0 : w.heap.size < w3.heap.size := by omega
              have o3_0 := fun j => c3 (w.heap.size) j (by omega)
              have f3_0 := fun j => d3 (w.heap.size) j (by omega)
              have s3_1 : B4 < w3.heap.size := by omega
              have o3_1 := fun j => c3 (B4) j (by omega)
              have f3_1 := fun j => d3 (B4) j (by omega)
              have s3_2 : gg2 < w3.heap.size := by omega
              have o3_2 := fun j => c3 (gg2) j (by omega)
              have f3_2 := fun j => d3 (gg2) j (by omega)
              clear c3 d3 hz3 hW3
              go_upto_if 51 with fail
              obtain ⟨wz, hwz⟩ : ∃ u, w3.alloc (.cells #[.int .i64 1, .int .i64 1, .int .i64 0, .int .i64 1, .int .i64 0, .int .i64 1, .int .i64 1, .int .i64 1, .int .i64 0, .int .i64 1, .int .i64 0, .int .i64 1] 25) = u := ⟨_, rfl⟩
              rw [hwz]
              obtain ⟨g9, hg9⟩ : ∃ u, w3.heap.size = u := ⟨_, rfl⟩
              have hBz : Below wr.heap.size wr wz := by rw [← hwz]; exact e3_r.alloc te3_r _
              have hBwz : Below w.heap.size w wz := below_via hBr hBz
              have zz : wz.heap.size = g9 + 1 := by rw [← hwz, ← hg9]; simp
              have z9 : g9 < wz.heap.size := by omega
              have ky : ∀ j, wz.cell? ⟨g9, j, none⟩ = (#[.int .i64 1, .int .i64 1, .int .i64 0, .int .i64 1, .int .i64 0, .int .i64 1, .int .i64 1, .int .i64 1, .int .i64 0, .int .i64 1, .int .i64 0, .int .i64 1] : Array Value)[j]? := fun j => by rw [← hwz, ← hg9]; exact World.cell?_alloc_new _ _ _ _
              have kf : ∀ j, wz.frozen? ⟨g9, j, none⟩ = false := fun j => by rw [← hwz, ← hg9]; exact World.frozen?_alloc_at _ _ _ _ rfl
              have g9r : wr.heap.size ≤ g9 := by omega
              have y1 := (hBz.cell (p := ⟨gg2, k1, none⟩) zg).trans q1
              have y0 := (hBz.cell (p := ⟨gg2, k, none⟩) zg).trans q0
              have yg : gg2 < wz.heap.size := by omega
              have y2 := (hBz.cell (p := ⟨gg2, k2, none⟩) zg).trans q2
              rw [hg9]
              clear o3_0 f3_0 o3_1 f3_1 o3_2 f3_2 s3_0 s3_1 s3_2 hwz hg9 hb3 e3_r t3 te3_r
              clear w3
              go_cut [10, 11, 12, 13, 14] (fun s10 s11 s12 s13 s14 wx => Below wr.heap.size wr wx ∧ g9 < wx.heap.size ∧ ∀ j, wx.cell? ⟨g9, j, none⟩ = (#[.int .i64 1, .int .i64 1, .int .i64 0, .int .i64 1, .int .i64 0, .int .i64 1, .int .i64 1, .int .i64 1, .int .i64 bn, .int .i64 bd, .int .i64 dn, .int .i64 dd] : Array Value)[j]?)
              case first =>
                clear r0 x0 r4 x4 q0 q1 q2 hB hb2 s2_0 s2_1 p0 k0 p4 k4 z0 z4
                ((try go_simp); (repeat go_step))
                refine call_bel (w := w) (by repeat' (first | (with_reducible first | exact bwR _ _ | assumption | refine bdn ?_ | refine bwA ?_ ?_ _ | refine bwD ?_ | refine bwS ?_ ?_ _) | omega | (simp <;> omega))) (fun HB => rfr_ok b bn bd _ H_hb0.out H_hbn.out H_hbd.out H_hz1.out) ?_
                intro w4 hb4 hz4 c4 d4 hW4
                have t4 := hb4.size
                have e4_z : Below wz.heap.size wz w4 := below_via (by repeat' (first | (with_reducible first | exact bwR _ _ | assumption | refine bdn ?_ | refine bwA ?_ ?_ _ | refine bwD ?_ | refine bwS ?_ ?_ _) | omega | (simp <;> omega))) hW4
                have te4_z := e4_z.size
                try simp only [szA] at hz4 c4 d4
                try simp only [szD] at hz4 c4 d4
                try simp only [szS] at hz4 c4 d4
                try simp only [World.heap_drewN] at hz4 c4 d4
                try simp only [szA] at hz4 c4 d4
                try simp only [szD] at hz4 c4 d4
                try simp only [szS] at hz4 c4 d4
                have s4_0 : g9 < w4.heap.size := by omega
                have o4_0 := fun j => c4 (g9) j (by omega)
                have f4_0 := fun j => d4 (g9) j (by omega)
                have s4_1 : gg2 < w4.heap.size := by omega
                have o4_1 := fun j => c4 (gg2) j (by omega)
                have f4_1 := fun j => d4 (gg2) j (by omega)
                clear c4 d4 hz4 hW4
                ((try go_simp); (repeat go_step))
                refine call_bel (w := w) (by repeat' (first | (with_reducible first | exact bwR _ _ | assumption | refine bdn ?_ | refine bwA ?_ ?_ _ | refine bwD ?_ | refine bwS ?_ ?_ _) | omega | (simp <;> omega))) (fun HB => rfr_ok d dn dd _ H_hd0.out H_hdn.out H_hdd.out H_hz2.out) ?_
                intro w5 hb5 hz5 c5 d5 hW5
                have t5 := hb5.size
                have e5_z : Below wz.heap.size wz w5 := below_via (by repeat' (first | (with_reducible first | exact bwR _ _ | assumption | refine bdn ?_ | refine bwA ?_ ?_ _ | refine bwD ?_ | refine bwS ?_ ?_ _) | omega | (simp <;> omega))) hW5
                have te5_z := e5_z.size
                try simp only [szA] at hz5 c5 d5
                try simp only [szD] at hz5 c5 d5
                try simp only [szS] at hz5 c5 d5
                try simp only [World.heap_drewN] at hz5 c5 d5
                try simp only [szA] at hz5 c5 d5
                try simp only [szD] at hz5 c5 d5
                try simp only [szS] at hz5 c5 d5
                have s5_0 : g9 < w5.heap.size := by omega
                have o5_0 := fun j => c5 (g9) j (by omega)
                have f5_0 := fun j => d5 (g9) j (by omega)
                have s5_1 : gg2 < w5.heap.size := by omega
                have o5_1 := fun j => c5 (gg2) j (by omega)
                have f5_1 := fun j => d5 (gg2) j (by omega)
                have s5_2 : w4.heap.size < w5.heap.size := by omega
                have o5_2 := fun j => c5 (w4.heap.size) j (by omega)
                have f5_2 := fun j => d5 (w4.heap.size) j (by omega)
                clear c5 d5 hz5 hW5
                have c5 : ∀ j, w5.cell? ⟨g9, j, none⟩ = (#[.int .i64 1, .int .i64 1, .int .i64 0, .int .i64 1, .int .i64 0, .int .i64 1, .int .i64 1, .int .i64 1, .int .i64 0, .int .i64 1, .int .i64 0, .int .i64 1] : Array Value)[j]? := fun j => by rw [o5_0, World.cell?_alloc_past _ _ _ s4_0, o4_0]; exact ky j
                ((try go_simp); (repeat go_step))
                go_meet
                have hbr := below_via hBz e5_z
                refine ⟨by repeat' (first | (with_reducible first | exact bwR _ _ | assumption | refine bdn ?_ | refine bwA ?_ ?_ _ | refine bwD ?_ | refine bwS ?_ ?_ _) | omega | (simp <;> omega)), by (simp <;> omega), ?_⟩
                first | (intro j; (with_reducible refine (World.cell?_alloc_past _ _ _ ?_).trans (setMove c5 _ _ _ _ j)); (simp <;> omega)) | with_reducible exact setMove c5 _ _ _ _ | trace_state
              case rest =>
                obtain ⟨hBc, hgc, hcc⟩ := hcut
                rename World => wc
                have tc := hBc.size
                have hBwc := below_via hBr hBc
                have hB2c : Below w2.heap.size w2 wc := below_via hB hBc
                have hownc : OwnR EM wc w2.heap.size 25 _ acc := H_hown.out.keep hBc
                clear ky kf hBz hBwz zz z9 yg y0 y1 r0 x0 r4 x4 q1 q0
                have H_hownc := Lib.hid hownc
                clear hownc
                go_upto_region 39 with fail
                go_wp2_with (at_builtin; refine wp_append_row (w0 := w) rfl (.tmp 112) (.tmp 114) 83 rfl EM (w2.heap.size) 25 S0 _ 96 Tryz.underlying83 H_Si.out H_Sz0.out H_Sz1.out H_Sz2.out rfl (by decide) _ _ rfl (H_hownc.out.alloc _) _ _ 1 1 [⟨⟨1, 1⟩, ⟨0, 1⟩, ⟨0, 1⟩, ⟨1, 1⟩, ⟨bn, bd⟩, ⟨dn, dd⟩⟩] rfl (rfl) (row_one (vs := #[.int .i64 1, .int .i64 1, .int .i64 0, .int .i64 1, .int .i64 0, .int .i64 1, .int .i64 1, .int .i64 1, .int .i64 bn, .int .i64 bd, .int .i64 dn, .int .i64 dd]) rfl (fun j => World.cell?_alloc_new _ _ _ _)) ?q1 ?q2 ?q3 ?q4 ?_)
                case q1 => simp only [List.length_cons, List.length_nil]; omega
                case q2 => first | exact Nat.le_refl _ | omega | (simp; omega)
                case q3 => exact (by repeat' (first | (with_reducible first | exact bwR _ _ | assumption | refine bdn ?_ | refine bwA ?_ ?_ _ | refine bwD ?_ | refine bwS ?_ ?_ _) | omega | (simp <;> omega)))
                case q4 => first | exact Nat.le_refl _ | omega | (simp; omega)
                intro v9 w9 hv9 hb9 hz9 c9 d9 hA9
                have t9 := hb9.size
                have e9_2 : Below w2.heap.size w2 w9 := below_via' (by repeat' (first | (with_reducible first | exact bwR _ _ | assumption | refine bdn ?_ | refine bwA ?_ ?_ _ | refine bwD ?_ | refine bwS ?_ ?_ _) | omega | (simp <;> omega))) hA9 (by omega)
                have te9_2 := e9_2.size
                try simp only [szA] at hz9 c9 d9
                try simp only [szD] at hz9 c9 d9
                try simp only [szS] at hz9 c9 d9
                try simp only [World.heap_drewN] at hz9 c9 d9
                try simp only [szA] at hz9 c9 d9
                try simp only [szD] at hz9 c9 d9
                try simp only [szS] at hz9 c9 d9
                clear c9 d9 hA9
                ((try go_simp); (repeat go_step))
                have e1 := H_hk1.out
                have e2 := H_hk2.out
                have e3 := H_hk3.out
                refine ⟨⟨u3, _, .int .i64 ((k3 : Nat) : Int), ⟨_, by have := H_hk1.out; have := H_hk2.out; omega, ?_, _, hv9, H_hnx.out, .inr (by simp), by simp; omega, e9_2⟩, ?_⟩, ?_⟩
                · congr 1; omega
                · repeat apply Exists.intro
                  first | rfl | exact ⟨rfl, rfl⟩ | trace_state
                · simp [intOf] <;> omega
            · have hne' := hne hd0
              obtain ⟨hce, hve⟩ := moveC_err hne0 H_hws.out hne' hd0
              obtain rfl := H_hc.out.symm.trans hce
              obtain rfl := H_hv.out.symm.trans hve
              clear hce hve
              have hpos : 0 < (rdC d : Int) := by omega
              have hpos2 : 0 < rdC d := by omega
              clear hne hnx hne'
              have H_hb0 := Lib.hid hb0
              clear hb0
              have H_hbn := Lib.hid hbn
              clear hbn
              have H_hbd := Lib.hid hbd
              clear hbd
              have H_hz1 := Lib.hid hz1
              clear hz1
              have H_hd0 := Lib.hid hd0
              clear hd0
              have H_hz2 := Lib.hid hz2
              clear hz2
              have H_hb := Lib.hid hb
              clear hb
              have H_hd := Lib.hid hd
              clear hd
              ((try go_simp); (repeat go_step))
              refine call_bel (w := w) (by repeat' (first | (with_reducible first | exact bwR _ _ | assumption | refine bdn ?_ | refine bwA ?_ ?_ _ | refine bwD ?_ | refine bwS ?_ ?_ _) | omega | (simp <;> omega))) (fun HB => rstay_any _) ?_
              intro w3 hb3 hz3 c3 d3 hW3
              have t3 := hb3.size
              have e3_r : Below wr.heap.size wr w3 := below_via (by repeat' (first | (with_reducible first | exact bwR _ _ | assumption | refine bdn ?_ | refine bwA ?_ ?_ _ | refine bwD ?_ | refine bwS ?_ ?_ _) | omega | (simp <;> omega))) hW3
              have te3_r := e3_r.size
              try simp only [szA] at hz3 c3 d3
              try simp only [szD] at hz3 c3 d3
              try simp only [szS] at hz3 c3 d3
              try simp only [World.heap_drewN] at hz3 c3 d3
              try simp only [szA] at hz3 c3 d3
              try simp only [szD] at hz3 c3 d3
              try simp only [szS] at hz3 c3 d3
              have s3_0 : w.heap.size < w3.heap.size := by omega
              have o3_0 := fun j => c3 (w.heap.size) j (by omega)
              have f3_0 := fun j => d3 (w.heap.size) j (by omega)
              have s3_1 : B4 < w3.heap.size := by omega
              have o3_1 := fun j => c3 (B4) j (by omega)
              have f3_1 := fun j => d3 (B4) j (by omega)
              have s3_2 : gg2 < w3.heap.size := by omega
              have o3_2 := fun j => c3 (gg2) j (by omega)
              have f3_2 := fun j => d3 (gg2) j (by omega)
              clear c3 d3 hz3 hW3
              ((try go_simp); (repeat go_step))
              refine call_bel (w := w) (by repeat' (first | (with_reducible first | exact bwR _ _ | assumption | refine bdn ?_ | refine bwA ?_ ?_ _ | refine bwD ?_ | refine bwS ?_ ?_ _) | omega | (simp <;> omega))) (fun HB => rfr_ok b bn bd _ H_hb0.out H_hbn.out H_hbd.out H_hz1.out) ?_
              intro w4 hb4 hz4 c4 d4 hW4
              have t4 := hb4.size
              have e4_r : Below wr.heap.size wr w4 := below_via (by repeat' (first | (with_reducible first | exact bwR _ _ | assumption | refine bdn ?_ | refine bwA ?_ ?_ _ | refine bwD ?_ | refine bwS ?_ ?_ _) | omega | (simp <;> omega))) hW4
              have te4_r := e4_r.size
              try simp only [szA] at hz4 c4 d4
              try simp only [szD] at hz4 c4 d4
              try simp only [szS] at hz4 c4 d4
              try simp only [World.heap_drewN] at hz4 c4 d4
              try simp only [szA] at hz4 c4 d4
              try simp only [szD] at hz4 c4 d4
              try simp only [szS] at hz4 c4 d4
              have s4_0 : w.heap.size < w4.heap.size := by omega
              have o4_0 := fun j => c4 (w.heap.size) j (by omega)
              have f4_0 := fun j => d4 (w.heap.size) j (by omega)
              have s4_1 : B4 < w4.heap.size := by omega
              have o4_1 := fun j => c4 (B4) j (by omega)
              have f4_1 := fun j => d4 (B4) j (by omega)
              have s4_2 : gg2 < w4.heap.size := by omega
              have o4_2 := fun j => c4 (gg2) j (by omega)
              have f4_2 := fun j => d4 (gg2) j (by omega)
              have s4_3 : w3.heap.size < w4.heap.size := by omega
              have o4_3 := fun j => c4 (w3.heap.size) j (by omega)
              have f4_3 := fun j => d4 (w3.heap.size) j (by omega)
              clear c4 d4 hz4 hW4
              ((try go_simp); (repeat go_step))
              refine call_bel (w := w) (by repeat' (first | (with_reducible first | exact bwR _ _ | assumption | refine bdn ?_ | refine bwA ?_ ?_ _ | refine bwD ?_ | refine bwS ?_ ?_ _) | omega | (simp <;> omega))) (fun HB => rfr_no d (rdC d) _ H_hd0.out rfl H_hz2.out) ?_
              intro w5 hb5 hz5 c5 d5 hW5
              have t5 := hb5.size
              have e5_r : Below wr.heap.size wr w5 := below_via (by repeat' (first | (with_reducible first | exact bwR _ _ | assumption | refine bdn ?_ | refine bwA ?_ ?_ _ | refine bwD ?_ | refine bwS ?_ ?_ _) | omega | (simp <;> omega))) hW5
              have te5_r := e5_r.size
              try simp only [szA] at hz5 c5 d5
              try simp only [szD] at hz5 c5 d5
              try simp only [szS] at hz5 c5 d5
              try simp only [World.heap_drewN] at hz5 c5 d5
              try simp only [szA] at hz5 c5 d5
              try simp only [szD] at hz5 c5 d5
              try simp only [szS] at hz5 c5 d5
              have s5_0 : w.heap.size < w5.heap.size := by omega
              have o5_0 := fun j => c5 (w.heap.size) j (by omega)
              have f5_0 := fun j => d5 (w.heap.size) j (by omega)
              have s5_1 : B4 < w5.heap.size := by omega
              have o5_1 := fun j => c5 (B4) j (by omega)
              have f5_1 := fun j => d5 (B4) j (by omega)
              have s5_2 : gg2 < w5.heap.size := by omega
              have o5_2 := fun j => c5 (gg2) j (by omega)
              have f5_2 := fun j => d5 (gg2) j (by omega)
              have s5_3 : w3.heap.size < w5.heap.size := by omega
              have o5_3 := fun j => c5 (w3.heap.size) j (by omega)
              have f5_3 := fun j => d5 (w3.heap.size) j (by omega)
              have s5_4 : w4.heap.size < w5.heap.size := by omega
              have o5_4 := fun j => c5 (w4.heap.size) j (by omega)
              have f5_4 := fun j => d5 (w4.heap.size) j (by omega)
              clear c5 d5 hz5 hW5
              ((try go_simp); (repeat go_step))
              ((try go_simp); (repeat go_step))
              first
                | (with_reducible refine bodyPost_ret (res_six _ _ (w.heap.size) _ _ _ _ _ _ _ _ _ _ _ _ ?hp (set12 ?hz _ _ _ _ _ _ _ _ _ _ _ _)) rfl ?_)
                | (with_reducible refine bodyPost_ret (res_six _ _ (w.heap.size) _ _ _ _ _ _ _ _ _ _ _ _ ?hp (set12d ?hz _ _ _ _ _ _ _ _ _ _ _ _)) rfl ?_)
                | (with_reducible refine bodyPost_ret (res_six _ _ (w.heap.size) _ _ _ _ _ _ _ _ _ _ _ _ ?hp (set12a ?hg ?hz _ _ _ _ _ _ _ _ _ _ _ _)) rfl ?_)
                | (with_reducible refine bodyPost_ret (res_six _ _ (w.heap.size) _ _ _ _ _ _ _ _ _ _ _ _ ?hp (set12ad ?hg ?hz _ _ _ _ _ _ _ _ _ _ _ _)) rfl ?_)
              case hp => simp
              case hz => (intro j; rw [o5_0, World.cell?_alloc_past _ _ _ s4_0, o4_0, World.cell?_alloc_past _ _ _ s3_0, o3_0]; exact r0 j)
              try (case hg => (exact s5_0))
              show _ ∧ _
              exact ⟨rfl, by repeat' (first | (with_reducible first | exact bwR _ _ | assumption | refine bdn ?_ | refine bwA ?_ ?_ _ | refine bwD ?_ | refine bwS ?_ ?_ _) | omega | (simp <;> omega))⟩
          · rw [if_neg hb0] at hne
            have hne' := hne hb0
            obtain ⟨hce, hve⟩ := moveC_err hne0 H_hws.out hne' hb0
            obtain rfl := H_hc.out.symm.trans hce
            obtain rfl := H_hv.out.symm.trans hve
            clear hce hve
            have hpos : 0 < (rdC b : Int) := by omega
            have hpos2 : 0 < rdC b := by omega
            clear hne hnx hne'
            have H_hb0 := Lib.hid hb0
            clear hb0
            have H_hz1 := Lib.hid hz1
            clear hz1
            have H_hb := Lib.hid hb
            clear hb
            have H_hd := Lib.hid hd
            clear hd
            have H_hz2 := Lib.hid hz2
            clear hz2
            ((try go_simp); (repeat go_step))
            refine call_bel (w := w) (by repeat' (first | (with_reducible first | exact bwR _ _ | assumption | refine bdn ?_ | refine bwA ?_ ?_ _ | refine bwD ?_ | refine bwS ?_ ?_ _) | omega | (simp <;> omega))) (fun HB => rstay_any _) ?_
            intro w3 hb3 hz3 c3 d3 hW3
            have t3 := hb3.size
            have e3_r : Below wr.heap.size wr w3 := below_via (by repeat' (first | (with_reducible first | exact bwR _ _ | assumption | refine bdn ?_ | refine bwA ?_ ?_ _ | refine bwD ?_ | refine bwS ?_ ?_ _) | omega | (simp <;> omega))) hW3
            have te3_r := e3_r.size
            try simp only [szA] at hz3 c3 d3
            try simp only [szD] at hz3 c3 d3
            try simp only [szS] at hz3 c3 d3
            try simp only [World.heap_drewN] at hz3 c3 d3
            try simp only [szA] at hz3 c3 d3
            try simp only [szD] at hz3 c3 d3
            try simp only [szS] at hz3 c3 d3
            have s3_0 : w.heap.size < w3.heap.size := by omega
            have o3_0 := fun j => c3 (w.heap.size) j (by omega)
            have f3_0 := fun j => d3 (w.heap.size) j (by omega)
            have s3_1 : B4 < w3.heap.size := by omega
            have o3_1 := fun j => c3 (B4) j (by omega)
            have f3_1 := fun j => d3 (B4) j (by omega)
            have s3_2 : gg2 < w3.heap.size := by omega
            have o3_2 := fun j => c3 (gg2) j (by omega)
            have f3_2 := fun j => d3 (gg2) j (by omega)
            clear c3 d3 hz3 hW3
            ((try go_simp); (repeat go_step))
            refine call_bel (w := w) (by repeat' (first | (with_reducible first | exact bwR _ _ | assumption | refine bdn ?_ | refine bwA ?_ ?_ _ | refine bwD ?_ | refine bwS ?_ ?_ _) | omega | (simp <;> omega))) (fun HB => rfr_no b (rdC b) _ H_hb0.out rfl H_hz1.out) ?_
            intro w4 hb4 hz4 c4 d4 hW4
            have t4 := hb4.size
            have e4_r : Below wr.heap.size wr w4 := below_via (by repeat' (first | (with_reducible first | exact bwR _ _ | assumption | refine bdn ?_ | refine bwA ?_ ?_ _ | refine bwD ?_ | refine bwS ?_ ?_ _) | omega | (simp <;> omega))) hW4
            have te4_r := e4_r.size
            try simp only [szA] at hz4 c4 d4
            try simp only [szD] at hz4 c4 d4
            try simp only [szS] at hz4 c4 d4
            try simp only [World.heap_drewN] at hz4 c4 d4
            try simp only [szA] at hz4 c4 d4
            try simp only [szD] at hz4 c4 d4
            try simp only [szS] at hz4 c4 d4
            have s4_0 : w.heap.size < w4.heap.size := by omega
            have o4_0 := fun j => c4 (w.heap.size) j (by omega)
            have f4_0 := fun j => d4 (w.heap.size) j (by omega)
            have s4_1 : B4 < w4.heap.size := by omega
            have o4_1 := fun j => c4 (B4) j (by omega)
            have f4_1 := fun j => d4 (B4) j (by omega)
            have s4_2 : gg2 < w4.heap.size := by omega
            have o4_2 := fun j => c4 (gg2) j (by omega)
            have f4_2 := fun j => d4 (gg2) j (by omega)
            have s4_3 : w3.heap.size < w4.heap.size := by omega
            have o4_3 := fun j => c4 (w3.heap.size) j (by omega)
            have f4_3 := fun j => d4 (w3.heap.size) j (by omega)
            clear c4 d4 hz4 hW4
            ((try go_simp); (repeat go_step))
            ((try go_simp); (repeat go_step))
            first
              | (with_reducible refine bodyPost_ret (res_six _ _ (w.heap.size) _ _ _ _ _ _ _ _ _ _ _ _ ?hp (set12 ?hz _ _ _ _ _ _ _ _ _ _ _ _)) rfl ?_)
              | (with_reducible refine bodyPost_ret (res_six _ _ (w.heap.size) _ _ _ _ _ _ _ _ _ _ _ _ ?hp (set12d ?hz _ _ _ _ _ _ _ _ _ _ _ _)) rfl ?_)
              | (with_reducible refine bodyPost_ret (res_six _ _ (w.heap.size) _ _ _ _ _ _ _ _ _ _ _ _ ?hp (set12a ?hg ?hz _ _ _ _ _ _ _ _ _ _ _ _)) rfl ?_)
              | (with_reducible refine bodyPost_ret (res_six _ _ (w.heap.size) _ _ _ _ _ _ _ _ _ _ _ _ ?hp (set12ad ?hg ?hz _ _ _ _ _ _ _ _ _ _ _ _)) rfl ?_)
            case hp => simp
            case hz => (intro j; rw [o4_0, World.cell?_alloc_past _ _ _ s3_0, o3_0]; exact r0 j)
            try (case hg => (exact s4_0))
            show _ ∧ _
            exact ⟨rfl, by repeat' (first | (with_reducible first | exact bwR _ _ | assumption | refine bdn ?_ | refine bwA ?_ ?_ _ | refine bwD ?_ | refine bwS ?_ ?_ _) | omega | (simp <;> omega))⟩
      · have hn : manyW a = 2 := by rw [← hsl, ek]; rfl
        have hak : a = kScale := hsl.symm.trans ek
        by_cases hsh : N ≤ k2
        · have hst := H_hstop.out (.inr (by rw [hn]; have := H_hk1.out; have := H_hk2.out; have := H_hN.out; omega))
          clear hsl ek hn hak
          obtain ⟨hce, hve⟩ := moveC_err hne0 H_hws.out hst (by decide)
          obtain rfl := H_hc.out.symm.trans hce
          obtain rfl := H_hv.out.symm.trans hve
          clear hce hve
          have H_hst := Lib.hid hst
          clear hst
          have hsi : (N : Int) ≤ (k2 : Int) := by omega
          ((try go_simp); (repeat go_step))
          ((try go_simp); (repeat go_step))
          first
            | (with_reducible refine bodyPost_ret (res_six _ _ (w.heap.size) _ _ _ _ _ _ _ _ _ _ _ _ ?hp (set12 ?hz _ _ _ _ _ _ _ _ _ _ _ _)) rfl ?_)
            | (with_reducible refine bodyPost_ret (res_six _ _ (w.heap.size) _ _ _ _ _ _ _ _ _ _ _ _ ?hp (set12d ?hz _ _ _ _ _ _ _ _ _ _ _ _)) rfl ?_)
            | (with_reducible refine bodyPost_ret (res_six _ _ (w.heap.size) _ _ _ _ _ _ _ _ _ _ _ _ ?hp (set12a ?hg ?hz _ _ _ _ _ _ _ _ _ _ _ _)) rfl ?_)
            | (with_reducible refine bodyPost_ret (res_six _ _ (w.heap.size) _ _ _ _ _ _ _ _ _ _ _ _ ?hp (set12ad ?hg ?hz _ _ _ _ _ _ _ _ _ _ _ _)) rfl ?_)
          case hp => simp
          case hz => (intro j; exact r0 j)
          try (case hg => (exact z0))
          show _ ∧ _
          exact ⟨rfl, by repeat' (first | (with_reducible first | exact bwR _ _ | assumption | refine bdn ?_ | refine bwA ?_ ?_ _ | refine bwD ?_ | refine bwS ?_ ?_ _) | omega | (simp <;> omega))⟩
        · have hns : ¬ ((N : Int) ≤ (k2 : Int)) := by omega
          have hlt1 : k1 < N := by have := H_hk1.out; have := H_hk2.out; omega
          have hlt2 : k2 < N := by omega
          have q1 := H_hq.out k1 hlt1
          have q2 := H_hq.out k2 hlt2
          have hz1 := H_hsz'.out k1
          have hz2 := H_hsz'.out k2
          have hne := H_herr.out (by rw [hn]; have := H_hk1.out; have := H_hk2.out; have := H_hN.out; omega)
          have hnx := H_hnext.out (by rw [hn]; have := H_hk1.out; have := H_hk2.out; have := H_hN.out; omega)
          rw [hn, H_hk2.out, hak] at hne hnx
          obtain ⟨b, hb⟩ : ∃ b, ws.getD k1 [] = b := ⟨_, rfl⟩
          rw [hb] at q1 hz1 hne hnx
          obtain ⟨d, hd⟩ : ∃ b, ws.getD k2 [] = b := ⟨_, rfl⟩
          rw [hd] at q2 hz2 hne hnx
          clear hsl ek hn hak hsh
          obtain ⟨e1, e2⟩ := one_scale b d
          rw [e1] at hne hnx
          rw [e2] at hnx
          clear e1 e2
          by_cases hb0 : rdC b = 0
          · rw [if_pos hb0] at hne hnx
            obtain ⟨bn, hbn⟩ : ∃ u, rdN b = u := ⟨_, rfl⟩
            obtain ⟨bd, hbd⟩ : ∃ u, rdD b = u := ⟨_, rfl⟩
            have hbF : rdF b = ⟨bn, bd⟩ := by unfold rdF; rw [hbn, hbd]
            rw [hbF] at hnx
            by_cases hd0 : rdC d = 0
            · have hnx := hnx hd0
              obtain ⟨dn, hdn⟩ : ∃ u, rdN d = u := ⟨_, rfl⟩
              obtain ⟨dd, hdd⟩ : ∃ u, rdD d = u := ⟨_, rfl⟩
              have hdF : rdF d = ⟨dn, dd⟩ := by unfold rdF; rw [hdn, hdd]
              rw [hdF] at hnx
              clear hne hbF hdF
              have H_hnx := Lib.hid hnx
              clear hnx
              have H_hb0 := Lib.hid hb0
              clear hb0
              have H_hbn := Lib.hid hbn
              clear hbn
              have H_hbd := Lib.hid hbd
              clear hbd
              have H_hz1 := Lib.hid hz1
              clear hz1
              have H_hd0 := Lib.hid hd0
              clear hd0
              have H_hdn := Lib.hid hdn
              clear hdn
              have H_hdd := Lib.hid hdd
              clear hdd
              have H_hz2 := Lib.hid hz2
              clear hz2
              have H_hb := Lib.hid hb
              clear hb
              have H_hd := Lib.hid hd
              clear hd
              ((try go_simp); (repeat go_step))
              refine call_bel (w := w) (by repeat' (first | (with_reducible first | exact bwR _ _ | assumption | refine bdn ?_ | refine bwA ?_ ?_ _ | refine bwD ?_ | refine bwS ?_ ?_ _) | omega | (simp <;> omega))) (fun HB => rstay_any _) ?_
              intro w3 hb3 hz3 c3 d3 hW3
              have t3 := hb3.size
              have e3_r : Below wr.heap.size wr w3 := below_via (by repeat' (first | (with_reducible first | exact bwR _ _ | assumption | refine bdn ?_ | refine bwA ?_ ?_ _ | refine bwD ?_ | refine bwS ?_ ?_ _) | omega | (simp <;> omega))) hW3
              have te3_r := e3_r.size
              try simp only [szA] at hz3 c3 d3
              try simp only [szD] at hz3 c3 d3
              try simp only [szS] at hz3 c3 d3
              try simp only [World.heap_drewN] at hz3 c3 d3
              try simp only [szA] at hz3 c3 d3
              try simp only [szD] at hz3 c3 d3
              try simp only [szS] at hz3 c3 d3
              have s3_0 : w.heap.size < w3.heap.size := by omega
              have o3_0 := fun j => c3 (w.heap.size) j (by omega)
              have f3_0 := fun j => d3 (w.heap.size) j (by omega)
              have s3_1 : B4 < w3.heap.size := by omega
              have o3_1 := fun j => c3 (B4) j (by omega)
              have f3_1 := fun j => d3 (B4) j (by omega)
              have s3_2 : gg2 < w3.heap.size := by omega
              have o3_2 := fun j => c3 (gg2) j (by omega)
              have f3_2 := fun j => d3 (gg2) j (by omega)
              clear c3 d3 hz3 hW3
              go_upto_if 51 with fail
              obtain ⟨wz, hwz⟩ : ∃ u, w3.alloc (.cells #[.int .i64 1, .int .i64 1, .int .i64 0, .int .i64 1, .int .i64 0, .int .i64 1, .int .i64 1, .int .i64 1, .int .i64 0, .int .i64 1, .int .i64 0, .int .i64 1] 25) = u := ⟨_, rfl⟩
              rw [hwz]
              obtain ⟨g9, hg9⟩ : ∃ u, w3.heap.size = u := ⟨_, rfl⟩
              have hBz : Below wr.heap.size wr wz := by rw [← hwz]; exact e3_r.alloc te3_r _
              have hBwz : Below w.heap.size w wz := below_via hBr hBz
              have zz : wz.heap.size = g9 + 1 := by rw [← hwz, ← hg9]; simp
              have z9 : g9 < wz.heap.size := by omega
              have ky : ∀ j, wz.cell? ⟨g9, j, none⟩ = (#[.int .i64 1, .int .i64 1, .int .i64 0, .int .i64 1, .int .i64 0, .int .i64 1, .int .i64 1, .int .i64 1, .int .i64 0, .int .i64 1, .int .i64 0, .int .i64 1] : Array Value)[j]? := fun j => by rw [← hwz, ← hg9]; exact World.cell?_alloc_new _ _ _ _
              have kf : ∀ j, wz.frozen? ⟨g9, j, none⟩ = false := fun j => by rw [← hwz, ← hg9]; exact World.frozen?_alloc_at _ _ _ _ rfl
              have g9r : wr.heap.size ≤ g9 := by omega
              have y1 := (hBz.cell (p := ⟨gg2, k1, none⟩) zg).trans q1
              have y0 := (hBz.cell (p := ⟨gg2, k, none⟩) zg).trans q0
              have yg : gg2 < wz.heap.size := by omega
              have y2 := (hBz.cell (p := ⟨gg2, k2, none⟩) zg).trans q2
              rw [hg9]
              clear o3_0 f3_0 o3_1 f3_1 o3_2 f3_2 s3_0 s3_1 s3_2 hwz hg9 hb3 e3_r t3 te3_r
              clear w3
              go_cut [10, 11, 12, 13, 14] (fun s10 s11 s12 s13 s14 wx => Below wr.heap.size wr wx ∧ g9 < wx.heap.size ∧ ∀ j, wx.cell? ⟨g9, j, none⟩ = (#[.int .i64 bn, .int .i64 bd, .int .i64 0, .int .i64 1, .int .i64 0, .int .i64 1, .int .i64 dn, .int .i64 dd, .int .i64 0, .int .i64 1, .int .i64 0, .int .i64 1] : Array Value)[j]?)
              case first =>
                clear r0 x0 r4 x4 q0 q1 q2 hB hb2 s2_0 s2_1 p0 k0 p4 k4 z0 z4
                ((try go_simp); (repeat go_step))
                refine call_bel (w := w) (by repeat' (first | (with_reducible first | exact bwR _ _ | assumption | refine bdn ?_ | refine bwA ?_ ?_ _ | refine bwD ?_ | refine bwS ?_ ?_ _) | omega | (simp <;> omega))) (fun HB => rfr_ok b bn bd _ H_hb0.out H_hbn.out H_hbd.out H_hz1.out) ?_
                intro w4 hb4 hz4 c4 d4 hW4
                have t4 := hb4.size
                have e4_z : Below wz.heap.size wz w4 := below_via (by repeat' (first | (with_reducible first | exact bwR _ _ | assumption | refine bdn ?_ | refine bwA ?_ ?_ _ | refine bwD ?_ | refine bwS ?_ ?_ _) | omega | (simp <;> omega))) hW4
                have te4_z := e4_z.size
                try simp only [szA] at hz4 c4 d4
                try simp only [szD] at hz4 c4 d4
                try simp only [szS] at hz4 c4 d4
                try simp only [World.heap_drewN] at hz4 c4 d4
                try simp only [szA] at hz4 c4 d4
                try simp only [szD] at hz4 c4 d4
                try simp only [szS] at hz4 c4 d4
                have s4_0 : g9 < w4.heap.size := by omega
                have o4_0 := fun j => c4 (g9) j (by omega)
                have f4_0 := fun j => d4 (g9) j (by omega)
                have s4_1 : gg2 < w4.heap.size := by omega
                have o4_1 := fun j => c4 (gg2) j (by omega)
                have f4_1 := fun j => d4 (gg2) j (by omega)
                clear c4 d4 hz4 hW4
                ((try go_simp); (repeat go_step))
                refine call_bel (w := w) (by repeat' (first | (with_reducible first | exact bwR _ _ | assumption | refine bdn ?_ | refine bwA ?_ ?_ _ | refine bwD ?_ | refine bwS ?_ ?_ _) | omega | (simp <;> omega))) (fun HB => rfr_ok d dn dd _ H_hd0.out H_hdn.out H_hdd.out H_hz2.out) ?_
                intro w5 hb5 hz5 c5 d5 hW5
                have t5 := hb5.size
                have e5_z : Below wz.heap.size wz w5 := below_via (by repeat' (first | (with_reducible first | exact bwR _ _ | assumption | refine bdn ?_ | refine bwA ?_ ?_ _ | refine bwD ?_ | refine bwS ?_ ?_ _) | omega | (simp <;> omega))) hW5
                have te5_z := e5_z.size
                try simp only [szA] at hz5 c5 d5
                try simp only [szD] at hz5 c5 d5
                try simp only [szS] at hz5 c5 d5
                try simp only [World.heap_drewN] at hz5 c5 d5
                try simp only [szA] at hz5 c5 d5
                try simp only [szD] at hz5 c5 d5
                try simp only [szS] at hz5 c5 d5
                have s5_0 : g9 < w5.heap.size := by omega
                have o5_0 := fun j => c5 (g9) j (by omega)
                have f5_0 := fun j => d5 (g9) j (by omega)
                have s5_1 : gg2 < w5.heap.size := by omega
                have o5_1 := fun j => c5 (gg2) j (by omega)
                have f5_1 := fun j => d5 (gg2) j (by omega)
                have s5_2 : w4.heap.size < w5.heap.size := by omega
                have o5_2 := fun j => c5 (w4.heap.size) j (by omega)
                have f5_2 := fun j => d5 (w4.heap.size) j (by omega)
                clear c5 d5 hz5 hW5
                have c5 : ∀ j, w5.cell? ⟨g9, j, none⟩ = (#[.int .i64 1, .int .i64 1, .int .i64 0, .int .i64 1, .int .i64 0, .int .i64 1, .int .i64 1, .int .i64 1, .int .i64 0, .int .i64 1, .int .i64 0, .int .i64 1] : Array Value)[j]? := fun j => by rw [o5_0, World.cell?_alloc_past _ _ _ s4_0, o4_0]; exact ky j
                ((try go_simp); (repeat go_step))
                go_meet
                have hbr := below_via hBz e5_z
                refine ⟨by repeat' (first | (with_reducible first | exact bwR _ _ | assumption | refine bdn ?_ | refine bwA ?_ ?_ _ | refine bwD ?_ | refine bwS ?_ ?_ _) | omega | (simp <;> omega)), by (simp <;> omega), ?_⟩
                first | (intro j; (with_reducible refine (World.cell?_alloc_past _ _ _ ?_).trans (setScale c5 _ _ _ _ j)); (simp <;> omega)) | with_reducible exact setScale c5 _ _ _ _ | trace_state
              case rest =>
                obtain ⟨hBc, hgc, hcc⟩ := hcut
                rename World => wc
                have tc := hBc.size
                have hBwc := below_via hBr hBc
                have hB2c : Below w2.heap.size w2 wc := below_via hB hBc
                have hownc : OwnR EM wc w2.heap.size 25 _ acc := H_hown.out.keep hBc
                clear ky kf hBz hBwz zz z9 yg y0 y1 r0 x0 r4 x4 q1 q0
                have H_hownc := Lib.hid hownc
                clear hownc
                go_upto_region 39 with fail
                go_wp2_with (at_builtin; refine wp_append_row (w0 := w) rfl (.tmp 112) (.tmp 114) 83 rfl EM (w2.heap.size) 25 S0 _ 96 Tryz.underlying83 H_Si.out H_Sz0.out H_Sz1.out H_Sz2.out rfl (by decide) _ _ rfl (H_hownc.out.alloc _) _ _ 1 1 [⟨⟨bn, bd⟩, ⟨0, 1⟩, ⟨0, 1⟩, ⟨dn, dd⟩, ⟨0, 1⟩, ⟨0, 1⟩⟩] rfl (rfl) (row_one (vs := #[.int .i64 bn, .int .i64 bd, .int .i64 0, .int .i64 1, .int .i64 0, .int .i64 1, .int .i64 dn, .int .i64 dd, .int .i64 0, .int .i64 1, .int .i64 0, .int .i64 1]) rfl (fun j => World.cell?_alloc_new _ _ _ _)) ?q1 ?q2 ?q3 ?q4 ?_)
                case q1 => simp only [List.length_cons, List.length_nil]; omega
                case q2 => first | exact Nat.le_refl _ | omega | (simp; omega)
                case q3 => exact (by repeat' (first | (with_reducible first | exact bwR _ _ | assumption | refine bdn ?_ | refine bwA ?_ ?_ _ | refine bwD ?_ | refine bwS ?_ ?_ _) | omega | (simp <;> omega)))
                case q4 => first | exact Nat.le_refl _ | omega | (simp; omega)
                intro v9 w9 hv9 hb9 hz9 c9 d9 hA9
                have t9 := hb9.size
                have e9_2 : Below w2.heap.size w2 w9 := below_via' (by repeat' (first | (with_reducible first | exact bwR _ _ | assumption | refine bdn ?_ | refine bwA ?_ ?_ _ | refine bwD ?_ | refine bwS ?_ ?_ _) | omega | (simp <;> omega))) hA9 (by omega)
                have te9_2 := e9_2.size
                try simp only [szA] at hz9 c9 d9
                try simp only [szD] at hz9 c9 d9
                try simp only [szS] at hz9 c9 d9
                try simp only [World.heap_drewN] at hz9 c9 d9
                try simp only [szA] at hz9 c9 d9
                try simp only [szD] at hz9 c9 d9
                try simp only [szS] at hz9 c9 d9
                clear c9 d9 hA9
                ((try go_simp); (repeat go_step))
                have e1 := H_hk1.out
                have e2 := H_hk2.out
                have e3 := H_hk3.out
                refine ⟨⟨u3, _, .int .i64 ((k3 : Nat) : Int), ⟨_, by have := H_hk1.out; have := H_hk2.out; omega, ?_, _, hv9, H_hnx.out, .inr (by simp), by simp; omega, e9_2⟩, ?_⟩, ?_⟩
                · congr 1; omega
                · repeat apply Exists.intro
                  first | rfl | exact ⟨rfl, rfl⟩ | trace_state
                · simp [intOf] <;> omega
            · have hne' := hne hd0
              obtain ⟨hce, hve⟩ := moveC_err hne0 H_hws.out hne' hd0
              obtain rfl := H_hc.out.symm.trans hce
              obtain rfl := H_hv.out.symm.trans hve
              clear hce hve
              have hpos : 0 < (rdC d : Int) := by omega
              have hpos2 : 0 < rdC d := by omega
              clear hne hnx hne'
              have H_hb0 := Lib.hid hb0
              clear hb0
              have H_hbn := Lib.hid hbn
              clear hbn
              have H_hbd := Lib.hid hbd
              clear hbd
              have H_hz1 := Lib.hid hz1
              clear hz1
              have H_hd0 := Lib.hid hd0
              clear hd0
              have H_hz2 := Lib.hid hz2
              clear hz2
              have H_hb := Lib.hid hb
              clear hb
              have H_hd := Lib.hid hd
              clear hd
              ((try go_simp); (repeat go_step))
              refine call_bel (w := w) (by repeat' (first | (with_reducible first | exact bwR _ _ | assumption | refine bdn ?_ | refine bwA ?_ ?_ _ | refine bwD ?_ | refine bwS ?_ ?_ _) | omega | (simp <;> omega))) (fun HB => rstay_any _) ?_
              intro w3 hb3 hz3 c3 d3 hW3
              have t3 := hb3.size
              have e3_r : Below wr.heap.size wr w3 := below_via (by repeat' (first | (with_reducible first | exact bwR _ _ | assumption | refine bdn ?_ | refine bwA ?_ ?_ _ | refine bwD ?_ | refine bwS ?_ ?_ _) | omega | (simp <;> omega))) hW3
              have te3_r := e3_r.size
              try simp only [szA] at hz3 c3 d3
              try simp only [szD] at hz3 c3 d3
              try simp only [szS] at hz3 c3 d3
              try simp only [World.heap_drewN] at hz3 c3 d3
              try simp only [szA] at hz3 c3 d3
              try simp only [szD] at hz3 c3 d3
              try simp only [szS] at hz3 c3 d3
              have s3_0 : w.heap.size < w3.heap.size := by omega
              have o3_0 := fun j => c3 (w.heap.size) j (by omega)
              have f3_0 := fun j => d3 (w.heap.size) j (by omega)
              have s3_1 : B4 < w3.heap.size := by omega
              have o3_1 := fun j => c3 (B4) j (by omega)
              have f3_1 := fun j => d3 (B4) j (by omega)
              have s3_2 : gg2 < w3.heap.size := by omega
              have o3_2 := fun j => c3 (gg2) j (by omega)
              have f3_2 := fun j => d3 (gg2) j (by omega)
              clear c3 d3 hz3 hW3
              ((try go_simp); (repeat go_step))
              refine call_bel (w := w) (by repeat' (first | (with_reducible first | exact bwR _ _ | assumption | refine bdn ?_ | refine bwA ?_ ?_ _ | refine bwD ?_ | refine bwS ?_ ?_ _) | omega | (simp <;> omega))) (fun HB => rfr_ok b bn bd _ H_hb0.out H_hbn.out H_hbd.out H_hz1.out) ?_
              intro w4 hb4 hz4 c4 d4 hW4
              have t4 := hb4.size
              have e4_r : Below wr.heap.size wr w4 := below_via (by repeat' (first | (with_reducible first | exact bwR _ _ | assumption | refine bdn ?_ | refine bwA ?_ ?_ _ | refine bwD ?_ | refine bwS ?_ ?_ _) | omega | (simp <;> omega))) hW4
              have te4_r := e4_r.size
              try simp only [szA] at hz4 c4 d4
              try simp only [szD] at hz4 c4 d4
              try simp only [szS] at hz4 c4 d4
              try simp only [World.heap_drewN] at hz4 c4 d4
              try simp only [szA] at hz4 c4 d4
              try simp only [szD] at hz4 c4 d4
              try simp only [szS] at hz4 c4 d4
              have s4_0 : w.heap.size < w4.heap.size := by omega
              have o4_0 := fun j => c4 (w.heap.size) j (by omega)
              have f4_0 := fun j => d4 (w.heap.size) j (by omega)
              have s4_1 : B4 < w4.heap.size := by omega
              have o4_1 := fun j => c4 (B4) j (by omega)
              have f4_1 := fun j => d4 (B4) j (by omega)
              have s4_2 : gg2 < w4.heap.size := by omega
              have o4_2 := fun j => c4 (gg2) j (by omega)
              have f4_2 := fun j => d4 (gg2) j (by omega)
              have s4_3 : w3.heap.size < w4.heap.size := by omega
              have o4_3 := fun j => c4 (w3.heap.size) j (by omega)
              have f4_3 := fun j => d4 (w3.heap.size) j (by omega)
              clear c4 d4 hz4 hW4
              ((try go_simp); (repeat go_step))
              refine call_bel (w := w) (by repeat' (first | (with_reducible first | exact bwR _ _ | assumption | refine bdn ?_ | refine bwA ?_ ?_ _ | refine bwD ?_ | refine bwS ?_ ?_ _) | omega | (simp <;> omega))) (fun HB => rfr_no d (rdC d) _ H_hd0.out rfl H_hz2.out) ?_
              intro w5 hb5 hz5 c5 d5 hW5
              have t5 := hb5.size
              have e5_r : Below wr.heap.size wr w5 := below_via (by repeat' (first | (with_reducible first | exact bwR _ _ | assumption | refine bdn ?_ | refine bwA ?_ ?_ _ | refine bwD ?_ | refine bwS ?_ ?_ _) | omega | (simp <;> omega))) hW5
              have te5_r := e5_r.size
              try simp only [szA] at hz5 c5 d5
              try simp only [szD] at hz5 c5 d5
              try simp only [szS] at hz5 c5 d5
              try simp only [World.heap_drewN] at hz5 c5 d5
              try simp only [szA] at hz5 c5 d5
              try simp only [szD] at hz5 c5 d5
              try simp only [szS] at hz5 c5 d5
              have s5_0 : w.heap.size < w5.heap.size := by omega
              have o5_0 := fun j => c5 (w.heap.size) j (by omega)
              have f5_0 := fun j => d5 (w.heap.size) j (by omega)
              have s5_1 : B4 < w5.heap.size := by omega
              have o5_1 := fun j => c5 (B4) j (by omega)
              have f5_1 := fun j => d5 (B4) j (by omega)
              have s5_2 : gg2 < w5.heap.size := by omega
              have o5_2 := fun j => c5 (gg2) j (by omega)
              have f5_2 := fun j => d5 (gg2) j (by omega)
              have s5_3 : w3.heap.size < w5.heap.size := by omega
              have o5_3 := fun j => c5 (w3.heap.size) j (by omega)
              have f5_3 := fun j => d5 (w3.heap.size) j (by omega)
              have s5_4 : w4.heap.size < w5.heap.size := by omega
              have o5_4 := fun j => c5 (w4.heap.size) j (by omega)
              have f5_4 := fun j => d5 (w4.heap.size) j (by omega)
              clear c5 d5 hz5 hW5
              ((try go_simp); (repeat go_step))
              ((try go_simp); (repeat go_step))
              first
                | (with_reducible refine bodyPost_ret (res_six _ _ (w.heap.size) _ _ _ _ _ _ _ _ _ _ _ _ ?hp (set12 ?hz _ _ _ _ _ _ _ _ _ _ _ _)) rfl ?_)
                | (with_reducible refine bodyPost_ret (res_six _ _ (w.heap.size) _ _ _ _ _ _ _ _ _ _ _ _ ?hp (set12d ?hz _ _ _ _ _ _ _ _ _ _ _ _)) rfl ?_)
                | (with_reducible refine bodyPost_ret (res_six _ _ (w.heap.size) _ _ _ _ _ _ _ _ _ _ _ _ ?hp (set12a ?hg ?hz _ _ _ _ _ _ _ _ _ _ _ _)) rfl ?_)
                | (with_reducible refine bodyPost_ret (res_six _ _ (w.heap.size) _ _ _ _ _ _ _ _ _ _ _ _ ?hp (set12ad ?hg ?hz _ _ _ _ _ _ _ _ _ _ _ _)) rfl ?_)
              case hp => simp
              case hz => (intro j; rw [o5_0, World.cell?_alloc_past _ _ _ s4_0, o4_0, World.cell?_alloc_past _ _ _ s3_0, o3_0]; exact r0 j)
              try (case hg => (exact s5_0))
              show _ ∧ _
              exact ⟨rfl, by repeat' (first | (with_reducible first | exact bwR _ _ | assumption | refine bdn ?_ | refine bwA ?_ ?_ _ | refine bwD ?_ | refine bwS ?_ ?_ _) | omega | (simp <;> omega))⟩
          · rw [if_neg hb0] at hne
            have hne' := hne hb0
            obtain ⟨hce, hve⟩ := moveC_err hne0 H_hws.out hne' hb0
            obtain rfl := H_hc.out.symm.trans hce
            obtain rfl := H_hv.out.symm.trans hve
            clear hce hve
            have hpos : 0 < (rdC b : Int) := by omega
            have hpos2 : 0 < rdC b := by omega
            clear hne hnx hne'
            have H_hb0 := Lib.hid hb0
            clear hb0
            have H_hz1 := Lib.hid hz1
            clear hz1
            have H_hb := Lib.hid hb
            clear hb
            have H_hd := Lib.hid hd
            clear hd
            have H_hz2 := Lib.hid hz2
            clear hz2
            ((try go_simp); (repeat go_step))
            refine call_bel (w := w) (by repeat' (first | (with_reducible first | exact bwR _ _ | assumption | refine bdn ?_ | refine bwA ?_ ?_ _ | refine bwD ?_ | refine bwS ?_ ?_ _) | omega | (simp <;> omega))) (fun HB => rstay_any _) ?_
            intro w3 hb3 hz3 c3 d3 hW3
            have t3 := hb3.size
            have e3_r : Below wr.heap.size wr w3 := below_via (by repeat' (first | (with_reducible first | exact bwR _ _ | assumption | refine bdn ?_ | refine bwA ?_ ?_ _ | refine bwD ?_ | refine bwS ?_ ?_ _) | omega | (simp <;> omega))) hW3
            have te3_r := e3_r.size
            try simp only [szA] at hz3 c3 d3
            try simp only [szD] at hz3 c3 d3
            try simp only [szS] at hz3 c3 d3
            try simp only [World.heap_drewN] at hz3 c3 d3
            try simp only [szA] at hz3 c3 d3
            try simp only [szD] at hz3 c3 d3
            try simp only [szS] at hz3 c3 d3
            have s3_0 : w.heap.size < w3.heap.size := by omega
            have o3_0 := fun j => c3 (w.heap.size) j (by omega)
            have f3_0 := fun j => d3 (w.heap.size) j (by omega)
            have s3_1 : B4 < w3.heap.size := by omega
            have o3_1 := fun j => c3 (B4) j (by omega)
            have f3_1 := fun j => d3 (B4) j (by omega)
            have s3_2 : gg2 < w3.heap.size := by omega
            have o3_2 := fun j => c3 (gg2) j (by omega)
            have f3_2 := fun j => d3 (gg2) j (by omega)
            clear c3 d3 hz3 hW3
            ((try go_simp); (repeat go_step))
            refine call_bel (w := w) (by repeat' (first | (with_reducible first | exact bwR _ _ | assumption | refine bdn ?_ | refine bwA ?_ ?_ _ | refine bwD ?_ | refine bwS ?_ ?_ _) | omega | (simp <;> omega))) (fun HB => rfr_no b (rdC b) _ H_hb0.out rfl H_hz1.out) ?_
            intro w4 hb4 hz4 c4 d4 hW4
            have t4 := hb4.size
            have e4_r : Below wr.heap.size wr w4 := below_via (by repeat' (first | (with_reducible first | exact bwR _ _ | assumption | refine bdn ?_ | refine bwA ?_ ?_ _ | refine bwD ?_ | refine bwS ?_ ?_ _) | omega | (simp <;> omega))) hW4
            have te4_r := e4_r.size
            try simp only [szA] at hz4 c4 d4
            try simp only [szD] at hz4 c4 d4
            try simp only [szS] at hz4 c4 d4
            try simp only [World.heap_drewN] at hz4 c4 d4
            try simp only [szA] at hz4 c4 d4
            try simp only [szD] at hz4 c4 d4
            try simp only [szS] at hz4 c4 d4
            have s4_0 : w.heap.size < w4.heap.size := by omega
            have o4_0 := fun j => c4 (w.heap.size) j (by omega)
            have f4_0 := fun j => d4 (w.heap.size) j (by omega)
            have s4_1 : B4 < w4.heap.size := by omega
            have o4_1 := fun j => c4 (B4) j (by omega)
            have f4_1 := fun j => d4 (B4) j (by omega)
            have s4_2 : gg2 < w4.heap.size := by omega
            have o4_2 := fun j => c4 (gg2) j (by omega)
            have f4_2 := fun j => d4 (gg2) j (by omega)
            have s4_3 : w3.heap.size < w4.heap.size := by omega
            have o4_3 := fun j => c4 (w3.heap.size) j (by omega)
            have f4_3 := fun j => d4 (w3.heap.size) j (by omega)
            clear c4 d4 hz4 hW4
            ((try go_simp); (repeat go_step))
            ((try go_simp); (repeat go_step))
            first
              | (with_reducible refine bodyPost_ret (res_six _ _ (w.heap.size) _ _ _ _ _ _ _ _ _ _ _ _ ?hp (set12 ?hz _ _ _ _ _ _ _ _ _ _ _ _)) rfl ?_)
              | (with_reducible refine bodyPost_ret (res_six _ _ (w.heap.size) _ _ _ _ _ _ _ _ _ _ _ _ ?hp (set12d ?hz _ _ _ _ _ _ _ _ _ _ _ _)) rfl ?_)
              | (with_reducible refine bodyPost_ret (res_six _ _ (w.heap.size) _ _ _ _ _ _ _ _ _ _ _ _ ?hp (set12a ?hg ?hz _ _ _ _ _ _ _ _ _ _ _ _)) rfl ?_)
              | (with_reducible refine bodyPost_ret (res_six _ _ (w.heap.size) _ _ _ _ _ _ _ _ _ _ _ _ ?hp (set12ad ?hg ?hz _ _ _ _ _ _ _ _ _ _ _ _)) rfl ?_)
            case hp => simp
            case hz => (intro j; rw [o4_0, World.cell?_alloc_past _ _ _ s3_0, o3_0]; exact r0 j)
            try (case hg => (exact s4_0))
            show _ ∧ _
            exact ⟨rfl, by repeat' (first | (with_reducible first | exact bwR _ _ | assumption | refine bdn ?_ | refine bwA ?_ ?_ _ | refine bwD ?_ | refine bwS ?_ ?_ _) | omega | (simp <;> omega))⟩
      · have hn : manyW a = 1 := by rw [← hsl, ek]; rfl
        have hak : a = kTurn := hsl.symm.trans ek
        by_cases hsh : N ≤ k1
        · have hst := H_hstop.out (.inr (by rw [hn]; have := H_hk1.out; have := H_hk2.out; have := H_hN.out; omega))
          clear hsl ek hn hak
          obtain ⟨hce, hve⟩ := moveC_err hne0 H_hws.out hst (by decide)
          obtain rfl := H_hc.out.symm.trans hce
          obtain rfl := H_hv.out.symm.trans hve
          clear hce hve
          have H_hst := Lib.hid hst
          clear hst
          have hsi : (N : Int) ≤ (k1 : Int) := by omega
          ((try go_simp); (repeat go_step))
          ((try go_simp); (repeat go_step))
          first
            | (with_reducible refine bodyPost_ret (res_six _ _ (w.heap.size) _ _ _ _ _ _ _ _ _ _ _ _ ?hp (set12 ?hz _ _ _ _ _ _ _ _ _ _ _ _)) rfl ?_)
            | (with_reducible refine bodyPost_ret (res_six _ _ (w.heap.size) _ _ _ _ _ _ _ _ _ _ _ _ ?hp (set12d ?hz _ _ _ _ _ _ _ _ _ _ _ _)) rfl ?_)
            | (with_reducible refine bodyPost_ret (res_six _ _ (w.heap.size) _ _ _ _ _ _ _ _ _ _ _ _ ?hp (set12a ?hg ?hz _ _ _ _ _ _ _ _ _ _ _ _)) rfl ?_)
            | (with_reducible refine bodyPost_ret (res_six _ _ (w.heap.size) _ _ _ _ _ _ _ _ _ _ _ _ ?hp (set12ad ?hg ?hz _ _ _ _ _ _ _ _ _ _ _ _)) rfl ?_)
          case hp => simp
          case hz => (intro j; exact r0 j)
          try (case hg => (exact z0))
          show _ ∧ _
          exact ⟨rfl, by repeat' (first | (with_reducible first | exact bwR _ _ | assumption | refine bdn ?_ | refine bwA ?_ ?_ _ | refine bwD ?_ | refine bwS ?_ ?_ _) | omega | (simp <;> omega))⟩
        · have hns : ¬ ((N : Int) ≤ (k1 : Int)) := by omega
          have hlt1 : k1 < N := by have := H_hk1.out; have := H_hk2.out; omega
          have q1 := H_hq.out k1 hlt1
          have hz1 := H_hsz'.out k1
          have hne := H_herr.out (by rw [hn]; have := H_hk1.out; have := H_hk2.out; have := H_hN.out; omega)
          have hnx := H_hnext.out (by rw [hn]; have := H_hk1.out; have := H_hk2.out; have := H_hN.out; omega)
          rw [hn, H_hk1.out, hak] at hne hnx
          obtain ⟨b, hb⟩ : ∃ b, ws.getD k1 [] = b := ⟨_, rfl⟩
          rw [hb] at q1 hz1 hne hnx
          clear hsl ek hn hak hsh
          rcases hqt : qtr b with _ | q
          · have e1 := one_turn0 b hqt
            have hne' := hne (by rw [e1]; decide)
            rw [e1] at hne'
            obtain ⟨hce, hve⟩ := moveC_err hne0 H_hws.out hne' (by decide)
            obtain rfl := H_hc.out.symm.trans hce
            obtain rfl := H_hv.out.symm.trans hve
            clear hce hve
            have hqa : (qtr b).getD zMv = zMv := by rw [hqt]; rfl
            have hqb : (qtr b).isSome = false := by rw [hqt]; rfl
            clear hne hnx e1
            have H_hqa := Lib.hid hqa
            clear hqa
            have H_hqb := Lib.hid hqb
            clear hqb
            have H_hqt := Lib.hid hqt
            clear hqt
            have H_hne' := Lib.hid hne'
            clear hne'
            have H_hb := Lib.hid hb
            clear hb
            have H_hz1 := Lib.hid hz1
            clear hz1
            ((try go_simp); (repeat go_step))
            refine call_bel (w := w) (by repeat' (first | (with_reducible first | exact bwR _ _ | assumption | refine bdn ?_ | refine bwA ?_ ?_ _ | refine bwD ?_ | refine bwS ?_ ?_ _) | omega | (simp <;> omega))) (fun HB => rstay_any _) ?_
            intro w3 hb3 hz3 c3 d3 hW3
            have t3 := hb3.size
            have e3_r : Below wr.heap.size wr w3 := below_via (by repeat' (first | (with_reducible first | exact bwR _ _ | assumption | refine bdn ?_ | refine bwA ?_ ?_ _ | refine bwD ?_ | refine bwS ?_ ?_ _) | omega | (simp <;> omega))) hW3
            have te3_r := e3_r.size
            try simp only [szA] at hz3 c3 d3
            try simp only [szD] at hz3 c3 d3
            try simp only [szS] at hz3 c3 d3
            try simp only [World.heap_drewN] at hz3 c3 d3
            try simp only [szA] at hz3 c3 d3
            try simp only [szD] at hz3 c3 d3
            try simp only [szS] at hz3 c3 d3
            have s3_0 : w.heap.size < w3.heap.size := by omega
            have o3_0 := fun j => c3 (w.heap.size) j (by omega)
            have f3_0 := fun j => d3 (w.heap.size) j (by omega)
            have s3_1 : B4 < w3.heap.size := by omega
            have o3_1 := fun j => c3 (B4) j (by omega)
            have f3_1 := fun j => d3 (B4) j (by omega)
            have s3_2 : gg2 < w3.heap.size := by omega
            have o3_2 := fun j => c3 (gg2) j (by omega)
            have f3_2 := fun j => d3 (gg2) j (by omega)
            clear c3 d3 hz3 hW3
            ((try go_simp); (repeat go_step))
            refine call_bel (w := w) (by repeat' (first | (with_reducible first | exact bwR _ _ | assumption | refine bdn ?_ | refine bwA ?_ ?_ _ | refine bwD ?_ | refine bwS ?_ ?_ _) | omega | (simp <;> omega))) (fun HB => rturn_l b zMv false _ H_hqa.out H_hqb.out) ?_
            intro w4 hb4 hz4 c4 d4 hW4
            have t4 := hb4.size
            have e4_r : Below wr.heap.size wr w4 := below_via (by repeat' (first | (with_reducible first | exact bwR _ _ | assumption | refine bdn ?_ | refine bwA ?_ ?_ _ | refine bwD ?_ | refine bwS ?_ ?_ _) | omega | (simp <;> omega))) hW4
            have te4_r := e4_r.size
            try simp only [szA] at hz4 c4 d4
            try simp only [szD] at hz4 c4 d4
            try simp only [szS] at hz4 c4 d4
            try simp only [World.heap_drewN] at hz4 c4 d4
            try simp only [szA] at hz4 c4 d4
            try simp only [szD] at hz4 c4 d4
            try simp only [szS] at hz4 c4 d4
            have s4_0 : w.heap.size < w4.heap.size := by omega
            have o4_0 := fun j => c4 (w.heap.size) j (by omega)
            have f4_0 := fun j => d4 (w.heap.size) j (by omega)
            have s4_1 : B4 < w4.heap.size := by omega
            have o4_1 := fun j => c4 (B4) j (by omega)
            have f4_1 := fun j => d4 (B4) j (by omega)
            have s4_2 : gg2 < w4.heap.size := by omega
            have o4_2 := fun j => c4 (gg2) j (by omega)
            have f4_2 := fun j => d4 (gg2) j (by omega)
            have s4_3 : w3.heap.size < w4.heap.size := by omega
            have o4_3 := fun j => c4 (w3.heap.size) j (by omega)
            have f4_3 := fun j => d4 (w3.heap.size) j (by omega)
            clear c4 d4 hz4 hW4
            ((try go_simp); (repeat go_step))
            ((try go_simp); (repeat go_step))
            first
              | (with_reducible refine bodyPost_ret (res_six _ _ (w.heap.size) _ _ _ _ _ _ _ _ _ _ _ _ ?hp (set12 ?hz _ _ _ _ _ _ _ _ _ _ _ _)) rfl ?_)
              | (with_reducible refine bodyPost_ret (res_six _ _ (w.heap.size) _ _ _ _ _ _ _ _ _ _ _ _ ?hp (set12d ?hz _ _ _ _ _ _ _ _ _ _ _ _)) rfl ?_)
              | (with_reducible refine bodyPost_ret (res_six _ _ (w.heap.size) _ _ _ _ _ _ _ _ _ _ _ _ ?hp (set12a ?hg ?hz _ _ _ _ _ _ _ _ _ _ _ _)) rfl ?_)
              | (with_reducible refine bodyPost_ret (res_six _ _ (w.heap.size) _ _ _ _ _ _ _ _ _ _ _ _ ?hp (set12ad ?hg ?hz _ _ _ _ _ _ _ _ _ _ _ _)) rfl ?_)
            case hp => simp
            case hz => (intro j; rw [o4_0, World.cell?_alloc_past _ _ _ s3_0, o3_0]; exact r0 j)
            try (case hg => (exact s4_0))
            show _ ∧ _
            exact ⟨rfl, by repeat' (first | (with_reducible first | exact bwR _ _ | assumption | refine bdn ?_ | refine bwA ?_ ?_ _ | refine bwD ?_ | refine bwS ?_ ?_ _) | omega | (simp <;> omega))⟩
          · obtain ⟨e1, e2⟩ := one_turn1 b hqt
            have hnx := hnx e1
            rw [e2] at hnx
            have hqa : (qtr b).getD zMv = q := by rw [hqt]; rfl
            have hqb : (qtr b).isSome = true := by rw [hqt]; rfl
            clear hne e1 e2
            have H_hqa := Lib.hid hqa
            clear hqa
            have H_hqb := Lib.hid hqb
            clear hqb
            have H_hqt := Lib.hid hqt
            clear hqt
            have H_hnx := Lib.hid hnx
            clear hnx
            have H_hb := Lib.hid hb
            clear hb
            have H_hz1 := Lib.hid hz1
            clear hz1
            ((try go_simp); (repeat go_step))
            refine call_bel (w := w) (by repeat' (first | (with_reducible first | exact bwR _ _ | assumption | refine bdn ?_ | refine bwA ?_ ?_ _ | refine bwD ?_ | refine bwS ?_ ?_ _) | omega | (simp <;> omega))) (fun HB => rstay_any _) ?_
            intro w3 hb3 hz3 c3 d3 hW3
            have t3 := hb3.size
            have e3_r : Below wr.heap.size wr w3 := below_via (by repeat' (first | (with_reducible first | exact bwR _ _ | assumption | refine bdn ?_ | refine bwA ?_ ?_ _ | refine bwD ?_ | refine bwS ?_ ?_ _) | omega | (simp <;> omega))) hW3
            have te3_r := e3_r.size
            try simp only [szA] at hz3 c3 d3
            try simp only [szD] at hz3 c3 d3
            try simp only [szS] at hz3 c3 d3
            try simp only [World.heap_drewN] at hz3 c3 d3
            try simp only [szA] at hz3 c3 d3
            try simp only [szD] at hz3 c3 d3
            try simp only [szS] at hz3 c3 d3
            have s3_0 : w.heap.size < w3.heap.size := by omega
            have o3_0 := fun j => c3 (w.heap.size) j (by omega)
            have f3_0 := fun j => d3 (w.heap.size) j (by omega)
            have s3_1 : B4 < w3.heap.size := by omega
            have o3_1 := fun j => c3 (B4) j (by omega)
            have f3_1 := fun j => d3 (B4) j (by omega)
            have s3_2 : gg2 < w3.heap.size := by omega
            have o3_2 := fun j => c3 (gg2) j (by omega)
            have f3_2 := fun j => d3 (gg2) j (by omega)
            clear c3 d3 hz3 hW3
            go_upto_if 51 with fail
            obtain ⟨wz, hwz⟩ : ∃ u, w3.alloc (.cells #[.int .i64 1, .int .i64 1, .int .i64 0, .int .i64 1, .int .i64 0, .int .i64 1, .int .i64 1, .int .i64 1, .int .i64 0, .int .i64 1, .int .i64 0, .int .i64 1] 25) = u := ⟨_, rfl⟩
            rw [hwz]
            obtain ⟨g9, hg9⟩ : ∃ u, w3.heap.size = u := ⟨_, rfl⟩
            have hBz : Below wr.heap.size wr wz := by rw [← hwz]; exact e3_r.alloc te3_r _
            have hBwz : Below w.heap.size w wz := below_via hBr hBz
            have zz : wz.heap.size = g9 + 1 := by rw [← hwz, ← hg9]; simp
            have z9 : g9 < wz.heap.size := by omega
            have ky : ∀ j, wz.cell? ⟨g9, j, none⟩ = (#[.int .i64 1, .int .i64 1, .int .i64 0, .int .i64 1, .int .i64 0, .int .i64 1, .int .i64 1, .int .i64 1, .int .i64 0, .int .i64 1, .int .i64 0, .int .i64 1] : Array Value)[j]? := fun j => by rw [← hwz, ← hg9]; exact World.cell?_alloc_new _ _ _ _
            have kf : ∀ j, wz.frozen? ⟨g9, j, none⟩ = false := fun j => by rw [← hwz, ← hg9]; exact World.frozen?_alloc_at _ _ _ _ rfl
            have g9r : wr.heap.size ≤ g9 := by omega
            have y1 := (hBz.cell (p := ⟨gg2, k1, none⟩) zg).trans q1
            have y0 := (hBz.cell (p := ⟨gg2, k, none⟩) zg).trans q0
            have yg : gg2 < wz.heap.size := by omega
            skip
            rw [hg9]
            clear o3_0 f3_0 o3_1 f3_1 o3_2 f3_2 s3_0 s3_1 s3_2 hwz hg9 hb3 e3_r t3 te3_r
            clear w3
            go_cut [10, 11, 12, 13, 14] (fun s10 s11 s12 s13 s14 wx => Below wr.heap.size wr wx ∧ g9 < wx.heap.size ∧ ∀ j, wx.cell? ⟨g9, j, none⟩ = (#[.int .i64 q.A.n, .int .i64 q.A.d, .int .i64 q.B.n, .int .i64 q.B.d, .int .i64 q.C.n, .int .i64 q.C.d, .int .i64 q.D.n, .int .i64 q.D.d, .int .i64 q.E.n, .int .i64 q.E.d, .int .i64 q.F.n, .int .i64 q.F.d] : Array Value)[j]?)
            case first =>
              clear r0 x0 r4 x4 q0 q1 hB hb2 s2_0 s2_1 p0 k0 p4 k4 z0 z4
              ((try go_simp); (repeat go_step))
              refine call_bel (w := w) (by repeat' (first | (with_reducible first | exact bwR _ _ | assumption | refine bdn ?_ | refine bwA ?_ ?_ _ | refine bwD ?_ | refine bwS ?_ ?_ _) | omega | (simp <;> omega))) (fun HB => rturn_l b q true _ H_hqa.out H_hqb.out) ?_
              intro w4 hb4 hz4 c4 d4 hW4
              have t4 := hb4.size
              have e4_z : Below wz.heap.size wz w4 := below_via (by repeat' (first | (with_reducible first | exact bwR _ _ | assumption | refine bdn ?_ | refine bwA ?_ ?_ _ | refine bwD ?_ | refine bwS ?_ ?_ _) | omega | (simp <;> omega))) hW4
              have te4_z := e4_z.size
              try simp only [szA] at hz4 c4 d4
              try simp only [szD] at hz4 c4 d4
              try simp only [szS] at hz4 c4 d4
              try simp only [World.heap_drewN] at hz4 c4 d4
              try simp only [szA] at hz4 c4 d4
              try simp only [szD] at hz4 c4 d4
              try simp only [szS] at hz4 c4 d4
              have s4_0 : g9 < w4.heap.size := by omega
              have o4_0 := fun j => c4 (g9) j (by omega)
              have f4_0 := fun j => d4 (g9) j (by omega)
              have s4_1 : gg2 < w4.heap.size := by omega
              have o4_1 := fun j => c4 (gg2) j (by omega)
              have f4_1 := fun j => d4 (gg2) j (by omega)
              clear c4 d4 hz4 hW4
              have c5 : ∀ j, w4.cell? ⟨g9, j, none⟩ = (#[.int .i64 1, .int .i64 1, .int .i64 0, .int .i64 1, .int .i64 0, .int .i64 1, .int .i64 1, .int .i64 1, .int .i64 0, .int .i64 1, .int .i64 0, .int .i64 1] : Array Value)[j]? := fun j => by rw [o4_0]; exact ky j
              ((try go_simp); (repeat go_step))
              go_meet
              have hbr := below_via hBz e4_z
              refine ⟨by repeat' (first | (with_reducible first | exact bwR _ _ | assumption | refine bdn ?_ | refine bwA ?_ ?_ _ | refine bwD ?_ | refine bwS ?_ ?_ _) | omega | (simp <;> omega)), by (simp <;> omega), ?_⟩
              first | (intro j; (with_reducible refine (World.cell?_alloc_past _ _ _ ?_).trans (set12z c5 _ _ _ _ _ _ _ _ _ _ _ _ j)); (simp <;> omega)) | with_reducible exact set12z c5 _ _ _ _ _ _ _ _ _ _ _ _ | trace_state
            case rest =>
              obtain ⟨hBc, hgc, hcc⟩ := hcut
              rename World => wc
              have tc := hBc.size
              have hBwc := below_via hBr hBc
              have hB2c : Below w2.heap.size w2 wc := below_via hB hBc
              have hownc : OwnR EM wc w2.heap.size 25 _ acc := H_hown.out.keep hBc
              clear ky kf hBz hBwz zz z9 yg y0 y1 r0 x0 r4 x4 q1 q0
              have H_hownc := Lib.hid hownc
              clear hownc
              go_upto_region 39 with fail
              go_wp2_with (at_builtin; refine wp_append_row (w0 := w) rfl (.tmp 112) (.tmp 114) 83 rfl EM (w2.heap.size) 25 S0 _ 96 Tryz.underlying83 H_Si.out H_Sz0.out H_Sz1.out H_Sz2.out rfl (by decide) _ _ rfl (H_hownc.out.alloc _) _ _ 1 1 [⟨q.A, q.B, q.C, q.D, q.E, q.F⟩] rfl (rfl) (row_one (vs := #[.int .i64 q.A.n, .int .i64 q.A.d, .int .i64 q.B.n, .int .i64 q.B.d, .int .i64 q.C.n, .int .i64 q.C.d, .int .i64 q.D.n, .int .i64 q.D.d, .int .i64 q.E.n, .int .i64 q.E.d, .int .i64 q.F.n, .int .i64 q.F.d]) rfl (fun j => World.cell?_alloc_new _ _ _ _)) ?q1 ?q2 ?q3 ?q4 ?_)
              case q1 => simp only [List.length_cons, List.length_nil]; omega
              case q2 => first | exact Nat.le_refl _ | omega | (simp; omega)
              case q3 => exact (by repeat' (first | (with_reducible first | exact bwR _ _ | assumption | refine bdn ?_ | refine bwA ?_ ?_ _ | refine bwD ?_ | refine bwS ?_ ?_ _) | omega | (simp <;> omega)))
              case q4 => first | exact Nat.le_refl _ | omega | (simp; omega)
              intro v9 w9 hv9 hb9 hz9 c9 d9 hA9
              have t9 := hb9.size
              have e9_2 : Below w2.heap.size w2 w9 := below_via' (by repeat' (first | (with_reducible first | exact bwR _ _ | assumption | refine bdn ?_ | refine bwA ?_ ?_ _ | refine bwD ?_ | refine bwS ?_ ?_ _) | omega | (simp <;> omega))) hA9 (by omega)
              have te9_2 := e9_2.size
              try simp only [szA] at hz9 c9 d9
              try simp only [szD] at hz9 c9 d9
              try simp only [szS] at hz9 c9 d9
              try simp only [World.heap_drewN] at hz9 c9 d9
              try simp only [szA] at hz9 c9 d9
              try simp only [szD] at hz9 c9 d9
              try simp only [szS] at hz9 c9 d9
              clear c9 d9 hA9
              ((try go_simp); (repeat go_step))
              have e1 := H_hk1.out
              have e2 := H_hk2.out
              have e3 := H_hk3.out
              refine ⟨⟨u3, _, .int .i64 ((k2 : Nat) : Int), ⟨_, by have := H_hk1.out; have := H_hk2.out; omega, ?_, _, hv9, H_hnx.out, .inr (by simp), by simp; omega, e9_2⟩, ?_⟩, ?_⟩
              · congr 1; omega
              · repeat apply Exists.intro
                first | rfl | exact ⟨rfl, rfl⟩ | trace_state
              · simp [intOf] <;> omega
      · have hn : manyW a = 1 := by rw [← hsl, ek]; rfl
        have hak : a = kSkew := hsl.symm.trans ek
        by_cases hsh : N ≤ k1
        · have hst := H_hstop.out (.inr (by rw [hn]; have := H_hk1.out; have := H_hk2.out; have := H_hN.out; omega))
          clear hsl ek hn hak
          obtain ⟨hce, hve⟩ := moveC_err hne0 H_hws.out hst (by decide)
          obtain rfl := H_hc.out.symm.trans hce
          obtain rfl := H_hv.out.symm.trans hve
          clear hce hve
          have H_hst := Lib.hid hst
          clear hst
          have hsi : (N : Int) ≤ (k1 : Int) := by omega
          ((try go_simp); (repeat go_step))
          ((try go_simp); (repeat go_step))
          first
            | (with_reducible refine bodyPost_ret (res_six _ _ (w.heap.size) _ _ _ _ _ _ _ _ _ _ _ _ ?hp (set12 ?hz _ _ _ _ _ _ _ _ _ _ _ _)) rfl ?_)
            | (with_reducible refine bodyPost_ret (res_six _ _ (w.heap.size) _ _ _ _ _ _ _ _ _ _ _ _ ?hp (set12d ?hz _ _ _ _ _ _ _ _ _ _ _ _)) rfl ?_)
            | (with_reducible refine bodyPost_ret (res_six _ _ (w.heap.size) _ _ _ _ _ _ _ _ _ _ _ _ ?hp (set12a ?hg ?hz _ _ _ _ _ _ _ _ _ _ _ _)) rfl ?_)
            | (with_reducible refine bodyPost_ret (res_six _ _ (w.heap.size) _ _ _ _ _ _ _ _ _ _ _ _ ?hp (set12ad ?hg ?hz _ _ _ _ _ _ _ _ _ _ _ _)) rfl ?_)
          case hp => simp
          case hz => (intro j; exact r0 j)
          try (case hg => (exact z0))
          show _ ∧ _
          exact ⟨rfl, by repeat' (first | (with_reducible first | exact bwR _ _ | assumption | refine bdn ?_ | refine bwA ?_ ?_ _ | refine bwD ?_ | refine bwS ?_ ?_ _) | omega | (simp <;> omega))⟩
        · have hns : ¬ ((N : Int) ≤ (k1 : Int)) := by omega
          have hlt1 : k1 < N := by have := H_hk1.out; have := H_hk2.out; omega
          have q1 := H_hq.out k1 hlt1
          have hz1 := H_hsz'.out k1
          have hne := H_herr.out (by rw [hn]; have := H_hk1.out; have := H_hk2.out; have := H_hN.out; omega)
          have hnx := H_hnext.out (by rw [hn]; have := H_hk1.out; have := H_hk2.out; have := H_hN.out; omega)
          rw [hn, H_hk1.out, hak] at hne hnx
          obtain ⟨b, hb⟩ : ∃ b, ws.getD k1 [] = b := ⟨_, rfl⟩
          rw [hb] at q1 hz1 hne hnx
          clear hsl ek hn hak hsh
          obtain ⟨e1, e2⟩ := one_skew b b
          rw [e1] at hne hnx
          rw [e2] at hnx
          clear e1 e2
          by_cases hb0 : rdC b = 0
          · rw [if_pos hb0] at hne hnx
            obtain ⟨bn, hbn⟩ : ∃ u, rdN b = u := ⟨_, rfl⟩
            obtain ⟨bd, hbd⟩ : ∃ u, rdD b = u := ⟨_, rfl⟩
            have hbF : rdF b = ⟨bn, bd⟩ := by unfold rdF; rw [hbn, hbd]
            rw [hbF] at hnx
            have hnx := hnx hb0
            clear hne hbF
            have H_hnx := Lib.hid hnx
            clear hnx
            have H_hb0 := Lib.hid hb0
            clear hb0
            have H_hbn := Lib.hid hbn
            clear hbn
            have H_hbd := Lib.hid hbd
            clear hbd
            have H_hz1 := Lib.hid hz1
            clear hz1
            have H_hb := Lib.hid hb
            clear hb
            ((try go_simp); (repeat go_step))
            refine call_bel (w := w) (by repeat' (first | (with_reducible first | exact bwR _ _ | assumption | refine bdn ?_ | refine bwA ?_ ?_ _ | refine bwD ?_ | refine bwS ?_ ?_ _) | omega | (simp <;> omega))) (fun HB => rstay_any _) ?_
            intro w3 hb3 hz3 c3 d3 hW3
            have t3 := hb3.size
            have e3_r : Below wr.heap.size wr w3 := below_via (by repeat' (first | (with_reducible first | exact bwR _ _ | assumption | refine bdn ?_ | refine bwA ?_ ?_ _ | refine bwD ?_ | refine bwS ?_ ?_ _) | omega | (simp <;> omega))) hW3
            have te3_r := e3_r.size
            try simp only [szA] at hz3 c3 d3
            try simp only [szD] at hz3 c3 d3
            try simp only [szS] at hz3 c3 d3
            try simp only [World.heap_drewN] at hz3 c3 d3
            try simp only [szA] at hz3 c3 d3
            try simp only [szD] at hz3 c3 d3
            try simp only [szS] at hz3 c3 d3
            have s3_0 : w.heap.size < w3.heap.size := by omega
            have o3_0 := fun j => c3 (w.heap.size) j (by omega)
            have f3_0 := fun j => d3 (w.heap.size) j (by omega)
            have s3_1 : B4 < w3.heap.size := by omega
            have o3_1 := fun j => c3 (B4) j (by omega)
            have f3_1 := fun j => d3 (B4) j (by omega)
            have s3_2 : gg2 < w3.heap.size := by omega
            have o3_2 := fun j => c3 (gg2) j (by omega)
            have f3_2 := fun j => d3 (gg2) j (by omega)
            clear c3 d3 hz3 hW3
            go_upto_if 51 with fail
            obtain ⟨wz, hwz⟩ : ∃ u, w3.alloc (.cells #[.int .i64 1, .int .i64 1, .int .i64 0, .int .i64 1, .int .i64 0, .int .i64 1, .int .i64 1, .int .i64 1, .int .i64 0, .int .i64 1, .int .i64 0, .int .i64 1] 25) = u := ⟨_, rfl⟩
            rw [hwz]
            obtain ⟨g9, hg9⟩ : ∃ u, w3.heap.size = u := ⟨_, rfl⟩
            have hBz : Below wr.heap.size wr wz := by rw [← hwz]; exact e3_r.alloc te3_r _
            have hBwz : Below w.heap.size w wz := below_via hBr hBz
            have zz : wz.heap.size = g9 + 1 := by rw [← hwz, ← hg9]; simp
            have z9 : g9 < wz.heap.size := by omega
            have ky : ∀ j, wz.cell? ⟨g9, j, none⟩ = (#[.int .i64 1, .int .i64 1, .int .i64 0, .int .i64 1, .int .i64 0, .int .i64 1, .int .i64 1, .int .i64 1, .int .i64 0, .int .i64 1, .int .i64 0, .int .i64 1] : Array Value)[j]? := fun j => by rw [← hwz, ← hg9]; exact World.cell?_alloc_new _ _ _ _
            have kf : ∀ j, wz.frozen? ⟨g9, j, none⟩ = false := fun j => by rw [← hwz, ← hg9]; exact World.frozen?_alloc_at _ _ _ _ rfl
            have g9r : wr.heap.size ≤ g9 := by omega
            have y1 := (hBz.cell (p := ⟨gg2, k1, none⟩) zg).trans q1
            have y0 := (hBz.cell (p := ⟨gg2, k, none⟩) zg).trans q0
            have yg : gg2 < wz.heap.size := by omega
            skip
            rw [hg9]
            clear o3_0 f3_0 o3_1 f3_1 o3_2 f3_2 s3_0 s3_1 s3_2 hwz hg9 hb3 e3_r t3 te3_r
            clear w3
            go_cut [10, 11, 12, 13, 14] (fun s10 s11 s12 s13 s14 wx => Below wr.heap.size wr wx ∧ g9 < wx.heap.size ∧ ∀ j, wx.cell? ⟨g9, j, none⟩ = (#[.int .i64 1, .int .i64 1, .int .i64 0, .int .i64 1, .int .i64 bn, .int .i64 bd, .int .i64 1, .int .i64 1, .int .i64 0, .int .i64 1, .int .i64 0, .int .i64 1] : Array Value)[j]?)
            case first =>
              clear r0 x0 r4 x4 q0 q1 hB hb2 s2_0 s2_1 p0 k0 p4 k4 z0 z4
              ((try go_simp); (repeat go_step))
              refine call_bel (w := w) (by repeat' (first | (with_reducible first | exact bwR _ _ | assumption | refine bdn ?_ | refine bwA ?_ ?_ _ | refine bwD ?_ | refine bwS ?_ ?_ _) | omega | (simp <;> omega))) (fun HB => rfr_ok b bn bd _ H_hb0.out H_hbn.out H_hbd.out H_hz1.out) ?_
              intro w4 hb4 hz4 c4 d4 hW4
              have t4 := hb4.size
              have e4_z : Below wz.heap.size wz w4 := below_via (by repeat' (first | (with_reducible first | exact bwR _ _ | assumption | refine bdn ?_ | refine bwA ?_ ?_ _ | refine bwD ?_ | refine bwS ?_ ?_ _) | omega | (simp <;> omega))) hW4
              have te4_z := e4_z.size
              try simp only [szA] at hz4 c4 d4
              try simp only [szD] at hz4 c4 d4
              try simp only [szS] at hz4 c4 d4
              try simp only [World.heap_drewN] at hz4 c4 d4
              try simp only [szA] at hz4 c4 d4
              try simp only [szD] at hz4 c4 d4
              try simp only [szS] at hz4 c4 d4
              have s4_0 : g9 < w4.heap.size := by omega
              have o4_0 := fun j => c4 (g9) j (by omega)
              have f4_0 := fun j => d4 (g9) j (by omega)
              have s4_1 : gg2 < w4.heap.size := by omega
              have o4_1 := fun j => c4 (gg2) j (by omega)
              have f4_1 := fun j => d4 (gg2) j (by omega)
              clear c4 d4 hz4 hW4
              ((try go_simp); (repeat go_step))
              refine call_bel (w := w) (by repeat' (first | (with_reducible first | exact bwR _ _ | assumption | refine bdn ?_ | refine bwA ?_ ?_ _ | refine bwD ?_ | refine bwS ?_ ?_ _) | omega | (simp <;> omega))) (fun HB => rfr_ok b bn bd _ H_hb0.out H_hbn.out H_hbd.out H_hz1.out) ?_
              intro w5 hb5 hz5 c5 d5 hW5
              have t5 := hb5.size
              have e5_z : Below wz.heap.size wz w5 := below_via (by repeat' (first | (with_reducible first | exact bwR _ _ | assumption | refine bdn ?_ | refine bwA ?_ ?_ _ | refine bwD ?_ | refine bwS ?_ ?_ _) | omega | (simp <;> omega))) hW5
              have te5_z := e5_z.size
              try simp only [szA] at hz5 c5 d5
              try simp only [szD] at hz5 c5 d5
              try simp only [szS] at hz5 c5 d5
              try simp only [World.heap_drewN] at hz5 c5 d5
              try simp only [szA] at hz5 c5 d5
              try simp only [szD] at hz5 c5 d5
              try simp only [szS] at hz5 c5 d5
              have s5_0 : g9 < w5.heap.size := by omega
              have o5_0 := fun j => c5 (g9) j (by omega)
              have f5_0 := fun j => d5 (g9) j (by omega)
              have s5_1 : gg2 < w5.heap.size := by omega
              have o5_1 := fun j => c5 (gg2) j (by omega)
              have f5_1 := fun j => d5 (gg2) j (by omega)
              have s5_2 : w4.heap.size < w5.heap.size := by omega
              have o5_2 := fun j => c5 (w4.heap.size) j (by omega)
              have f5_2 := fun j => d5 (w4.heap.size) j (by omega)
              clear c5 d5 hz5 hW5
              have c5 : ∀ j, w5.cell? ⟨g9, j, none⟩ = (#[.int .i64 1, .int .i64 1, .int .i64 0, .int .i64 1, .int .i64 0, .int .i64 1, .int .i64 1, .int .i64 1, .int .i64 0, .int .i64 1, .int .i64 0, .int .i64 1] : Array Value)[j]? := fun j => by rw [o5_0, World.cell?_alloc_past _ _ _ s4_0, o4_0]; exact ky j
              ((try go_simp); (repeat go_step))
              go_meet
              have hbr := below_via hBz e5_z
              refine ⟨by repeat' (first | (with_reducible first | exact bwR _ _ | assumption | refine bdn ?_ | refine bwA ?_ ?_ _ | refine bwD ?_ | refine bwS ?_ ?_ _) | omega | (simp <;> omega)), by (simp <;> omega), ?_⟩
              first | (intro j; (with_reducible refine (World.cell?_alloc_past _ _ _ ?_).trans (setSkew c5 _ _ j)); (simp <;> omega)) | with_reducible exact setSkew c5 _ _ | trace_state
            case rest =>
              obtain ⟨hBc, hgc, hcc⟩ := hcut
              rename World => wc
              have tc := hBc.size
              have hBwc := below_via hBr hBc
              have hB2c : Below w2.heap.size w2 wc := below_via hB hBc
              have hownc : OwnR EM wc w2.heap.size 25 _ acc := H_hown.out.keep hBc
              clear ky kf hBz hBwz zz z9 yg y0 y1 r0 x0 r4 x4 q1 q0
              have H_hownc := Lib.hid hownc
              clear hownc
              go_upto_region 39 with fail
              go_wp2_with (at_builtin; refine wp_append_row (w0 := w) rfl (.tmp 112) (.tmp 114) 83 rfl EM (w2.heap.size) 25 S0 _ 96 Tryz.underlying83 H_Si.out H_Sz0.out H_Sz1.out H_Sz2.out rfl (by decide) _ _ rfl (H_hownc.out.alloc _) _ _ 1 1 [⟨⟨1, 1⟩, ⟨0, 1⟩, ⟨bn, bd⟩, ⟨1, 1⟩, ⟨0, 1⟩, ⟨0, 1⟩⟩] rfl (rfl) (row_one (vs := #[.int .i64 1, .int .i64 1, .int .i64 0, .int .i64 1, .int .i64 bn, .int .i64 bd, .int .i64 1, .int .i64 1, .int .i64 0, .int .i64 1, .int .i64 0, .int .i64 1]) rfl (fun j => World.cell?_alloc_new _ _ _ _)) ?q1 ?q2 ?q3 ?q4 ?_)
              case q1 => simp only [List.length_cons, List.length_nil]; omega
              case q2 => first | exact Nat.le_refl _ | omega | (simp; omega)
              case q3 => exact (by repeat' (first | (with_reducible first | exact bwR _ _ | assumption | refine bdn ?_ | refine bwA ?_ ?_ _ | refine bwD ?_ | refine bwS ?_ ?_ _) | omega | (simp <;> omega)))
              case q4 => first | exact Nat.le_refl _ | omega | (simp; omega)
              intro v9 w9 hv9 hb9 hz9 c9 d9 hA9
              have t9 := hb9.size
              have e9_2 : Below w2.heap.size w2 w9 := below_via' (by repeat' (first | (with_reducible first | exact bwR _ _ | assumption | refine bdn ?_ | refine bwA ?_ ?_ _ | refine bwD ?_ | refine bwS ?_ ?_ _) | omega | (simp <;> omega))) hA9 (by omega)
              have te9_2 := e9_2.size
              try simp only [szA] at hz9 c9 d9
              try simp only [szD] at hz9 c9 d9
              try simp only [szS] at hz9 c9 d9
              try simp only [World.heap_drewN] at hz9 c9 d9
              try simp only [szA] at hz9 c9 d9
              try simp only [szD] at hz9 c9 d9
              try simp only [szS] at hz9 c9 d9
              clear c9 d9 hA9
              ((try go_simp); (repeat go_step))
              have e1 := H_hk1.out
              have e2 := H_hk2.out
              have e3 := H_hk3.out
              refine ⟨⟨u3, _, .int .i64 ((k2 : Nat) : Int), ⟨_, by have := H_hk1.out; have := H_hk2.out; omega, ?_, _, hv9, H_hnx.out, .inr (by simp), by simp; omega, e9_2⟩, ?_⟩, ?_⟩
              · congr 1; omega
              · repeat apply Exists.intro
                first | rfl | exact ⟨rfl, rfl⟩ | trace_state
              · simp [intOf] <;> omega
          · rw [if_neg hb0] at hne
            have hne' := hne hb0
            obtain ⟨hce, hve⟩ := moveC_err hne0 H_hws.out hne' hb0
            obtain rfl := H_hc.out.symm.trans hce
            obtain rfl := H_hv.out.symm.trans hve
            clear hce hve
            have hpos : 0 < (rdC b : Int) := by omega
            have hpos2 : 0 < rdC b := by omega
            clear hne hnx hne'
            have H_hb0 := Lib.hid hb0
            clear hb0
            have H_hz1 := Lib.hid hz1
            clear hz1
            have H_hb := Lib.hid hb
            clear hb
            ((try go_simp); (repeat go_step))
            refine call_bel (w := w) (by repeat' (first | (with_reducible first | exact bwR _ _ | assumption | refine bdn ?_ | refine bwA ?_ ?_ _ | refine bwD ?_ | refine bwS ?_ ?_ _) | omega | (simp <;> omega))) (fun HB => rstay_any _) ?_
            intro w3 hb3 hz3 c3 d3 hW3
            have t3 := hb3.size
            have e3_r : Below wr.heap.size wr w3 := below_via (by repeat' (first | (with_reducible first | exact bwR _ _ | assumption | refine bdn ?_ | refine bwA ?_ ?_ _ | refine bwD ?_ | refine bwS ?_ ?_ _) | omega | (simp <;> omega))) hW3
            have te3_r := e3_r.size
            try simp only [szA] at hz3 c3 d3
            try simp only [szD] at hz3 c3 d3
            try simp only [szS] at hz3 c3 d3
            try simp only [World.heap_drewN] at hz3 c3 d3
            try simp only [szA] at hz3 c3 d3
            try simp only [szD] at hz3 c3 d3
            try simp only [szS] at hz3 c3 d3
            have s3_0 : w.heap.size < w3.heap.size := by omega
            have o3_0 := fun j => c3 (w.heap.size) j (by omega)
            have f3_0 := fun j => d3 (w.heap.size) j (by omega)
            have s3_1 : B4 < w3.heap.size := by omega
            have o3_1 := fun j => c3 (B4) j (by omega)
            have f3_1 := fun j => d3 (B4) j (by omega)
            have s3_2 : gg2 < w3.heap.size := by omega
            have o3_2 := fun j => c3 (gg2) j (by omega)
            have f3_2 := fun j => d3 (gg2) j (by omega)
            clear c3 d3 hz3 hW3
            ((try go_simp); (repeat go_step))
            refine call_bel (w := w) (by repeat' (first | (with_reducible first | exact bwR _ _ | assumption | refine bdn ?_ | refine bwA ?_ ?_ _ | refine bwD ?_ | refine bwS ?_ ?_ _) | omega | (simp <;> omega))) (fun HB => rfr_no b (rdC b) _ H_hb0.out rfl H_hz1.out) ?_
            intro w4 hb4 hz4 c4 d4 hW4
            have t4 := hb4.size
            have e4_r : Below wr.heap.size wr w4 := below_via (by repeat' (first | (with_reducible first | exact bwR _ _ | assumption | refine bdn ?_ | refine bwA ?_ ?_ _ | refine bwD ?_ | refine bwS ?_ ?_ _) | omega | (simp <;> omega))) hW4
            have te4_r := e4_r.size
            try simp only [szA] at hz4 c4 d4
            try simp only [szD] at hz4 c4 d4
            try simp only [szS] at hz4 c4 d4
            try simp only [World.heap_drewN] at hz4 c4 d4
            try simp only [szA] at hz4 c4 d4
            try simp only [szD] at hz4 c4 d4
            try simp only [szS] at hz4 c4 d4
            have s4_0 : w.heap.size < w4.heap.size := by omega
            have o4_0 := fun j => c4 (w.heap.size) j (by omega)
            have f4_0 := fun j => d4 (w.heap.size) j (by omega)
            have s4_1 : B4 < w4.heap.size := by omega
            have o4_1 := fun j => c4 (B4) j (by omega)
            have f4_1 := fun j => d4 (B4) j (by omega)
            have s4_2 : gg2 < w4.heap.size := by omega
            have o4_2 := fun j => c4 (gg2) j (by omega)
            have f4_2 := fun j => d4 (gg2) j (by omega)
            have s4_3 : w3.heap.size < w4.heap.size := by omega
            have o4_3 := fun j => c4 (w3.heap.size) j (by omega)
            have f4_3 := fun j => d4 (w3.heap.size) j (by omega)
            clear c4 d4 hz4 hW4
            ((try go_simp); (repeat go_step))
            ((try go_simp); (repeat go_step))
            first
              | (with_reducible refine bodyPost_ret (res_six _ _ (w.heap.size) _ _ _ _ _ _ _ _ _ _ _ _ ?hp (set12 ?hz _ _ _ _ _ _ _ _ _ _ _ _)) rfl ?_)
              | (with_reducible refine bodyPost_ret (res_six _ _ (w.heap.size) _ _ _ _ _ _ _ _ _ _ _ _ ?hp (set12d ?hz _ _ _ _ _ _ _ _ _ _ _ _)) rfl ?_)
              | (with_reducible refine bodyPost_ret (res_six _ _ (w.heap.size) _ _ _ _ _ _ _ _ _ _ _ _ ?hp (set12a ?hg ?hz _ _ _ _ _ _ _ _ _ _ _ _)) rfl ?_)
              | (with_reducible refine bodyPost_ret (res_six _ _ (w.heap.size) _ _ _ _ _ _ _ _ _ _ _ _ ?hp (set12ad ?hg ?hz _ _ _ _ _ _ _ _ _ _ _ _)) rfl ?_)
            case hp => simp
            case hz => (intro j; rw [o4_0, World.cell?_alloc_past _ _ _ s3_0, o3_0]; exact r0 j)
            try (case hg => (exact s4_0))
            show _ ∧ _
            exact ⟨rfl, by repeat' (first | (with_reducible first | exact bwR _ _ | assumption | refine bdn ?_ | refine bwA ?_ ?_ _ | refine bwD ?_ | refine bwS ?_ ?_ _) | omega | (simp <;> omega))⟩
      · have hn : manyW a = 0 := by rw [← hsl]; exact ek
        have hst := H_hstop.out (.inl hn)
        clear hsl ek hn
        obtain ⟨hce, hve⟩ := moveC_err hne0 H_hws.out hst (by decide)
        obtain rfl := H_hc.out.symm.trans hce
        obtain rfl := H_hv.out.symm.trans hve
        clear hce hve
        have H_hst := Lib.hid hst
        clear hst
        ((try go_simp); (repeat go_step))
        ((try go_simp); (repeat go_step))
        first
          | (with_reducible refine bodyPost_ret (res_six _ _ (w.heap.size) _ _ _ _ _ _ _ _ _ _ _ _ ?hp (set12 ?hz _ _ _ _ _ _ _ _ _ _ _ _)) rfl ?_)
          | (with_reducible refine bodyPost_ret (res_six _ _ (w.heap.size) _ _ _ _ _ _ _ _ _ _ _ _ ?hp (set12d ?hz _ _ _ _ _ _ _ _ _ _ _ _)) rfl ?_)
          | (with_reducible refine bodyPost_ret (res_six _ _ (w.heap.size) _ _ _ _ _ _ _ _ _ _ _ _ ?hp (set12a ?hg ?hz _ _ _ _ _ _ _ _ _ _ _ _)) rfl ?_)
          | (with_reducible refine bodyPost_ret (res_six _ _ (w.heap.size) _ _ _ _ _ _ _ _ _ _ _ _ ?hp (set12ad ?hg ?hz _ _ _ _ _ _ _ _ _ _ _ _)) rfl ?_)
        case hp => simp
        case hz => (intro j; exact r0 j)
        try (case hg => (exact z0))
        show _ ∧ _
        exact ⟨rfl, by repeat' (first | (with_reducible first | exact bwR _ _ | assumption | refine bdn ?_ | refine bwA ?_ ?_ _ | refine bwD ?_ | refine bwS ?_ ?_ _) | omega | (simp <;> omega))⟩
    · have hkN : k = N := by omega
      obtain ⟨hcC, hvC⟩ := moveC_ok hne0 H_hws.out (hat.done (by have := H_hN.out; omega))
      rw [H_hc.out] at hcC
      rw [H_hv.out] at hvC
      obtain ⟨gr, cap, rfl, hgr1, hgr2, hcap, _, hrow⟩ : ∃ gr cap, u6 = .slice (some ⟨gr, 0, none⟩) acc.length cap ∧ w2.heap.size ≤ gr ∧ gr < wr.heap.size ∧ acc.length ≤ cap ∧ acc.length ≤ maxLen ∧ RowIn EM wr gr 0 acc := by
        rcases hown.form with ⟨_, h⟩ | h
        · rcases hne00 with h' | h'
          · omega
          · exact absurd h h'
        · exact h
      have hacR : ∀ m ∈ acc, m.R := by
        have := hat.done (by have := H_hN.out; omega)
        intro m hm
        have h2 := rdW_R ws.length ws m
        rw [this] at h2
        exact h2 hm
      have hd0 : decide ((k : Int) < (N : Int)) = false := by simp; omega
      obtain ⟨L, hL⟩ : ∃ L, acc.length = L := ⟨_, rfl⟩
      have hL5 : L ≤ 100000 := by have := H_hN.out; omega
      have i9 : IntKind.i64.wrap ((L : Int) - 1) = (L : Int) - 1 := IntWalk.i64_in _ (by omega)
      have neB : w.heap.size ≠ B4 := by omega
      have neg : gr ≠ B4 := by omega
      have leB : w.heap.size ≤ B4 := by omega
      rw [hL] at hcap ⊢
      clear hk hown hat hne00 hacc
      have H_hcC := Lib.hid hcC
      clear hcC
      have H_hvC := Lib.hid hvC
      clear hvC
      have H_hacR := Lib.hid hacR
      clear hacR
      have H_hL := Lib.hid hL
      clear hL
      have H_hrow := Lib.hid hrow
      clear hrow
      ((try go_simp); (repeat go_step))
      go_loopw [15] (fun t15 wq => ∃ (j : Nat) (cur : Mv), t15 = .int .i64 ((L : Int) - 1 - j) ∧ FoldAt acc j cur ∧ (∀ o, wq.cell? ⟨B4, o, none⟩ = #[.int .i64 cur.A.n, .int .i64 cur.A.d, .int .i64 cur.B.n, .int .i64 cur.B.d, .int .i64 cur.C.n, .int .i64 cur.C.d, .int .i64 cur.D.n, .int .i64 cur.D.d, .int .i64 cur.E.n, .int .i64 cur.E.d, .int .i64 cur.F.n, .int .i64 cur.F.d][o]?) ∧ (∀ o, wq.frozen? ⟨B4, o, none⟩ = false) ∧ (∀ o, wq.cell? ⟨w.heap.size, o, none⟩ = (#[.int .i64 0, .int .i64 0, .int .i64 0, .int .i64 0, .int .i64 0, .int .i64 0, .int .i64 0, .int .i64 0, .int .i64 0, .int .i64 0, .int .i64 0, .int .i64 0] : Array Value)[o]?) ∧ (∀ o, wq.frozen? ⟨w.heap.size, o, none⟩ = false) ∧ RowIn EM wq gr 0 acc ∧ wr.heap.size ≤ wq.heap.size ∧ Below w.heap.size w wq) (fun t15 _ => (intOf t15 + 1).toNat)
      case atStart => exact ⟨0, _, by simp, FoldAt.start acc, r4, x4, r0, x0, H_hrow.out, Nat.le_refl _, hBr⟩
      case round =>
        obtain ⟨j, cur, rfl, hF, h4, f4, h0, f0, hro, hzq, hBq⟩ := hrel
        have tq := hBq.size
        clear r0 x0 r4 x4
        have z0q : w.heap.size < wr.heap.size := by omega
        have z4q : B4 < wr.heap.size := by omega
        have zgq : gr < wr.heap.size := by omega
        by_cases hj : j < L
        · obtain ⟨i, hi⟩ : ∃ i, L - 1 - j = i := ⟨_, rfl⟩
          have hiI : (L : Int) - 1 - (j : Int) = (i : Int) := by omega
          rw [hiI]
          have hia : i < acc.length := by have := H_hL.out; omega
          have hjl : j < acc.length := by have := H_hL.out; omega
          have hiL : i < L := by omega
          have ha' : acc[acc.length - 1 - j]? = some acc[i] := by rw [H_hL.out, hi]; exact List.getElem?_eq_getElem hia
          have haR := H_hacR.out _ (List.getElem_mem hia)
          have hcd := hro i hia
          obtain ⟨a, ha⟩ : ∃ a, acc[i] = a := ⟨_, rfl⟩
          rw [ha] at ha' haR hcd
          simp only [Nat.zero_add] at hcd
          have q0 : wr.cell? ⟨gr, i * 12, none⟩ = some (.int .i64 a.A.n) := hcd 0 _ rfl
          have q1 : wr.cell? ⟨gr, i * 12 + 1, none⟩ = some (.int .i64 a.A.d) := hcd 1 _ rfl
          have q2 : wr.cell? ⟨gr, i * 12 + 2, none⟩ = some (.int .i64 a.B.n) := hcd 2 _ rfl
          have q3 : wr.cell? ⟨gr, i * 12 + 3, none⟩ = some (.int .i64 a.B.d) := hcd 3 _ rfl
          have q4 : wr.cell? ⟨gr, i * 12 + 4, none⟩ = some (.int .i64 a.C.n) := hcd 4 _ rfl
          have q5 : wr.cell? ⟨gr, i * 12 + 5, none⟩ = some (.int .i64 a.C.d) := hcd 5 _ rfl
          have q6 : wr.cell? ⟨gr, i * 12 + 6, none⟩ = some (.int .i64 a.D.n) := hcd 6 _ rfl
          have q7 : wr.cell? ⟨gr, i * 12 + 7, none⟩ = some (.int .i64 a.D.d) := hcd 7 _ rfl
          have q8 : wr.cell? ⟨gr, i * 12 + 8, none⟩ = some (.int .i64 a.E.n) := hcd 8 _ rfl
          have q9 : wr.cell? ⟨gr, i * 12 + 9, none⟩ = some (.int .i64 a.E.d) := hcd 9 _ rfl
          have q10 : wr.cell? ⟨gr, i * 12 + 10, none⟩ = some (.int .i64 a.F.n) := hcd 10 _ rfl
          have q11 : wr.cell? ⟨gr, i * 12 + 11, none⟩ = some (.int .i64 a.F.d) := hcd 11 _ rfl
          have hst := hF.step hjl ha' haR
          have hcR := hF.r
          obtain ⟨v', hv'⟩ : ∃ v', tnV cur a = v' := ⟨_, rfl⟩
          obtain ⟨ok, hok⟩ : ∃ ok, tnB cur a = ok := ⟨_, rfl⟩
          rw [hv', hok] at hst
          have SK : ∀ W, Below wr.heap.size wr W → Below wr.heap.size wr W ∧ (∀ o, W.cell? ⟨B4, o, none⟩ = #[.int .i64 cur.A.n, .int .i64 cur.A.d, .int .i64 cur.B.n, .int .i64 cur.B.d, .int .i64 cur.C.n, .int .i64 cur.C.d, .int .i64 cur.D.n, .int .i64 cur.D.d, .int .i64 cur.E.n, .int .i64 cur.E.d, .int .i64 cur.F.n, .int .i64 cur.F.d][o]?) ∧ W.cell? ⟨gr, i * 12, none⟩ = some (.int .i64 a.A.n) ∧ W.cell? ⟨gr, i * 12 + 1, none⟩ = some (.int .i64 a.A.d) ∧ W.cell? ⟨gr, i * 12 + 2, none⟩ = some (.int .i64 a.B.n) ∧ W.cell? ⟨gr, i * 12 + 3, none⟩ = some (.int .i64 a.B.d) ∧ W.cell? ⟨gr, i * 12 + 4, none⟩ = some (.int .i64 a.C.n) ∧ W.cell? ⟨gr, i * 12 + 5, none⟩ = some (.int .i64 a.C.d) ∧ W.cell? ⟨gr, i * 12 + 6, none⟩ = some (.int .i64 a.D.n) ∧ W.cell? ⟨gr, i * 12 + 7, none⟩ = some (.int .i64 a.D.d) ∧ W.cell? ⟨gr, i * 12 + 8, none⟩ = some (.int .i64 a.E.n) ∧ W.cell? ⟨gr, i * 12 + 9, none⟩ = some (.int .i64 a.E.d) ∧ W.cell? ⟨gr, i * 12 + 10, none⟩ = some (.int .i64 a.F.n) ∧ W.cell? ⟨gr, i * 12 + 11, none⟩ = some (.int .i64 a.F.d) := fun W h => ⟨h, fun o => (h.cell (p := ⟨B4, o, none⟩) z4q).trans (h4 o), (h.cell (p := ⟨gr, i * 12, none⟩) zgq).trans q0, (h.cell (p := ⟨gr, i * 12 + 1, none⟩) zgq).trans q1, (h.cell (p := ⟨gr, i * 12 + 2, none⟩) zgq).trans q2, (h.cell (p := ⟨gr, i * 12 + 3, none⟩) zgq).trans q3, (h.cell (p := ⟨gr, i * 12 + 4, none⟩) zgq).trans q4, (h.cell (p := ⟨gr, i * 12 + 5, none⟩) zgq).trans q5, (h.cell (p := ⟨gr, i * 12 + 6, none⟩) zgq).trans q6, (h.cell (p := ⟨gr, i * 12 + 7, none⟩) zgq).trans q7, (h.cell (p := ⟨gr, i * 12 + 8, none⟩) zgq).trans q8, (h.cell (p := ⟨gr, i * 12 + 9, none⟩) zgq).trans q9, (h.cell (p := ⟨gr, i * 12 + 10, none⟩) zgq).trans q10, (h.cell (p := ⟨gr, i * 12 + 11, none⟩) zgq).trans q11⟩
          clear hcd ha ha' hF q0 q1 q2 q3 q4 q5 q6 q7 q8 q9 q10 q11
          have H_h4 := Lib.hid h4
          clear h4
          have H_f4 := Lib.hid f4
          clear f4
          have H_h0 := Lib.hid h0
          clear h0
          have H_f0 := Lib.hid f0
          clear f0
          have H_SK := Lib.hid SK
          clear SK
          have H_hst := Lib.hid hst
          clear hst
          have H_haR := Lib.hid haR
          clear haR
          have H_hcR := Lib.hid hcR
          clear hcR
          have H_hv' := Lib.hid hv'
          clear hv'
          have H_hok := Lib.hid hok
          clear hok
          have H_hro := Lib.hid hro
          clear hro
          have H_hi := Lib.hid hi
          clear hi
          have H_hiI := Lib.hid hiI
          clear hiI
          go_upto_region 44 with fail
          go_cut [16, 17] from 123 to 139 (fun s16 s17 wx => MadeM wr #[.int .i64 v'.A.n, .int .i64 v'.A.d, .int .i64 v'.B.n, .int .i64 v'.B.d, .int .i64 v'.C.n, .int .i64 v'.C.d, .int .i64 v'.D.n, .int .i64 v'.D.d, .int .i64 v'.E.n, .int .i64 v'.E.d, .int .i64 v'.F.n, .int .i64 v'.F.d] s16 wx ∧ s17 = .bool ok)
          case first =>
            go_region_held3 (fun W => Below wr.heap.size wr W ∧ (∀ o, W.cell? ⟨B4, o, none⟩ = #[.int .i64 cur.A.n, .int .i64 cur.A.d, .int .i64 cur.B.n, .int .i64 cur.B.d, .int .i64 cur.C.n, .int .i64 cur.C.d, .int .i64 cur.D.n, .int .i64 cur.D.d, .int .i64 cur.E.n, .int .i64 cur.E.d, .int .i64 cur.F.n, .int .i64 cur.F.d][o]?) ∧ W.cell? ⟨gr, i * 12, none⟩ = some (.int .i64 a.A.n) ∧ W.cell? ⟨gr, i * 12 + 1, none⟩ = some (.int .i64 a.A.d) ∧ W.cell? ⟨gr, i * 12 + 2, none⟩ = some (.int .i64 a.B.n) ∧ W.cell? ⟨gr, i * 12 + 3, none⟩ = some (.int .i64 a.B.d) ∧ W.cell? ⟨gr, i * 12 + 4, none⟩ = some (.int .i64 a.C.n) ∧ W.cell? ⟨gr, i * 12 + 5, none⟩ = some (.int .i64 a.C.d) ∧ W.cell? ⟨gr, i * 12 + 6, none⟩ = some (.int .i64 a.D.n) ∧ W.cell? ⟨gr, i * 12 + 7, none⟩ = some (.int .i64 a.D.d) ∧ W.cell? ⟨gr, i * 12 + 8, none⟩ = some (.int .i64 a.E.n) ∧ W.cell? ⟨gr, i * 12 + 9, none⟩ = some (.int .i64 a.E.d) ∧ W.cell? ⟨gr, i * 12 + 10, none⟩ = some (.int .i64 a.F.n) ∧ W.cell? ⟨gr, i * 12 + 11, none⟩ = some (.int .i64 a.F.d)) (exact H_SK.out _ (by repeat' (first | (with_reducible first | exact bwR _ _ | assumption | refine bdn ?_ | refine bwA ?_ ?_ _ | refine bwD ?_ | refine bwS ?_ ?_ _) | omega | (simp <;> omega))))
              (first | ((with_reducible refine (rthen_any cur a v' ok _ H_hcR.out H_haR.out H_hv'.out H_hok.out).mono ?_); rintro en wV ⟨rfl, hV⟩; have hbV : Below wr.heap.size wr wV := below_via (by repeat' (first | (with_reducible first | exact bwR _ _ | assumption | refine bdn ?_ | refine bwA ?_ ?_ _ | refine bwD ?_ | refine bwS ?_ ?_ _) | omega | (simp <;> omega))) hV; have tV := hbV.size; (try have zV0 : wr.heap.size < wV.heap.size := Nat.lt_of_lt_of_le (by first | exact Nat.lt_succ_self _ | (rw [World.size_alloc]; exact Nat.lt_succ_self _) | (rw [World.size_drew, World.size_alloc]; exact Nat.lt_succ_self _)) hV.size); (try have oV0 := fun j => hV.cell (p := ⟨wr.heap.size, j, none⟩) (by first | exact Nat.lt_succ_self _ | (rw [World.size_alloc]; exact Nat.lt_succ_self _) | (rw [World.size_drew, World.size_alloc]; exact Nat.lt_succ_self _))); (try have fV0 := fun j => hV.frozen (p := ⟨wr.heap.size, j, none⟩) (by first | exact Nat.lt_succ_self _ | (rw [World.size_alloc]; exact Nat.lt_succ_self _) | (rw [World.size_drew, World.size_alloc]; exact Nat.lt_succ_self _)))))
            all_goals
              ((try go_simp); (repeat go_step))
              go_meet
              refine ⟨?_, rfl⟩
              first | with_reducible exact madeM_last hbV _ | with_reducible exact madeM_first (Below.refl _ _) hV _ _ _ _ _ _ _ _ _ _ _ _ | with_reducible exact madeM_first (Below.refl _ _).drew hV _ _ _ _ _ _ _ _ _ _ _ _ | with_reducible exact madeM_first (Below.refl _ _) (Below.undrew hV) _ _ _ _ _ _ _ _ _ _ _ _ | trace_state
          case rest =>
            obtain ⟨⟨g9, rfl, kg9, hg9, lg9, hBx⟩, rfl⟩ := hcut
            rename World => wy
            have ty := hBx.size
            have y4 := fun o => (hBx.cell (p := ⟨B4, o, none⟩) z4q).trans (H_h4.out o)
            have w4 := fun o => (hBx.frozen (p := ⟨B4, o, none⟩) z4q).trans (H_f4.out o)
            have y0 := fun o => (hBx.cell (p := ⟨w.heap.size, o, none⟩) z0q).trans (H_h0.out o)
            have w0 := fun o => (hBx.frozen (p := ⟨w.heap.size, o, none⟩) z0q).trans (H_f0.out o)
            have yro := H_hro.out.keep hBx zgq
            have hBy := below_via hBq hBx
            have yz0 : w.heap.size < wy.heap.size := by omega
            have yz4 : B4 < wy.heap.size := by omega
            clear H_h4 H_f4 H_h0 H_f0 H_SK hBx
            have H_yro := Lib.hid yro
            clear yro
            rcases H_hst.out with ⟨t, hF'⟩ | ⟨t, hfo⟩
            · obtain rfl : ok = true := t
              have H_hF' := Lib.hid hF'
              clear hF'
              ((try go_simp); (repeat go_step))
              go_roundw
              case rel =>
                refine ⟨j + 1, v', ?_, H_hF'.out, ?_, ?_, ?_, ?_, ?_, ?_, ?_⟩
                · have e : (i : Int) - 1 = (L : Int) - 1 - ((j + 1 : Nat) : Int) := by have := H_hi.out; omega
                  rw [← e]
                · with_reducible exact set12z y4 _ _ _ _ _ _ _ _ _ _ _ _
                · intro o; simp only [World.frozen?_setCell]; exact w4 o
                · intro o; exact (World.cell?_of_block (a := ⟨w.heap.size, o, none⟩) (heap_set12 neB _ _ _ _ _ _ _ _ _ _ _ _)).trans (y0 o)
                · intro o; simp only [World.frozen?_setCell]; exact w0 o
                · with_reducible exact H_yro.out.of (fun o => World.cell?_of_block (a := ⟨gr, o, none⟩) (heap_set12 neg _ _ _ _ _ _ _ _ _ _ _ _))
                · rw [size_set12]; omega
                · with_reducible exact below_set12 hBy leB _ _ _ _ _ _ _ _ _ _ _ _
              case measure => have := H_hi.out; simp [intOf] <;> omega
            · obtain rfl : ok = false := t
              have hcC := H_hcC.out
              have hvC := H_hvC.out
              rw [hfo] at hcC hvC
              obtain rfl : c = 2 := hcC
              obtain rfl : v = zMv := hvC
              clear hfo
              ((try go_simp); (repeat go_step))
              ((try go_simp); (repeat go_step))
              first
                | (with_reducible refine bodyPost_ret (res_six _ _ (w.heap.size) _ _ _ _ _ _ _ _ _ _ _ _ ?hp (set12 ?hz _ _ _ _ _ _ _ _ _ _ _ _)) rfl ?_)
                | (with_reducible refine bodyPost_ret (res_six _ _ (w.heap.size) _ _ _ _ _ _ _ _ _ _ _ _ ?hp (set12d ?hz _ _ _ _ _ _ _ _ _ _ _ _)) rfl ?_)
                | (with_reducible refine bodyPost_ret (res_six _ _ (w.heap.size) _ _ _ _ _ _ _ _ _ _ _ _ ?hp (set12a ?hg ?hz _ _ _ _ _ _ _ _ _ _ _ _)) rfl ?_)
                | (with_reducible refine bodyPost_ret (res_six _ _ (w.heap.size) _ _ _ _ _ _ _ _ _ _ _ _ ?hp (set12ad ?hg ?hz _ _ _ _ _ _ _ _ _ _ _ _)) rfl ?_)
              case hp => simp
              case hz => (intro j; exact y0 j)
              try (case hg => (exact yz0))
              show _ ∧ _
              exact ⟨rfl, by repeat' (first | (with_reducible first | exact bwR _ _ | assumption | refine bdn ?_ | refine bwA ?_ ?_ _ | refine bwD ?_ | refine bwS ?_ ?_ _) | omega | (simp <;> omega))⟩
        · have hdz : decide (0 ≤ (L : Int) - 1 - (j : Int)) = false := by simp; omega
          have hdz2 : ¬ (0 ≤ (L : Int) - 1 - (j : Int)) := by omega
          have hfo := hF.done (by have := H_hL.out; omega)
          have hcC := H_hcC.out
          have hvC := H_hvC.out
          rw [hfo] at hcC hvC
          obtain rfl : c = 0 := hcC
          obtain rfl : v = cur := hvC
          clear hfo hF
          ((try go_simp); (repeat go_step))
          ((try go_simp); (repeat go_step))
          first
            | (with_reducible refine bodyPost_ret (res_six _ _ (w.heap.size) _ _ _ _ _ _ _ _ _ _ _ _ ?hp (set12 ?hz _ _ _ _ _ _ _ _ _ _ _ _)) rfl ?_)
            | (with_reducible refine bodyPost_ret (res_six _ _ (w.heap.size) _ _ _ _ _ _ _ _ _ _ _ _ ?hp (set12d ?hz _ _ _ _ _ _ _ _ _ _ _ _)) rfl ?_)
            | (with_reducible refine bodyPost_ret (res_six _ _ (w.heap.size) _ _ _ _ _ _ _ _ _ _ _ _ ?hp (set12a ?hg ?hz _ _ _ _ _ _ _ _ _ _ _ _)) rfl ?_)
            | (with_reducible refine bodyPost_ret (res_six _ _ (w.heap.size) _ _ _ _ _ _ _ _ _ _ _ _ ?hp (set12ad ?hg ?hz _ _ _ _ _ _ _ _ _ _ _ _)) rfl ?_)
          case hp => simp
          case hz => (intro j; exact h0 j)
          try (case hg => (exact z0q))
          show _ ∧ _
          exact ⟨rfl, by repeat' (first | (with_reducible first | exact bwR _ _ | assumption | refine bdn ?_ | refine bwA ?_ ?_ _ | refine bwD ?_ | refine bwS ?_ ?_ _) | omega | (simp <;> omega))⟩
theorem rsixof_any (s : ByteArray) (c : Nat) (v : Mv) (w : World) (hs : s.size ≤ 90000) (hc : moveC s.data.toList = c) (hv : moveV s.data.toList = v) :
    Calls Tryz.prog 16 #[.string s] w fun e w' => e = .returned (.tuple #[.agg #[.int .i64 v.A.n, .int .i64 v.A.d, .int .i64 v.B.n, .int .i64 v.B.d, .int .i64 v.C.n, .int .i64 v.C.d, .int .i64 v.D.n, .int .i64 v.D.d, .int .i64 v.E.n, .int .i64 v.E.d, .int .i64 v.F.n, .int .i64 v.F.d], .int .i64 c]) ∧ Below w.heap.size w w' := by
  rcases tst s [] with ⟨h1, h2⟩ | ⟨h1, h2⟩
  · rw [h2] at hc hv
    have hc' : 0 = c := hc
    have hv' : oneM = v := hv
    subst hc' hv'
    exact rsixof_nil s w h1
  · obtain ⟨k1, k2, k3⟩ := cutL_small 32 s.data.toList
    have hl : s.data.toList.length = s.size := by simp
    exact rsixof_some s _ w h1 (by omega) rfl (fun l hl' => by have := k3 l hl'; omega) (by omega) c v hc hv
end Go.Proofs.YtlhadgnpkooiaaaGreatDoor
