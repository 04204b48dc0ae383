/-
  Walks over package paint: side, centre, Reaches.
-/
import Derived.Test.YtaidgecpglikpaaDoorPn1
import Derived.Test.YtaidgecpglikpaaDoorFa
import Derived.Test.YtaidgecpglikpaaDoorFrac6
import Derived.Test.YtaidgecpglikpaaDoorPa
namespace Lead
open Go Go.RowKit
theorem mk_mid (y : Nat) (h : y < 40) : mkC (2 * (y : Int) + 1) 2 = 0 ∧ lowN (2 * (y : Int) + 1) 2 = 2 * (y : Int) + 1 ∧ lowD (2 * (y : Int) + 1) 2 = 2 ∧ chk (2 * (y : Int) + 1) 2 = 0 := by
  have k : ∀ y : Fin 40, mkC (2 * ((y : Nat) : Int) + 1) 2 = 0 ∧ lowN (2 * ((y : Nat) : Int) + 1) 2 = 2 * ((y : Nat) : Int) + 1 ∧ lowD (2 * ((y : Nat) : Int) + 1) 2 = 2 ∧ chk (2 * ((y : Nat) : Int) + 1) 2 = 0 := by decide +kernel
  exact k ⟨y, h⟩
theorem any_take {α : Type} (f : α → Bool) {l : List α} {k : Nat} (h : k < l.length) : (l.take (k + 1)).any f = ((l.take k).any f || f l[k]) := by
  rw [List.take_succ_eq_append_getElem h, List.any_append]; simp
end Lead
namespace Go.Proofs.YtaidgecpglikpaaDoor
open Go.RowKit Lead

theorem side_any (n : Int) (b : Bool) (w : World) (hb : (decide (1 ≤ n) && decide (n ≤ 40)) = b) :
    Calls Tryd.prog 23 #[.int .i64 n] w fun e w' => e = .returned (.bool b) ∧ Below w.heap.size w w' := by
  subst hb
  by_cases h : 1 ≤ n
  · have h1 : decide (1 ≤ n) = true := decide_eq_true h
    rw [h1]
    go_enter Tryd.func23, Tryd.ntmps23
    go_wp2_with fail
    go_returns
    exact ⟨by simp, Below.refl _ _⟩
  · have h1 : decide (1 ≤ n) = false := decide_eq_false h
    rw [h1]
    go_enter Tryd.func23, Tryd.ntmps23
    go_wp2_with fail
    go_returns
    exact ⟨by simp, Below.refl _ _⟩
theorem centre_any (n : Nat) (w : World) (hn : n ≤ 1000) :
    Calls Tryd.prog 45 #[.int .i64 n] w fun e w' => e = .returned (.agg #[.int .i64 (2 * (n : Int) + 1), .int .i64 2]) ∧ Below w.heap.size w w' := by
  have i1 : IntKind.i64.wrap (2 * (n : Int)) = 2 * (n : Int) := IntWalk.i64_in _ (by omega)
  have i2 : IntKind.i64.wrap (2 * (n : Int) + 1) = 2 * (n : Int) + 1 := IntWalk.i64_in _ (by omega)
  go_enter Tryd.func45, Tryd.ntmps45
  go_wp2_with fail
  refine bodyPost_ret (by simp [results, Tryd.results45, go_sem, *]; try rfl) rfl ?_
  exact ⟨rfl, by repeat' (first | (with_reducible first | exact bwR _ _ | assumption | refine bdn ?_ | refine bwA ?_ ?_ _ | refine bwD ?_ | refine bwS ?_ ?_ _) | omega | (simp <;> omega))⟩
theorem fmake_mid (ea : Nat → Addr) (y : Nat) (w : World) (hy : y < 40) (hBound : w.cell? ⟨0, 0, none⟩ = some (.iface 181 (.pointer (some (ea 2))))) (hZero : w.cell? ⟨10, 0, none⟩ = some (.iface 181 (.pointer (some (ea 11))))) :
    Calls Tryd.prog 35 #[.int .i64 (2 * (y : Int) + 1), .int .i64 2] w fun e w' => e = .returned (.tuple #[.agg #[.int .i64 (2 * (y : Int) + 1), .int .i64 2], .nilIface]) ∧ Below w.heap.size w w' := by
  obtain ⟨m1, m2, m3, _⟩ := mk_mid y hy
  have h := fmake_any ea (2 * (y : Int) + 1) 2 w (by unfold I64; omega) (by unfold I64; decide) hBound hZero
  rw [frV_0 m1, m2, m3] at h
  exact h
theorem fcmp_R (ea : Nat → Addr) (n d n' d' c : Int) (w : World) (h1 : Right n d) (h2 : Right n' d') (hShape : w.cell? ⟨3, 0, none⟩ = some (.iface 181 (.pointer (some (ea 3))))) (hBound : w.cell? ⟨0, 0, none⟩ = some (.iface 181 (.pointer (some (ea 2))))) (hc : cmpI (n * d') (n' * d) = c) :
    Calls Tryd.prog 36 #[.agg #[.int .i64 n, .int .i64 d], .agg #[.int .i64 n', .int .i64 d']] w fun e w' => e = .returned (.tuple #[.int .i64 c, .nilIface]) ∧ Below w.heap.size w w' := by
  have h := fcmp_any ea n d n' d' _ _ w h1.ni h1.di h2.ni h2.di hShape hBound rfl rfl
  rw [cmV_0 (show bothC n d n' d' = 0 from (if_pos (chk_right h1)).trans (chk_right h2)), hc] at h
  exact h
set_option maxHeartbeats 4000000 in
set_option maxRecDepth 100000 in
theorem reach_any (ea : Nat → Addr) (p : Pc) (y : Nat) (b : Bool) (w : World) (hs : SlP w p.oa p.len p.cap p.ps) (hR : ∀ q ∈ p.ps, Right q.yn q.yd) (hy : y < 40) (hShape : w.cell? ⟨3, 0, none⟩ = some (.iface 181 (.pointer (some (ea 3))))) (hBound : w.cell? ⟨0, 0, none⟩ = some (.iface 181 (.pointer (some (ea 2))))) (hZero : w.cell? ⟨10, 0, none⟩ = some (.iface 181 (.pointer (some (ea 11))))) (hb : rcB p.ps (mid y) = b) :
    Calls Tryd.prog 18 #[.agg #[.int .i64 p.node, .slice p.oa p.len p.cap, .string p.fill, .string p.rule, .int .i64 p.level], .int .i64 y] w fun e w' => e = .returned (.bool b) ∧ Below w.heap.size w w' := by
  have zhShape := zlt hShape
  have xhShape := zlts hShape
  have yhShape := zne hShape
  have zhBound := zlt hBound
  have xhBound := zlts hBound
  have yhBound := zne hBound
  have zhZero := zlt hZero
  have xhZero := zlts hZero
  have yhZero := zne hZero
  obtain ⟨node, oa, len, cap, ps, fill, rule, level⟩ := p
  simp only at hs hR hb ⊢
  obtain ⟨hl, hlc, hm, hI, hcase⟩ := hs
  unfold maxLen at hm
  have hmid : Right (2 * (y : Int) + 1) 2 := chk_0 (mk_mid y hy).2.2.2
  have i1 : IntKind.i64.wrap (2 * (y : Int)) = 2 * (y : Int) := IntWalk.i64_in _ (by omega)
  have i2 : IntKind.i64.wrap (2 * (y : Int) + 1) = 2 * (y : Int) + 1 := IntWalk.i64_in _ (by omega)
  have H_hl := Lib.hid hl
  clear hl
  have H_hR := Lib.hid hR
  clear hR
  have H_hb := Lib.hid hb
  clear hb
  have H_hI := Lib.hid hI
  clear hI
  have H_hcase := Lib.hid hcase
  clear hcase
  have H_hmid := Lib.hid hmid
  clear hmid
  go_enter Tryd.func18, Tryd.ntmps18
  go_wp2_with fail
  refine call_bel (w := w) (by repeat' (first | (with_reducible first | exact bwR _ _ | assumption | refine bdn ?_ | refine bwA ?_ ?_ _ | refine bwD ?_ | refine bwS ?_ ?_ _) | omega | (simp <;> omega))) (fun HB => fmake_mid ea y _ hy (gkeep HB hBound rfl) (gkeep HB hZero rfl)) ?_
  intro w1 hb1 hz1 c1 d1 hW1
  have t1 := hb1.size
  try simp only [szA] at hz1 c1 d1
  try simp only [szD] at hz1 c1 d1
  try simp only [szS] at hz1 c1 d1
  try simp only [World.heap_drewN] at hz1 c1 d1
  try simp only [szA] at hz1 c1 d1
  try simp only [szD] at hz1 c1 d1
  try simp only [szS] at hz1 c1 d1
  have s1_0 : w.heap.size < w1.heap.size := by omega
  have o1_0 := fun j => c1 (w.heap.size) j (by omega)
  have f1_0 := fun j => d1 (w.heap.size) j (by omega)
  clear c1 d1 hz1 hW1
  go_wp2_with fail
  obtain ⟨g5, hg5⟩ : ∃ u, w1.heap.size = u := ⟨_, rfl⟩
  obtain ⟨wq, hwq⟩ : ∃ u, w1.alloc (.cells #[.int .i64 (2 * (y : Int) + 1), .int .i64 2] 78) = u := ⟨_, rfl⟩
  have hBq : Below w.heap.size w wq := by rw [← hwq]; exact hb1.alloc t1 _
  have kq : ∀ j, wq.cell? ⟨g5, j, none⟩ = #[Value.int .i64 (2 * (y : Int) + 1), .int .i64 2][j]? := fun j => by rw [← hwq, ← hg5, World.cell?_alloc_new]
  have zq : wq.heap.size = g5 + 1 := by rw [← hwq, ← hg5]; simp
  have l5 : w.heap.size < g5 := by rw [← hg5]; exact s1_0
  rw [hg5, hwq]
  clear o1_0 f1_0 s1_0 hb1 t1 hwq hg5
  clear w1
  go_loopw [7, 8, 26] (fun t7 t8 t26 wr => ∃ (k : Nat) (u o : Bool), k ≤ len ∧ t7 = .bool u ∧ t8 = .bool o ∧ t26 = .int .i64 k ∧ u = (ps.take k).any (fun q => decide (q.yn * (mid y).d ≤ (mid y).n * q.yd)) ∧ o = (ps.take k).any (fun q => decide ((mid y).n * q.yd ≤ q.yn * (mid y).d)) ∧ Below wq.heap.size wq wr) (fun _ _ t26 _ => len - (intOf t26).toNat)
  case atStart => exact ⟨0, false, false, Nat.zero_le _, rfl, rfl, rfl, by simp, by simp, Below.refl _ _⟩
  case round =>
    obtain ⟨k, u, o, hk, rfl, rfl, rfl, hu, ho, hB⟩ := hrel
    have hzr := hB.size
    have hBr : Below w.heap.size w wr := below_via hBq hB
    have zg : g5 < wr.heap.size := by omega
    have r5 := fun j => (hB.cell (p := ⟨g5, j, none⟩) (show g5 < wq.heap.size by omega)).trans (kq j)
    by_cases hlt : k < len
    · have hk' : k < ps.length := by have := H_hl.out; omega
      obtain ⟨b', off, rfl, hbl, hp⟩ : ∃ b off, oa = some ⟨b, off, none⟩ ∧ b < w.heap.size ∧ PtsIn w b off ps := by
        rcases H_hcase.out with ⟨_, h, _⟩ | h
        · omega
        · exact h
      have q0 := gkeep hBr (hp.c0 k hk') rfl
      have q1 := gkeep hBr (hp.c1 k hk') rfl
      have q2 := gkeep hBr (hp.c2 k hk') rfl
      have q3 := gkeep hBr (hp.c3 k hk') rfl
      have hRk := H_hR.out _ (List.getElem_mem hk')
      have hu' := any_take (fun q : Pt => decide (q.yn * (mid y).d ≤ (mid y).n * q.yd)) hk'
      have ho' := any_take (fun q : Pt => decide ((mid y).n * q.yd ≤ q.yn * (mid y).d)) hk'
      rw [← hu] at hu'
      rw [← ho] at ho'
      obtain ⟨q, hq⟩ : ∃ q, ps[k] = q := ⟨_, rfl⟩
      rw [hq] at q0 q1 q2 q3 hRk hu' ho'
      obtain ⟨xn, xd, yn, yd⟩ := q
      simp only [mid] at q0 q1 q2 q3 hRk hu' ho'
      obtain ⟨c, hc⟩ : ∃ c, cmpI (yn * 2) ((2 * (y : Int) + 1) * yd) = c := ⟨_, rfl⟩
      have hcc := cmpI_cases (yn * 2) ((2 * (y : Int) + 1) * yd)
      rw [hc] at hcc
      have zs : w.heap.size < wr.heap.size := by omega
      clear hu ho hp hq
      have H_hc := Lib.hid hc
      clear hc
      have H_hRk := Lib.hid hRk
      clear hRk
      have H_hu' := Lib.hid hu'
      clear hu'
      have H_ho' := Lib.hid ho'
      clear ho'
      have H_hcc := Lib.hid hcc
      clear hcc
      go_wp2_with fail
      refine call_bel (w := w) (by repeat' (first | (with_reducible first | exact bwR _ _ | assumption | refine bdn ?_ | refine bwA ?_ ?_ _ | refine bwD ?_ | refine bwS ?_ ?_ _) | omega | (simp <;> omega))) (fun HB => fcmp_R ea yn yd (2 * (y : Int) + 1) 2 c _ H_hRk.out H_hmid.out (gkeep HB hShape rfl) (gkeep HB hBound rfl) H_hc.out) ?_
      intro w2 hb2 hz2 c2 d2 hW2
      have t2 := hb2.size
      have e2_r : Below wr.heap.size wr w2 := below_via (by repeat' (first | (with_reducible first | exact bwR _ _ | assumption | refine bdn ?_ | refine bwA ?_ ?_ _ | refine bwD ?_ | refine bwS ?_ ?_ _) | omega | (simp <;> omega))) hW2
      have te2_r := e2_r.size
      try simp only [szA] at hz2 c2 d2
      try simp only [szD] at hz2 c2 d2
      try simp only [szS] at hz2 c2 d2
      try simp only [World.heap_drewN] at hz2 c2 d2
      try simp only [szA] at hz2 c2 d2
      try simp only [szD] at hz2 c2 d2
      try simp only [szS] at hz2 c2 d2
      have s2_0 : g5 < w2.heap.size := by omega
      have o2_0 := fun j => c2 (g5) j (by omega)
      have f2_0 := fun j => d2 (g5) j (by omega)
      clear c2 d2 hz2 hW2
      have hB2 : Below wq.heap.size wq w2 := below_via hB e2_r
      have hu2 : ∀ v : Bool, (decide (c ≤ 0) = v) → (ps.take (k + 1)).any (fun q : Pt => decide (q.yn * 2 ≤ (2 * (y : Int) + 1) * q.yd)) = (u || v) := fun v hv => by
        subst hv
        refine Eq.trans H_hu'.out ?_
        congr 1
        rcases H_hcc.out with ⟨h1, h2⟩ | ⟨h1, h2⟩ | ⟨h1, h2⟩
        · rw [h2]; exact decide_eq_decide.2 (by constructor <;> intro _ <;> omega)
        · rw [h2]; exact decide_eq_decide.2 (by constructor <;> intro _ <;> omega)
        · rw [h2]; exact decide_eq_decide.2 (by constructor <;> intro _ <;> omega)
      have ho2 : ∀ v : Bool, (decide (0 ≤ c) = v) → (ps.take (k + 1)).any (fun q : Pt => decide ((2 * (y : Int) + 1) * q.yd ≤ q.yn * 2)) = (o || v) := fun v hv => by
        subst hv
        refine Eq.trans H_ho'.out ?_
        congr 1
        rcases H_hcc.out with ⟨h1, h2⟩ | ⟨h1, h2⟩ | ⟨h1, h2⟩
        · rw [h2]; exact decide_eq_decide.2 (by constructor <;> intro _ <;> omega)
        · rw [h2]; exact decide_eq_decide.2 (by constructor <;> intro _ <;> omega)
        · rw [h2]; exact decide_eq_decide.2 (by constructor <;> intro _ <;> omega)
      have H_hu2 := Lib.hid hu2
      clear hu2
      have H_ho2 := Lib.hid ho2
      clear ho2
      cases u <;> cases o
      all_goals
        go_wp2_with fail
        go_roundw
        case rel => exact ⟨k + 1, _, _, by omega, rfl, rfl, by go_num, (H_hu2.out _ rfl).symm, (H_ho2.out _ rfl).symm, by repeat' (first | (with_reducible first | exact bwR _ _ | assumption | refine bdn ?_ | refine bwA ?_ ?_ _ | refine bwD ?_ | refine bwS ?_ ?_ _) | omega | (simp <;> omega))⟩
        case measure => simp [intOf]; omega
    · have e : ps.take k = ps := List.take_of_length_le (by have := H_hl.out; omega)
      rw [e] at hu ho
      have hb := H_hb.out
      unfold rcB at hb
      rw [← hu, ← ho] at hb
      clear hu ho e
      have H_hb := Lib.hid hb
      clear hb
      cases u <;> cases o
      all_goals
        go_wp2_with fail
        go_returns
        exact ⟨by rw [← H_hb.out]; rfl, by repeat' (first | (with_reducible first | exact bwR _ _ | assumption | refine bdn ?_ | refine bwA ?_ ?_ _ | refine bwD ?_ | refine bwS ?_ ?_ _) | omega | (simp <;> omega))⟩
end Go.Proofs.YtaidgecpglikpaaDoor
