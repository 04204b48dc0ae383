/-
  The law DocNew, walked.
-/
import Derived.Test.YtbcoccgfoionlaaDoorLo0
import Derived.Test.YtbcoccgfoionlaaDoorDo9
import Derived.Test.YtbcoccgfoionlaaDoorDw2
import Derived.Test.YtbcoccgfoionlaaDoorCod
import Derived.Deep.OwnRows
namespace Lead.Dc
open Go Go.RowKit Go.Maps Lead
/-- What lies below, told along the list: the first k told. -/
def gnB (E : Els) (a k : Nat) : Nat → Value := fun j => .bool (decide (j < k) && (below E 10 a).contains j)
theorem gnB_next {E : Els} {a k : Nat} {c : Bool} {w : World} {b : Nat} {t : TypeId} {n : Nat} {f : Nat → Value} (h : w.rowIs b t n f) (hc : (below E 10 a).contains k = c) (h1 : f k = .bool c) (h2 : ∀ j, j ≠ k → f j = gnB E a k j) : w.rowIs b t n (gnB E a (k + 1)) := by
  refine h.congr fun j _ => ?_
  by_cases hj : j = k
  · subst hj
    rw [h1]
    unfold gnB
    rw [hc, decide_eq_true (by omega)]; rfl
  · rw [h2 j hj]
    unfold gnB
    have : decide (j < k) = decide (j < k + 1) := by
      by_cases h : j < k
      · rw [decide_eq_true h, decide_eq_true (by omega)]
      · rw [decide_eq_false h, decide_eq_false (by omega)]
    rw [this]
theorem gone_b {E : Els} {k a : Nat} {e : El} (h : k ∈ below E 10 a ↔ k = a ∨ (0 ≤ e.parent ∧ e.parent.toNat ∈ below E 10 a)) : (below E 10 a).contains k = (decide (k = a) || (decide (0 ≤ e.parent) && (below E 10 a).contains e.parent.toNat)) := by
  rw [Bool.eq_iff_iff]
  simpa using h
theorem name_gone {E : Els} {a p i : Nat} (h : (below E 10 a).contains i = true) : nameZ (removeE E a p) (i : Int) = ⟨#[]⟩ := by
  unfold nameZ
  rw [atZ_nat, removeE_at, if_pos (by simpa using h)]
theorem name_stays {E : Els} {a p i : Nat} {e : El} (he : elAt E i = some e) (h : (below E 10 a).contains i = false) : nameZ (removeE E a p) (i : Int) = e.name := by
  unfold nameZ
  rw [atZ_nat, removeE_at, if_neg (by simpa using h), he]
  split
  · next h1 => split at h1 <;> (injection h1 with h1; rw [← h1])
  · next h1 => split at h1 <;> cases h1
theorem nm_x : nmOk ⟨#[120]⟩ = true := by decide
/-- A child x of the root: there is room, or there is none. -/
theorem addC_x {E : Els} {next : Nat} {d : Nat → Nat} (g : Good E next d) : addC E d 0 0 ⟨#[120]⟩ = 7 ∨ addC E d 0 0 ⟨#[120]⟩ = 0 := by
  obtain ⟨e, he, _⟩ := g.root
  rw [show (0 : Int) = ((0 : Nat) : Int) from rfl, addC_el he, if_neg (by simp), nm_x, if_neg (by simp), g.d0, if_neg (by decide)]
  split
  · exact .inl rfl
  · exact .inr rfl
end Lead.Dc
namespace Go.Proofs.YtbcoccgfoionlaaDoor
open Go.RowKit Go.WideMaps Go.Maps Lead Lead.Dc
theorem dgs_of {ea : Nat → Addr} {w : World} (hS : Sents ea w) : DGs ea w := ⟨hS.c2, hS.c3, hS.c4, hS.c5, hS.c6, hS.c7, hS.c8, hS.c9, hS.c10⟩
theorem infoBo : (Tryd.prog.info? 4).map (fun i => (i.zero, i.size, i.bytes)) = some (some (.bool false), 1, 1) := by kernel_rfl
set_option maxHeartbeats 8000000 in
set_option maxRecDepth 100000 in
theorem lawnew_any (ea : Nat → Addr) (n : NT) (za ze : Int) (w : World) (hn : NodeOk w n) (hza : I64 za) (hze : I64 ze) (hS : Sents ea w) (hG : DGs ea w) :
    Calls Tryd.prog 3 #[.agg n.vals.toArray, .int .i64 za, .int .i64 ze] w fun e w' => e = .returned (.bool true) ∧ Below w.heap.size w w' := by
  obtain ⟨ao, al, ac, ko, kl, kc, hv, _⟩ := hn.attrsAt
  have cD := fun (W : World) (hb : Below w.heap.size w W) => docked_any ea W (hG.keep hb rfl)
  have cF := fun (W : World) (hb : Below w.heap.size w W) => flatsof_any n W (hn.keep hb rfl)
  have cN := fun (W : World) (hb : Below w.heap.size w W) => new_any ea n W (hn.keep hb rfl) (hG.keep hb rfl)
  rw [hv] at cF cN ⊢
  obtain ⟨nk, hnk⟩ : ∃ u, n.name = u := ⟨_, rfl⟩
  obtain ⟨nr, hnr⟩ : ∃ u, n.rt = u := ⟨_, rfl⟩
  rw [hnk] at cF cN ⊢
  rw [hnr] at cN cF
  clear hv hn hnk hnr
  have H_cD := Lib.hid cD
  clear cD
  have H_cF := Lib.hid cF
  clear cF
  have H_cN := Lib.hid cN
  clear cN
  have H_hG := Lib.hid hG
  clear hG
  have H_hS := Lib.hid hS
  clear hS
  have H_hza := Lib.hid hza
  clear hza
  have H_hze := Lib.hid hze
  clear hze
  go_enter Tryd.func3, Tryd.ntmps3
  go_wp2_with fail
  refine (H_cD.out _ (by repeat' (first | (with_reducible first | exact bwR _ _ | assumption | refine bdn ?_ | refine bwA ?_ ?_ _ | refine bwD ?_ | refine bwS ?_ ?_ _) | omega | (simp <;> omega)))).mono ?_
  rintro _ w1 ⟨rfl, hb1⟩
  have hB1 : Below w.heap.size w w1 := below_via (by repeat' (first | (with_reducible first | exact bwR _ _ | assumption | refine bdn ?_ | refine bwA ?_ ?_ _ | refine bwD ?_ | refine bwS ?_ ?_ _) | omega | (simp <;> omega))) hb1
  have k0 : w1.cell? ⟨w.heap.size, 0, none⟩ = some (.string nk) := gkeep hb1 (World.cell?_alloc_new _ _ _ _) (by simp)
  have k1 : w1.cell? ⟨w.heap.size, 1, none⟩ = some (.slice ao al ac) := gkeep hb1 (World.cell?_alloc_new _ _ _ _) (by simp)
  have k2 : w1.cell? ⟨w.heap.size, 2, none⟩ = some (.slice ko kl kc) := gkeep hb1 (World.cell?_alloc_new _ _ _ _) (by simp)
  have z1 : w.heap.size < w1.heap.size := Nat.lt_of_lt_of_le (by simp) hb1.size
  clear hb1
  go_wp2_with fail
  refine (H_cF.out _ (by repeat' (first | (with_reducible first | exact bwR _ _ | assumption | refine bdn ?_ | refine bwA ?_ ?_ _ | refine bwD ?_ | refine bwS ?_ ?_ _) | omega | (simp <;> omega)))).mono ?_
  rintro _ w2 ⟨o2, l2, c2, rfl, hl2, hb2, hfw⟩
  have hfl : l2 = 0 ∨ ∃ xs, SlA EFl w2 o2 l2 c2 xs ∧ xs.map fv = allF nr (-1) 1 0 := hfw.imp id (fun ⟨xs, a1, _, a3⟩ => ⟨xs, a1, a3⟩)
  clear hfw
  have hB2 : Below w.heap.size w w2 := below_via hB1 hb2
  have z2 : w.heap.size < w2.heap.size := Nat.lt_of_lt_of_le z1 hb2.size
  have m0 : w2.cell? ⟨w.heap.size, 0, none⟩ = some (.string nk) := (hb2.cell (p := ⟨w.heap.size, 0, none⟩) z1).trans k0
  have m1 : w2.cell? ⟨w.heap.size, 1, none⟩ = some (.slice ao al ac) := (hb2.cell (p := ⟨w.heap.size, 1, none⟩) z1).trans k1
  have m2 : w2.cell? ⟨w.heap.size, 2, none⟩ = some (.slice ko kl kc) := (hb2.cell (p := ⟨w.heap.size, 2, none⟩) z1).trans k2
  clear hb2 hB1 z1 k0 k1 k2
  clear w1
  by_cases hl0 : l2 = 0
  · subst hl0
    clear hfl
    go_wp2_with fail
    go_returns
    exact ⟨rfl, by repeat' (first | (with_reducible first | exact bwR _ _ | assumption | refine bdn ?_ | refine bwA ?_ ?_ _ | refine bwD ?_ | refine bwS ?_ ?_ _) | omega | (simp <;> omega))⟩
  have hfl2 := hfl.resolve_left hl0
  obtain ⟨xs, hsx, hvals⟩ := hfl2
  have hl0' : ((l2 : Int) == 0) = false := by simp; omega
  clear hfl
  have H_hsx := Lib.hid hsx
  clear hsx
  have H_hvals := Lib.hid hvals
  clear hvals
  by_cases h60 : 60 < l2
  · have g60 : (60 : Int) < (l2 : Int) := by omega
    go_wp2_with fail
    go_returns
    exact ⟨rfl, by repeat' (first | (with_reducible first | exact bwR _ _ | assumption | refine bdn ?_ | refine bwA ?_ ?_ _ | refine bwD ?_ | refine bwS ?_ ?_ _) | omega | (simp <;> omega))⟩
  have g60 : ¬ (60 : Int) < (l2 : Int) := by omega
  by_cases ha0 : za < 0
  · go_wp2_with fail
    go_returns
    exact ⟨rfl, by repeat' (first | (with_reducible first | exact bwR _ _ | assumption | refine bdn ?_ | refine bwA ?_ ?_ _ | refine bwD ?_ | refine bwS ?_ ?_ _) | omega | (simp <;> omega))⟩
  by_cases hal : (l2 : Int) ≤ za
  · go_wp2_with fail
    go_returns
    exact ⟨rfl, by repeat' (first | (with_reducible first | exact bwR _ _ | assumption | refine bdn ?_ | refine bwA ?_ ?_ _ | refine bwD ?_ | refine bwS ?_ ?_ _) | omega | (simp <;> omega))⟩
  by_cases he0 : ze < 0
  · go_wp2_with fail
    go_returns
    exact ⟨rfl, by repeat' (first | (with_reducible first | exact bwR _ _ | assumption | refine bdn ?_ | refine bwA ?_ ?_ _ | refine bwD ?_ | refine bwS ?_ ?_ _) | omega | (simp <;> omega))⟩
  by_cases he20 : 20 < ze
  · go_wp2_with fail
    go_returns
    exact ⟨rfl, by repeat' (first | (with_reducible first | exact bwR _ _ | assumption | refine bdn ?_ | refine bwA ?_ ?_ _ | refine bwD ?_ | refine bwS ?_ ?_ _) | omega | (simp <;> omega))⟩
  go_wp2_with fail
  refine (H_cN.out _ (by repeat' (first | (with_reducible first | exact bwR _ _ | assumption | refine bdn ?_ | refine bwA ?_ ?_ _ | refine bwD ?_ | refine bwS ?_ ?_ _) | omega | (simp <;> omega)))).mono ?_
  rintro en w3 ⟨hb3, hN⟩
  have hB3 : Below w.heap.size w w3 := below_via hB2 hb3
  by_cases hc : (chkN nr 0 1).2 = 0
  case neg =>
    rw [if_neg hc] at hN
    obtain ⟨t', a', rfl, _⟩ := hN
    clear hc
    go_wp2_with fail
    go_returns
    exact ⟨rfl, by repeat' (first | (with_reducible first | exact bwR _ _ | assumption | refine bdn ?_ | refine bwA ?_ ?_ _ | refine bwD ?_ | refine bwS ?_ ?_ _) | omega | (simp <;> omega))⟩
  rw [if_pos hc] at hN
  obtain ⟨bd, F, d, rfl, hF, hD, hcnt⟩ := hN
  obtain ⟨a, rfl⟩ := Int.eq_ofNat_of_zero_le (show 0 ≤ za by omega)
  obtain ⟨x, rfl⟩ := Int.eq_ofNat_of_zero_le (show 0 ≤ ze by omega)
  have hcl : l2 = nr.cnt := by
    have h := congrArg List.length H_hvals.out
    rw [List.length_map, allF_len] at h
    exact H_hsx.out.1.trans h
  have hkeys := tree_keys nr
  have hS0 : LoSt Tryd.prog TT w2.heap.size bd w2 w3 (treeE nr (-1) 0) nr.cnt 0 d F := ⟨hD, hF, by omega, hb3, rfl⟩
  have hpar : ∀ i, i < l2 → ∃ e, elAt (treeE nr (-1) 0) i = some e ∧ (i = 0 → e.parent = -1) ∧ (i ≠ 0 → 0 ≤ e.parent ∧ e.parent < (i : Int)) ∧ e.name.data.toList ≠ [] ∧ ∃ h : i < xs.length, (xs[i]).par = e.parent := by
    intro i hi
    obtain ⟨e, h1, h2, h3, h4⟩ := tree_at nr (i := i) (by omega)
    refine ⟨e, h1, h3, h4, nmOk_ne (treeE_nm nr 0 1 (-1) 0 hc _ (elAt_mem h1)), by have := H_hsx.out.1; omega, ?_⟩
    have hi' : i < xs.length := by have := H_hsx.out.1; omega
    rw [← H_hvals.out, List.getElem?_map, List.getElem?_map, List.getElem?_eq_getElem hi'] at h2
    injection h2
  rw [← hcl] at hkeys hS0
  have hg := hD.good
  rw [← hcl] at hg
  obtain ⟨E, hE⟩ : ∃ u, treeE nr (-1) 0 = u := ⟨_, rfl⟩
  rw [hE] at hkeys hS0 hpar hg
  clear hE hc hF hD hcnt hcl
  obtain ⟨gx, ox, rfl, hgx, hrx⟩ := H_hsx.out.2.2.2.resolve_left (by intro h; have := H_hsx.out.1; rw [h] at this; exact hl0 this)
  have hlx : l2 ≤ 60 := by omega
  have hax : a < l2 := by omega
  have z3 : w.heap.size < w3.heap.size := Nat.lt_of_lt_of_le z2 hb3.size
  have hgx3 : gx < w3.heap.size := Nat.lt_of_lt_of_le hgx hb3.size
  have hgne : ¬ gx = w3.heap.size := by omega
  have hrx3 := hrx.keep hb3 hgx
  obtain ⟨ae, hae, _⟩ := hpar a hax
  have hmk := fun W => run_make_row' (P := Tryd.prog) 34 4 (.bool false) 1 Tryd.underlying34 infoBo rfl .i64 .i64 l2 (by omega) (by omega) W
  clear hrx H_hvals hgx m0 m1 m2 H_cD H_cF H_cN hl0
  have hb3' : Below w2.heap.size w2 w3 := hb3
  clear hb3
  have H_hS0 := Lib.hid hS0
  clear hS0
  have H_hpar := Lib.hid hpar
  clear hpar
  have H_hkeys := Lib.hid hkeys
  clear hkeys
  have H_hg := Lib.hid hg
  clear hg
  have H_hrx3 := Lib.hid hrx3
  clear hrx3
  have H_hae := Lib.hid hae
  clear hae
  have H_hb3' := Lib.hid hb3'
  clear hb3'
  go_wp2_with fail
  go_loopw [12, 13] (fun t12 t13 wr => ∃ k : Nat, k ≤ l2 ∧ t13 = .int .i64 k ∧ t12 = .int .i64 (goneN E a k : Nat) ∧ Below w3.heap.size w3 wr ∧ RowKit.Hid (wr.rowIs w3.heap.size 4 l2 (gnB E a k))) (fun _ t13 _ => l2 - (intOf t13).toNat)
  case atStart => exact ⟨0, Nat.zero_le _, rfl, rfl, by repeat' (first | (with_reducible first | exact bwR _ _ | assumption | refine bdn ?_ | refine bwA ?_ ?_ _ | refine bwD ?_ | refine bwS ?_ ?_ _) | omega | (simp <;> omega)), Lib.hid ((World.rowIs_made w3 (.bool false) l2 4).congr fun j _ => by unfold gnB; rw [decide_eq_false (Nat.not_lt_zero j)]; rfl)⟩
  case round =>
    obtain ⟨k, hk, rfl, rfl, hB, H_R⟩ := hrel
    have hBr : Below w.heap.size w wr := hB3.trans (hB.mono (Nat.le_of_lt z3))
    by_cases hlt : k < l2
    · obtain ⟨e, he, hp0, hp1, _, hk', hxp⟩ := H_hpar.out k hlt
      have q0 : ∀ v, (wr.setCell ⟨w3.heap.size, k, none⟩ v).cell? ⟨gx, ox + k * 4 + 2, none⟩ = some (.int .i64 e.parent) := by
        intro v
        rw [← hxp, (((Below.refl w3.heap.size wr).setCell (p := ⟨w3.heap.size, k, none⟩) (Nat.le_refl _) v).cell (p := ⟨gx, ox + k * 4 + 2, none⟩) hgx3)]
        exact (H_hrx3.out.keep hB hgx3) k hk' 2 _ rfl
      have f0 := fun j => H_R.out.frozen j
      have f1 := fun v j => (H_R.out.set k v).frozen j
      have s2 : ∀ v, (wr.setCell ⟨w3.heap.size, k, none⟩ v).cell? ⟨w3.heap.size, k, none⟩ = some v := fun v => by
        have h := (H_R.out.set k v).cell hlt
        simpa using h
      have s3 : ∀ v u, ((wr.setCell ⟨w3.heap.size, k, none⟩ v).setCell ⟨w3.heap.size, k, none⟩ u).cell? ⟨w3.heap.size, k, none⟩ = some u := fun v u => by
        have h := ((H_R.out.set k v).set k u).cell hlt
        simpa using h
      have hiff := H_hg.out.gone_iff he H_hae.out
      have hcs := goneN_succ E a k
      have hcle := goneN_le E a k
      obtain ⟨G, hG⟩ : ∃ u, goneN E a k = u := ⟨_, rfl⟩
      rw [hG] at hcs hcle
      rw [hG]
      have gw : IntKind.i64.wrap ((G : Int) + 1) = ((G + 1 : Nat) : Int) := IntWalk.i64_in _ (by omega)
      have gk : IntKind.i64.wrap ((k : Int) + 1) = ((k + 1 : Nat) : Int) := IntWalk.i64_in _ (by omega)
      have s0 : wr.cell? ⟨w3.heap.size, k, none⟩ = some (.bool false) := by
        have h := H_R.out.cell hlt
        rw [h]; unfold gnB; rw [decide_eq_false (Nat.lt_irrefl k)]; rfl
      have hgb := gone_b hiff
      clear hxp hiff
      by_cases hpn : e.parent < 0
      · have gp : ¬ (0 : Int) ≤ e.parent := by omega
        rw [decide_eq_false gp, Bool.false_and, Bool.or_false] at hgb
        by_cases hka : k = a
        · have gka : ((k : Int) == (a : Int)) = true := by simp [hka]
          have hc : (below E 10 a).contains k = true := by rw [hgb]; exact decide_eq_true hka
          clear hka
          have H_hcs := Lib.hid hcs
          clear hcs
          have H_he := Lib.hid he
          clear he
          have H_hp0 := Lib.hid hp0
          clear hp0
          have H_hp1 := Lib.hid hp1
          clear hp1
          go_wp2_with fail
          go_roundw
          case rel => exact ⟨k + 1, by omega, by go_num, by rw [H_hcs.out, hc]; simp, by repeat' (first | (with_reducible first | exact bwR _ _ | assumption | refine bdn ?_ | refine bwA ?_ ?_ _ | refine bwD ?_ | refine bwS ?_ ?_ _) | omega | (simp <;> omega)), Lib.hid (gnB_next (H_R.out.set k _) hc (by simp) (fun j hj => by simp [hj]))⟩
          case measure => simp [intOf]; omega
        · have gka : ((k : Int) == (a : Int)) = false := by simp; omega
          have hc : (below E 10 a).contains k = false := by rw [hgb]; exact decide_eq_false hka
          have H_hcs := Lib.hid hcs
          clear hcs
          have H_he := Lib.hid he
          clear he
          have H_hp0 := Lib.hid hp0
          clear hp0
          have H_hp1 := Lib.hid hp1
          clear hp1
          go_wp2_with fail
          go_roundw
          case rel => exact ⟨k + 1, by omega, by go_num, by rw [H_hcs.out, hc]; simp, by repeat' (first | (with_reducible first | exact bwR _ _ | assumption | refine bdn ?_ | refine bwA ?_ ?_ _ | refine bwD ?_ | refine bwS ?_ ?_ _) | omega | (simp <;> omega)), Lib.hid (gnB_next (H_R.out.set k _) hc (by simp) (fun j hj => by simp [hj]))⟩
          case measure => simp [intOf]; omega
      · obtain ⟨p, hp⟩ := Int.eq_ofNat_of_zero_le (show 0 ≤ e.parent by omega)
        have hpk : p < k := by
          by_cases hk0 : k = 0
          · have := hp0 hk0; omega
          · have := (hp1 hk0).2; omega
        have hpl : p < l2 := by omega
        rw [hp, Int.toNat_natCast, decide_eq_true (Int.natCast_nonneg p), Bool.true_and] at hgb
        rw [hp] at q0
        have s1 : ∀ v, (wr.setCell ⟨w3.heap.size, k, none⟩ v).cell? ⟨w3.heap.size, p, none⟩ = some (.bool ((below E 10 a).contains p)) := fun v => by
          have h := (H_R.out.set k v).cell hpl
          rw [h, if_neg (by omega)]; unfold gnB; rw [decide_eq_true hpk]; rfl
        clear hp0 hp1 hpn hp
        obtain ⟨b, hb⟩ : ∃ u, (below E 10 a).contains p = u := ⟨_, rfl⟩
        rw [hb] at s1 hgb
        clear hb
        have H_hcs := Lib.hid hcs
        clear hcs
        have H_he := Lib.hid he
        clear he
        by_cases hka : k = a
        · have gka : ((k : Int) == (a : Int)) = true := by simp [hka]
          have hc : (below E 10 a).contains k = true := by rw [hgb, decide_eq_true hka]; rfl
          clear hgb hka
          cases b
          · go_wp2_with fail
            go_roundw
            case rel => exact ⟨k + 1, by omega, by go_num, by rw [H_hcs.out, hc]; simp, by repeat' (first | (with_reducible first | exact bwR _ _ | assumption | refine bdn ?_ | refine bwA ?_ ?_ _ | refine bwD ?_ | refine bwS ?_ ?_ _) | omega | (simp <;> omega)), Lib.hid (gnB_next (H_R.out.set k _) hc (by simp) (fun j hj => by simp [hj]))⟩
            case measure => simp [intOf]; omega
          · go_wp2_with fail
            go_roundw
            case rel => exact ⟨k + 1, by omega, by go_num, by rw [H_hcs.out, hc]; simp, by repeat' (first | (with_reducible first | exact bwR _ _ | assumption | refine bdn ?_ | refine bwA ?_ ?_ _ | refine bwD ?_ | refine bwS ?_ ?_ _) | omega | (simp <;> omega)), Lib.hid (gnB_next ((H_R.out.set k _).set k _) hc (by simp) (fun j hj => by simp [hj]))⟩
            case measure => simp [intOf]; omega
        · have gka : ((k : Int) == (a : Int)) = false := by simp; omega
          have hc : (below E 10 a).contains k = b := by rw [hgb, decide_eq_false hka]; rfl
          clear hgb
          cases b
          · go_wp2_with fail
            go_roundw
            case rel => exact ⟨k + 1, by omega, by go_num, by rw [H_hcs.out, hc]; simp, by repeat' (first | (with_reducible first | exact bwR _ _ | assumption | refine bdn ?_ | refine bwA ?_ ?_ _ | refine bwD ?_ | refine bwS ?_ ?_ _) | omega | (simp <;> omega)), Lib.hid (gnB_next (H_R.out.set k _) hc (by simp) (fun j hj => by simp [hj]))⟩
            case measure => simp [intOf]; omega
          · go_wp2_with fail
            go_roundw
            case rel => exact ⟨k + 1, by omega, by go_num, by rw [H_hcs.out, hc]; simp, by repeat' (first | (with_reducible first | exact bwR _ _ | assumption | refine bdn ?_ | refine bwA ?_ ?_ _ | refine bwD ?_ | refine bwS ?_ ?_ _) | omega | (simp <;> omega)), Lib.hid (gnB_next ((H_R.out.set k _).set k _) hc (by simp) (fun j hj => by simp [hj]))⟩
            case measure => simp [intOf]; omega
    · obtain rfl : l2 = k := by omega
      have hS1 := H_hS0.out.keep hB
      have hRm := rem_any ea bd l2 (a : Int) F E d wr hS1.dok (H_hG.out.keep hBr rfl) H_hza.out
      have hFg : ¬ F w3.heap.size := fun h => absurd (H_hS0.out.dok.lt h) (Nat.lt_irrefl _)
      have hRC : remC E (a : Int) = if a = 0 then 3 else 0 := remC_el H_hae.out
      have hEl : E.length = l2 := by
        have h := congrArg List.length H_hkeys.out
        simpa using h
      have hGl := goneN_le E a l2
      have hcnt := removeE_cnt (a := a) (parZ E (a : Int)).toNat H_hkeys.out
      obtain ⟨G, hG0⟩ : ∃ u, goneN E a l2 = u := ⟨_, rfl⟩
      rw [hG0] at hGl hcnt
      rw [hG0]
      clear hG0 H_hkeys H_hS0 H_hsx H_hrx3 H_hb3' H_hg hmk
      have H_hS1 := Lib.hid hS1
      clear hS1
      have H_hRm := Lib.hid hRm
      clear hRm
      have H_hFg := Lib.hid hFg
      clear hFg
      have H_hRC := Lib.hid hRC
      clear hRC
      have H_hEl := Lib.hid hEl
      clear hEl
      have H_hcnt := Lib.hid hcnt
      clear hcnt
      go_wp2_with fail
      refine H_hRm.out.mono ?_
      rintro en w4 hRM
      unfold RemIs at hRM
      rw [H_hRC.out] at hRM
      by_cases ha00 : a = 0
      · have gz : ((a : Int) == 0) = true := by simp [ha00]
        rw [if_pos ha00, if_neg (by decide)] at hRM
        clear ha00
        obtain ⟨rfl, hSt⟩ := hRM
        obtain ⟨F4, hS4, _, _⟩ := H_hS1.out.turn (Below.refl _ _) hSt
        have hB4 : Below w.heap.size w w4 := hB2.trans (hS4.bel.mono (Nat.le_of_lt z2))
        have cC : Calls Tryd.prog 10 #[.iface 168 (.pointer (some (ea 3))), .int .i64 3] w4 fun e w' => e = .returned (.bool true) ∧ Below w4.heap.size w4 w' := coded1_s ea 3 w4 (by decide) (by decide) (H_hS.out.keep hB4 rfl)
        have cN := fun (W : World) (hb : Below w4.heap.size w4 W) => count_any bd l2 F4 E d W (hS4.dok.keep hb)
        rw [H_hEl.out] at cN
        clear hSt hS4
        have H_cC := Lib.hid cC
        clear cC
        have H_cN := Lib.hid cN
        clear cN
        go_wp2_with fail
        refine H_cC.out.mono ?_
        rintro _ w5 ⟨rfl, hb5⟩
        have hB5 : Below w.heap.size w w5 := below_via hB4 hb5
        go_wp2_with fail
        refine (H_cN.out _ (by repeat' (first | (with_reducible first | exact bwR _ _ | assumption | refine bdn ?_ | refine bwA ?_ ?_ _ | refine bwD ?_ | refine bwS ?_ ?_ _) | omega | (simp <;> omega)))).mono ?_
        rintro _ w6 ⟨rfl, hb6⟩
        have hB6 : Below w.heap.size w w6 := below_via hB5 hb6
        clear hb5 hb6
        go_wp2_with fail
        go_returns
        exact ⟨rfl, by repeat' (first | (with_reducible first | exact bwR _ _ | assumption | refine bdn ?_ | refine bwA ?_ ?_ _ | refine bwD ?_ | refine bwS ?_ ?_ _) | omega | (simp <;> omega))⟩
      · have gz : ((a : Int) == 0) = false := by simp; omega
        rw [if_neg ha00, if_pos rfl, Int.toNat_natCast] at hRM
        clear ha00
        obtain ⟨rfl, hSt⟩ := hRM
        obtain ⟨F4, hS4, _, hT4⟩ := H_hS1.out.turn (Below.refl _ _) hSt
        have hB4 : Below w.heap.size w w4 := hB2.trans (hS4.bel.mono (Nat.le_of_lt z2))
        have hR4 := H_R.out.of_block (hT4.block _ H_R.out.lt H_hFg.out)
        have hnm : ∀ i, i < l2 → ((below E 10 a).contains i = true → nameZ (removeE E a (parZ E (a : Int)).toNat) (i : Int) = ⟨#[]⟩) ∧ ((below E 10 a).contains i = false → (nameZ (removeE E a (parZ E (a : Int)).toNat) (i : Int)).data.toList ≠ []) := fun i hi => by
          obtain ⟨e, he, _, _, h5, _⟩ := H_hpar.out i hi
          exact ⟨name_gone, fun h => by rw [name_stays he h]; exact h5⟩
        have hcn : (((removeE E a (parZ E (a : Int)).toNat).length : Nat) : Int) = (l2 : Int) - (G : Int) := by have := H_hcnt.out; omega
        have gsub : IntKind.i64.wrap ((l2 : Int) - (G : Int)) = (l2 : Int) - (G : Int) := IntWalk.i64_in _ (by omega)
        obtain ⟨E4, hE4⟩ : ∃ u, removeE E a (parZ E (a : Int)).toNat = u := ⟨_, rfl⟩
        rw [hE4] at hnm hcn hS4
        clear hE4 hSt hT4 H_hcnt H_hRC H_hRm H_hS1 H_R H_hpar H_hEl H_hae
        have cN := fun (W : World) (hb : Below w4.heap.size w4 W) => count_any bd l2 F4 E4 d W (hS4.dok.keep hb)
        rw [hcn] at cN
        clear hcn
        have H_cN := Lib.hid cN
        clear cN
        have H_hS4 := Lib.hid hS4
        clear hS4
        have H_hR4 := Lib.hid hR4
        clear hR4
        have H_hnm := Lib.hid hnm
        clear hnm
        go_wp2_with fail
        refine (H_cN.out _ (by repeat' (first | (with_reducible first | exact bwR _ _ | assumption | refine bdn ?_ | refine bwA ?_ ?_ _ | refine bwD ?_ | refine bwS ?_ ?_ _) | omega | (simp <;> omega)))).mono ?_
        rintro _ w5 ⟨rfl, hb5⟩
        have hB5 : Below w.heap.size w w5 := below_via hB4 hb5
        have hS5 := H_hS4.out.keep hb5
        have hR5 := H_hR4.out.of_block (hb5.block _ H_hR4.out.lt)
        clear hB hBr H_hFg H_cN hb5 H_hR4 H_hS4 hB4
        clear w4
        obtain ⟨wo, rfl⟩ : ∃ u, u = wr := ⟨_, rfl⟩
        have z5 : w2.heap.size ≤ w5.heap.size := hS5.bel.size
        have H_hS5 := Lib.hid hS5
        clear hS5
        have H_hR5 := Lib.hid hR5
        clear hR5
        go_wp2_with fail
        go_loopw [14] (fun t14 wr => ∃ k : Nat, k ≤ l2 ∧ t14 = .int .i64 k ∧ Below w5.heap.size w5 wr) (fun t14 _ => l2 - (intOf t14).toNat)
        case atStart => exact ⟨0, Nat.zero_le _, rfl, by repeat' (first | (with_reducible first | exact bwR _ _ | assumption | refine bdn ?_ | refine bwA ?_ ?_ _ | refine bwD ?_ | refine bwS ?_ ?_ _) | omega | (simp <;> omega))⟩
        case round =>
          obtain ⟨k, hk, rfl, hB⟩ := hrel
          have hBr : Below w.heap.size w wr := hB5.trans (hB.mono (by omega))
          by_cases hlt : k < l2
          · obtain ⟨n0, n1⟩ := H_hnm.out k hlt
            have cM := fun (W : World) (hb : Below wr.heap.size wr W) => name_any bd l2 (k : Int) F4 E4 d W ((H_hS5.out.dok.keep hB).keep hb) (i64_nat (by omega))
            have r0 : wr.cell? ⟨w3.heap.size, k, none⟩ = some (.bool ((below E 10 a).contains k)) := by
              have h := (H_hR5.out.of_block (hB.block _ H_hR5.out.lt)).cell hlt
              rw [h]; unfold gnB; rw [decide_eq_true hlt]; rfl
            obtain ⟨nm, hnmE⟩ : ∃ u, nameZ E4 (k : Int) = u := ⟨_, rfl⟩
            obtain ⟨b, hb⟩ : ∃ u, (below E 10 a).contains k = u := ⟨_, rfl⟩
            rw [hnmE] at n0 n1 cM
            rw [hb] at n0 n1 r0
            clear hnmE hb
            have H_cM := Lib.hid cM
            clear cM
            have gk : IntKind.i64.wrap ((k : Int) + 1) = ((k + 1 : Nat) : Int) := IntWalk.i64_in _ (by omega)
            cases b
            · have n2 := n1 rfl
              clear n0 n1
              have hne : (nm.toList == []) = false := by rw [ByteArray.toList_eq]; simpa using n2
              have H_n2 := Lib.hid n2
              clear n2
              go_wp2_with fail
              refine (H_cM.out _ (by repeat' (first | (with_reducible first | exact bwR _ _ | assumption | refine bdn ?_ | refine bwA ?_ ?_ _ | refine bwD ?_ | refine bwS ?_ ?_ _) | omega | (simp <;> omega)))).mono ?_
              rintro _ w6 ⟨rfl, hb6⟩
              have hB6 : Below w5.heap.size w5 w6 := below_via hB hb6
              have r1 : w6.cell? ⟨w3.heap.size, k, none⟩ = some (.bool false) := gkeep hb6 r0 rfl
              clear hb6 r0
              go_wp2_with fail
              go_roundw
              case rel => exact ⟨k + 1, by omega, by go_num, by repeat' (first | (with_reducible first | exact bwR _ _ | assumption | refine bdn ?_ | refine bwA ?_ ?_ _ | refine bwD ?_ | refine bwS ?_ ?_ _) | omega | (simp <;> omega))⟩
              case measure => simp [intOf]; omega
            · have n2 := n0 rfl
              subst n2
              clear n0 n1
              go_wp2_with fail
              refine (H_cM.out _ (by repeat' (first | (with_reducible first | exact bwR _ _ | assumption | refine bdn ?_ | refine bwA ?_ ?_ _ | refine bwD ?_ | refine bwS ?_ ?_ _) | omega | (simp <;> omega)))).mono ?_
              rintro _ w6 ⟨rfl, hb6⟩
              have hB6 : Below w5.heap.size w5 w6 := below_via hB hb6
              have r1 : w6.cell? ⟨w3.heap.size, k, none⟩ = some (.bool true) := gkeep hb6 r0 rfl
              clear hb6 r0
              go_wp2_with fail
              go_roundw
              case rel => exact ⟨k + 1, by omega, by go_num, by repeat' (first | (with_reducible first | exact bwR _ _ | assumption | refine bdn ?_ | refine bwA ?_ ?_ _ | refine bwD ?_ | refine bwS ?_ ?_ _) | omega | (simp <;> omega))⟩
              case measure => simp [intOf]; omega
          · obtain rfl : l2 = k := by omega
            have hS6 := H_hS5.out.keep hB
            clear H_hS5 H_hR5 hB H_hnm
            obtain ⟨w7, rfl⟩ : ∃ u, u = wr := ⟨_, rfl⟩
            have H_hS6 := Lib.hid hS6
            clear hS6
            go_wp2_with fail
            go_loopw [16] (fun t16 wr => ∃ (k m : Nat) (E : Els) (d : Nat → Nat) (F : Nat → Prop), k ≤ x ∧ t16 = .int .i64 k ∧ RowKit.Hid (LoSt Tryd.prog TT w2.heap.size bd w2 wr E (l2 + k) m d F)) (fun t16 _ => x - (intOf t16).toNat)
            case atStart => exact ⟨0, _, _, _, _, Nat.zero_le _, rfl, H_hS6⟩
            case round =>
              obtain ⟨k, m, E, d, F, hk, rfl, H_S⟩ := hrel
              have hBr : Below w.heap.size w wr := hB2.trans (H_S.out.bel.mono (Nat.le_of_lt z2))
              by_cases hlt : k < x
              · have cA := fun (W : World) (hb : Below wr.heap.size wr W) => add_any ea bd (l2 + k) 0 0 ⟨#[120]⟩ F E d W (H_S.out.dok.keep hb) (H_hG.out.keep (below_via hBr hb) rfl) (by omega) (by unfold I64; omega) (by unfold I64; omega)
                have gsum : IntKind.i64.wrap ((l2 : Int) + (k : Int)) = ((l2 + k : Nat) : Int) := IntWalk.i64_in _ (by omega)
                have gk : IntKind.i64.wrap ((k : Int) + 1) = ((k + 1 : Nat) : Int) := IntWalk.i64_in _ (by omega)
                have H_cA := Lib.hid cA
                clear cA
                go_wp2_with fail
                refine (H_cA.out _ (by repeat' (first | (with_reducible first | exact bwR _ _ | assumption | refine bdn ?_ | refine bwA ?_ ?_ _ | refine bwD ?_ | refine bwS ?_ ?_ _) | omega | (simp <;> omega)))).mono ?_
                rintro en w8 hA
                unfold AddIs at hA
                rcases addC_x H_S.out.dok.good with h7 | h0
                · rw [h7, if_neg (by decide)] at hA
                  obtain ⟨rfl, hSt⟩ := hA
                  obtain ⟨F8, hS8, _, _⟩ := H_S.out.turn (Below.refl _ _) hSt
                  have hB8 : Below w.heap.size w w8 := hB2.trans (hS8.bel.mono (Nat.le_of_lt z2))
                  have cC : Calls Tryd.prog 10 #[.iface 168 (.pointer (some (ea 7))), .int .i64 7] w8 fun e w' => e = .returned (.bool true) ∧ Below w8.heap.size w8 w' := coded1_s ea 7 w8 (by decide) (by decide) (H_hS.out.keep hB8 rfl)
                  clear hS8 hSt h7
                  have H_cC := Lib.hid cC
                  clear cC
                  go_wp2_with fail
                  refine H_cC.out.mono ?_
                  rintro _ w9 ⟨rfl, hb9⟩
                  have hB9 : Below w.heap.size w w9 := below_via hB8 hb9
                  clear hb9
                  go_wp2_with fail
                  go_returns
                  exact ⟨rfl, by repeat' (first | (with_reducible first | exact bwR _ _ | assumption | refine bdn ?_ | refine bwA ?_ ?_ _ | refine bwD ?_ | refine bwS ?_ ?_ _) | omega | (simp <;> omega))⟩
                · rw [h0, if_pos rfl] at hA
                  obtain ⟨rfl, hSt⟩ := hA
                  obtain ⟨F8, hS8⟩ := H_S.out.next (Below.refl _ _) hSt (Nat.le_refl _)
                  have hB8 : Below w.heap.size w w8 := hB2.trans (hS8.bel.mono (Nat.le_of_lt z2))
                  clear hSt h0
                  have H_hS8 := Lib.hid hS8
                  clear hS8
                  go_wp2_with fail
                  go_roundw
                  case rel => exact ⟨k + 1, _, _, _, _, by omega, by go_num, H_hS8⟩
                  case measure => simp [intOf]; omega
              · obtain rfl : x = k := by omega
                go_wp2_with fail
                go_returns
                exact ⟨rfl, by repeat' (first | (with_reducible first | exact bwR _ _ | assumption | refine bdn ?_ | refine bwA ?_ ?_ _ | refine bwD ?_ | refine bwS ?_ ?_ _) | omega | (simp <;> omega))⟩
end Go.Proofs.YtbcoccgfoionlaaDoor
