/-
  Walks over the statements' helper AlikeFlats: are flats alike, but for how deep they lie?
-/
import Derived.Test.YtndlmmpheecleaaGreatDoorFz
namespace Lead.Dc
open Go Go.RowKit Lead
def fk3 (x : FlX) : ByteArray × List (ByteArray × ByteArray) × Int := (x.nm, x.ats, x.par)
theorem fk3_map {xs ys : List FlX} (hl : xs.length = ys.length) (h : ∀ j (h1 : j < xs.length) (h2 : j < ys.length), fk3 xs[j] = fk3 ys[j]) : xs.map fk3 = ys.map fk3 :=
  List.ext_getElem (by rw [List.length_map, List.length_map, hl]) fun j h1 h2 => by
    rw [List.length_map] at h1 h2
    rw [List.getElem_map, List.getElem_map]; exact h j h1 h2
theorem fk3_not {xs ys : List FlX} {j : Nat} (h1 : j < xs.length) (h2 : j < ys.length) (h : fk3 xs[j] ≠ fk3 ys[j]) : ¬ xs.map fk3 = ys.map fk3 := fun e => by
  have h3 : (xs.map fk3)[j]? = (ys.map fk3)[j]? := by rw [e]
  rw [List.getElem?_map, List.getElem?_map, List.getElem?_eq_getElem h1, List.getElem?_eq_getElem h2] at h3
  injection h3 with h3
  exact h h3
theorem ba_eqD (a b : ByteArray) : (a.toList == b.toList) = decide (a = b) := by
  rw [ByteArray.toList_eq, ByteArray.toList_eq, Bool.eq_iff_iff, beq_iff_eq, decide_eq_true_eq]
  exact ⟨fun h => ByteArray.ext (Array.ext' h), fun h => by rw [h]⟩
end Lead.Dc
namespace Go.Proofs.YtndlmmpheecleaaGreatDoor
open Go.RowKit Lead Lead.Dc
set_option maxHeartbeats 4000000 in
set_option maxRecDepth 100000 in
theorem alike_any (oa ob : Option Addr) (la lb ca cb : Nat) (xs ys : List FlX) (w : World) (hA : SlA EFl w oa la ca xs) (hB : SlA EFl w ob lb cb ys) (hxa : ∀ x ∈ xs, SlA EAt w x.ao x.al x.ac x.ats) (hya : ∀ x ∈ ys, SlA EAt w x.ao x.al x.ac x.ats) :
    Calls Tryz.prog 103 #[.slice oa la ca, .slice ob lb cb] w fun en w' => en = .returned (.int .i64 (if xs.map fk3 = ys.map fk3 then 1 else 0)) ∧ Below w.heap.size w w' := by
  have hl1 := hA.1
  have hl2 := hB.1
  obtain ⟨R, hR⟩ : ∃ u : Int, (if xs.map fk3 = ys.map fk3 then 1 else 0) = u := ⟨_, rfl⟩
  rw [hR]
  by_cases hll : la = lb
  case neg =>
    have hno : R = 0 := by rw [← hR, if_neg (fun e => hll (by have := congrArg List.length e; rw [List.length_map, List.length_map] at this; omega))]
    have gl : ((la : Int) != (lb : Int)) = true := by rw [bne_iff_ne]; omega
    have H_hA := Lib.hid hA
    clear hA
    have H_hB := Lib.hid hB
    clear hB
    have H_hxa := Lib.hid hxa
    clear hxa
    have H_hya := Lib.hid hya
    clear hya
    have H_hR := Lib.hid hR
    clear hR
    have H_hno := Lib.hid hno
    clear hno
    have H_hl1 := Lib.hid hl1
    clear hl1
    have H_hl2 := Lib.hid hl2
    clear hl2
    have H_hll := Lib.hid hll
    clear hll
    go_enter Tryz.func103, Tryz.ntmps103
    go_wp2_with fail
    go_returns
    exact ⟨congrArg (fun t => Ending.returned (.int .i64 t)) H_hno.out.symm, Below.refl _ _⟩
  subst hll
  have hm : la ≤ 9223372036854775807 := by have h := hA.2.2.1; have h' := hA.2.1; unfold maxLen at h; omega
  have gl : ((la : Int) != (la : Int)) = false := bne_self_eq_false _
  have H_hA := Lib.hid hA
  clear hA
  have H_hB := Lib.hid hB
  clear hB
  have H_hxa := Lib.hid hxa
  clear hxa
  have H_hya := Lib.hid hya
  clear hya
  have H_hR := Lib.hid hR
  clear hR
  have H_hl1 := Lib.hid hl1
  clear hl1
  have H_hl2 := Lib.hid hl2
  clear hl2
  go_enter Tryz.func103, Tryz.ntmps103
  go_wp2_with fail
  go_loopw [5, 6] (fun t5 _ wr => ∃ i : Nat, i ≤ la ∧ t5 = .int .i64 i ∧ RowKit.Hid (∀ j (h1 : j < xs.length) (h2 : j < ys.length), j < i → fk3 xs[j] = fk3 ys[j]) ∧ Below w.heap.size w wr) (fun t5 _ _ => la - (intOf t5).toNat)
  case atStart => exact ⟨0, Nat.zero_le _, rfl, Lib.hid (fun _ _ _ h => by omega), Below.refl _ _⟩
  case round =>
    obtain ⟨i, hi, rfl, H_e, hBr⟩ := hrel
    by_cases hlt : i < la
    · have hx1 : i < xs.length := by have := H_hl1.out; omega
      have hy1 : i < ys.length := by have := H_hl2.out; omega
      obtain ⟨ga, offa, rfl, hga, hra⟩ := H_hA.out.2.2.2.resolve_left (by intro h; rw [h] at hx1; simp at hx1)
      obtain ⟨gb, offb, rfl, hgb, hrb⟩ := H_hB.out.2.2.2.resolve_left (by intro h; rw [h] at hy1; simp at hy1)
      have hca := fun (W : World) (hW : Below w.heap.size w W) (q : Nat) (v : Value) (hq : (EFl.enc xs[i])[q]? = some v) => (hra.keep hW hga) i hx1 q v hq
      have hcb := fun (W : World) (hW : Below w.heap.size w W) (q : Nat) (v : Value) (hq : (EFl.enc ys[i])[q]? = some v) => (hrb.keep hW hgb) i hy1 q v hq
      have hxs := H_hxa.out _ (List.getElem_mem hx1)
      have hys := H_hya.out _ (List.getElem_mem hy1)
      have hno0 := fk3_not hx1 hy1
      have heq0 : ∀ j (h1 : j < xs.length) (h2 : j < ys.length), fk3 xs[i] = fk3 ys[i] → j < i + 1 → fk3 xs[j] = fk3 ys[j] := fun j h1 h2 he hj => by
        by_cases e : j = i
        · subst e; exact he
        · exact H_e.out j h1 h2 (by omega)
      obtain ⟨x, hx⟩ : ∃ x, xs[i] = x := ⟨_, rfl⟩
      obtain ⟨y, hy⟩ : ∃ x, ys[i] = x := ⟨_, rfl⟩
      rw [hx] at hca hxs
      rw [hy] at hcb hys
      simp only [hx, hy] at hno0 heq0
      obtain ⟨xn, xo, xl, xc, xt, xp, xd⟩ := x
      obtain ⟨yn, yo, yl, yc, yt, yp, yd⟩ := y
      have hcq : ∀ W, Below w.heap.size w W → W.cell? ⟨ga, offa + i * 4, none⟩ = some (.string xn) ∧ W.cell? ⟨ga, offa + i * 4 + 1, none⟩ = some (.slice xo xl xc) ∧ W.cell? ⟨ga, offa + i * 4 + 2, none⟩ = some (.int .i64 xp) ∧ W.cell? ⟨gb, offb + i * 4, none⟩ = some (.string yn) ∧ W.cell? ⟨gb, offb + i * 4 + 1, none⟩ = some (.slice yo yl yc) ∧ W.cell? ⟨gb, offb + i * 4 + 2, none⟩ = some (.int .i64 yp) := fun W hW =>
        ⟨hca W hW 0 _ rfl, hca W hW 1 _ rfl, hca W hW 2 _ rfl, hcb W hW 0 _ rfl, hcb W hW 1 _ rfl, hcb W hW 2 _ rfl⟩
      obtain ⟨a0, a1, a2, b0, b1, b2⟩ := hcq wr hBr
      have hxs : SlA EAt w xo xl xc xt := hxs
      have hys : SlA EAt w yo yl yc yt := hys
      have hxl : xl = xt.length := hxs.1
      have hyl : yl = yt.length := hys.1
      have gi : IntKind.i64.wrap ((i : Int) + 1) = ((i + 1 : Nat) : Int) := IntWalk.i64_in _ (by omega)
      have gia : (i : Int) < (la : Int) := by omega
      have hxm : xl ≤ 9223372036854775807 := by have h := hxs.2.2.1; have h' := hxs.2.1; unfold maxLen at h; omega
      clear hca hcb hra hrb
      have e1 : (xn.toList != yn.toList) = !(xn.toList == yn.toList) := rfl
      rw [ba_eqD] at e1
      have e2 : (xn.toList == yn.toList) = decide (xn = yn) := ba_eqD xn yn
      by_cases hn : xn = yn
      case neg =>
        have hno : R = 0 := by rw [← H_hR.out, if_neg (hno0 (fun e => hn (congrArg Prod.fst e)))]
        rw [decide_eq_false hn] at e1 e2
        have H_hno0 := Lib.hid hno0
        clear hno0
        have H_heq0 := Lib.hid heq0
        clear heq0
        have H_hx := Lib.hid hx
        clear hx
        have H_hy := Lib.hid hy
        clear hy
        have H_hcq := Lib.hid hcq
        clear hcq
        have H_hxs := Lib.hid hxs
        clear hxs
        have H_hys := Lib.hid hys
        clear hys
        have H_hno := Lib.hid hno
        clear hno
        have H_hn := Lib.hid hn
        clear hn
        have H_hxl := Lib.hid hxl
        clear hxl
        have H_hyl := Lib.hid hyl
        clear hyl
        go_wp2_with fail
        go_region
        all_goals
          go_wp2_with fail
          go_returns
          exact ⟨congrArg (fun t => Ending.returned (.int .i64 t)) H_hno.out.symm, by first | exact hBr | exact hBr.drew⟩
      rw [decide_eq_true hn] at e1 e2
      by_cases hp : xp = yp
      case neg =>
        have hno : R = 0 := by rw [← H_hR.out, if_neg (hno0 (fun e => hp (congrArg (fun t => t.2.2) e)))]
        have e3 : (xp != yp) = true := by rw [bne_iff_ne]; exact hp
        have e4 : (xp == yp) = false := by rw [beq_eq_false_iff_ne]; exact hp
        have H_hno0 := Lib.hid hno0
        clear hno0
        have H_heq0 := Lib.hid heq0
        clear heq0
        have H_hx := Lib.hid hx
        clear hx
        have H_hy := Lib.hid hy
        clear hy
        have H_hcq := Lib.hid hcq
        clear hcq
        have H_hxs := Lib.hid hxs
        clear hxs
        have H_hys := Lib.hid hys
        clear hys
        have H_hno := Lib.hid hno
        clear hno
        have H_hn := Lib.hid hn
        clear hn
        have H_hp := Lib.hid hp
        clear hp
        have H_hxl := Lib.hid hxl
        clear hxl
        have H_hyl := Lib.hid hyl
        clear hyl
        go_wp2_with fail
        go_region
        all_goals
          go_wp2_with fail
          go_returns
          exact ⟨congrArg (fun t => Ending.returned (.int .i64 t)) H_hno.out.symm, by first | exact hBr | exact hBr.drew⟩
      by_cases hl : xl = yl
      case neg =>
        have hno : R = 0 := by rw [← H_hR.out, if_neg (hno0 (fun e => hl (by rw [hxl, hyl]; exact congrArg (fun t => t.2.1.length) e)))]
        have e3 : (xp != yp) = false := by rw [hp]; exact bne_self_eq_false _
        have e4 : (xp == yp) = true := by rw [hp]; exact beq_self_eq_true _
        have e5 : ((xl : Int) != (yl : Int)) = true := by rw [bne_iff_ne]; omega
        have e6 : ((xl : Int) == (yl : Int)) = false := by rw [beq_eq_false_iff_ne]; omega
        have H_hno0 := Lib.hid hno0
        clear hno0
        have H_heq0 := Lib.hid heq0
        clear heq0
        have H_hx := Lib.hid hx
        clear hx
        have H_hy := Lib.hid hy
        clear hy
        have H_hcq := Lib.hid hcq
        clear hcq
        have H_hxs := Lib.hid hxs
        clear hxs
        have H_hys := Lib.hid hys
        clear hys
        have H_hno := Lib.hid hno
        clear hno
        have H_hn := Lib.hid hn
        clear hn
        have H_hp := Lib.hid hp
        clear hp
        have H_hxl := Lib.hid hxl
        clear hxl
        have H_hyl := Lib.hid hyl
        clear hyl
        have H_hl := Lib.hid hl
        clear hl
        go_wp2_with fail
        go_region
        all_goals
          go_wp2_with fail
          go_returns
          exact ⟨congrArg (fun t => Ending.returned (.int .i64 t)) H_hno.out.symm, by first | exact hBr | exact hBr.drew⟩
      subst hn hp hl
      have e3 : (xp != xp) = false := bne_self_eq_false _
      have e5 : ((xl : Int) != (xl : Int)) = false := bne_self_eq_false _
      clear e2
      have H_hno0 := Lib.hid hno0
      clear hno0
      have H_heq0 := Lib.hid heq0
      clear heq0
      have H_hx := Lib.hid hx
      clear hx
      have H_hy := Lib.hid hy
      clear hy
      have H_hcq := Lib.hid hcq
      clear hcq
      have H_hxs := Lib.hid hxs
      clear hxs
      have H_hys := Lib.hid hys
      clear hys
      have H_hxl := Lib.hid hxl
      clear hxl
      have H_hyl := Lib.hid hyl
      clear hyl
      go_wp2_with fail
      go_region
      all_goals
        have hBd : Below w.heap.size w wr.drew := hBr.drew
        go_wp2_with fail
        obtain ⟨wo, hwo⟩ : ∃ wo, wo = wr := ⟨_, rfl⟩
        go_loopw [6] (fun t6 wr => ∃ k : Nat, k ≤ xl ∧ t6 = .int .i64 k ∧ RowKit.Hid (∀ j (h1 : j < xt.length) (h2 : j < yt.length), j < k → xt[j] = yt[j]) ∧ Below w.heap.size w wr) (fun t6 _ => xl - (intOf t6).toNat)
        case atStart => exact ⟨0, Nat.zero_le _, rfl, Lib.hid (fun _ _ _ h => by omega), hBd⟩
        case round =>
          obtain ⟨k, hk, rfl, H_k, hB2⟩ := hrel
          clear a0 a1 a2 b0 b1 b2
          obtain ⟨a0, a1, a2, b0, b1, b2⟩ := H_hcq.out wr hB2
          by_cases hkl : k < xl
          · have hx2 : k < xt.length := by have := H_hxl.out; omega
            have hy2 : k < yt.length := by have := H_hyl.out; omega
            obtain ⟨gx, ox, rfl, hgx, hrx⟩ := H_hxs.out.2.2.2.resolve_left (by intro h; rw [h] at hx2; simp at hx2)
            obtain ⟨gy, oy, rfl, hgy, hry⟩ := H_hys.out.2.2.2.resolve_left (by intro h; rw [h] at hy2; simp at hy2)
            have p0 : wr.cell? ⟨gx, ox + k * 2, none⟩ = some (.string xt[k].1) := (hrx.keep hB2 hgx) k hx2 0 _ rfl
            have p1 : wr.cell? ⟨gx, ox + k * 2 + 1, none⟩ = some (.string xt[k].2) := (hrx.keep hB2 hgx) k hx2 1 _ rfl
            have r0 : wr.cell? ⟨gy, oy + k * 2, none⟩ = some (.string yt[k].1) := (hry.keep hB2 hgy) k hy2 0 _ rfl
            have r1 : wr.cell? ⟨gy, oy + k * 2 + 1, none⟩ = some (.string yt[k].2) := (hry.keep hB2 hgy) k hy2 1 _ rfl
            have gkl : (k : Int) < (xl : Int) := by omega
            have gk : IntKind.i64.wrap ((k : Int) + 1) = ((k + 1 : Nat) : Int) := IntWalk.i64_in _ (by omega)
            have hno1 : xt[k] ≠ yt[k] → R = 0 := fun hne => by
              rw [← H_hR.out, if_neg (H_hno0.out (fun e => hne (by
                have h1 : xt = yt := congrArg (fun t => t.2.1) e
                have h2 : xt[k]? = yt[k]? := by rw [h1]
                rw [List.getElem?_eq_getElem hx2, List.getElem?_eq_getElem hy2] at h2
                injection h2)))]
            have heq1 : xt[k] = yt[k] → ∀ j (h1 : j < xt.length) (h2 : j < yt.length), j < k + 1 → xt[j] = yt[j] := fun he j h1 h2 hj => by
              by_cases e : j = k
              · subst e; exact he
              · exact H_k.out j h1 h2 (by omega)
            obtain ⟨s, hs⟩ : ∃ s, xt[k] = s := ⟨_, rfl⟩
            obtain ⟨t, ht⟩ : ∃ s, yt[k] = s := ⟨_, rfl⟩
            rw [hs] at p0 p1
            rw [ht] at r0 r1
            rw [hs, ht] at hno1 heq1
            obtain ⟨s1, s2⟩ := s
            obtain ⟨t1, t2⟩ := t
            simp only at p0 p1 r0 r1
            clear hrx hry
            have q1 := ba_eqD s1 t1
            have q2 := ba_eqD s2 t2
            by_cases h1 : s1 = t1
            · by_cases h2 : s2 = t2
              · subst h1 h2
                have hn := heq1 rfl
                clear q1 q2
                have H_hno1 := Lib.hid hno1
                clear hno1
                have H_heq1 := Lib.hid heq1
                clear heq1
                have H_hs := Lib.hid hs
                clear hs
                have H_ht := Lib.hid ht
                clear ht
                have H_hn := Lib.hid hn
                clear hn
                go_wp2_with fail
                go_region
                all_goals
                  go_wp2_with fail
                  go_roundw
                  case rel => exact ⟨k + 1, by omega, by go_num, H_hn, by first | exact hB2 | exact hB2.drew⟩
                  case measure => simp [intOf]; omega
              · have hno : R = 0 := hno1 (fun e => h2 (congrArg Prod.snd e))
                rw [decide_eq_true h1] at q1
                rw [decide_eq_false h2] at q2
                have H_hno1 := Lib.hid hno1
                clear hno1
                have H_heq1 := Lib.hid heq1
                clear heq1
                have H_hs := Lib.hid hs
                clear hs
                have H_ht := Lib.hid ht
                clear ht
                have H_hno := Lib.hid hno
                clear hno
                have H_h1 := Lib.hid h1
                clear h1
                have H_h2 := Lib.hid h2
                clear h2
                go_wp2_with fail
                go_region
                all_goals
                  go_wp2_with fail
                  go_returns
                  exact ⟨congrArg (fun t => Ending.returned (.int .i64 t)) H_hno.out.symm, by first | exact hB2 | exact hB2.drew⟩
            · have hno : R = 0 := hno1 (fun e => h1 (congrArg Prod.fst e))
              rw [decide_eq_false h1] at q1
              have H_hno1 := Lib.hid hno1
              clear hno1
              have H_heq1 := Lib.hid heq1
              clear heq1
              have H_hs := Lib.hid hs
              clear hs
              have H_ht := Lib.hid ht
              clear ht
              have H_hno := Lib.hid hno
              clear hno
              have H_h1 := Lib.hid h1
              clear h1
              go_wp2_with fail
              go_region
              all_goals
                go_wp2_with fail
                go_returns
                exact ⟨congrArg (fun t => Ending.returned (.int .i64 t)) H_hno.out.symm, by first | exact hB2 | exact hB2.drew⟩
          · obtain rfl : k = xl := by omega
            have hxy : xt = yt := List.ext_getElem (by have := H_hxl.out; have := H_hyl.out; omega) fun j h1 h2 => H_k.out j h1 h2 (by have := H_hxl.out; omega)
            have hn := fun j h1 h2 hj => H_heq0.out j h1 h2 (by unfold fk3; rw [hxy]) hj
            have H_hn := Lib.hid hn
            clear hn
            have H_hxy := Lib.hid hxy
            clear hxy
            go_wp2_with fail
            go_roundw
            case rel => exact ⟨i + 1, by omega, by go_num, H_hn, hB2⟩
            case measure => simp [intOf]; omega
    · obtain rfl : i = la := by omega
      have hyes : R = 1 := by
        rw [← H_hR.out, if_pos (fk3_map (by have := H_hl1.out; have := H_hl2.out; omega) fun j h1 h2 => H_e.out j h1 h2 (by have := H_hl1.out; omega))]
      have H_hyes := Lib.hid hyes
      clear hyes
      go_wp2_with fail
      go_returns
      exact ⟨congrArg (fun t => Ending.returned (.int .i64 t)) H_hyes.out.symm, hBr⟩
end Go.Proofs.YtndlmmpheecleaaGreatDoor
