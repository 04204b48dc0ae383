/-
  Walks over package style: ruled, Of.
-/
import Derived.Test.YteaipondofbecaaGreatDoorSy5
import Derived.Test.YteaipondofbecaaGreatDoorPy
namespace Lead.Sy
open Go Go.RowKit Lead Lead.Dc Lead.Pk
theorem ruledP_take (E : Els) (us : List Ru) (n : Nat) (nm : By) (k : Nat) (h : k < us.length) : ruledP E (us.take (k + 1)) n nm = rulS E n nm (ruledP E (us.take k) n nm) us[k] := by
  rw [List.take_succ_eq_append_getElem h, ruledP_snoc]
theorem rulS_yes {E : Els} {n : Nat} {nm : By} {st : By × Int} {u : Ru} (h : u.nm = nm) (hf : fitsL E u.st n = true) (hw : st.2 ≤ (wtL u.st : Int)) : rulS E n nm st u = (u.vl, (wtL u.st : Int)) := by unfold rulS; rw [if_pos ⟨h, hf⟩, if_pos hw]
theorem rulS_less {E : Els} {n : Nat} {nm : By} {st : By × Int} {u : Ru} (hw : ¬ st.2 ≤ (wtL u.st : Int)) : rulS E n nm st u = st := by unfold rulS; rw [if_neg hw]; split <;> rfl
/-- Rules whose selectors are right. -/
def RuOk (us : List Ru) : Prop := ∀ u ∈ us, u.st ≠ [] ∧ wtL u.st ≤ 100000
theorem shT_ok {l : List By} : ∀ {i : Nat} {us : List Ru}, shT l i = some us → RuOk us
  | 0, us, h => by rw [shT] at h; cases h; exact fun u hu => by cases hu
  | i + 1, us, h => by
    rw [shT] at h
    cases hi : shT l i with
    | none => rw [hi] at h; cases h
    | some vs =>
      rw [hi] at h
      dsimp only at h
      have ih := shT_ok hi
      cases hu : lineP (l.getD i []) with
      | none => rw [hu] at h; cases h
      | some u =>
        rw [hu] at h; cases h
        intro x hx
        rcases List.mem_append.1 hx with hx | hx
        · exact ih x hx
        · rw [List.mem_singleton.1 hx]
          have h2 := (lineP_some hu).2.1
          exact ⟨(readP_inv h2).1, readP_wt h2⟩
theorem shU_ok {s : By} (h : (shC s).1 = 0) : RuOk (shU s) := shT_ok (shC_ok h).2.1
/-- An element's style, or none there. -/
def ofZ (E : Els) (us : List Ru) (z : Int) (nm : By) : ByteArray := match atZ E z with
  | none => ⟨#[]⟩
  | some _ => ofP E us z.toNat nm
theorem ofL_cons (E : Els) (us : List Ru) (nm value : By) (h : Bool) (p : Nat) (r : List Nat) : ofL E us nm value h (p :: r) = (match tellP E us p nm with
    | some v => v
    | none => if h = true then ofL E us nm value h r else bs value) := rfl
end Lead.Sy
namespace Go.Proofs.YteaipondofbecaaGreatDoor
open Go.RowKit Go.WideMaps Go.Maps Lead Lead.Dc Lead.Pk Lead.Sy
set_option maxHeartbeats 4000000 in
set_option maxRecDepth 100000 in
theorem ruled_any (m : Int) (bd next : Nat) (F : Nat → Prop) (E : Els) (d : Nat → Nat) (base : Nat) (v : Value) (us : List Ru) (n : Nat) (e : El) (nm : By) (w : World) (hD : DokG Tryz.prog TT w bd F E next d) (hat : ∀ n e, elAt E n = some e → ∀ a ∈ e.attrs, a.2.size ≤ 100000) (hm : w.cell? ⟨12, 0, none⟩ = some (.int .i64 m))
    (hv : ShOk 252 259 140 base w v us) (hus : RuOk us) (he : elAt E n = some e) (hn : e.name ≠ ⟨#[]⟩) :
    Calls Tryz.prog 86 #[.pointer (some ⟨bd, 0, none⟩), v, .int .i64 (n : Int), .string (bs nm)] w fun en w' => en = .returned (.tuple #[.string (bs (ruledP E us n nm).1), .bool (decide (0 ≤ (ruledP E us n nm).2))]) ∧ Below w.heap.size w w' := by
  obtain ⟨xs, h1, h2, rfl⟩ := hv
  obtain ⟨ov, cv, rfl⟩ := ow_form h1
  have hS := sla_of h1
  obtain ⟨len, hn'⟩ : ∃ u, xs.length = u := ⟨_, rfl⟩
  rw [hn']
  rw [hn'] at hS
  have hlm : len ≤ 9223372036854775807 := by have h := hS.2.2.1; have h' := hS.2.1; unfold maxLen at h; omega
  obtain ⟨NM, hNM⟩ : ∃ u, bs nm = u := ⟨_, rfl⟩
  rw [hNM]
  obtain ⟨RR, hRR⟩ : ∃ u, ruledP E (xs.map RuX.u) n nm = u := ⟨_, rfl⟩
  rw [hRR]
  clear h1
  have H_h2 := Lib.hid h2
  clear h2
  have H_hS := Lib.hid hS
  clear hS
  have H_hn' := Lib.hid hn'
  clear hn'
  have H_hNM := Lib.hid hNM
  clear hNM
  have H_hD := Lib.hid hD
  clear hD
  have H_hat := Lib.hid hat
  clear hat
  have H_hm := Lib.hid hm
  clear hm
  have H_hus := Lib.hid hus
  clear hus
  have H_he := Lib.hid he
  clear he
  have H_hn := Lib.hid hn
  clear hn
  have H_hRR := Lib.hid hRR
  clear hRR
  go_enter Tryz.func86, Tryz.ntmps86
  go_wp2_with fail
  go_loopw [10, 11, 17] (fun t10 t11 t17 wr => ∃ (k : Nat) (o : By) (b : Int), k ≤ len ∧ t17 = .int .i64 k ∧ t10 = .string (bs o) ∧ t11 = .int .i64 b ∧ RowKit.Hid (ruledP E ((xs.map RuX.u).take k) n nm = (o, b)) ∧ Below w.heap.size w wr) (fun _ _ t17 _ => len - (intOf t17).toNat)
  case atStart => exact ⟨0, [], -1, Nat.zero_le _, rfl, rfl, rfl, Lib.hid rfl, Below.refl _ _⟩
  case round =>
    obtain ⟨k, o, b, hk, rfl, rfl, rfl, H_r, hB⟩ := hrel
    have hzr := hB.size
    by_cases hlt : k < len
    · have hk' : k < xs.length := by rw [H_hn'.out]; exact hlt
      have hkm : k < (xs.map RuX.u).length := by rw [List.length_map]; exact hk'
      obtain ⟨g, off, rfl, hgw, hr⟩ := H_hS.out.2.2.2.resolve_left (by intro h; rw [h] at hk'; simp at hk')
      have hcell := fun (q : Nat) (v : Value) (hq : (ERu.enc xs[k])[q]? = some v) => (hr.keep hB hgw) k hk' q v hq
      have hsel := H_h2.out _ (List.getElem_mem hk')
      have hst := ruledP_take E (xs.map RuX.u) n nm k hkm
      rw [List.getElem_map, H_r.out] at hst
      have hu := H_hus.out _ (List.mem_map_of_mem (List.getElem_mem hk'))
      obtain ⟨x, hx⟩ : ∃ x, xs[k] = x := ⟨_, rfl⟩
      rw [hx] at hcell hsel hst hu
      obtain ⟨so, sl, sc, u⟩ := x
      have q0 : wr.cell? ⟨g, off + k * 4, none⟩ = some (.slice so sl sc) := hcell 0 _ rfl
      have q1 : wr.cell? ⟨g, off + k * 4 + 1, none⟩ = some (.string (bs u.tx)) := hcell 1 _ rfl
      have q2 : wr.cell? ⟨g, off + k * 4 + 2, none⟩ = some (.string (bs u.nm)) := hcell 2 _ rfl
      have q3 : wr.cell? ⟨g, off + k * 4 + 3, none⟩ = some (.string (bs u.vl)) := hcell 3 _ rfl
      have hst' : ruledP E ((xs.map RuX.u).take (k + 1)) n nm = rulS E n nm (o, b) u := hst
      have gk : IntKind.i64.wrap ((k : Int) + 1) = ((k + 1 : Nat) : Int) := IntWalk.i64_in _ (by omega)
      have hqn := ba_eqL (bs u.nm) NM
      have hdn : decide (bs u.nm = NM) = decide (u.nm = nm) := decide_eq_decide.2 ⟨fun h => bs_inj (h.trans H_hNM.out.symm), fun h => by rw [h]; exact H_hNM.out⟩
      rw [hdn] at hqn
      clear hcell hx hr hst hdn
      obtain ⟨TX, hTX⟩ : ∃ t, bs u.tx = t := ⟨_, rfl⟩
      obtain ⟨UN, hUN⟩ : ∃ t, bs u.nm = t := ⟨_, rfl⟩
      rw [hTX] at q1
      rw [hUN] at q2 hqn
      have cF := fun (W : World) (hb : Below wr.heap.size wr W) => selfits_any m bd next F E d 252 259 base (.slice so sl sc) TX u.st n e W (H_hD.out.keep (below_via hB hb)) H_hat.out (gkeep (below_via hB hb) H_hm.out rfl) (hsel.keep (below_via hB hb)) hu.1 H_he.out H_hn.out
      have cW := fun (W : World) (hb : Below wr.heap.size wr W) => weight_any 252 259 base (.slice so sl sc) TX u.st W (hsel.keep (below_via hB hb)) hu.2
      obtain ⟨fi, hfi⟩ : ∃ t, fitsL E u.st n = t := ⟨_, rfl⟩
      obtain ⟨wt, hwt⟩ : ∃ t, wtL u.st = t := ⟨_, rfl⟩
      rw [hfi] at cF
      rw [hwt] at cW
      by_cases hnm : u.nm = nm
      · rw [decide_eq_true hnm] at hqn
        have H_cF := Lib.hid cF
        clear cF
        have H_cW := Lib.hid cW
        clear cW
        have H_hfi := Lib.hid hfi
        clear hfi
        have H_hwt := Lib.hid hwt
        clear hwt
        have H_hnm := Lib.hid hnm
        clear hnm
        have H_hst' := Lib.hid hst'
        clear hst'
        have H_hTX := Lib.hid hTX
        clear hTX
        have H_hUN := Lib.hid hUN
        clear hUN
        have H_hsel := Lib.hid hsel
        clear hsel
        have H_hu := Lib.hid hu
        clear hu
        go_wp2_with fail
        refine (H_cF.out _ (by repeat' (first | (with_reducible first | exact bwR _ _ | assumption | refine bdn ?_ | refine bwA ?_ ?_ _ | refine bwD ?_ | refine bwS ?_ ?_ _) | omega | (simp <;> omega)))).mono ?_
        rintro _ w1 ⟨rfl, hb1⟩
        have hB1 : Below wr.heap.size wr w1 := below_via (by repeat' (first | (with_reducible first | exact bwR _ _ | assumption | refine bdn ?_ | refine bwA ?_ ?_ _ | refine bwD ?_ | refine bwS ?_ ?_ _) | omega | (simp <;> omega))) hb1
        have hB1w : Below w.heap.size w w1 := below_via hB hB1
        have a0 : w1.cell? ⟨wr.heap.size, 0, none⟩ = some (.slice so sl sc) := gkeep hb1 (World.cell?_alloc_new _ _ _ _) (by simp)
        have a1 : w1.cell? ⟨wr.heap.size, 1, none⟩ = some (.string TX) := gkeep hb1 (World.cell?_alloc_new _ _ _ _) (by simp)
        have a2 : w1.cell? ⟨wr.heap.size, 2, none⟩ = some (.string UN) := gkeep hb1 (World.cell?_alloc_new _ _ _ _) (by simp)
        have a3 : w1.cell? ⟨wr.heap.size, 3, none⟩ = some (.string (bs u.vl)) := gkeep hb1 (World.cell?_alloc_new _ _ _ _) (by simp)
        clear q0 q1 q2 q3 hb1
        cases fi with
        | false =>
          have hn2 : ruledP E ((xs.map RuX.u).take (k + 1)) n nm = (o, b) := H_hst'.out.trans (rulS_not H_hfi.out)
          have H_hn2 := Lib.hid hn2
          clear hn2
          go_wp2_with fail
          go_roundw
          case rel => exact ⟨k + 1, o, b, by omega, by go_num, rfl, rfl, H_hn2, hB1w⟩
          case measure => simp [intOf]; omega
        | true =>
          go_wp2_with fail
          refine (H_cW.out _ hB1).mono ?_
          rintro _ w2 ⟨rfl, hb2⟩
          have hB2w : Below w.heap.size w w2 := below_via hB1w hb2
          have c2 : w2.cell? ⟨wr.heap.size, 3, none⟩ = some (.string (bs u.vl)) := gkeep hb2 a3 rfl
          clear a0 a1 a2 a3 hb2
          by_cases hle : b ≤ (wt : Int)
          · have hn2 : ruledP E ((xs.map RuX.u).take (k + 1)) n nm = (u.vl, (wt : Int)) := H_hst'.out.trans (by rw [rulS_yes H_hnm.out H_hfi.out (by rw [H_hwt.out]; exact hle), H_hwt.out])
            have H_hn2 := Lib.hid hn2
            clear hn2
            go_wp2_with fail
            go_roundw
            case rel => exact ⟨k + 1, u.vl, (wt : Int), by omega, by go_num, rfl, rfl, H_hn2, hB2w⟩
            case measure => simp [intOf]; omega
          · have hn2 : ruledP E ((xs.map RuX.u).take (k + 1)) n nm = (o, b) := H_hst'.out.trans (rulS_less (by rw [H_hwt.out]; exact hle))
            have H_hn2 := Lib.hid hn2
            clear hn2
            go_wp2_with fail
            go_roundw
            case rel => exact ⟨k + 1, o, b, by omega, by go_num, rfl, rfl, H_hn2, hB2w⟩
            case measure => simp [intOf]; omega
      · rw [decide_eq_false hnm] at hqn
        have hn2 : ruledP E ((xs.map RuX.u).take (k + 1)) n nm = (o, b) := hst'.trans (rulS_other hnm)
        have H_cF := Lib.hid cF
        clear cF
        have H_cW := Lib.hid cW
        clear cW
        have H_hfi := Lib.hid hfi
        clear hfi
        have H_hwt := Lib.hid hwt
        clear hwt
        have H_hnm := Lib.hid hnm
        clear hnm
        have H_hst' := Lib.hid hst'
        clear hst'
        have H_hTX := Lib.hid hTX
        clear hTX
        have H_hUN := Lib.hid hUN
        clear hUN
        have H_hsel := Lib.hid hsel
        clear hsel
        have H_hu := Lib.hid hu
        clear hu
        have H_hn2 := Lib.hid hn2
        clear hn2
        go_wp2_with fail
        go_roundw
        case rel => exact ⟨k + 1, o, b, by omega, by go_num, rfl, rfl, H_hn2, by repeat' (first | (with_reducible first | exact bwR _ _ | assumption | refine bdn ?_ | refine bwA ?_ ?_ _ | refine bwD ?_ | refine bwS ?_ ?_ _) | omega | (simp <;> omega))⟩
        case measure => simp [intOf]; omega
    · obtain rfl : len = k := by omega
      have ht : (xs.map RuX.u).take len = xs.map RuX.u := List.take_of_length_le (by rw [List.length_map, H_hn'.out]; exact Nat.le_refl _)
      have hr := H_r.out
      rw [ht, H_hRR.out] at hr
      subst hr
      clear ht
      go_wp2_with fail
      go_returns
      exact ⟨rfl, hB⟩
set_option maxHeartbeats 4000000 in
set_option maxRecDepth 100000 in
theorem of_any (m : Int) (bd next : Nat) (F : Nat → Prop) (E : Els) (d : Nat → Nat) (base : Nat) (v : Value) (us : List Ru) (z : Int) (nm : By) (w : World) (hD : DokG Tryz.prog TT w bd F E next d) (hat : ∀ n e, elAt E n = some e → ∀ a ∈ e.attrs, a.2.size ≤ 100000) (hne : ∀ n e, elAt E n = some e → e.name ≠ ⟨#[]⟩) (hm : w.cell? ⟨12, 0, none⟩ = some (.int .i64 m))
    (hv : ShOk 252 259 140 base w v us) (hus : RuOk us) (hz : I64 z) :
    Calls Tryz.prog 31 #[.pointer (some ⟨bd, 0, none⟩), v, .int .i64 z, .string (bs nm)] w fun en w' => en = .returned (.string (ofZ E us z nm)) ∧ Below w.heap.size w w' := by
  have cFi := fun (W : World) => first_any nm W
  have cN := fun (W : World) (hb : Below w.heap.size w W) => name_any bd next z F E d W (hD.keep hb) hz
  have cA := fun (p : Nat) (e : El) (he : elAt E p = some e) (W : World) (hb : Below w.heap.size w W) => attr_any bd next p (bs nm) F E d e W (hD.keep hb) he
  have cR := fun (p : Nat) (e : El) (he : elAt E p = some e) (W : World) (hb : Below w.heap.size w W) => ruled_any m bd next F E d base v us p e nm W (hD.keep hb) hat (gkeep hb hm rfl) (hv.keep hb) hus he (hne p e he)
  have cP := fun (p : Nat) (e : El) (he : elAt E p = some e) (W : World) (hb : Below w.heap.size w W) => parent_any bd next (p : Int) F E d W (hD.keep hb) (i64_nat (by have := hD.good.lt p e he; have := hD.big; omega))
  have hg := hD.good
  obtain ⟨ov, lv, cv, rfl⟩ : ∃ o l c, v = .slice o l c := by
    obtain ⟨xs, h1, _, _⟩ := hv
    obtain ⟨o, c, h⟩ := ow_form h1
    exact ⟨o, _, c, h⟩
  obtain ⟨NM, hNM⟩ : ∃ u, bs nm = u := ⟨_, rfl⟩
  obtain ⟨ANS, hANS⟩ : ∃ u, ofZ E us z nm = u := ⟨_, rfl⟩
  simp only [hNM] at cFi cA cR
  rw [hNM, hANS]
  cases hf : firstP nm with
  | none =>
    have hA : ANS = ⟨#[]⟩ := by
      rw [← hANS]; unfold ofZ ofP
      rw [hf]
      split <;> rfl
    rw [hf] at cFi
    simp only [firEnd] at cFi
    have H_cFi := Lib.hid cFi
    clear cFi
    have H_cN := Lib.hid cN
    clear cN
    have H_cA := Lib.hid cA
    clear cA
    have H_cR := Lib.hid cR
    clear cR
    have H_cP := Lib.hid cP
    clear cP
    have H_hD := Lib.hid hD
    clear hD
    have H_hat := Lib.hid hat
    clear hat
    have H_hne := Lib.hid hne
    clear hne
    have H_hm := Lib.hid hm
    clear hm
    have H_hv := Lib.hid hv
    clear hv
    have H_hus := Lib.hid hus
    clear hus
    have H_hg := Lib.hid hg
    clear hg
    have H_hNM := Lib.hid hNM
    clear hNM
    have H_hANS := Lib.hid hANS
    clear hANS
    have H_hf := Lib.hid hf
    clear hf
    have H_hz := Lib.hid hz
    clear hz
    have H_hA := Lib.hid hA
    clear hA
    go_enter Tryz.func31, Tryz.ntmps31
    go_wp2_with fail
    refine (H_cFi.out _).mono ?_
    rintro _ w1 ⟨rfl, hb1⟩
    have hB1 : Below w.heap.size w w1 := below_via (by repeat' (first | (with_reducible first | exact bwR _ _ | assumption | refine bdn ?_ | refine bwA ?_ ?_ _ | refine bwD ?_ | refine bwS ?_ ?_ _) | omega | (simp <;> omega))) hb1
    clear hb1
    go_wp2_with fail
    go_returns
    exact ⟨congrArg (fun x => Ending.returned (.string x)) H_hA.out.symm, hB1⟩
  | some fv =>
    obtain ⟨val, heir⟩ := fv
    rw [hf] at cFi
    simp only [firEnd] at cFi
    cases hz0 : atZ E z with
    | none =>
      have hA : ANS = ⟨#[]⟩ := by rw [← hANS]; unfold ofZ; rw [hz0]
      have hnz : nameZ E z = ⟨#[]⟩ := by unfold nameZ; rw [hz0]
      rw [hnz] at cN
      have H_cFi := Lib.hid cFi
      clear cFi
      have H_cN := Lib.hid cN
      clear cN
      have H_cA := Lib.hid cA
      clear cA
      have H_cR := Lib.hid cR
      clear cR
      have H_cP := Lib.hid cP
      clear cP
      have H_hD := Lib.hid hD
      clear hD
      have H_hat := Lib.hid hat
      clear hat
      have H_hne := Lib.hid hne
      clear hne
      have H_hm := Lib.hid hm
      clear hm
      have H_hv := Lib.hid hv
      clear hv
      have H_hus := Lib.hid hus
      clear hus
      have H_hg := Lib.hid hg
      clear hg
      have H_hNM := Lib.hid hNM
      clear hNM
      have H_hANS := Lib.hid hANS
      clear hANS
      have H_hf := Lib.hid hf
      clear hf
      have H_hz := Lib.hid hz
      clear hz
      have H_hz0 := Lib.hid hz0
      clear hz0
      have H_hnz := Lib.hid hnz
      clear hnz
      have H_hA := Lib.hid hA
      clear hA
      go_enter Tryz.func31, Tryz.ntmps31
      go_wp2_with fail
      refine (H_cFi.out _).mono ?_
      rintro _ w1 ⟨rfl, hb1⟩
      have hB1 : Below w.heap.size w w1 := below_via (by repeat' (first | (with_reducible first | exact bwR _ _ | assumption | refine bdn ?_ | refine bwA ?_ ?_ _ | refine bwD ?_ | refine bwS ?_ ?_ _) | omega | (simp <;> omega))) hb1
      clear hb1
      go_wp2_with fail
      refine (H_cN.out _ hB1).mono ?_
      rintro _ w2 ⟨rfl, hb2⟩
      have hB2 : Below w.heap.size w w2 := below_via hB1 hb2
      clear hb2
      go_wp2_with fail
      go_returns
      exact ⟨congrArg (fun x => Ending.returned (.string x)) H_hA.out.symm, hB2⟩
    | some e0 =>
      obtain ⟨n, rfl, he⟩ := atZ_some hz0
      have hA : ANS = ofL E us nm val heir (upZ E (n : Int)) := by
        rw [← hANS]; unfold ofZ ofP
        rw [hz0, hf]
        rfl
      rw [nameZ_nat he] at cN
      have hnm := hne n e0 he
      have hnb : (e0.name.toList == []) = false := by
        rw [beq_eq_false_iff_ne]
        intro h
        rw [ByteArray.toList_eq] at h
        exact hnm (ByteArray.ext (Array.ext' h))
      obtain ⟨EN, hEN⟩ : ∃ u, e0.name = u := ⟨_, rfl⟩
      rw [hEN] at cN hnb
      have H_cFi := Lib.hid cFi
      clear cFi
      have H_cN := Lib.hid cN
      clear cN
      have H_cA := Lib.hid cA
      clear cA
      have H_cR := Lib.hid cR
      clear cR
      have H_cP := Lib.hid cP
      clear cP
      have H_hD := Lib.hid hD
      clear hD
      have H_hat := Lib.hid hat
      clear hat
      have H_hne := Lib.hid hne
      clear hne
      have H_hm := Lib.hid hm
      clear hm
      have H_hv := Lib.hid hv
      clear hv
      have H_hus := Lib.hid hus
      clear hus
      have H_hg := Lib.hid hg
      clear hg
      have H_hNM := Lib.hid hNM
      clear hNM
      have H_hANS := Lib.hid hANS
      clear hANS
      have H_hf := Lib.hid hf
      clear hf
      have H_hz := Lib.hid hz
      clear hz
      have H_hz0 := Lib.hid hz0
      clear hz0
      have H_hnm := Lib.hid hnm
      clear hnm
      have H_hA := Lib.hid hA
      clear hA
      have H_he := Lib.hid he
      clear he
      have H_hEN := Lib.hid hEN
      clear hEN
      go_enter Tryz.func31, Tryz.ntmps31
      go_wp2_with fail
      refine (H_cFi.out _).mono ?_
      rintro _ w1 ⟨rfl, hb1⟩
      have hB1 : Below w.heap.size w w1 := below_via (by repeat' (first | (with_reducible first | exact bwR _ _ | assumption | refine bdn ?_ | refine bwA ?_ ?_ _ | refine bwD ?_ | refine bwS ?_ ?_ _) | omega | (simp <;> omega))) hb1
      clear hb1
      go_wp2_with fail
      refine (H_cN.out _ hB1).mono ?_
      rintro _ w2 ⟨rfl, hb2⟩
      have hB2 : Below w.heap.size w w2 := below_via hB1 hb2
      clear hb2
      go_wp2_with fail
      go_loopw [2] (fun t2 wr => ∃ y : Int, t2 = .int .i64 y ∧ RowKit.Hid (parOk E y ∧ ANS = ofL E us nm val heir (upZ E y)) ∧ Below w.heap.size w wr) (fun t2 _ => if 0 ≤ intOf t2 then d (intOf t2).toNat else 0)
      case atStart => exact ⟨(n : Int), rfl, Lib.hid ⟨.inr ⟨n, e0, rfl, H_he.out⟩, H_hA.out⟩, by repeat' (first | (with_reducible first | exact bwR _ _ | assumption | refine bdn ?_ | refine bwA ?_ ?_ _ | refine bwD ?_ | refine bwS ?_ ?_ _) | omega | (simp <;> omega))⟩
      case round =>
        obtain ⟨y, rfl, H_y, hB⟩ := hrel
        have hzr := hB.size
        rcases H_y.out.1 with rfl | ⟨p, f, rfl, hfp⟩
        · have hA2 : ANS = bs val := by rw [H_y.out.2, upZ_neg]; rfl
          have H_hA2 := Lib.hid hA2
          clear hA2
          go_wp2_with fail
          go_returns
          exact ⟨congrArg (fun x => Ending.returned (.string x)) H_hA2.out.symm, hB⟩
        · have hp0 : (0 : Int) ≤ (p : Int) := by omega
          have hA2 := H_y.out.2
          rw [upZ_nat, ups_eq H_hg.out hfp, ofL_cons] at hA2
          have hpq := par_ok H_hg.out hfp
          have cAp := H_cA.out p f hfp
          have cRp := H_cR.out p f hfp
          have cPp := H_cP.out p f hfp
          rw [parZ_nat hfp] at cPp
          have htl : tellP E us p nm = match attrV (bs nm) f.attrs with
            | some v => some v
            | none => if 0 ≤ (ruledP E us p nm).2 then some (bs (ruledP E us p nm).1) else none := by unfold tellP; rw [hfp]; rfl
          obtain ⟨AV, hAV⟩ : ∃ u, attrV (bs nm) f.attrs = u := ⟨_, rfl⟩
          rw [H_hNM.out] at hAV htl
          rw [hAV] at cAp htl
          obtain ⟨⟨ro, rb⟩, hRb⟩ : ∃ u, ruledP E us p nm = u := ⟨_, rfl⟩
          rw [hRb] at cRp htl
          dsimp only at cRp htl
          obtain ⟨z', hz'⟩ : ∃ u, f.parent = u := ⟨_, rfl⟩
          rw [hz'] at cPp hpq hA2
          cases AV with
          | some av =>
            have hfin : ANS = av := by rw [hA2, htl]
            simp only [attrEnd] at cAp
            have H_hA2 := Lib.hid hA2
            clear hA2
            have H_hpq := Lib.hid hpq
            clear hpq
            have H_cAp := Lib.hid cAp
            clear cAp
            have H_cRp := Lib.hid cRp
            clear cRp
            have H_cPp := Lib.hid cPp
            clear cPp
            have H_htl := Lib.hid htl
            clear htl
            have H_hAV := Lib.hid hAV
            clear hAV
            have H_hRb := Lib.hid hRb
            clear hRb
            have H_hz' := Lib.hid hz'
            clear hz'
            have H_hfp := Lib.hid hfp
            clear hfp
            have H_hfin := Lib.hid hfin
            clear hfin
            go_wp2_with fail
            refine (H_cAp.out _ hB).mono ?_
            rintro _ w3 ⟨rfl, hb3⟩
            have hB3 : Below w.heap.size w w3 := below_via hB hb3
            clear hb3
            go_wp2_with fail
            go_returns
            exact ⟨congrArg (fun x => Ending.returned (.string x)) H_hfin.out.symm, hB3⟩
          | none =>
            simp only [attrEnd] at cAp
            by_cases hrb : 0 ≤ rb
            · have hfin : ANS = bs ro := by rw [hA2, htl, if_pos hrb]
              rw [decide_eq_true hrb] at cRp
              have H_hA2 := Lib.hid hA2
              clear hA2
              have H_hpq := Lib.hid hpq
              clear hpq
              have H_cAp := Lib.hid cAp
              clear cAp
              have H_cRp := Lib.hid cRp
              clear cRp
              have H_cPp := Lib.hid cPp
              clear cPp
              have H_htl := Lib.hid htl
              clear htl
              have H_hAV := Lib.hid hAV
              clear hAV
              have H_hRb := Lib.hid hRb
              clear hRb
              have H_hz' := Lib.hid hz'
              clear hz'
              have H_hfp := Lib.hid hfp
              clear hfp
              have H_hfin := Lib.hid hfin
              clear hfin
              have H_hrb := Lib.hid hrb
              clear hrb
              go_wp2_with fail
              refine (H_cAp.out _ hB).mono ?_
              rintro _ w3 ⟨rfl, hb3⟩
              have hB3 : Below w.heap.size w w3 := below_via hB hb3
              clear hb3
              go_wp2_with fail
              refine (H_cRp.out _ hB3).mono ?_
              rintro _ w4 ⟨rfl, hb4⟩
              have hB4 : Below w.heap.size w w4 := below_via hB3 hb4
              clear hb4
              go_wp2_with fail
              go_returns
              exact ⟨congrArg (fun x => Ending.returned (.string x)) H_hfin.out.symm, hB4⟩
            · have hfin : ANS = if heir = true then ofL E us nm val heir (upZ E z') else bs val := by rw [hA2, htl, if_neg hrb]
              rw [decide_eq_false hrb] at cRp
              have H_hA2 := Lib.hid hA2
              clear hA2
              have H_hpq := Lib.hid hpq
              clear hpq
              have H_cAp := Lib.hid cAp
              clear cAp
              have H_cRp := Lib.hid cRp
              clear cRp
              have H_cPp := Lib.hid cPp
              clear cPp
              have H_htl := Lib.hid htl
              clear htl
              have H_hAV := Lib.hid hAV
              clear hAV
              have H_hRb := Lib.hid hRb
              clear hRb
              have H_hz' := Lib.hid hz'
              clear hz'
              have H_hfp := Lib.hid hfp
              clear hfp
              have H_hrb := Lib.hid hrb
              clear hrb
              go_wp2_with fail
              refine (H_cAp.out _ hB).mono ?_
              rintro _ w3 ⟨rfl, hb3⟩
              have hB3 : Below w.heap.size w w3 := below_via hB hb3
              clear hb3
              go_wp2_with fail
              refine (H_cRp.out _ hB3).mono ?_
              rintro _ w4 ⟨rfl, hb4⟩
              have hB4 : Below w.heap.size w w4 := below_via hB3 hb4
              clear hb4
              cases heir with
              | false =>
                have hfin2 : ANS = bs val := hfin
                have H_hfin := Lib.hid hfin
                clear hfin
                have H_hfin2 := Lib.hid hfin2
                clear hfin2
                go_wp2_with fail
                go_returns
                exact ⟨congrArg (fun x => Ending.returned (.string x)) H_hfin2.out.symm, hB4⟩
              | true =>
                have hfin2 : ANS = ofL E us nm val true (upZ E z') := hfin
                have H_hfin := Lib.hid hfin
                clear hfin
                have H_hfin2 := Lib.hid hfin2
                clear hfin2
                go_wp2_with fail
                refine (H_cPp.out _ hB4).mono ?_
                rintro _ w5 ⟨rfl, hb5⟩
                have hB5 : Below w.heap.size w w5 := below_via hB4 hb5
                clear hb5
                go_wp2_with fail
                go_roundw
                case rel => exact ⟨z', rfl, Lib.hid ⟨H_hpq.out.1, H_hfin2.out⟩, hB5⟩
                case measure =>
                  have h := H_hpq.out.2
                  by_cases h0 : 0 ≤ z'
                  · simp only [h0, if_true] at h; simpa [intOf, h0] using h
                  · simp only [h0, if_false] at h; simpa [intOf, h0] using h
end Go.Proofs.YteaipondofbecaaGreatDoor
