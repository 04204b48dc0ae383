/-
  Walks over the reference's sheets: firstOf, isWord, place.
-/
import Derived.Test.YteaipondofbecaaGreatDoorSw
import Derived.Test.YteaipondofbecaaGreatDoorRp3
import Derived.Lib.IndexLaws
namespace Lead.Sy
open Go Go.RowKit Lead Lead.Dc Lead.Pk
/-- A name's first value, or the empty text. -/
def firV (s : By) : By := match firstP s with
  | some x => x.1
  | none => []
theorem wdL_bad {L : By} {i : Nat} {c : UInt8} (hi : i < L.length) (hc : L[i] = c) (h : nmC c = false) : wdL L = false := by
  cases hL : wdL L with
  | false => rfl
  | true =>
    unfold wdL at hL
    simp only [Bool.and_eq_true] at hL
    have := List.all_eq_true.1 hL.2 _ (List.getElem_mem hi)
    rw [hc, h] at this; cases this
theorem wdL_all {L : By} (h : ∀ j (hj : j < L.length), nmC L[j] = true) : wdL L = (decide (1 ≤ L.length) && decide (L.length ≤ 12)) := by
  have h1 : L.all nmC = true := List.all_eq_true.2 fun x hx => by
    obtain ⟨j, hj, rfl⟩ := List.mem_iff_getElem.1 hx
    exact h j hj
  unfold wdL
  rw [h1, Bool.and_true]
  congr 1
  rw [decide_eq_decide]
  cases L <;> simp
theorem bs_eqN (a b : By) : ((bs a).toList == b) = decide (a = b) := by
  rw [ByteArray.toList_eq, Bool.eq_iff_iff]
  simp [bs]
end Lead.Sy
namespace Go.Proofs.YteaipondofbecaaGreatDoor
open Go.RowKit Lead Lead.Dc Lead.Pk Lead.Rc Lead.Sy
theorem rfirst_any (nm : By) (w : World) : Calls Tryz.prog 87 #[.string (bs nm)] w fun en w' => en = .returned (.string (bs (firV nm))) ∧ Below w.heap.size w w' := by
  have q1 : ((bs nm).toList == [102, 105, 108, 108]) = decide (nm = nFill) := bs_eqN nm nFill
  have q2 : ((bs nm).toList == [114, 117, 108, 101]) = decide (nm = nRule) := bs_eqN nm nRule
  have q3 : ((bs nm).toList == [115, 104, 111, 119]) = decide (nm = nShow) := bs_eqN nm nShow
  have q4 : ((bs nm).toList == [108, 101, 118, 101, 108]) = decide (nm = nLevel) := bs_eqN nm nLevel
  have hf : firV nm = match (if nm = nFill then some (([110, 111, 110, 101] : By), true) else if nm = nRule then some ([119, 105, 110, 100], true) else if nm = nShow then some ([121, 101, 115], false) else if nm = nLevel then some ([48], false) else none) with | some x => x.1 | none => [] := rfl
  rw [hf]
  clear hf
  obtain ⟨N, hN⟩ : ∃ u, bs nm = u := ⟨_, rfl⟩
  rw [hN] at q1 q2 q3 q4 ⊢
  by_cases h1 : nm = nFill
  · rw [decide_eq_true h1] at q1
    rw [if_pos h1]
    have H_h1 := Lib.hid h1
    clear h1
    have H_hN := Lib.hid hN
    clear hN
    have H_q2 := Lib.hid q2
    clear q2
    have H_q3 := Lib.hid q3
    clear q3
    have H_q4 := Lib.hid q4
    clear q4
    go_enter Tryz.func87, Tryz.ntmps87
    go_wp2_with fail
    go_returns
    exact ⟨rfl, by repeat' (first | (with_reducible first | exact bwR _ _ | assumption | refine bdn ?_ | refine bwA ?_ ?_ _ | refine bwD ?_ | refine bwS ?_ ?_ _) | omega | (simp <;> omega))⟩
  rw [decide_eq_false h1] at q1
  rw [if_neg h1]
  by_cases h2 : nm = nRule
  · rw [decide_eq_true h2] at q2
    rw [if_pos h2]
    have H_h1 := Lib.hid h1
    clear h1
    have H_h2 := Lib.hid h2
    clear h2
    have H_hN := Lib.hid hN
    clear hN
    have H_q3 := Lib.hid q3
    clear q3
    have H_q4 := Lib.hid q4
    clear q4
    go_enter Tryz.func87, Tryz.ntmps87
    go_wp2_with fail
    go_returns
    exact ⟨rfl, by repeat' (first | (with_reducible first | exact bwR _ _ | assumption | refine bdn ?_ | refine bwA ?_ ?_ _ | refine bwD ?_ | refine bwS ?_ ?_ _) | omega | (simp <;> omega))⟩
  rw [decide_eq_false h2] at q2
  rw [if_neg h2]
  by_cases h3 : nm = nShow
  · rw [decide_eq_true h3] at q3
    rw [if_pos h3]
    have H_h1 := Lib.hid h1
    clear h1
    have H_h2 := Lib.hid h2
    clear h2
    have H_h3 := Lib.hid h3
    clear h3
    have H_hN := Lib.hid hN
    clear hN
    have H_q4 := Lib.hid q4
    clear q4
    go_enter Tryz.func87, Tryz.ntmps87
    go_wp2_with fail
    go_returns
    exact ⟨rfl, by repeat' (first | (with_reducible first | exact bwR _ _ | assumption | refine bdn ?_ | refine bwA ?_ ?_ _ | refine bwD ?_ | refine bwS ?_ ?_ _) | omega | (simp <;> omega))⟩
  rw [decide_eq_false h3] at q3
  rw [if_neg h3]
  by_cases h4 : nm = nLevel
  · rw [decide_eq_true h4] at q4
    rw [if_pos h4]
    have H_h1 := Lib.hid h1
    clear h1
    have H_h2 := Lib.hid h2
    clear h2
    have H_h3 := Lib.hid h3
    clear h3
    have H_h4 := Lib.hid h4
    clear h4
    have H_hN := Lib.hid hN
    clear hN
    go_enter Tryz.func87, Tryz.ntmps87
    go_wp2_with fail
    go_returns
    exact ⟨rfl, by repeat' (first | (with_reducible first | exact bwR _ _ | assumption | refine bdn ?_ | refine bwA ?_ ?_ _ | refine bwD ?_ | refine bwS ?_ ?_ _) | omega | (simp <;> omega))⟩
  rw [decide_eq_false h4] at q4
  rw [if_neg h4]
  have H_h1 := Lib.hid h1
  clear h1
  have H_h2 := Lib.hid h2
  clear h2
  have H_h3 := Lib.hid h3
  clear h3
  have H_h4 := Lib.hid h4
  clear h4
  have H_hN := Lib.hid hN
  clear hN
  go_enter Tryz.func87, Tryz.ntmps87
  go_wp2_with fail
  go_returns
  exact ⟨rfl, by repeat' (first | (with_reducible first | exact bwR _ _ | assumption | refine bdn ?_ | refine bwA ?_ ?_ _ | refine bwD ?_ | refine bwS ?_ ?_ _) | omega | (simp <;> omega))⟩
set_option maxHeartbeats 2000000 in
theorem risword_any (s : ByteArray) (w : World) (_hs : s.size ≤ 1000000) :
    Calls Tryz.prog 128 #[.string s] w fun en w' => en = .returned (.bool (wdL s.data.toList)) ∧ Below w.heap.size w w' := by
  have hlen : s.data.toList.length = s.size := by simp
  have H_hlen := Lib.hid hlen
  clear hlen
  go_enter Tryz.func128, Tryz.ntmps128
  go_wp2_with fail
  go_loopw [3, 4, 5] (fun t3 _ _ wr => ∃ i : Nat, i ≤ s.size ∧ t3 = .int .i64 i ∧ RowKit.Hid (∀ j (hj : j < s.data.toList.length), j < i → nmC s.data.toList[j] = true) ∧ Below w.heap.size w wr) (fun t3 _ _ _ => s.size - (intOf t3).toNat)
  case atStart => exact ⟨0, Nat.zero_le _, rfl, Lib.hid (fun _ _ h => by omega), by repeat' (first | (with_reducible first | exact bwR _ _ | assumption | refine bdn ?_ | refine bwA ?_ ?_ _ | refine bwD ?_ | refine bwS ?_ ?_ _) | omega | (simp <;> omega))⟩
  case round =>
    obtain ⟨i, hi, rfl, H_f, hB⟩ := hrel
    by_cases hlt : i < s.size
    · have hil : i < s.data.toList.length := by have := H_hlen.out; omega
      obtain ⟨c, hc⟩ : ∃ c : UInt8, s[i] = c := ⟨_, rfl⟩
      have hcL : s.data.toList[i] = c := hc
      have gi : IntKind.i64.wrap ((i : Int) + 1) = ((i + 1 : Nat) : Int) := IntWalk.i64_in _ (by omega)
      by_cases h97 : 97 ≤ c.toNat
      · have g97 : (97 : Int) ≤ (c.toNat : Int) := by omega
        by_cases h122 : c.toNat ≤ 122
        · have g122 : (c.toNat : Int) ≤ 122 := by omega
          have hn : ∀ j (hj : j < s.data.toList.length), j < i + 1 → nmC s.data.toList[j] = true := fun j hj hji => by
            by_cases e : j = i
            · subst e; rw [hcL, nmC_nat]; simp; omega
            · exact H_f.out j hj (by omega)
          have H_hn := Lib.hid hn
          clear hn
          have H_hcL := Lib.hid hcL
          clear hcL
          go_wp2_with fail
          go_roundw
          case rel => exact ⟨i + 1, by omega, by go_num, H_hn, hB⟩
          case measure => simp [intOf]; omega
        · have g122 : ¬ (c.toNat : Int) ≤ 122 := by omega
          have g48 : (48 : Int) ≤ (c.toNat : Int) := by omega
          have g57 : ¬ (c.toNat : Int) ≤ 57 := by omega
          have g45 : ((c.toNat : Int) == 45) = false := by rw [beq_eq_false_iff_ne]; omega
          have hbad : wdL s.data.toList = false := wdL_bad hil hcL (by rw [nmC_nat]; simp; omega)
          have H_hcL := Lib.hid hcL
          clear hcL
          have H_hbad := Lib.hid hbad
          clear hbad
          go_wp2_with fail
          go_returns
          exact ⟨congrArg (fun b => Ending.returned (.bool b)) H_hbad.out.symm, hB⟩
      · have g97 : ¬ (97 : Int) ≤ (c.toNat : Int) := by omega
        by_cases h48 : 48 ≤ c.toNat
        · have g48 : (48 : Int) ≤ (c.toNat : Int) := by omega
          by_cases h57 : c.toNat ≤ 57
          · have g57 : (c.toNat : Int) ≤ 57 := by omega
            have hn : ∀ j (hj : j < s.data.toList.length), j < i + 1 → nmC s.data.toList[j] = true := fun j hj hji => by
              by_cases e : j = i
              · subst e; rw [hcL, nmC_nat]; simp; omega
              · exact H_f.out j hj (by omega)
            have H_hn := Lib.hid hn
            clear hn
            have H_hcL := Lib.hid hcL
            clear hcL
            go_wp2_with fail
            go_roundw
            case rel => exact ⟨i + 1, by omega, by go_num, H_hn, hB⟩
            case measure => simp [intOf]; omega
          · have g57 : ¬ (c.toNat : Int) ≤ 57 := by omega
            have g45 : ((c.toNat : Int) == 45) = false := by rw [beq_eq_false_iff_ne]; omega
            have hbad : wdL s.data.toList = false := wdL_bad hil hcL (by rw [nmC_nat]; simp; omega)
            have H_hcL := Lib.hid hcL
            clear hcL
            have H_hbad := Lib.hid hbad
            clear hbad
            go_wp2_with fail
            go_returns
            exact ⟨congrArg (fun b => Ending.returned (.bool b)) H_hbad.out.symm, hB⟩
        · have g48 : ¬ (48 : Int) ≤ (c.toNat : Int) := by omega
          by_cases h45 : c.toNat = 45
          · have g45 : ((c.toNat : Int) == 45) = true := by rw [beq_iff_eq]; omega
            have hn : ∀ j (hj : j < s.data.toList.length), j < i + 1 → nmC s.data.toList[j] = true := fun j hj hji => by
              by_cases e : j = i
              · subst e; rw [hcL, nmC_nat]; simp; omega
              · exact H_f.out j hj (by omega)
            have H_hn := Lib.hid hn
            clear hn
            have H_hcL := Lib.hid hcL
            clear hcL
            go_wp2_with fail
            go_roundw
            case rel => exact ⟨i + 1, by omega, by go_num, H_hn, hB⟩
            case measure => simp [intOf]; omega
          · have g45 : ((c.toNat : Int) == 45) = false := by rw [beq_eq_false_iff_ne]; omega
            have hbad : wdL s.data.toList = false := wdL_bad hil hcL (by rw [nmC_nat]; simp; omega)
            have H_hcL := Lib.hid hcL
            clear hcL
            have H_hbad := Lib.hid hbad
            clear hbad
            go_wp2_with fail
            go_returns
            exact ⟨congrArg (fun b => Ending.returned (.bool b)) H_hbad.out.symm, hB⟩
    · obtain rfl : i = s.size := by omega
      have hok := wdL_all (L := s.data.toList) (fun j hj => H_f.out j hj (by have := H_hlen.out; omega))
      rw [H_hlen.out] at hok
      by_cases h1 : 1 ≤ s.size
      · have g1 : (1 : Int) ≤ (s.size : Int) := by omega
        by_cases h12 : s.size ≤ 12
        · have g12 : (s.size : Int) ≤ 12 := by omega
          rw [decide_eq_true h1, decide_eq_true h12] at hok
          have H_hok := Lib.hid hok
          clear hok
          go_wp2_with fail
          go_returns
          exact ⟨congrArg (fun b => Ending.returned (.bool b)) H_hok.out.symm, hB⟩
        · have g12 : ¬ (s.size : Int) ≤ 12 := by omega
          rw [decide_eq_true h1, decide_eq_false h12] at hok
          have H_hok := Lib.hid hok
          clear hok
          go_wp2_with fail
          go_returns
          exact ⟨congrArg (fun b => Ending.returned (.bool b)) H_hok.out.symm, hB⟩
      · have g1 : ¬ (1 : Int) ≤ (s.size : Int) := by omega
        rw [decide_eq_false h1] at hok
        have H_hok := Lib.hid hok
        clear hok
        go_wp2_with fail
        go_returns
        exact ⟨congrArg (fun b => Ending.returned (.bool b)) H_hok.out.symm, hB⟩
set_option maxHeartbeats 2000000 in
theorem rplace_any (s p : ByteArray) (w : World) (hs : s.size ≤ 1000000) (hp : p.size ≤ 1000000) (hp0 : 0 < p.size) :
    Calls Tryz.prog 126 #[.string s, .string p] w fun en w' => en = .returned (.int .i64 (Lib.index s.data.toList p.data.toList)) ∧ Below w.heap.size w w' := by
  have hlen : s.data.toList.length = s.size := by simp
  have hlep : p.data.toList.length = p.size := by simp
  obtain ⟨R, hR⟩ : ∃ u, Lib.index s.data.toList p.data.toList = u := ⟨_, rfl⟩
  rw [hR]
  have H_hlen := Lib.hid hlen
  clear hlen
  have H_hlep := Lib.hid hlep
  clear hlep
  have H_hR := Lib.hid hR
  clear hR
  go_enter Tryz.func126, Tryz.ntmps126
  go_wp2_with fail
  go_loopw [5] (fun t5 wr => ∃ i : Nat, i ≤ s.size ∧ t5 = .int .i64 i ∧ RowKit.Hid (Lib.NoOcc s.data.toList p.data.toList i) ∧ Below w.heap.size w wr) (fun t5 _ => s.size - (intOf t5).toNat)
  case atStart => exact ⟨0, Nat.zero_le _, rfl, Lib.hid (fun _ h => by omega), by repeat' (first | (with_reducible first | exact bwR _ _ | assumption | refine bdn ?_ | refine bwA ?_ ?_ _ | refine bwD ?_ | refine bwS ?_ ?_ _) | omega | (simp <;> omega))⟩
  case round =>
    obtain ⟨i, hi, rfl, H_f, hB⟩ := hrel
    have gp : IntKind.i64.wrap ((i : Int) + (p.size : Int)) = ((i + p.size : Nat) : Int) := (IntWalk.i64_in _ (by omega)).trans (by omega)
    have gi : IntKind.i64.wrap ((i : Int) + 1) = ((i + 1 : Nat) : Int) := IntWalk.i64_in _ (by omega)
    by_cases hle : i + p.size ≤ s.size
    · have g1 : ((i + p.size : Nat) : Int) ≤ (s.size : Int) := by omega
      have g2 : (i : Int) ≤ ((i + p.size : Nat) : Int) := by omega
      have g0 : (0 : Int) ≤ (i : Int) := by omega
      obtain ⟨b, hb⟩ : ∃ u, Lib.occAt s.data.toList p.data.toList i = u := ⟨_, rfl⟩
      have heq : ((s.extract i (i + p.size)).toList == p.toList) = b := by
        rw [← hb, ByteArray.toList_eq, ByteArray.toList_eq, ext_list s i (i + p.size) (by omega), Bool.eq_iff_iff, beq_iff_eq]
        unfold Lib.occAt
        rw [List.isPrefixOf_iff_prefix]
        show (s.data.toList.take (i + p.size)).drop i = p.data.toList ↔ _
        rw [List.drop_take, Nat.add_sub_cancel_left, ← H_hlep.out]
        constructor
        · intro h; rw [← h]; exact List.take_prefix _ _
        · rintro ⟨t, ht⟩; rw [← ht]; simp
      cases b with
      | true =>
        have hit := Lib.index_hit H_f.out (by have := H_hlen.out; omega) hb
        rw [H_hR.out] at hit
        subst hit
        have H_hb := Lib.hid hb
        clear hb
        go_wp2_with fail
        go_returns
        exact ⟨rfl, hB⟩
      | false =>
        have hn : Lib.NoOcc s.data.toList p.data.toList (i + 1) := fun j hj => by
          by_cases e : j = i
          · subst e; exact hb
          · exact H_f.out j (by omega)
        have H_hn := Lib.hid hn
        clear hn
        have H_hb := Lib.hid hb
        clear hb
        go_wp2_with fail
        go_roundw
        case rel => exact ⟨i + 1, by omega, by go_num, H_hn, hB⟩
        case measure => simp [intOf]; omega
    · have g1 : ¬ ((i + p.size : Nat) : Int) ≤ (s.size : Int) := by omega
      have hpast := Lib.index_past (s := s.data.toList) (sub := p.data.toList) (i := i) (by intro h; have := H_hlep.out; rw [h] at this; simp at this; omega) H_f.out (by have h1 := H_hlen.out; have h2 := H_hlep.out; omega)
      rw [H_hR.out] at hpast
      subst hpast
      go_wp2_with fail
      go_returns
      exact ⟨rfl, hB⟩
end Go.Proofs.YteaipondofbecaaGreatDoor
