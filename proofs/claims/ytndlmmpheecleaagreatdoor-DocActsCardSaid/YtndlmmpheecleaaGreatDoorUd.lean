/-
  Several texts as one: Rp3, Rv1.
-/
import Derived.Test.YtndlmmpheecleaaGreatDoorRe
import Derived.Test.YtndlmmpheecleaaGreatDoorKm
/-
  Walks over the reference's selectors: IsName.
-/
namespace Lead.Rc
open Go Go.RowKit Lead Lead.Dc
theorem nmC_nat (c : UInt8) : nmC c = ((decide (97 ≤ c.toNat) && decide (c.toNat ≤ 122)) || (decide (48 ≤ c.toNat) && decide (c.toNat ≤ 57)) || decide (c.toNat = 45)) := by
  unfold nmC
  have h1 : (c = 45) ↔ c.toNat = 45 := ⟨fun h => by rw [h]; rfl, fun h => UInt8.toNat_inj.1 h⟩
  simp only [UInt8.le_iff_toNat_le, h1]; rfl
/-- The first ones are right. -/
def NmTo (L : List UInt8) (i : Nat) : Prop := ∀ j (hl : j < L.length), j < i → nmC L[j] = true ∧ (j = 0 → 97 ≤ L[j].toNat ∧ L[j].toNat ≤ 122)
theorem NmTo.zero (L : List UInt8) : NmTo L 0 := fun _ _ h => by omega
theorem NmTo.next {L : List UInt8} {i : Nat} (h : NmTo L i) {c : UInt8} (hi : i < L.length) (hc : L[i] = c) (h1 : nmC c = true) (h2 : i = 0 → 97 ≤ c.toNat ∧ c.toNat ≤ 122) : NmTo L (i + 1) := fun j hl hj => by
  by_cases e : j = i
  · subst e; rw [hc]; exact ⟨h1, h2⟩
  · exact h j hl (by omega)
theorem NmTo.done {L : List UInt8} (h : NmTo L L.length) (h0 : 0 < L.length) (h1 : L.length ≤ 12) : nmL L = true := by
  match L, h, h0, h1 with
  | c :: r, h, h0, h1 =>
    have a := (h 0 h0 h0).2 rfl
    have b : (c :: r).all nmC = true := by
      rw [List.all_eq_true]
      intro x hx
      obtain ⟨j, hj, rfl⟩ := List.mem_iff_getElem.1 hx
      exact (h j hj hj).1
    show (decide ((c :: r).length ≤ 12) && decide (97 ≤ c) && decide (c ≤ 122) && (c :: r).all nmC) = true
    rw [b, decide_eq_true h1, decide_eq_true (UInt8.le_iff_toNat_le.2 (show (97 : UInt8).toNat ≤ c.toNat from a.1)), decide_eq_true (UInt8.le_iff_toNat_le.2 (show c.toNat ≤ (122 : UInt8).toNat from a.2))]; rfl
theorem nmL_bad {L : List UInt8} {i : Nat} {c : UInt8} (hi : i < L.length) (hc : L[i] = c) (h : nmC c = false ∨ (i = 0 ∧ ¬ (97 ≤ c.toNat ∧ c.toNat ≤ 122))) : nmL L = false := by
  cases hL : nmL L with
  | false => rfl
  | true =>
    match L, hi, hc, hL with
    | a :: r, hi, hc, hL =>
      simp only [nmL, Bool.and_eq_true, decide_eq_true_eq] at hL
      obtain ⟨⟨⟨_, h1⟩, h2⟩, h3⟩ := hL
      rcases h with h | ⟨rfl, h⟩
      · rw [List.all_eq_true] at h3
        rw [← hc, h3 _ (List.getElem_mem hi)] at h; cases h
      · have hc' : a = c := hc
        subst hc'
        exact absurd ⟨UInt8.le_iff_toNat_le.1 h1, UInt8.le_iff_toNat_le.1 h2⟩ h
theorem nmL_long {L : List UInt8} (h : L.length < 1 ∨ 12 < L.length) : nmL L = false := by
  cases L with
  | nil => rfl
  | cons a r =>
    rcases h with h | h
    · simp at h
    · show (decide ((a :: r).length ≤ 12) && decide (97 ≤ a) && decide (a ≤ 122) && (a :: r).all nmC) = false
      rw [decide_eq_false (by omega)]; rfl
end Lead.Rc
namespace Go.Proofs.YtndlmmpheecleaaGreatDoor
open Go.RowKit Lead Lead.Dc Lead.Rc
set_option maxHeartbeats 4000000 in
theorem risname_any (s : ByteArray) (w : World) (hs : s.size ≤ 1000000) :
    Calls Tryz.prog 43 #[.string s] w fun en w' => en = .returned (.bool (nmOk s)) ∧ Below w.heap.size w w' := by
  have hlen : s.data.toList.length = s.size := by simp
  by_cases hsz : s.size < 1 ∨ 12 < s.size
  · have hbad : nmOk s = false := nmL_long (by rw [hlen]; exact hsz)
    rw [hbad]
    clear hbad
    go_enter Tryz.func43, Tryz.ntmps43
    rcases hsz with h1 | h1
    · have g1 : (s.size : Int) < 1 := by omega
      go_wp2_with fail
      go_returns
      exact ⟨rfl, by repeat' (first | (with_reducible first | exact bwR _ _ | assumption | refine bdn ?_ | refine bwA ?_ ?_ _ | refine bwD ?_ | refine bwS ?_ ?_ _) | omega | (simp <;> omega))⟩
    · have g1 : ¬ (s.size : Int) < 1 := by omega
      have g2 : (12 : Int) < (s.size : Int) := by omega
      go_wp2_with fail
      go_returns
      exact ⟨rfl, by repeat' (first | (with_reducible first | exact bwR _ _ | assumption | refine bdn ?_ | refine bwA ?_ ?_ _ | refine bwD ?_ | refine bwS ?_ ?_ _) | omega | (simp <;> omega))⟩
  · have g1 : ¬ (s.size : Int) < 1 := by omega
    have g2 : ¬ (12 : Int) < (s.size : Int) := by omega
    have H_hlen := Lib.hid hlen
    clear hlen
    go_enter Tryz.func43, Tryz.ntmps43
    go_wp2_with fail
    go_loopw [3] (fun t3 wr => ∃ i : Nat, i ≤ s.size ∧ t3 = .int .i64 i ∧ RowKit.Hid (NmTo s.data.toList i) ∧ Below w.heap.size w wr) (fun t3 _ => s.size - (intOf t3).toNat)
    case atStart => exact ⟨0, Nat.zero_le _, rfl, Lib.hid (NmTo.zero _), by repeat' (first | (with_reducible first | exact bwR _ _ | assumption | refine bdn ?_ | refine bwA ?_ ?_ _ | refine bwD ?_ | refine bwS ?_ ?_ _) | omega | (simp <;> omega))⟩
    case round =>
      obtain ⟨i, hi, rfl, H_f, hB⟩ := hrel
      by_cases hlt : i < s.size
      · have hil : i < s.data.toList.length := by have := H_hlen.out; omega
        obtain ⟨c, hc⟩ : ∃ c : UInt8, s[i] = c := ⟨_, rfl⟩
        have hcL : s.data.toList[i] = c := hc
        by_cases h97 : 97 ≤ c.toNat
        · have g97 : (97 : Int) ≤ (c.toNat : Int) := by omega
          by_cases h122 : c.toNat ≤ 122
          · have g122 : (c.toNat : Int) ≤ 122 := by omega
            go_wp2_with fail
            go_roundw
            case rel => exact ⟨i + 1, by omega, by go_num, Lib.hid (H_f.out.next hil hcL (by rw [nmC_nat]; simp; omega) (fun e => by omega)), hB⟩
            case measure => simp [intOf]; omega
          · have g122 : ¬ (c.toNat : Int) ≤ 122 := by omega
            have g48 : (48 : Int) ≤ (c.toNat : Int) := by omega
            have g57 : ¬ (c.toNat : Int) ≤ 57 := by omega
            have g45 : ((c.toNat : Int) == 45) = false := by rw [beq_eq_false_iff_ne]; omega
            by_cases hi0 : i = 0
            · subst hi0
              have hbad : nmOk s = false := nmL_bad hil hcL (by first | (left; rw [nmC_nat]; simp; omega) | (right; omega))
              go_wp2_with fail
              go_returns
              first | exact ⟨rfl, hB⟩ | exact ⟨by rw [hbad]; rfl, hB⟩
            · have gi0 : ((i : Int) == 0) = false := by rw [beq_eq_false_iff_ne]; omega
              have hbad : nmOk s = false := nmL_bad hil hcL (by first | (left; rw [nmC_nat]; simp; omega) | (right; omega))
              go_wp2_with fail
              go_returns
              first | exact ⟨rfl, hB⟩ | exact ⟨by rw [hbad]; rfl, hB⟩
        · have g97 : ¬ (97 : Int) ≤ (c.toNat : Int) := by omega
          by_cases h48 : 48 ≤ c.toNat
          · have g48 : (48 : Int) ≤ (c.toNat : Int) := by omega
            by_cases h57 : c.toNat ≤ 57
            · have g57 : (c.toNat : Int) ≤ 57 := by omega
              by_cases hi0 : i = 0
              · subst hi0
                have hbad : nmOk s = false := nmL_bad hil hcL (by first | (left; rw [nmC_nat]; simp; omega) | (right; omega))
                go_wp2_with fail
                go_returns
                first | exact ⟨rfl, hB⟩ | exact ⟨by rw [hbad]; rfl, hB⟩
              · have gi0 : ((i : Int) == 0) = false := by rw [beq_eq_false_iff_ne]; omega
                go_wp2_with fail
                go_roundw
                case rel => exact ⟨i + 1, by omega, by go_num, Lib.hid (H_f.out.next hil hcL (by rw [nmC_nat]; simp; omega) (fun e => by omega)), hB⟩
                case measure => simp [intOf]; omega
            · have g57 : ¬ (c.toNat : Int) ≤ 57 := by omega
              have g45 : ((c.toNat : Int) == 45) = false := by rw [beq_eq_false_iff_ne]; omega
              by_cases hi0 : i = 0
              · subst hi0
                have hbad : nmOk s = false := nmL_bad hil hcL (by first | (left; rw [nmC_nat]; simp; omega) | (right; omega))
                go_wp2_with fail
                go_returns
                first | exact ⟨rfl, hB⟩ | exact ⟨by rw [hbad]; rfl, hB⟩
              · have gi0 : ((i : Int) == 0) = false := by rw [beq_eq_false_iff_ne]; omega
                have hbad : nmOk s = false := nmL_bad hil hcL (by first | (left; rw [nmC_nat]; simp; omega) | (right; omega))
                go_wp2_with fail
                go_returns
                first | exact ⟨rfl, hB⟩ | exact ⟨by rw [hbad]; rfl, hB⟩
          · have g48 : ¬ (48 : Int) ≤ (c.toNat : Int) := by omega
            by_cases h45 : c.toNat = 45
            · have g45 : ((c.toNat : Int) == 45) = true := by rw [beq_iff_eq]; omega
              by_cases hi0 : i = 0
              · subst hi0
                have hbad : nmOk s = false := nmL_bad hil hcL (by first | (left; rw [nmC_nat]; simp; omega) | (right; omega))
                go_wp2_with fail
                go_returns
                first | exact ⟨rfl, hB⟩ | exact ⟨by rw [hbad]; rfl, hB⟩
              · have gi0 : ((i : Int) == 0) = false := by rw [beq_eq_false_iff_ne]; omega
                go_wp2_with fail
                go_roundw
                case rel => exact ⟨i + 1, by omega, by go_num, Lib.hid (H_f.out.next hil hcL (by rw [nmC_nat]; simp; omega) (fun e => by omega)), hB⟩
                case measure => simp [intOf]; omega
            · have g45 : ((c.toNat : Int) == 45) = false := by rw [beq_eq_false_iff_ne]; omega
              by_cases hi0 : i = 0
              · subst hi0
                have hbad : nmOk s = false := nmL_bad hil hcL (by first | (left; rw [nmC_nat]; simp; omega) | (right; omega))
                go_wp2_with fail
                go_returns
                first | exact ⟨rfl, hB⟩ | exact ⟨by rw [hbad]; rfl, hB⟩
              · have gi0 : ((i : Int) == 0) = false := by rw [beq_eq_false_iff_ne]; omega
                have hbad : nmOk s = false := nmL_bad hil hcL (by first | (left; rw [nmC_nat]; simp; omega) | (right; omega))
                go_wp2_with fail
                go_returns
                first | exact ⟨rfl, hB⟩ | exact ⟨by rw [hbad]; rfl, hB⟩
      · obtain rfl : i = s.size := by omega
        have hok : nmOk s = true := by
          have h := H_f.out
          rw [← H_hlen.out] at h
          exact h.done (by have := H_hlen.out; omega) (by have := H_hlen.out; omega)
        go_wp2_with fail
        go_returns
        exact ⟨by rw [hok]; rfl, hB⟩
end Go.Proofs.YtndlmmpheecleaaGreatDoor

/-
  Walks over the reference's document: isValue.
-/
namespace Lead.Rc
open Go Go.RowKit Lead Lead.Dc
theorem vl_bad {L : List UInt8} {i : Nat} {c : UInt8} (hi : i < L.length) (hc : L[i] = c) (h : vlC c = false) : L.all vlC = false := by
  cases hL : L.all vlC with
  | false => rfl
  | true => rw [List.all_eq_true] at hL; rw [← hc, hL _ (List.getElem_mem hi)] at h; cases h
theorem vl_all {L : List UInt8} (h : ∀ j (hj : j < L.length), vlC L[j] = true) : L.all vlC = true := List.all_eq_true.2 fun x hx => by
  obtain ⟨j, hj, rfl⟩ := List.mem_iff_getElem.1 hx
  exact h j hj
end Lead.Rc
namespace Go.Proofs.YtndlmmpheecleaaGreatDoor
open Go.RowKit Lead Lead.Dc Lead.Rc
set_option maxHeartbeats 2000000 in
theorem risvalue_any (s : ByteArray) (w : World) (_hs : s.size ≤ 1000000) :
    Calls Tryz.prog 44 #[.string s] w fun en w' => en = .returned (.bool (vlOk s)) ∧ Below w.heap.size w w' := by
  have hlen : s.data.toList.length = s.size := by simp
  have H_hlen := Lib.hid hlen
  clear hlen
  go_enter Tryz.func44, Tryz.ntmps44
  go_wp2_with fail
  go_loopw [3] (fun t3 wr => ∃ i : Nat, i ≤ s.size ∧ t3 = .int .i64 i ∧ RowKit.Hid (∀ j (hj : j < s.data.toList.length), j < i → vlC s.data.toList[j] = true) ∧ Below w.heap.size w wr) (fun t3 _ => s.size - (intOf t3).toNat)
  case atStart => exact ⟨0, Nat.zero_le _, rfl, Lib.hid (fun _ _ h => by omega), by repeat' (first | (with_reducible first | exact bwR _ _ | assumption | refine bdn ?_ | refine bwA ?_ ?_ _ | refine bwD ?_ | refine bwS ?_ ?_ _) | omega | (simp <;> omega))⟩
  case round =>
    obtain ⟨i, hi, rfl, H_f, hB⟩ := hrel
    by_cases hlt : i < s.size
    · have hil : i < s.data.toList.length := by have := H_hlen.out; omega
      obtain ⟨c, hc⟩ : ∃ c : UInt8, s[i] = c := ⟨_, rfl⟩
      have hcL : s.data.toList[i] = c := hc
      have gi : IntKind.i64.wrap ((i : Int) + 1) = ((i + 1 : Nat) : Int) := IntWalk.i64_in _ (by omega)
      by_cases h32 : c.toNat < 32
      · have g32 : (c.toNat : Int) < 32 := by omega
        have hbad : vlOk s = false := by unfold vlOk; rw [vl_bad hil hcL (by rw [vlC_eq]; simp; omega), Bool.and_false]
        have H_hcL := Lib.hid hcL
        clear hcL
        have H_hbad := Lib.hid hbad
        clear hbad
        go_wp2_with fail
        go_returns
        exact ⟨congrArg (fun b => Ending.returned (.bool b)) H_hbad.out.symm, hB⟩
      · have g32 : ¬ (c.toNat : Int) < 32 := by omega
        by_cases h126 : 126 < c.toNat
        · have g126 : (126 : Int) < (c.toNat : Int) := by omega
          have hbad : vlOk s = false := by unfold vlOk; rw [vl_bad hil hcL (by rw [vlC_eq]; simp; omega), Bool.and_false]
          have H_hcL := Lib.hid hcL
          clear hcL
          have H_hbad := Lib.hid hbad
          clear hbad
          go_wp2_with fail
          go_returns
          exact ⟨congrArg (fun b => Ending.returned (.bool b)) H_hbad.out.symm, hB⟩
        · have g126 : ¬ (126 : Int) < (c.toNat : Int) := by omega
          have hn : ∀ j (hj : j < s.data.toList.length), j < i + 1 → vlC s.data.toList[j] = true := fun j hj hji => by
            by_cases e : j = i
            · subst e; rw [hcL, vlC_eq]; simp; omega
            · exact H_f.out j hj (by omega)
          have H_hn := Lib.hid hn
          clear hn
          have H_hcL := Lib.hid hcL
          clear hcL
          go_wp2_with fail
          go_roundw
          case rel => exact ⟨i + 1, by omega, by go_num, H_hn, hB⟩
          case measure => simp [intOf]; omega
    · obtain rfl : i = s.size := by omega
      have hok := vl_all (L := s.data.toList) (fun j hj => H_f.out j hj (by have := H_hlen.out; omega))
      have hv : vlOk s = decide (s.size ≤ 200) := by unfold vlOk; rw [hok, Bool.and_true]
      by_cases h1 : s.size ≤ 200
      · have g1 : (s.size : Int) ≤ 200 := by omega
        rw [decide_eq_true h1] at hv
        have H_hv := Lib.hid hv
        clear hv
        have H_hok := Lib.hid hok
        clear hok
        go_wp2_with fail
        go_returns
        exact ⟨congrArg (fun b => Ending.returned (.bool b)) H_hv.out.symm, hB⟩
      · have g1 : ¬ (s.size : Int) ≤ 200 := by omega
        rw [decide_eq_false h1] at hv
        have H_hv := Lib.hid hv
        clear hv
        have H_hok := Lib.hid hok
        clear hok
        go_wp2_with fail
        go_returns
        exact ⟨congrArg (fun b => Ending.returned (.bool b)) H_hv.out.symm, hB⟩
end Go.Proofs.YtndlmmpheecleaaGreatDoor
