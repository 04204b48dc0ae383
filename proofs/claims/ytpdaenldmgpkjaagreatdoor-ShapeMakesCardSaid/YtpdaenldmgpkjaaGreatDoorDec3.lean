/-
  Walks over the document's answer: a number of digits.
-/
import Derived.Test.YtpdaenldmgpkjaaGreatDoorDa
import Derived.Test.YtpdaenldmgpkjaaGreatDoorRows
namespace Lead
open Go Go.RowKit
theorem numOf_cases (l : List UInt8) (most : Nat) : (l.length < 1 ∧ numOf l most = -1) ∨ (1 ≤ l.length ∧ most < l.length ∧ numOf l most = -1) ∨ (1 < l.length ∧ l.length ≤ most ∧ l.head? = some 48 ∧ numOf l most = -1) ∨
    (1 ≤ l.length ∧ l.length ≤ most ∧ ¬ (1 < l.length ∧ l.head? = some 48) ∧ numOf l most = if l.all isDig = true then (numF l : Int) else -1) := by
  unfold numOf
  by_cases h1 : l.length < 1
  · exact .inl ⟨h1, if_pos (.inl h1)⟩
  · by_cases h2 : most < l.length
    · exact .inr (.inl ⟨by omega, h2, if_pos (.inr (.inl h2))⟩)
    · by_cases h3 : 1 < l.length ∧ l.head? = some 48
      · exact .inr (.inr (.inl ⟨h3.1, by omega, h3.2, if_pos (.inr (.inr h3))⟩))
      · exact .inr (.inr (.inr ⟨by omega, by omega, h3, if_neg (by rintro (h | h | h) <;> first | omega | exact h3 h)⟩))
theorem numF_take {l : List UInt8} {k : Nat} (h : k < l.length) : numF (l.take (k + 1)) = 10 * numF (l.take k) + (l[k].toNat - 48) := by
  rw [List.take_succ_eq_append_getElem h, numF_snoc]
theorem all_take {l : List UInt8} {k : Nat} (h : k < l.length) : (l.take (k + 1)).all isDig = ((l.take k).all isDig && isDig l[k]) := by
  rw [List.take_succ_eq_append_getElem h, List.all_append]; simp
theorem numF_bound {l : List UInt8} {k : Nat} (h : (l.take k).all isDig = true) (hk : k ≤ 10) : numF (l.take k) < 10000000000 := by
  have h1 := numF_lt h
  have h2 : (l.take k).length ≤ 10 := by rw [List.length_take]; omega
  have h3 : (10 : Nat) ^ (l.take k).length ≤ 10 ^ 10 := Nat.pow_le_pow_right (by decide) h2
  have h4 : (10 : Nat) ^ 10 = 10000000000 := by decide
  omega
theorem bytes_at {s : ByteArray} {k : Nat} (h : k < s.size) : s.data.toList[k]'(by simpa using h) = s[k] := rfl
theorem head_at {s : ByteArray} (h : 0 < s.size) : s.data.toList.head? = some s[0] := by
  rw [List.head?_eq_getElem?, List.getElem?_eq_getElem (by simpa using h)]; rfl
def NumRel (s : ByteArray) (n i : Value) : Prop := ∃ k : Nat, k ≤ s.size ∧ i = .int .i64 k ∧ (s.data.toList.take k).all isDig = true ∧ n = .int .i64 (numF (s.data.toList.take k))
end Lead
namespace Go.Proofs.YtpdaenldmgpkjaaGreatDoor
open Go.RowKit Lead

set_option maxHeartbeats 2000000 in
theorem rnumber_any (s : ByteArray) (most : Nat) (w : World) (hm : most ≤ 10) :
    Calls Tryz.prog 79 #[.string s, .int .i64 most] w fun e w' => e = .returned (.int .i64 (numOf s.data.toList most)) ∧ Below w.heap.size w w' := by
  have hlen : s.data.toList.length = s.size := by simp
  rcases numOf_cases s.data.toList most with ⟨h1, hn⟩ | ⟨h1, h2, hn⟩ | ⟨h1, h2, h3, hn⟩ | ⟨h1, h2, h3, hn⟩
  · rw [hlen] at h1
    have g1 : decide ((s.size : Int) < 1) = true := by simp; omega
    rw [hn]
    have H_hn := Lib.hid hn
    clear hn
    have H_hlen := Lib.hid hlen
    clear hlen
    go_enter Tryz.func79, Tryz.ntmps79
    go_wp2_with fail
    go_returns
    exact ⟨rfl, by repeat' (first | (with_reducible first | exact bwR _ _ | assumption | refine bdn ?_ | refine bwA ?_ ?_ _ | refine bwD ?_ | refine bwS ?_ ?_ _) | omega | (simp <;> omega))⟩
  · rw [hlen] at h1 h2
    have g1 : decide ((s.size : Int) < 1) = false := by simp; omega
    have g2 : decide ((most : Int) < (s.size : Int)) = true := by simp; omega
    rw [hn]
    have H_hn := Lib.hid hn
    clear hn
    have H_hlen := Lib.hid hlen
    clear hlen
    go_enter Tryz.func79, Tryz.ntmps79
    go_wp2_with fail
    go_returns
    exact ⟨rfl, by repeat' (first | (with_reducible first | exact bwR _ _ | assumption | refine bdn ?_ | refine bwA ?_ ?_ _ | refine bwD ?_ | refine bwS ?_ ?_ _) | omega | (simp <;> omega))⟩
  · rw [hlen] at h1 h2
    have h0 : 0 < s.size := by omega
    rw [head_at h0] at h3
    have h3 := Option.some.inj h3
    have g1 : decide ((s.size : Int) < 1) = false := by simp; omega
    have g2 : decide (most < s.size) = false := by simp; omega
    have g3 : decide ((1 : Int) < (s.size : Int)) = true := by simp; omega
    have g4 : (((s[0]).toNat : Int) == 48) = true := by rw [h3]; rfl
    rw [hn]
    have H_hn := Lib.hid hn
    clear hn
    have H_hlen := Lib.hid hlen
    clear hlen
    have H_h3 := Lib.hid h3
    clear h3
    go_enter Tryz.func79, Tryz.ntmps79
    go_wp2_with fail
    go_returns
    exact ⟨rfl, by repeat' (first | (with_reducible first | exact bwR _ _ | assumption | refine bdn ?_ | refine bwA ?_ ?_ _ | refine bwD ?_ | refine bwS ?_ ?_ _) | omega | (simp <;> omega))⟩
  · rw [hlen] at h1 h2 h3
    have h0 : 0 < s.size := by omega
    rw [head_at h0] at h3
    have g1 : decide ((s.size : Int) < 1) = false := by simp; omega
    have g2 : decide (most < s.size) = false := by simp; omega
    by_cases hz : 1 < s.size
    · have g3 : decide ((1 : Int) < (s.size : Int)) = true := by simp; omega
      have g4 : (((s[0]).toNat : Int) == 48) = false := by
        rw [beq_eq_false_iff_ne]
        intro e
        exact h3 ⟨hz, congrArg some (UInt8.toNat_inj.1 (by show _ = 48; omega))⟩
      have H_hn := Lib.hid hn
      clear hn
      have H_hlen := Lib.hid hlen
      clear hlen
      have H_h3 := Lib.hid h3
      clear h3
      go_enter Tryz.func79, Tryz.ntmps79
      go_wp2_with fail
      go_loop [5, 6] (fun n i => NumRel s n i) (fun _ i => s.size - (intOf i).toNat)
      case atStart => exact ⟨0, Nat.zero_le _, rfl, rfl, rfl⟩
      case round =>
        obtain ⟨k, hk, rfl, hall, rfl⟩ := hrel
        have hb := numF_bound hall (by omega)
        by_cases hlt : k < s.size
        · have hkl : k < s.data.toList.length := by have := H_hlen.out; omega
          have hnt := numF_take hkl
          have hat := all_take hkl
          rw [bytes_at hlt] at hnt hat
          obtain ⟨m, hm0⟩ : ∃ m, numF (s.data.toList.take k) = m := ⟨_, rfl⟩
          rw [hm0] at hnt hb ⊢
          obtain ⟨c, hc⟩ : ∃ c : UInt8, s[k] = c := ⟨_, rfl⟩
          rw [hc] at hnt hat
          by_cases hd : isDig c = true
          · have hd' : 48 ≤ c.toNat ∧ c.toNat ≤ 57 := by simpa [isDig] using hd
            obtain ⟨d1, d2⟩ := hd'
            have hat' : (s.data.toList.take (k + 1)).all isDig = true := by rw [hat, hall, hd]; rfl
            have hnt' : (numF (s.data.toList.take (k + 1)) : Int) = 10 * (m : Int) + ((c.toNat : Int) - 48) := by rw [hnt]; omega
            clear hat hnt
            have H_hall := Lib.hid hall
            clear hall
            have H_hm0 := Lib.hid hm0
            clear hm0
            have H_hd := Lib.hid hd
            clear hd
            have H_hat' := Lib.hid hat'
            clear hat'
            have H_hnt' := Lib.hid hnt'
            clear hnt'
            go_wp2_with fail
            go_round
            case rel => exact ⟨k + 1, by omega, by go_num, H_hat'.out, by rw [H_hnt'.out]⟩
            case measure => simp [intOf]; omega
          · have hdf : isDig c = false := Bool.eq_false_iff.2 hd
            have hno : s.data.toList.all isDig = false := by
              rw [← List.take_append_drop (k + 1) s.data.toList, List.all_append, hat, hdf]; simp
            have hd' : c.toNat < 48 ∨ 57 < c.toNat := by
              rcases Nat.lt_or_ge c.toNat 48 with h | h
              · exact .inl h
              · right
                rcases Nat.lt_or_ge 57 c.toNat with h' | h'
                · exact h'
                · exact absurd (show isDig c = true by simp [isDig]; omega) hd
            have hfin : numOf s.data.toList most = -1 := by rw [H_hn.out, if_neg (by rw [hno]; decide)]
            clear hat hnt
            rcases hd' with hd1 | hd1
            · have q1 : (c.toNat : Int) < 48 := by omega
              have H_hall := Lib.hid hall
              clear hall
              have H_hm0 := Lib.hid hm0
              clear hm0
              have H_hd := Lib.hid hd
              clear hd
              have H_hdf := Lib.hid hdf
              clear hdf
              have H_hno := Lib.hid hno
              clear hno
              have H_hfin := Lib.hid hfin
              clear hfin
              go_wp2_with fail
              go_returns
              exact ⟨by rw [H_hfin.out]; rfl, by repeat' (first | (with_reducible first | exact bwR _ _ | assumption | refine bdn ?_ | refine bwA ?_ ?_ _ | refine bwD ?_ | refine bwS ?_ ?_ _) | omega | (simp <;> omega))⟩
            · have q1 : (57 : Int) < c.toNat := by omega
              have q2 : ¬ (c.toNat : Int) < 48 := by omega
              have H_hall := Lib.hid hall
              clear hall
              have H_hm0 := Lib.hid hm0
              clear hm0
              have H_hd := Lib.hid hd
              clear hd
              have H_hdf := Lib.hid hdf
              clear hdf
              have H_hno := Lib.hid hno
              clear hno
              have H_hfin := Lib.hid hfin
              clear hfin
              go_wp2_with fail
              go_returns
              exact ⟨by rw [H_hfin.out]; rfl, by repeat' (first | (with_reducible first | exact bwR _ _ | assumption | refine bdn ?_ | refine bwA ?_ ?_ _ | refine bwD ?_ | refine bwS ?_ ?_ _) | omega | (simp <;> omega))⟩
        · have hks : k = s.size := by omega
          have hl := H_hlen.out
          rw [List.take_of_length_le (by omega)] at hall hb ⊢
          have hfin : numOf s.data.toList most = numF s.data.toList := by rw [H_hn.out, if_pos hall]
          have H_hall := Lib.hid hall
          clear hall
          have H_hfin := Lib.hid hfin
          clear hfin
          have H_hks := Lib.hid hks
          clear hks
          have H_hl := Lib.hid hl
          clear hl
          go_wp2_with fail
          go_returns
          exact ⟨by rw [H_hfin.out]; rfl, by repeat' (first | (with_reducible first | exact bwR _ _ | assumption | refine bdn ?_ | refine bwA ?_ ?_ _ | refine bwD ?_ | refine bwS ?_ ?_ _) | omega | (simp <;> omega))⟩
    · have g3 : decide ((1 : Int) < (s.size : Int)) = false := by simp; omega
      have H_hn := Lib.hid hn
      clear hn
      have H_hlen := Lib.hid hlen
      clear hlen
      have H_h3 := Lib.hid h3
      clear h3
      go_enter Tryz.func79, Tryz.ntmps79
      go_wp2_with fail
      go_loop [5, 6] (fun n i => NumRel s n i) (fun _ i => s.size - (intOf i).toNat)
      case atStart => exact ⟨0, Nat.zero_le _, rfl, rfl, rfl⟩
      case round =>
        obtain ⟨k, hk, rfl, hall, rfl⟩ := hrel
        have hb := numF_bound hall (by omega)
        by_cases hlt : k < s.size
        · have hkl : k < s.data.toList.length := by have := H_hlen.out; omega
          have hnt := numF_take hkl
          have hat := all_take hkl
          rw [bytes_at hlt] at hnt hat
          obtain ⟨m, hm0⟩ : ∃ m, numF (s.data.toList.take k) = m := ⟨_, rfl⟩
          rw [hm0] at hnt hb ⊢
          obtain ⟨c, hc⟩ : ∃ c : UInt8, s[k] = c := ⟨_, rfl⟩
          rw [hc] at hnt hat
          by_cases hd : isDig c = true
          · have hd' : 48 ≤ c.toNat ∧ c.toNat ≤ 57 := by simpa [isDig] using hd
            obtain ⟨d1, d2⟩ := hd'
            have hat' : (s.data.toList.take (k + 1)).all isDig = true := by rw [hat, hall, hd]; rfl
            have hnt' : (numF (s.data.toList.take (k + 1)) : Int) = 10 * (m : Int) + ((c.toNat : Int) - 48) := by rw [hnt]; omega
            clear hat hnt
            have H_hall := Lib.hid hall
            clear hall
            have H_hm0 := Lib.hid hm0
            clear hm0
            have H_hd := Lib.hid hd
            clear hd
            have H_hat' := Lib.hid hat'
            clear hat'
            have H_hnt' := Lib.hid hnt'
            clear hnt'
            go_wp2_with fail
            go_round
            case rel => exact ⟨k + 1, by omega, by go_num, H_hat'.out, by rw [H_hnt'.out]⟩
            case measure => simp [intOf]; omega
          · have hdf : isDig c = false := Bool.eq_false_iff.2 hd
            have hno : s.data.toList.all isDig = false := by
              rw [← List.take_append_drop (k + 1) s.data.toList, List.all_append, hat, hdf]; simp
            have hd' : c.toNat < 48 ∨ 57 < c.toNat := by
              rcases Nat.lt_or_ge c.toNat 48 with h | h
              · exact .inl h
              · right
                rcases Nat.lt_or_ge 57 c.toNat with h' | h'
                · exact h'
                · exact absurd (show isDig c = true by simp [isDig]; omega) hd
            have hfin : numOf s.data.toList most = -1 := by rw [H_hn.out, if_neg (by rw [hno]; decide)]
            clear hat hnt
            rcases hd' with hd1 | hd1
            · have q1 : (c.toNat : Int) < 48 := by omega
              have H_hall := Lib.hid hall
              clear hall
              have H_hm0 := Lib.hid hm0
              clear hm0
              have H_hd := Lib.hid hd
              clear hd
              have H_hdf := Lib.hid hdf
              clear hdf
              have H_hno := Lib.hid hno
              clear hno
              have H_hfin := Lib.hid hfin
              clear hfin
              go_wp2_with fail
              go_returns
              exact ⟨by rw [H_hfin.out]; rfl, by repeat' (first | (with_reducible first | exact bwR _ _ | assumption | refine bdn ?_ | refine bwA ?_ ?_ _ | refine bwD ?_ | refine bwS ?_ ?_ _) | omega | (simp <;> omega))⟩
            · have q1 : (57 : Int) < c.toNat := by omega
              have q2 : ¬ (c.toNat : Int) < 48 := by omega
              have H_hall := Lib.hid hall
              clear hall
              have H_hm0 := Lib.hid hm0
              clear hm0
              have H_hd := Lib.hid hd
              clear hd
              have H_hdf := Lib.hid hdf
              clear hdf
              have H_hno := Lib.hid hno
              clear hno
              have H_hfin := Lib.hid hfin
              clear hfin
              go_wp2_with fail
              go_returns
              exact ⟨by rw [H_hfin.out]; rfl, by repeat' (first | (with_reducible first | exact bwR _ _ | assumption | refine bdn ?_ | refine bwA ?_ ?_ _ | refine bwD ?_ | refine bwS ?_ ?_ _) | omega | (simp <;> omega))⟩
        · have hks : k = s.size := by omega
          have hl := H_hlen.out
          rw [List.take_of_length_le (by omega)] at hall hb ⊢
          have hfin : numOf s.data.toList most = numF s.data.toList := by rw [H_hn.out, if_pos hall]
          have H_hall := Lib.hid hall
          clear hall
          have H_hfin := Lib.hid hfin
          clear hfin
          have H_hks := Lib.hid hks
          clear hks
          have H_hl := Lib.hid hl
          clear hl
          go_wp2_with fail
          go_returns
          exact ⟨by rw [H_hfin.out]; rfl, by repeat' (first | (with_reducible first | exact bwR _ _ | assumption | refine bdn ?_ | refine bwA ?_ ?_ _ | refine bwD ?_ | refine bwS ?_ ?_ _) | omega | (simp <;> omega))⟩
end Go.Proofs.YtpdaenldmgpkjaaGreatDoor
