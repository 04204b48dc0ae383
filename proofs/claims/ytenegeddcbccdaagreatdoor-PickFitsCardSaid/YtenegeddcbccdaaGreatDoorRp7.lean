/-
  Walks: SameInts of two rows of the document's numbers.
-/
import Derived.Test.YtenegeddcbccdaaGreatDoorRe
import Derived.Deep.OwnRows
namespace Lead.Rc
open Go Go.RowKit Lead Lead.Dc
theorem take_eq_succN {a b : List Nat} {k : Nat} (h1 : k < a.length) (h2 : k < b.length) (h : a.take k = b.take k) (e : a[k] = b[k]) : a.take (k + 1) = b.take (k + 1) := by
  rw [List.take_succ_eq_append_getElem h1, List.take_succ_eq_append_getElem h2, h, e]
end Lead.Rc
namespace Go.Proofs.YtenegeddcbccdaaGreatDoor
open Go.RowKit Lead Lead.Dc Lead.Rc
set_option maxHeartbeats 1000000 in
theorem sameints_sl (oa ob : Option Addr) (la lb ca cb : Nat) (xs ys : List Nat) (w : World) (ha : SlA EIn w oa la ca xs) (hb : SlA EIn w ob lb cb ys) (hbig : la ≤ 1000000) :
    Calls Tryz.prog 36 #[.slice oa la ca, .slice ob lb cb] w fun e w' => e = .returned (.bool (decide (xs = ys))) ∧ Below w.heap.size w w' := by
  obtain ⟨r, hr⟩ : ∃ r, decide (xs = ys) = r := ⟨_, rfl⟩
  rw [hr]
  by_cases hl : la = lb
  · subst hl
    have e0 : ((la : Int) != la) = false := by simp
    have H_ha := Lib.hid ha
    clear ha
    have H_hb := Lib.hid hb
    clear hb
    have H_hr := Lib.hid hr
    clear hr
    go_enter Tryz.func36, Tryz.ntmps36
    go_wp2_with fail
    go_loopw [5] (fun i wr => ∃ k : Nat, k ≤ la ∧ i = .int .i64 k ∧ RowKit.Hid (xs.take k = ys.take k) ∧ Below w.heap.size w wr) (fun i _ => la - (intOf i).toNat)
    case atStart => exact ⟨0, Nat.zero_le _, rfl, Lib.hid rfl, by repeat' (first | (with_reducible first | exact bwR _ _ | assumption | refine bdn ?_ | refine bwA ?_ ?_ _ | refine bwD ?_ | refine bwS ?_ ?_ _) | omega | (simp <;> omega))⟩
    case round =>
      obtain ⟨k, hk, rfl, H_t, hB⟩ := hrel
      by_cases hlt : k < la
      · have hk1 : k < xs.length := by have := H_ha.out.1; omega
        have hk2 : k < ys.length := by have := H_hb.out.1; omega
        obtain ⟨a, o1, rfl, hla, hra⟩ := H_ha.out.2.2.2.resolve_left (by intro h; rw [h] at hk1; simp at hk1)
        obtain ⟨b, o2, rfl, hlb, hrb⟩ := H_hb.out.2.2.2.resolve_left (by intro h; rw [h] at hk2; simp at hk2)
        have q0 : wr.cell? ⟨a, o1 + k, none⟩ = some (.int .i64 (xs[k] : Int)) := by
          have h := (hra.keep hB hla) k hk1 0 _ rfl
          simpa [EIn] using h
        have q1 : wr.cell? ⟨b, o2 + k, none⟩ = some (.int .i64 (ys[k] : Int)) := by
          have h := (hrb.keep hB hlb) k hk2 0 _ rfl
          simpa [EIn] using h
        have hnx := take_eq_succN hk1 hk2 H_t.out
        have hne : xs[k] ≠ ys[k] → xs ≠ ys := fun h e => h (by simp [e])
        obtain ⟨s, hs'⟩ : ∃ s, xs[k] = s := ⟨_, rfl⟩
        obtain ⟨t, ht'⟩ : ∃ t, ys[k] = t := ⟨_, rfl⟩
        rw [hs'] at q0 hnx hne
        rw [ht'] at q1 hnx hne
        clear hs' ht' hra hrb
        by_cases hst : s = t
        · subst hst
          have hn1 := hnx rfl
          have e1 : ((s : Int) != s) = false := by simp
          clear hnx hne
          have H_hn1 := Lib.hid hn1
          clear hn1
          go_wp2_with fail
          go_region
          all_goals
            go_wp2_with fail
            go_roundw
            case rel => exact ⟨k + 1, by omega, by go_num, H_hn1, by repeat' (first | (with_reducible first | exact bwR _ _ | assumption | refine bdn ?_ | refine bwA ?_ ?_ _ | refine bwD ?_ | refine bwS ?_ ?_ _) | omega | (simp <;> omega))⟩
            case measure => simp [intOf]; omega
        · have hf := hne hst
          have e1 : ((s : Int) != t) = true := by
            rw [bne_iff_ne]; omega
          have hrf : r = false := by rw [← H_hr.out]; exact decide_eq_false hf
          subst hrf
          clear hnx hne
          have H_hf := Lib.hid hf
          clear hf
          go_wp2_with fail
          go_region
          all_goals
            go_wp2_with fail
            go_returns
            exact ⟨rfl, by repeat' (first | (with_reducible first | exact bwR _ _ | assumption | refine bdn ?_ | refine bwA ?_ ?_ _ | refine bwD ?_ | refine bwS ?_ ?_ _) | omega | (simp <;> omega))⟩
      · obtain rfl : k = la := by omega
        have he : xs = ys := by
          have h := H_t.out
          rw [List.take_of_length_le (by have := H_ha.out.1; omega), List.take_of_length_le (by have := H_hb.out.1; omega)] at h
          exact h
        have hrt : r = true := by rw [← H_hr.out]; exact decide_eq_true he
        subst hrt
        have H_he := Lib.hid he
        clear he
        go_wp2_with fail
        go_returns
        exact ⟨rfl, by repeat' (first | (with_reducible first | exact bwR _ _ | assumption | refine bdn ?_ | refine bwA ?_ ?_ _ | refine bwD ?_ | refine bwS ?_ ?_ _) | omega | (simp <;> omega))⟩
  · have e0 : ((la : Int) != lb) = true := by rw [bne_iff_ne]; omega
    have hf : xs ≠ ys := fun e => hl (by rw [ha.1, hb.1, e])
    have hrf : r = false := by rw [← hr]; exact decide_eq_false hf
    subst hrf
    have H_ha := Lib.hid ha
    clear ha
    have H_hb := Lib.hid hb
    clear hb
    have H_hr := Lib.hid hr
    clear hr
    have H_hf := Lib.hid hf
    clear hf
    go_enter Tryz.func36, Tryz.ntmps36
    go_wp2_with fail
    go_returns
    exact ⟨rfl, by repeat' (first | (with_reducible first | exact bwR _ _ | assumption | refine bdn ?_ | refine bwA ?_ ?_ _ | refine bwD ?_ | refine bwS ?_ ?_ _) | omega | (simp <;> omega))⟩
end Go.Proofs.YtenegeddcbccdaaGreatDoor
