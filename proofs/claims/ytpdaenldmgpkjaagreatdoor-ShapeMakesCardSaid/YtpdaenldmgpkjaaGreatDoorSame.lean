/-
  Walks over the statements' helper samePoints: the same points.
-/
import Derived.Test.YtpdaenldmgpkjaaGreatDoorShape8
namespace Go.Proofs.YtpdaenldmgpkjaaGreatDoor
open Go.RowKit Lead

set_option maxHeartbeats 1000000 in
theorem same_any (ps : List Pt) (oa oc : Option Addr) (len cap len' cap' : Nat) (w : World) (hs : SlP w oa len cap ps) (hs' : SlP w oc len' cap' ps) :
    Calls Tryz.prog 22 #[.slice oa len cap, .slice oc len' cap'] w fun e w' => e = .returned (.bool true) ∧ Below w.heap.size w w' := by
  obtain ⟨hl, hlc, hm, hI, hcase⟩ := hs
  obtain ⟨hl', hlc', hm', _, hcase'⟩ := hs'
  obtain rfl : len = len' := hl.trans hl'.symm
  have e0 : ((len : Int) != len) = false := by simp
  unfold maxLen at hm
  by_cases h0 : len = 0
  · subst h0
    clear hcase hcase' hI
    have H_hl := Lib.hid hl
    clear hl
    go_enter Tryz.func22, Tryz.ntmps22
    go_wp2_with fail
    refine wp_loop_rounds 1 ?_
    rw [rounds_succ]
    go_wp2_with fail
    go_returns
    exact ⟨rfl, by repeat' (first | (with_reducible first | exact bwR _ _ | assumption | refine bdn ?_ | refine bwA ?_ ?_ _ | refine bwD ?_ | refine bwS ?_ ?_ _) | omega | (simp <;> omega))⟩
  · obtain ⟨b, off, rfl, hbl, hp⟩ : ∃ b off, oa = some ⟨b, off, none⟩ ∧ b < w.heap.size ∧ PtsIn w b off ps := by
      rcases hcase with ⟨_, h, _⟩ | h
      · exact absurd h h0
      · exact h
    obtain ⟨b', off', rfl, hbl', hp'⟩ : ∃ b off, oc = some ⟨b, off, none⟩ ∧ b < w.heap.size ∧ PtsIn w b off ps := by
      rcases hcase' with ⟨_, h, _⟩ | h
      · exact absurd h h0
      · exact h
    clear hcase hcase' h0
    have H_hl := Lib.hid hl
    clear hl
    have H_hp := Lib.hid hp
    clear hp
    have H_hp' := Lib.hid hp'
    clear hp'
    have H_hI := Lib.hid hI
    clear hI
    go_enter Tryz.func22, Tryz.ntmps22
    go_wp2_with fail
    go_loopw [5] (fun i wr => ∃ k : Nat, k ≤ len ∧ i = .int .i64 k ∧ Below w.heap.size w wr) (fun i _ => len - (intOf i).toNat)
    case atStart => exact ⟨0, Nat.zero_le _, rfl, by repeat' (first | (with_reducible first | exact bwR _ _ | assumption | refine bdn ?_ | refine bwA ?_ ?_ _ | refine bwD ?_ | refine bwS ?_ ?_ _) | omega | (simp <;> omega))⟩
    case round =>
      obtain ⟨k, hk, rfl, hB⟩ := hrel
      have hzr := hB.size
      by_cases hlt : k < len
      · have hk' : k < ps.length := by have := H_hl.out; omega
        have q0 := gkeep hB (H_hp.out.c0 k hk') rfl
        have q1 := gkeep hB (H_hp.out.c1 k hk') rfl
        have q2 := gkeep hB (H_hp.out.c2 k hk') rfl
        have q3 := gkeep hB (H_hp.out.c3 k hk') rfl
        have n0 := gkeep hB (H_hp'.out.c0 k hk') rfl
        have n1 := gkeep hB (H_hp'.out.c1 k hk') rfl
        have n2 := gkeep hB (H_hp'.out.c2 k hk') rfl
        have n3 := gkeep hB (H_hp'.out.c3 k hk') rfl
        obtain ⟨p, hpk⟩ : ∃ p, ps[k] = p := ⟨_, rfl⟩
        rw [hpk] at q0 q1 q2 q3 n0 n1 n2 n3
        clear hpk
        obtain ⟨xn, xd, yn, yd⟩ := p
        simp only at q0 q1 q2 q3 n0 n1 n2 n3
        go_wp2_with fail
        go_region
        all_goals
          go_wp2_with fail
          go_roundw
          case rel => exact ⟨k + 1, by omega, by go_num, by repeat' (first | (with_reducible first | exact bwR _ _ | assumption | refine bdn ?_ | refine bwA ?_ ?_ _ | refine bwD ?_ | refine bwS ?_ ?_ _) | omega | (simp <;> omega))⟩
          case measure => simp [intOf]; omega
      · go_wp2_with fail
        go_returns
        exact ⟨rfl, by repeat' (first | (with_reducible first | exact bwR _ _ | assumption | refine bdn ?_ | refine bwA ?_ ?_ _ | refine bwD ?_ | refine bwS ?_ ?_ _) | omega | (simp <;> omega))⟩
end Go.Proofs.YtpdaenldmgpkjaaGreatDoor
