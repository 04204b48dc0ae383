/-
  Walks over the statements' helpers: longPieces. Pieces as they come in.
-/
import Derived.Test.YtaidgecpglikpaaDoorPn9
namespace Lead
open Go Go.RowKit
/-- A slice of points that came in within a piece: an empty one may have any address. -/
def SlQ (w : World) (oa : Option Addr) (len cap : Nat) (ps : List Pt) : Prop := SlP w oa len cap ps ∨ (len = 0 ∧ ps = [])
theorem SlQ.keep {w w1 : World} {oa : Option Addr} {len cap : Nat} {ps : List Pt} {B : Nat} (h : SlQ w oa len cap ps) (hb : Below B w w1) (hB : B = w.heap.size) : SlQ w1 oa len cap ps := by
  rcases h with h | h
  · exact .inl (h.keep hb hB)
  · exact .inr h
theorem SlQ.len {w : World} {oa : Option Addr} {len cap : Nat} {ps : List Pt} (h : SlQ w oa len cap ps) : len = ps.length := by
  rcases h with h | ⟨h, h'⟩
  · exact h.1
  · rw [h, h']; rfl
/-- Pieces that came in. -/
def ArgPc (w : World) (oa : Option Addr) (len cap : Nat) (l : List Pc) : Prop :=
  len = l.length ∧ len ≤ cap ∧ len ≤ maxLen ∧ (∀ p ∈ l, SlQ w p.oa p.len p.cap p.ps) ∧ ((oa = none ∧ len = 0 ∧ cap = 0) ∨ ∃ b off, oa = some ⟨b, off, none⟩ ∧ b < w.heap.size ∧ RowIn EPc w b off l)
theorem ArgPc.keep {w w1 : World} {oa : Option Addr} {len cap : Nat} {l : List Pc} {B : Nat} (h : ArgPc w oa len cap l) (hb : Below B w w1) (hB : B = w.heap.size) : ArgPc w1 oa len cap l := by
  obtain ⟨h1, h2, h3, h4, h5⟩ := h
  refine ⟨h1, h2, h3, fun p hp => (h4 p hp).keep hb hB, ?_⟩
  rcases h5 with h5 | ⟨b, off, h6, h7, h8⟩
  · exact .inl h5
  · exact .inr ⟨b, off, h6, Nat.lt_of_lt_of_le h7 hb.size, h8.keep hb (by omega)⟩
def longP (p : Pc) : Bool := decide (40 < p.len) || decide (60 < p.fill.size) || decide (60 < p.rule.size)
def longB (l : List Pc) : Bool := decide (8 < l.length) || l.any longP
end Lead
namespace Go.Proofs.YtaidgecpglikpaaDoor
open Go.RowKit Lead
set_option maxHeartbeats 2000000 in
theorem longpieces_any (l : List Pc) (oa : Option Addr) (len cap : Nat) (r : Bool) (w : World) (hs : ArgPc w oa len cap l) (hr : longB l = r) :
    Calls Tryd.prog 6 #[.slice oa len cap] w fun e w' => e = .returned (.bool r) ∧ Below w.heap.size w w' := by
  obtain ⟨hl, hlc, hm, hSl, hcase⟩ := hs
  unfold maxLen at hm
  by_cases h8 : 8 < len
  · have hlt : longB l = true := by unfold longB; rw [decide_eq_true (by omega : 8 < l.length)]; rfl
    have hr' : r = true := hr.symm.trans hlt
    subst hr'
    have g8 : (8 : Int) < (len : Int) := by omega
    clear hcase hSl hl hr hlt
    go_enter Tryd.func6, Tryd.ntmps6
    go_wp2_with fail
    go_returns
    exact ⟨rfl, by repeat' (first | (with_reducible first | exact bwR _ _ | assumption | refine bdn ?_ | refine bwA ?_ ?_ _ | refine bwD ?_ | refine bwS ?_ ?_ _) | omega | (simp <;> omega))⟩
  · have hlb : longB l = l.any longP := by unfold longB; rw [decide_eq_false (by omega : ¬ 8 < l.length)]; rfl
    have g8 : ¬ (8 : Int) < (len : Int) := by omega
    rw [hlb] at hr
    clear hlb
    have H_hr := Lib.hid hr
    clear hr
    have H_hl := Lib.hid hl
    clear hl
    have H_hSl := Lib.hid hSl
    clear hSl
    have H_hcase := Lib.hid hcase
    clear hcase
    go_enter Tryd.func6, Tryd.ntmps6
    go_wp2_with fail
    go_loopw [3] (fun i wr => ∃ k : Nat, k ≤ len ∧ i = .int .i64 k ∧ (l.take k).any longP = false ∧ Below w.heap.size w wr) (fun i _ => len - (intOf i).toNat)
    case atStart => exact ⟨0, Nat.zero_le _, rfl, by simp, by repeat' (first | (with_reducible first | exact bwR _ _ | assumption | refine bdn ?_ | refine bwA ?_ ?_ _ | refine bwD ?_ | refine bwS ?_ ?_ _) | omega | (simp <;> omega))⟩
    case round =>
      obtain ⟨k, hk, rfl, hno, hB⟩ := hrel
      have hzr := hB.size
      by_cases hlt : k < len
      · have hk' : k < l.length := by have := H_hl.out; omega
        obtain ⟨b', off, rfl, hbl, hp⟩ : ∃ b off, oa = some ⟨b, off, none⟩ ∧ b < w.heap.size ∧ RowIn EPc w b off l := by
          rcases H_hcase.out with ⟨_, h, _⟩ | h
          · omega
          · exact h
        obtain ⟨q0, q1, q2, q3, q4⟩ := pc_cells (hp.keep hB hbl) hk'
        have hst := any_take longP hk'
        rw [hno, Bool.false_or] at hst
        have hhit : longP l[k] = true → r = true := fun h => by
          rw [← H_hr.out]
          exact List.any_eq_true.2 ⟨l[k], List.getElem_mem hk', h⟩
        obtain ⟨p, hpe⟩ : ∃ p, l[k] = p := ⟨_, rfl⟩
        rw [hpe] at q0 q1 q2 q3 q4 hst hhit
        clear hpe hp hno
        obtain ⟨node, poa, plen, pcap, ps, fill, rule, level⟩ := p
        simp only at q0 q1 q2 q3 q4
        have H_hst := Lib.hid hst
        clear hst
        have H_hhit := Lib.hid hhit
        clear hhit
        by_cases c1 : 40 < plen
        · have g1 : (40 : Int) < (plen : Int) := by omega
          have hr1 : r = true := H_hhit.out (by unfold longP; simp [c1])
          subst hr1
          go_wp2_with fail
          go_returns
          exact ⟨rfl, by repeat' (first | (with_reducible first | exact bwR _ _ | assumption | refine bdn ?_ | refine bwA ?_ ?_ _ | refine bwD ?_ | refine bwS ?_ ?_ _) | omega | (simp <;> omega))⟩
        · have g1 : decide ((40 : Int) < (plen : Int)) = false := by simp; omega
          by_cases c2 : 60 < fill.size
          · have g2 : (60 : Int) < (fill.size : Int) := by omega
            have hr1 : r = true := H_hhit.out (by unfold longP; simp [c2])
            subst hr1
            go_wp2_with fail
            go_returns
            exact ⟨rfl, by repeat' (first | (with_reducible first | exact bwR _ _ | assumption | refine bdn ?_ | refine bwA ?_ ?_ _ | refine bwD ?_ | refine bwS ?_ ?_ _) | omega | (simp <;> omega))⟩
          · have g2 : decide ((60 : Int) < (fill.size : Int)) = false := by simp; omega
            by_cases c3 : 60 < rule.size
            · have g3 : (60 : Int) < (rule.size : Int) := by omega
              have hr1 : r = true := H_hhit.out (by unfold longP; simp [c3])
              subst hr1
              go_wp2_with fail
              go_returns
              exact ⟨rfl, by repeat' (first | (with_reducible first | exact bwR _ _ | assumption | refine bdn ?_ | refine bwA ?_ ?_ _ | refine bwD ?_ | refine bwS ?_ ?_ _) | omega | (simp <;> omega))⟩
            · have g3 : decide ((60 : Int) < (rule.size : Int)) = false := by simp; omega
              have hz : longP ⟨node, poa, plen, pcap, ps, fill, rule, level⟩ = false := by unfold longP; simp; omega
              have H_hz := Lib.hid hz
              clear hz
              go_wp2_with fail
              go_roundw
              case rel => exact ⟨k + 1, by omega, by go_num, H_hst.out.trans H_hz.out, by repeat' (first | (with_reducible first | exact bwR _ _ | assumption | refine bdn ?_ | refine bwA ?_ ?_ _ | refine bwD ?_ | refine bwS ?_ ?_ _) | omega | (simp <;> omega))⟩
              case measure => simp [intOf]; omega
      · have e : l.take k = l := List.take_of_length_le (by have := H_hl.out; omega)
        rw [e] at hno
        have hr1 : r = false := H_hr.out.symm.trans hno
        subst hr1
        clear e hno
        go_wp2_with fail
        go_returns
        exact ⟨rfl, by repeat' (first | (with_reducible first | exact bwR _ _ | assumption | refine bdn ?_ | refine bwA ?_ ?_ _ | refine bwD ?_ | refine bwS ?_ ?_ _) | omega | (simp <;> omega))⟩
end Go.Proofs.YtaidgecpglikpaaDoor
