/-
  Slices of ints: how they lie; SameInts.
-/
import Derived.Test.YthpicnajemnfdaaDoorPl5
import Derived.Test.YthpicnajemnfdaaDoorRows
namespace Lead
open Go Go.RowKit
/-- Ints that lie from a place on. -/
def IntsIn (w : World) (b off : Nat) (zs : List Int) : Prop := ∀ i (h : i < zs.length), w.cell? ⟨b, off + i, none⟩ = some (.int .i64 zs[i])
theorem IntsIn.keep {w w1 : World} {b off : Nat} {zs : List Int} {B : Nat} (h : IntsIn w b off zs) (hb : Below B w w1) (hB : b < B) : IntsIn w1 b off zs :=
  fun i hi => by rw [hb.cell hB]; exact h i hi
/-- A slice of ints: nil, or ints that lie from a place on. -/
def SlI (w : World) (oa : Option Addr) (len cap : Nat) (zs : List Int) : Prop :=
  len = zs.length ∧ len ≤ cap ∧ len ≤ maxLen ∧ ((oa = none ∧ len = 0 ∧ cap = 0) ∨ ∃ b off, oa = some ⟨b, off, none⟩ ∧ b < w.heap.size ∧ IntsIn w b off zs)
theorem SlI.keep {w w1 : World} {oa : Option Addr} {len cap : Nat} {zs : List Int} {B : Nat} (h : SlI w oa len cap zs) (hb : Below B w w1) (hB : B = w.heap.size) : SlI w1 oa len cap zs := by
  obtain ⟨h1, h2, h3, h5⟩ := h
  refine ⟨h1, h2, h3, ?_⟩
  rcases h5 with h5 | ⟨b, off, h6, h7, h8⟩
  · exact .inl h5
  · exact .inr ⟨b, off, h6, Nat.lt_of_lt_of_le h7 hb.size, h8.keep hb (by omega)⟩
theorem take_eq_succ {a b : List Int} {k : Nat} (h1 : k < a.length) (h2 : k < b.length) (h : a.take k = b.take k) (e : a[k] = b[k]) : a.take (k + 1) = b.take (k + 1) := by
  rw [List.take_succ_eq_append_getElem h1, List.take_succ_eq_append_getElem h2, h, e]
end Lead
namespace Go.Proofs.YthpicnajemnfdaaDoor
open Go.RowKit Lead

set_option maxHeartbeats 1000000 in
theorem sameints_some (xs ys : List Int) (b off b' off' len cap cap' : Nat) (w : World) (r : Bool) (h1 : SlI w (some ⟨b, off, none⟩) len cap xs) (h2 : SlI w (some ⟨b', off', none⟩) len cap' ys) (hr : decide (xs = ys) = r) :
    Calls Tryd.prog 19 #[.slice (some ⟨b, off, none⟩) len cap, .slice (some ⟨b', off', none⟩) len cap'] w fun e w' => e = .returned (.bool r) ∧ Below w.heap.size w w' := by
  obtain ⟨a1, a2, a3, ac⟩ := h1
  obtain ⟨b1, b2, b3, bc⟩ := h2
  obtain ⟨hb, hi⟩ : b < w.heap.size ∧ IntsIn w b off xs := by
    rcases ac with ⟨h, _⟩ | ⟨b', off', h, h1, h2⟩
    · cases h
    · cases h; exact ⟨h1, h2⟩
  obtain ⟨hb', hi'⟩ : b' < w.heap.size ∧ IntsIn w b' off' ys := by
    rcases bc with ⟨h, _⟩ | ⟨b', off', h, h1, h2⟩
    · cases h
    · cases h; exact ⟨h1, h2⟩
  clear ac bc
  unfold maxLen at a3
  have g0 : ((len : Int) != (len : Int)) = false := by simp
  have H_a1 := Lib.hid a1
  clear a1
  have H_b1 := Lib.hid b1
  clear b1
  have H_hi := Lib.hid hi
  clear hi
  have H_hi' := Lib.hid hi'
  clear hi'
  have H_hr := Lib.hid hr
  clear hr
  go_enter Tryd.func19, Tryd.ntmps19
  go_wp2_with fail
  go_loopw [5] (fun i wr => ∃ k : Nat, k ≤ len ∧ i = .int .i64 k ∧ xs.take k = ys.take k ∧ Below w.heap.size w wr) (fun i _ => len - (intOf i).toNat)
  case atStart => exact ⟨0, Nat.zero_le _, rfl, rfl, by repeat' (first | (with_reducible exact Below.refl _ _) | (with_reducible assumption) | (with_reducible refine bdn ?_) | (with_reducible refine Below.alloc ?_ ?_ _) | (with_reducible refine Below.drew ?_) | (with_reducible refine Below.setCell ?_ ?_ _) | omega | (simp <;> omega))⟩
  case round =>
    obtain ⟨k, hk, rfl, ht, hB⟩ := hrel
    by_cases hlt : k < len
    · have k1 : k < xs.length := by have := H_a1.out; omega
      have k2 : k < ys.length := by have := H_b1.out; omega
      have q1 := gkeep hB (H_hi.out k k1) rfl
      have q2 := gkeep hB (H_hi'.out k k2) rfl
      have hts := take_eq_succ k1 k2 ht
      have hne : xs[k] ≠ ys[k] → xs ≠ ys := fun h e => h (by simp [e])
      obtain ⟨x, hx⟩ : ∃ x, xs[k] = x := ⟨_, rfl⟩
      obtain ⟨y, hy⟩ : ∃ y, ys[k] = y := ⟨_, rfl⟩
      rw [hx] at q1 hts hne
      rw [hy] at q2 hts hne
      have i1 : (k : Int) < (len : Int) := by omega
      by_cases hxy : x = y
      · subst hxy
        have hts' := hts rfl
        have g1 : (x != x) = false := by simp
        have H_ht := Lib.hid ht
        clear ht
        have H_hts' := Lib.hid hts'
        clear hts'
        have H_hx := Lib.hid hx
        clear hx
        have H_hy := Lib.hid hy
        clear hy
        clear hts hne
        go_wp2_with fail
        go_quiet (fail)
        go_wp2_with fail
        go_roundw
        case rel => exact ⟨k + 1, by omega, by go_num, H_hts'.out, by repeat' (first | (with_reducible exact Below.refl _ _) | (with_reducible assumption) | (with_reducible refine bdn ?_) | (with_reducible refine Below.alloc ?_ ?_ _) | (with_reducible refine Below.drew ?_) | (with_reducible refine Below.setCell ?_ ?_ _) | omega | (simp <;> omega))⟩
        case measure => simp [intOf]; omega
      · have hne' : decide (xs = ys) = false := decide_eq_false (hne hxy)
        have g1 : (x != y) = true := by simpa using hxy
        have H_ht := Lib.hid ht
        clear ht
        have H_hne' := Lib.hid hne'
        clear hne'
        have H_hx := Lib.hid hx
        clear hx
        have H_hy := Lib.hid hy
        clear hy
        have H_hxy := Lib.hid hxy
        clear hxy
        clear hts hne
        have hre : r = false := by rw [← H_hr.out]; exact H_hne'.out
        subst hre
        go_wp2_with fail
        go_quiet (fail)
        go_wp2_with fail
        go_returns
        exact ⟨rfl, by repeat' (first | (with_reducible exact Below.refl _ _) | (with_reducible assumption) | (with_reducible refine bdn ?_) | (with_reducible refine Below.alloc ?_ ?_ _) | (with_reducible refine Below.drew ?_) | (with_reducible refine Below.setCell ?_ ?_ _) | omega | (simp <;> omega))⟩
    · have : xs = ys := by
        have e1 := H_a1.out
        have e2 := H_b1.out
        have : k = len := by omega
        rw [List.take_of_length_le (by omega), List.take_of_length_le (by omega)] at ht
        exact ht
      have hre : r = true := by rw [← H_hr.out]; exact decide_eq_true this
      subst hre
      have H_ht := Lib.hid ht
      clear ht
      have H_this := Lib.hid this
      clear this
      go_wp2_with fail
      go_returns
      exact ⟨rfl, by repeat' (first | (with_reducible exact Below.refl _ _) | (with_reducible assumption) | (with_reducible refine bdn ?_) | (with_reducible refine Below.alloc ?_ ?_ _) | (with_reducible refine Below.drew ?_) | (with_reducible refine Below.setCell ?_ ?_ _) | omega | (simp <;> omega))⟩

set_option maxHeartbeats 1000000 in
theorem sameints_any (xs ys : List Int) (oa oa' : Option Addr) (len cap len' cap' : Nat) (r : Bool) (w : World) (h1 : SlI w oa len cap xs) (h2 : SlI w oa' len' cap' ys) (hr : decide (xs = ys) = r) :
    Calls Tryd.prog 19 #[.slice oa len cap, .slice oa' len' cap'] w fun e w' => e = .returned (.bool r) ∧ Below w.heap.size w w' := by
  have a1 := h1.1
  have b1 := h2.1
  by_cases hl : len = len'
  · subst hl
    by_cases h0 : len = 0
    · obtain rfl : xs = [] := List.length_eq_zero_iff.1 (by omega)
      obtain rfl : ys = [] := List.length_eq_zero_iff.1 (by omega)
      subst h0
      obtain rfl : r = true := by rw [← hr]; rfl
      clear hr h1 h2 a1 b1
      go_enter Tryd.func19, Tryd.ntmps19
      go_wp2_with fail
      refine wp_loop_rounds 1 ?_
      rw [rounds_succ]
      go_wp2_with fail
      go_returns
      exact ⟨rfl, by repeat' (first | (with_reducible exact Below.refl _ _) | (with_reducible assumption) | (with_reducible refine bdn ?_) | (with_reducible refine Below.alloc ?_ ?_ _) | (with_reducible refine Below.drew ?_) | (with_reducible refine Below.setCell ?_ ?_ _) | omega | (simp <;> omega))⟩
    · obtain ⟨b, off, rfl⟩ : ∃ b off, oa = some ⟨b, off, none⟩ := by
        rcases h1.2.2.2 with ⟨_, h, _⟩ | ⟨b, off, h, _⟩
        · exact absurd h h0
        · exact ⟨b, off, h⟩
      obtain ⟨b', off', rfl⟩ : ∃ b off, oa' = some ⟨b, off, none⟩ := by
        rcases h2.2.2.2 with ⟨_, h, _⟩ | ⟨b, off, h, _⟩
        · exact absurd h h0
        · exact ⟨b, off, h⟩
      exact sameints_some xs ys b off b' off' len cap cap' w r h1 h2 hr
  · obtain rfl : r = false := by
      rw [← hr]; exact decide_eq_false (fun e => hl (by rw [a1, b1, e]))
    have a3 := h1.2.2.1
    have b3 := h2.2.2.1
    unfold maxLen at a3 b3
    have g0 : ((len : Int) != (len' : Int)) = true := by rw [bne_iff_ne]; omega
    clear hr h1 h2 a1 b1
    have H_hl := Lib.hid hl
    clear hl
    go_enter Tryd.func19, Tryd.ntmps19
    go_wp2_with fail
    go_returns
    exact ⟨rfl, by repeat' (first | (with_reducible exact Below.refl _ _) | (with_reducible assumption) | (with_reducible refine bdn ?_) | (with_reducible refine Below.alloc ?_ ?_ _) | (with_reducible refine Below.drew ?_) | (with_reducible refine Below.setCell ?_ ?_ _) | omega | (simp <;> omega))⟩
end Go.Proofs.YthpicnajemnfdaaDoor
