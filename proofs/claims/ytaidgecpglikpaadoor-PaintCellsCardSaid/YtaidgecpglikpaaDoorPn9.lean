/-
  Walks over package paint: Paint of wrong pieces; over the statements' helper SameTexts.
-/
import Derived.Test.YtaidgecpglikpaaDoorPn8
namespace Go.Proofs.YtaidgecpglikpaaDoor
open Go.RowKit Lead
set_option maxHeartbeats 1000000 in
theorem paint_err (ea : Nat → Addr) (l : List Pc) (oa : Option Addr) (len cap n m : Nat) (w : World) (hs : SlPc w oa len cap l) (hP : PGs ea w) (h1 : 1 ≤ n) (h40 : n ≤ 40) (hm1 : 1 ≤ m) (hm40 : m ≤ 40) (hno : (chkP (l.map Pc.k) 0).1 ≠ 0) :
    Calls Tryd.prog 7 #[.slice oa len cap, .int .i64 n, .int .i64 m] w fun e w' => ∃ t a, e = .returned (.tuple #[.agg #[.int .i64 0, .int .i64 0, .slice none 0 0], .iface t (.pointer (some a))]) ∧ Below w.heap.size w w' := by
  have hsd : (decide (1 ≤ (n : Int)) && decide ((n : Int) ≤ 40)) = true := by simp; omega
  have hsm : (decide (1 ≤ (m : Int)) && decide ((m : Int) ≤ 40)) = true := by simp; omega
  have H_hs := Lib.hid hs
  clear hs
  have H_hP := Lib.hid hP
  clear hP
  have H_hno := Lib.hid hno
  clear hno
  have H_hsd := Lib.hid hsd
  clear hsd
  have H_hsm := Lib.hid hsm
  clear hsm
  go_enter Tryd.func7, Tryd.ntmps7
  go_wp2_with fail
  refine call_bel (w := w) (by repeat' (first | (with_reducible first | exact bwR _ _ | assumption | refine bdn ?_ | refine bwA ?_ ?_ _ | refine bwD ?_ | refine bwS ?_ ?_ _) | omega | (simp <;> omega))) (fun HB => side_any n true _ H_hsd.out) ?_
  intro w1 hb1 hz1 c1 d1 hW1
  have t1 := hb1.size
  try simp only [szA] at hz1 c1 d1
  try simp only [szD] at hz1 c1 d1
  try simp only [szS] at hz1 c1 d1
  try simp only [World.heap_drewN] at hz1 c1 d1
  try simp only [szA] at hz1 c1 d1
  try simp only [szD] at hz1 c1 d1
  try simp only [szS] at hz1 c1 d1
  have s1_0 : w.heap.size < w1.heap.size := by omega
  have o1_0 := fun j => c1 (w.heap.size) j (by omega)
  have f1_0 := fun j => d1 (w.heap.size) j (by omega)
  clear c1 d1 hz1 hW1
  go_wp2_with fail
  refine call_bel (w := w) (by repeat' (first | (with_reducible first | exact bwR _ _ | assumption | refine bdn ?_ | refine bwA ?_ ?_ _ | refine bwD ?_ | refine bwS ?_ ?_ _) | omega | (simp <;> omega))) (fun HB => side_any m true _ H_hsm.out) ?_
  intro w2 hb2 hz2 c2 d2 hW2
  have t2 := hb2.size
  try simp only [szA] at hz2 c2 d2
  try simp only [szD] at hz2 c2 d2
  try simp only [szS] at hz2 c2 d2
  try simp only [World.heap_drewN] at hz2 c2 d2
  try simp only [szA] at hz2 c2 d2
  try simp only [szD] at hz2 c2 d2
  try simp only [szS] at hz2 c2 d2
  have s2_0 : w.heap.size < w2.heap.size := by omega
  have o2_0 := fun j => c2 (w.heap.size) j (by omega)
  have f2_0 := fun j => d2 (w.heap.size) j (by omega)
  clear c2 d2 hz2 hW2
  go_wp2_with fail
  refine call_ew (w := w) (by repeat' (first | (with_reducible first | exact bwR _ _ | assumption | refine bdn ?_ | refine bwA ?_ ?_ _ | refine bwD ?_ | refine bwS ?_ ?_ _) | omega | (simp <;> omega))) (fun HB => check_any ea l oa len cap _ (H_hs.out.keep HB rfl) (H_hP.out.keep HB rfl)) ?_
  intro x3 w3 hx3 hb3 hz3 c3 d3 hW3
  have t3 := hb3.size
  try simp only [szA] at hz3 c3 d3
  try simp only [szD] at hz3 c3 d3
  try simp only [szS] at hz3 c3 d3
  try simp only [World.heap_drewN] at hz3 c3 d3
  try simp only [szA] at hz3 c3 d3
  try simp only [szD] at hz3 c3 d3
  try simp only [szS] at hz3 c3 d3
  have s3_0 : w.heap.size < w3.heap.size := by omega
  have o3_0 := fun j => c3 (w.heap.size) j (by omega)
  have f3_0 := fun j => d3 (w.heap.size) j (by omega)
  clear c3 d3 hz3 hW3
  obtain ⟨t2', a2, rfl⟩ := hx3.some H_hno.out
  clear hx3
  go_wp2_with fail
  refine bodyPost_ret (by simp [results, Tryd.results7, go_sem, *]; try rfl) rfl ?_
  exact ⟨_, _, rfl, by repeat' (first | (with_reducible first | exact bwR _ _ | assumption | refine bdn ?_ | refine bwA ?_ ?_ _ | refine bwD ?_ | refine bwS ?_ ?_ _) | omega | (simp <;> omega))⟩
/-- The same texts, of which none lies in a slice of no address. -/
theorem sametexts_any (a b la ca lb cb : Nat) (xs ys : List ByteArray) (r : Bool) (w : World) (ha : a < w.heap.size) (hb : b < w.heap.size) (ob : Nat) (hx : RowIn ESt w a 0 xs) (hy : RowIn ESt w b ob ys) (hla : la = xs.length) (hlb : lb = ys.length) (hbig : la ≤ 100000) (hr : (xs = ys) ↔ r = true) (heq : xs = ys) :
    Calls Tryd.prog 13 #[.slice (some ⟨a, 0, none⟩) la ca, .slice (some ⟨b, ob, none⟩) lb cb] w fun e w' => e = .returned (.bool true) ∧ Below w.heap.size w w' := by
  subst heq
  obtain rfl : la = lb := hla.trans hlb.symm
  have e0 : ((la : Int) != la) = false := by simp
  clear hr hlb
  have H_hx := Lib.hid hx
  clear hx
  have H_hy := Lib.hid hy
  clear hy
  have H_hla := Lib.hid hla
  clear hla
  go_enter Tryd.func13, Tryd.ntmps13
  go_wp2_with fail
  go_loopw [5] (fun i wr => ∃ k : Nat, k ≤ la ∧ i = .int .i64 k ∧ Below w.heap.size w wr) (fun i _ => la - (intOf i).toNat)
  case atStart => exact ⟨0, Nat.zero_le _, rfl, by repeat' (first | (with_reducible first | exact bwR _ _ | assumption | refine bdn ?_ | refine bwA ?_ ?_ _ | refine bwD ?_ | refine bwS ?_ ?_ _) | omega | (simp <;> omega))⟩
  case round =>
    obtain ⟨k, hk, rfl, hB⟩ := hrel
    by_cases hlt : k < la
    · have hk' : k < xs.length := by have := H_hla.out; omega
      have q0 : wr.cell? ⟨a, k, none⟩ = some (.string xs[k]) := by
        have h := (H_hx.out.keep hB ha) k hk' 0 _ rfl
        simpa [ESt] using h
      have q1 : wr.cell? ⟨b, ob + k, none⟩ = some (.string xs[k]) := by
        have h := (H_hy.out.keep hB hb) k hk' 0 _ rfl
        simpa [ESt] using h
      obtain ⟨s, hs⟩ : ∃ s, xs[k] = s := ⟨_, rfl⟩
      rw [hs] at q0 q1
      clear hs
      go_wp2_with fail
      go_region
      all_goals
        go_wp2_with fail
        go_roundw
        case rel => exact ⟨k + 1, by omega, by go_num, by repeat' (first | (with_reducible first | exact bwR _ _ | assumption | refine bdn ?_ | refine bwA ?_ ?_ _ | refine bwD ?_ | refine bwS ?_ ?_ _) | omega | (simp <;> omega))⟩
        case measure => simp [intOf]; omega
    · go_wp2_with fail
      go_returns
      exact ⟨rfl, by repeat' (first | (with_reducible first | exact bwR _ _ | assumption | refine bdn ?_ | refine bwA ?_ ?_ _ | refine bwD ?_ | refine bwS ?_ ?_ _) | omega | (simp <;> omega))⟩
end Go.Proofs.YtaidgecpglikpaaDoor
