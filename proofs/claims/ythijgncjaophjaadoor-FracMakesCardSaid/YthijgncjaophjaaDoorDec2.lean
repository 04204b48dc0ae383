/-
  Walks over the document's answer: decimal digits.
-/
import Derived.Test.YthijgncjaophjaaDoorDec1
import Derived.Test.YthijgncjaophjaaDoorFrac6
import Derived.Test.YthijgncjaophjaaDoorPl5
import Derived.Laws.IdiomStrings
namespace Lead
open Go Go.RowKit
theorem one_byte (w : World) (t : TypeId) (c : UInt8) : ∀ j (hj : j < [c].length), (w.alloc (.cells #[.int .u8 (c.toNat : Int)] t)).cell? ((⟨w.heap.size, 0, none⟩ : Addr).add j) = some (.int .u8 ([c][j].toNat : Int)) := by
  intro j hj
  obtain rfl : j = 0 := by simp at hj; omega
  rw [add_cell]
  simp
theorem cat_one (a : List UInt8) (c : UInt8) : (⟨a.toArray⟩ : ByteArray) ++ (⟨#[c]⟩ : ByteArray) = ⟨(a ++ [c]).toArray⟩ := by
  apply ByteArray.ext; simp
theorem minus_cat (a : List UInt8) : (⟨#[45]⟩ : ByteArray) ++ (⟨a.toArray⟩ : ByteArray) = ⟨([45] ++ a).toArray⟩ := by
  apply ByteArray.ext; simp
theorem cat_slash2 (a b : List UInt8) : ((⟨a.toArray⟩ : ByteArray) ++ (⟨#[47]⟩ : ByteArray)) ++ (⟨b.toArray⟩ : ByteArray) = ⟨(a ++ 47 :: b).toArray⟩ := by
  apply ByteArray.ext; simp
theorem dec_len {u : Nat} (h : u ≤ 9223372036854775808) : (Lib.decDigits u).length ≤ 20 := by
  rw [Lib.decDigits_length]; exact Lib.nDigits_le20 u (by omega)
end Lead
namespace Go.Proofs.YthijgncjaophjaaDoor
open Go.RowKit Lead

set_option maxRecDepth 4000 in
set_option maxHeartbeats 1000000 in
theorem rbyte_any (n : Int) (w : World) (h1 : 48 ≤ n) (h2 : n ≤ 57) :
    Calls Tryd.prog 161 #[.int .i64 n] w fun e w' => e = .returned (.string ⟨#[UInt8.ofNat n.toNat]⟩) ∧ Below w.heap.size w w' := by
  have hc : n = 48 ∨ n = 49 ∨ n = 50 ∨ n = 51 ∨ n = 52 ∨ n = 53 ∨ n = 54 ∨ n = 55 ∨ n = 56 ∨ n = 57 := by omega
  clear h1 h2
  rcases hc with rfl | rfl | rfl | rfl | rfl | rfl | rfl | rfl | rfl | rfl
  · have hcv : (convert 144 9 (.slice (some ⟨w.heap.size, 0, none⟩) 1 1)).run Tryd.prog (w.alloc (.cells #[.int .u8 48] 5)) = .ok (.string ⟨#[48]⟩) (w.alloc (.cells #[.int .u8 48] 5)) := run_convert_bytes_back (P := Tryd.prog) (w.alloc (.cells #[.int .u8 48] 5)) 144 9 5 ⟨w.heap.size, 0, none⟩ 1 [48] Tryd.underlying144 Tryd.underlying5 Tryd.underlying9 (one_byte w _ 48)
    go_enter Tryd.func161, Tryd.ntmps161
    go_wp2_with fail
    go_returns
    exact ⟨rfl, by repeat' (first | (with_reducible exact Below.refl _ _) | (with_reducible assumption) | (with_reducible refine bdn ?_) | (with_reducible refine Below.alloc ?_ ?_ _) | (with_reducible refine Below.drew ?_) | (with_reducible refine Below.setCell ?_ ?_ _) | omega | (simp <;> omega))⟩
  · have hcv : (convert 144 9 (.slice (some ⟨w.heap.size, 0, none⟩) 1 1)).run Tryd.prog (w.alloc (.cells #[.int .u8 49] 5)) = .ok (.string ⟨#[49]⟩) (w.alloc (.cells #[.int .u8 49] 5)) := run_convert_bytes_back (P := Tryd.prog) (w.alloc (.cells #[.int .u8 49] 5)) 144 9 5 ⟨w.heap.size, 0, none⟩ 1 [49] Tryd.underlying144 Tryd.underlying5 Tryd.underlying9 (one_byte w _ 49)
    go_enter Tryd.func161, Tryd.ntmps161
    go_wp2_with fail
    go_returns
    exact ⟨rfl, by repeat' (first | (with_reducible exact Below.refl _ _) | (with_reducible assumption) | (with_reducible refine bdn ?_) | (with_reducible refine Below.alloc ?_ ?_ _) | (with_reducible refine Below.drew ?_) | (with_reducible refine Below.setCell ?_ ?_ _) | omega | (simp <;> omega))⟩
  · have hcv : (convert 144 9 (.slice (some ⟨w.heap.size, 0, none⟩) 1 1)).run Tryd.prog (w.alloc (.cells #[.int .u8 50] 5)) = .ok (.string ⟨#[50]⟩) (w.alloc (.cells #[.int .u8 50] 5)) := run_convert_bytes_back (P := Tryd.prog) (w.alloc (.cells #[.int .u8 50] 5)) 144 9 5 ⟨w.heap.size, 0, none⟩ 1 [50] Tryd.underlying144 Tryd.underlying5 Tryd.underlying9 (one_byte w _ 50)
    go_enter Tryd.func161, Tryd.ntmps161
    go_wp2_with fail
    go_returns
    exact ⟨rfl, by repeat' (first | (with_reducible exact Below.refl _ _) | (with_reducible assumption) | (with_reducible refine bdn ?_) | (with_reducible refine Below.alloc ?_ ?_ _) | (with_reducible refine Below.drew ?_) | (with_reducible refine Below.setCell ?_ ?_ _) | omega | (simp <;> omega))⟩
  · have hcv : (convert 144 9 (.slice (some ⟨w.heap.size, 0, none⟩) 1 1)).run Tryd.prog (w.alloc (.cells #[.int .u8 51] 5)) = .ok (.string ⟨#[51]⟩) (w.alloc (.cells #[.int .u8 51] 5)) := run_convert_bytes_back (P := Tryd.prog) (w.alloc (.cells #[.int .u8 51] 5)) 144 9 5 ⟨w.heap.size, 0, none⟩ 1 [51] Tryd.underlying144 Tryd.underlying5 Tryd.underlying9 (one_byte w _ 51)
    go_enter Tryd.func161, Tryd.ntmps161
    go_wp2_with fail
    go_returns
    exact ⟨rfl, by repeat' (first | (with_reducible exact Below.refl _ _) | (with_reducible assumption) | (with_reducible refine bdn ?_) | (with_reducible refine Below.alloc ?_ ?_ _) | (with_reducible refine Below.drew ?_) | (with_reducible refine Below.setCell ?_ ?_ _) | omega | (simp <;> omega))⟩
  · have hcv : (convert 144 9 (.slice (some ⟨w.heap.size, 0, none⟩) 1 1)).run Tryd.prog (w.alloc (.cells #[.int .u8 52] 5)) = .ok (.string ⟨#[52]⟩) (w.alloc (.cells #[.int .u8 52] 5)) := run_convert_bytes_back (P := Tryd.prog) (w.alloc (.cells #[.int .u8 52] 5)) 144 9 5 ⟨w.heap.size, 0, none⟩ 1 [52] Tryd.underlying144 Tryd.underlying5 Tryd.underlying9 (one_byte w _ 52)
    go_enter Tryd.func161, Tryd.ntmps161
    go_wp2_with fail
    go_returns
    exact ⟨rfl, by repeat' (first | (with_reducible exact Below.refl _ _) | (with_reducible assumption) | (with_reducible refine bdn ?_) | (with_reducible refine Below.alloc ?_ ?_ _) | (with_reducible refine Below.drew ?_) | (with_reducible refine Below.setCell ?_ ?_ _) | omega | (simp <;> omega))⟩
  · have hcv : (convert 144 9 (.slice (some ⟨w.heap.size, 0, none⟩) 1 1)).run Tryd.prog (w.alloc (.cells #[.int .u8 53] 5)) = .ok (.string ⟨#[53]⟩) (w.alloc (.cells #[.int .u8 53] 5)) := run_convert_bytes_back (P := Tryd.prog) (w.alloc (.cells #[.int .u8 53] 5)) 144 9 5 ⟨w.heap.size, 0, none⟩ 1 [53] Tryd.underlying144 Tryd.underlying5 Tryd.underlying9 (one_byte w _ 53)
    go_enter Tryd.func161, Tryd.ntmps161
    go_wp2_with fail
    go_returns
    exact ⟨rfl, by repeat' (first | (with_reducible exact Below.refl _ _) | (with_reducible assumption) | (with_reducible refine bdn ?_) | (with_reducible refine Below.alloc ?_ ?_ _) | (with_reducible refine Below.drew ?_) | (with_reducible refine Below.setCell ?_ ?_ _) | omega | (simp <;> omega))⟩
  · have hcv : (convert 144 9 (.slice (some ⟨w.heap.size, 0, none⟩) 1 1)).run Tryd.prog (w.alloc (.cells #[.int .u8 54] 5)) = .ok (.string ⟨#[54]⟩) (w.alloc (.cells #[.int .u8 54] 5)) := run_convert_bytes_back (P := Tryd.prog) (w.alloc (.cells #[.int .u8 54] 5)) 144 9 5 ⟨w.heap.size, 0, none⟩ 1 [54] Tryd.underlying144 Tryd.underlying5 Tryd.underlying9 (one_byte w _ 54)
    go_enter Tryd.func161, Tryd.ntmps161
    go_wp2_with fail
    go_returns
    exact ⟨rfl, by repeat' (first | (with_reducible exact Below.refl _ _) | (with_reducible assumption) | (with_reducible refine bdn ?_) | (with_reducible refine Below.alloc ?_ ?_ _) | (with_reducible refine Below.drew ?_) | (with_reducible refine Below.setCell ?_ ?_ _) | omega | (simp <;> omega))⟩
  · have hcv : (convert 144 9 (.slice (some ⟨w.heap.size, 0, none⟩) 1 1)).run Tryd.prog (w.alloc (.cells #[.int .u8 55] 5)) = .ok (.string ⟨#[55]⟩) (w.alloc (.cells #[.int .u8 55] 5)) := run_convert_bytes_back (P := Tryd.prog) (w.alloc (.cells #[.int .u8 55] 5)) 144 9 5 ⟨w.heap.size, 0, none⟩ 1 [55] Tryd.underlying144 Tryd.underlying5 Tryd.underlying9 (one_byte w _ 55)
    go_enter Tryd.func161, Tryd.ntmps161
    go_wp2_with fail
    go_returns
    exact ⟨rfl, by repeat' (first | (with_reducible exact Below.refl _ _) | (with_reducible assumption) | (with_reducible refine bdn ?_) | (with_reducible refine Below.alloc ?_ ?_ _) | (with_reducible refine Below.drew ?_) | (with_reducible refine Below.setCell ?_ ?_ _) | omega | (simp <;> omega))⟩
  · have hcv : (convert 144 9 (.slice (some ⟨w.heap.size, 0, none⟩) 1 1)).run Tryd.prog (w.alloc (.cells #[.int .u8 56] 5)) = .ok (.string ⟨#[56]⟩) (w.alloc (.cells #[.int .u8 56] 5)) := run_convert_bytes_back (P := Tryd.prog) (w.alloc (.cells #[.int .u8 56] 5)) 144 9 5 ⟨w.heap.size, 0, none⟩ 1 [56] Tryd.underlying144 Tryd.underlying5 Tryd.underlying9 (one_byte w _ 56)
    go_enter Tryd.func161, Tryd.ntmps161
    go_wp2_with fail
    go_returns
    exact ⟨rfl, by repeat' (first | (with_reducible exact Below.refl _ _) | (with_reducible assumption) | (with_reducible refine bdn ?_) | (with_reducible refine Below.alloc ?_ ?_ _) | (with_reducible refine Below.drew ?_) | (with_reducible refine Below.setCell ?_ ?_ _) | omega | (simp <;> omega))⟩
  · have hcv : (convert 144 9 (.slice (some ⟨w.heap.size, 0, none⟩) 1 1)).run Tryd.prog (w.alloc (.cells #[.int .u8 57] 5)) = .ok (.string ⟨#[57]⟩) (w.alloc (.cells #[.int .u8 57] 5)) := run_convert_bytes_back (P := Tryd.prog) (w.alloc (.cells #[.int .u8 57] 5)) 144 9 5 ⟨w.heap.size, 0, none⟩ 1 [57] Tryd.underlying144 Tryd.underlying5 Tryd.underlying9 (one_byte w _ 57)
    go_enter Tryd.func161, Tryd.ntmps161
    go_wp2_with fail
    go_returns
    exact ⟨rfl, by repeat' (first | (with_reducible exact Below.refl _ _) | (with_reducible assumption) | (with_reducible refine bdn ?_) | (with_reducible refine Below.alloc ?_ ?_ _) | (with_reducible refine Below.drew ?_) | (with_reducible refine Below.setCell ?_ ?_ _) | omega | (simp <;> omega))⟩

set_option maxRecDepth 4000 in
set_option maxHeartbeats 1000000 in
theorem rbelow_any (u : Nat) : ∀ (n : Int) (w : World), u ≤ 9223372036854775808 → n = -(u : Int) →
    Calls Tryd.prog 128 #[.int .i64 n] w fun e w' => e = .returned (.string ⟨(Lib.decDigits u).toArray⟩) ∧ Below w.heap.size w w' := by
  induction u using Nat.strongRecOn with
  | ind u ih =>
    intro n w hu hn
    by_cases h10 : u < 10
    · have g1 : -10 < n := by omega
      have g2 : n ≤ 0 := by omega
      have hd : Lib.decDigits u = [UInt8.ofNat (48 - n).toNat] := by rw [Lib.decDigits_one h10]; congr 2; omega
      rw [hd]
      have H_ih := Lib.hid ih
      clear ih
      have H_hn := Lib.hid hn
      clear hn
      have H_hd := Lib.hid hd
      clear hd
      clear h10
      go_enter Tryd.func128, Tryd.ntmps128
      go_wp2_with fail
      refine call_bel (w := w) (by repeat' (first | (with_reducible exact Below.refl _ _) | (with_reducible assumption) | (with_reducible refine bdn ?_) | (with_reducible refine Below.alloc ?_ ?_ _) | (with_reducible refine Below.drew ?_) | (with_reducible refine Below.setCell ?_ ?_ _) | omega | (simp <;> omega))) (fun HB => rbyte_any (48 - n) _ (by omega) (by omega)) ?_
      intro w1 hb1 hz1 c1 d1 hW1
      have t1 := hb1.size
      clear c1 d1 hz1 hW1
      go_wp2_with fail
      go_returns
      exact ⟨rfl, by repeat' (first | (with_reducible exact Below.refl _ _) | (with_reducible assumption) | (with_reducible refine bdn ?_) | (with_reducible refine Below.alloc ?_ ?_ _) | (with_reducible refine Below.drew ?_) | (with_reducible refine Below.setCell ?_ ?_ _) | omega | (simp <;> omega))⟩
    · obtain ⟨q, hq⟩ : ∃ q : Int, q = -((u / 10 : Nat) : Int) := ⟨_, rfl⟩
      obtain ⟨r, hr⟩ : ∃ r : Int, r = -((u % 10 : Nat) : Int) := ⟨_, rfl⟩
      have e0 : n.tdiv 10 = q := by rw [hq, hn, Int.neg_tdiv]; rfl
      have e1 : wrap64 (n.tdiv 10) = q := by rw [e0]; apply IntWalk.wrap64_in; omega
      have e2 : n.tmod 10 = r := by rw [hr, hn, Int.neg_tmod]; rfl
      have g1 : ¬ -10 < n := by omega
      have g2 : -9 ≤ r := by omega
      have g3 : r ≤ 0 := by omega
      have hl := dec_len (u := u / 10) (by omega)
      have k1 : (Lib.decDigits (u / 10)).length + 1 ≤ 9223372036854775807 := by omega
      have hd : Lib.decDigits u = Lib.decDigits (u / 10) ++ [UInt8.ofNat (48 - r).toNat] := by
        rw [Lib.decDigits, dif_neg h10]; congr 3; omega
      rw [hd]
      have H1 := fun W => ih (u / 10) (by omega) q W (by omega) hq
      clear e0 hl h10
      generalize Lib.decDigits (u / 10) = l at *
      have H_ih := Lib.hid ih
      clear ih
      have H_hn := Lib.hid hn
      clear hn
      have H_hd := Lib.hid hd
      clear hd
      have H_H1 := Lib.hid H1
      clear H1
      have H_hq := Lib.hid hq
      clear hq
      have H_hr := Lib.hid hr
      clear hr
      go_enter Tryd.func128, Tryd.ntmps128
      go_wp2_with fail
      refine call_bel (w := w) (by repeat' (first | (with_reducible exact Below.refl _ _) | (with_reducible assumption) | (with_reducible refine bdn ?_) | (with_reducible refine Below.alloc ?_ ?_ _) | (with_reducible refine Below.drew ?_) | (with_reducible refine Below.setCell ?_ ?_ _) | omega | (simp <;> omega))) (fun HB => H_H1.out _) ?_
      intro w1 hb1 hz1 c1 d1 hW1
      have t1 := hb1.size
      clear c1 d1 hz1 hW1
      go_wp2_with fail
      refine call_bel (w := w) (by repeat' (first | (with_reducible exact Below.refl _ _) | (with_reducible assumption) | (with_reducible refine bdn ?_) | (with_reducible refine Below.alloc ?_ ?_ _) | (with_reducible refine Below.drew ?_) | (with_reducible refine Below.setCell ?_ ?_ _) | omega | (simp <;> omega))) (fun HB => rbyte_any (48 - r) _ (by omega) (by omega)) ?_
      intro w2 hb2 hz2 c2 d2 hW2
      have t2 := hb2.size
      clear c2 d2 hz2 hW2
      go_wp2_with fail
      go_returns
      exact ⟨by rw [← cat_one]; rfl, by repeat' (first | (with_reducible exact Below.refl _ _) | (with_reducible assumption) | (with_reducible refine bdn ?_) | (with_reducible refine Below.alloc ?_ ?_ _) | (with_reducible refine Below.drew ?_) | (with_reducible refine Below.setCell ?_ ?_ _) | omega | (simp <;> omega))⟩
set_option maxHeartbeats 1000000 in
theorem rdecimal_any (n : Int) (w : World) (hn : I64 n) :
    Calls Tryd.prog 92 #[.int .i64 n] w fun e w' => e = .returned (.string ⟨(Lib.itoa n).toArray⟩) ∧ Below w.heap.size w w' := by
  unfold I64 at hn
  by_cases h : n < 0
  · have hd : Lib.itoa n = [45] ++ Lib.decDigits n.natAbs := by unfold Lib.itoa; rw [if_pos h]; rfl
    have hl := dec_len (u := n.natAbs) (by omega)
    have k1 : 1 + (Lib.decDigits n.natAbs).length ≤ 9223372036854775807 := by omega
    have k2 : (Lib.decDigits n.natAbs).length + 1 ≤ 9223372036854775807 := by omega
    have H1 := fun W => rbelow_any n.natAbs n W (by omega) (by omega)
    clear hl
    generalize Lib.decDigits n.natAbs = l at *
    have H_hd := Lib.hid hd
    clear hd
    have H_H1 := Lib.hid H1
    clear H1
    go_enter Tryd.func92, Tryd.ntmps92
    go_wp2_with fail
    refine call_bel (w := w) (by repeat' (first | (with_reducible exact Below.refl _ _) | (with_reducible assumption) | (with_reducible refine bdn ?_) | (with_reducible refine Below.alloc ?_ ?_ _) | (with_reducible refine Below.drew ?_) | (with_reducible refine Below.setCell ?_ ?_ _) | omega | (simp <;> omega))) (fun HB => H_H1.out _) ?_
    intro w1 hb1 hz1 c1 d1 hW1
    have t1 := hb1.size
    clear c1 d1 hz1 hW1
    go_wp2_with fail
    go_returns
    exact ⟨by rw [H_hd.out, ← minus_cat]; rfl, by repeat' (first | (with_reducible exact Below.refl _ _) | (with_reducible assumption) | (with_reducible refine bdn ?_) | (with_reducible refine Below.alloc ?_ ?_ _) | (with_reducible refine Below.drew ?_) | (with_reducible refine Below.setCell ?_ ?_ _) | omega | (simp <;> omega))⟩
  · have hd : Lib.itoa n = Lib.decDigits n.toNat := by unfold Lib.itoa; rw [if_neg h]
    have e1 : wrap64 (-n) = -n := by apply IntWalk.wrap64_in; omega
    have H1 := fun W => rbelow_any n.toNat (-n) W (by omega) (by omega)
    have H_hd := Lib.hid hd
    clear hd
    have H_H1 := Lib.hid H1
    clear H1
    go_enter Tryd.func92, Tryd.ntmps92
    go_wp2_with fail
    refine call_bel (w := w) (by repeat' (first | (with_reducible exact Below.refl _ _) | (with_reducible assumption) | (with_reducible refine bdn ?_) | (with_reducible refine Below.alloc ?_ ?_ _) | (with_reducible refine Below.drew ?_) | (with_reducible refine Below.setCell ?_ ?_ _) | omega | (simp <;> omega))) (fun HB => H_H1.out _) ?_
    intro w1 hb1 hz1 c1 d1 hW1
    have t1 := hb1.size
    clear c1 d1 hz1 hW1
    go_wp2_with fail
    go_returns
    exact ⟨by rw [H_hd.out]; rfl, by repeat' (first | (with_reducible exact Below.refl _ _) | (with_reducible assumption) | (with_reducible refine bdn ?_) | (with_reducible refine Below.alloc ?_ ?_ _) | (with_reducible refine Below.drew ?_) | (with_reducible refine Below.setCell ?_ ?_ _) | omega | (simp <;> omega))⟩

set_option maxHeartbeats 1000000 in
theorem rfractext_any (n d : Int) (w : World) (hn : I64 n) (hd : I64 d) :
    Calls Tryd.prog 48 #[.agg #[.int .i64 n, .int .i64 d]] w fun e w' => e = .returned (.string ⟨(txtF n d).toArray⟩) ∧ Below w.heap.size w w' := by
  by_cases h1 : d = 1
  · have h1' : (d == 1) = true := by simp [h1]
    have ht : txtF n d = Lib.itoa n := if_pos h1
    have H_h1 := Lib.hid h1
    clear h1
    have H_ht := Lib.hid ht
    clear ht
    go_enter Tryd.func48, Tryd.ntmps48
    go_wp2_with fail
    refine call_bel (w := w) (by repeat' (first | (with_reducible exact Below.refl _ _) | (with_reducible assumption) | (with_reducible refine bdn ?_) | (with_reducible refine Below.alloc ?_ ?_ _) | (with_reducible refine Below.drew ?_) | (with_reducible refine Below.setCell ?_ ?_ _) | omega | (simp <;> omega))) (fun HB => rdecimal_any n _ hn) ?_
    intro w1 hb1 hz1 c1 d1 hW1
    have t1 := hb1.size
    try simp only [World.size_alloc] at hz1 c1 d1
    try simp only [World.size_drew] at hz1 c1 d1
    try simp only [World.size_setCell] at hz1 c1 d1
    try simp only [World.heap_drewN] at hz1 c1 d1
    try simp only [World.size_alloc] at hz1 c1 d1
    try simp only [World.size_drew] at hz1 c1 d1
    try simp only [World.size_setCell] at hz1 c1 d1
    have s1_0 : w.heap.size < w1.heap.size := by omega
    have o1_0 := fun j => c1 (w.heap.size) j (by omega)
    have f1_0 := fun j => d1 (w.heap.size) j (by omega)
    clear c1 d1 hz1 hW1
    go_wp2_with fail
    go_returns
    exact ⟨by rw [H_ht.out]; rfl, by repeat' (first | (with_reducible exact Below.refl _ _) | (with_reducible assumption) | (with_reducible refine bdn ?_) | (with_reducible refine Below.alloc ?_ ?_ _) | (with_reducible refine Below.drew ?_) | (with_reducible refine Below.setCell ?_ ?_ _) | omega | (simp <;> omega))⟩
  · have h1' : (d == 1) = false := by simp [h1]
    have l1 := itoa_len hn
    have l2 := itoa_len hd
    have k1 : 1 + (Lib.itoa d).length ≤ 9223372036854775807 := by omega
    have k2 : (Lib.itoa n).length + (1 + (Lib.itoa d).length) ≤ 9223372036854775807 := by omega
    have k3 : (Lib.itoa n).length + ((Lib.itoa d).length + 1) ≤ 9223372036854775807 := by omega
    have k4 : (Lib.itoa n).length + 1 ≤ 9223372036854775807 := by omega
    have k5 : (Lib.itoa n).length + 1 + (Lib.itoa d).length ≤ 9223372036854775807 := by omega
    clear l1 l2
    have ht : txtF n d = Lib.itoa n ++ (47 :: Lib.itoa d) := if_neg h1
    have H_h1 := Lib.hid h1
    clear h1
    have H_ht := Lib.hid ht
    clear ht
    go_enter Tryd.func48, Tryd.ntmps48
    go_wp2_with fail
    have SK : ∀ W, Below (w.heap.size + 1) (w.alloc (.cells #[.int .i64 n, .int .i64 d] 90)) W → ∀ j, W.cell? ⟨w.heap.size, j, none⟩ = #[Value.int .i64 n, .int .i64 d][j]? := fun W h j => by rw [h.cell (by simp)]; exact World.cell?_alloc_new _ _ _ _
    have ST0 : ∀ W, Below (w.alloc (.cells #[.int .i64 n, .int .i64 d] 90)).drew.heap.size (w.alloc (.cells #[.int .i64 n, .int .i64 d] 90)).drew W → Below (w.heap.size + 1) (w.alloc (.cells #[.int .i64 n, .int .i64 d] 90)) W := fun W h => ((Below.refl _ _).drew).trans (h.mono (by simp))
    have ST : ∀ W W', Below (w.heap.size + 1) (w.alloc (.cells #[.int .i64 n, .int .i64 d] 90)) W → Below W.heap.size W W' → Below (w.heap.size + 1) (w.alloc (.cells #[.int .i64 n, .int .i64 d] 90)) W' := fun W W' h k => h.trans (k.mono (by have := h.size; simpa using this))
    have H_SK := Lib.hid SK
    clear SK
    have H_ST0 := Lib.hid ST0
    clear ST0
    have H_ST := Lib.hid ST
    clear ST
    go_region_with (first | (go_at_call 92; (with_reducible refine (rdecimal_any _ _ (by assumption)).mono ?_); rintro e w' ⟨rfl, hbb⟩; first | (have hS2 := H_ST.out _ _ hS1 hbb; have hO2 := H_SK.out _ hS2) | (have hS1 := H_ST0.out _ hbb; have hO1 := H_SK.out _ hS1)))
    all_goals
      go_wp2_with fail
      go_returns
      exact ⟨by rw [H_ht.out, ← cat_slash2]; rfl, ((Below.refl _ _).alloc (Nat.le_refl _) _).trans (hS2.mono (by omega))⟩
end Go.Proofs.YthijgncjaophjaaDoor
