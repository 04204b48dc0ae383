/-
  The walk over the statement FracMakes, joined.
-/
import Derived.Test.YthijgncjaophjaaDoorMk2
namespace Go.Proofs.YthijgncjaophjaaDoor
open Go.RowKit Lead

set_option maxHeartbeats 1000000 in
theorem mk_long (ea : Nat → Addr) (n d : Int) (a b : Fr) (s : ByteArray) (w : World) (hS : Sents ea w) (hL : Libs w) (h60 : ¬ s.size ≤ 60) :
    Calls Tryd.prog 8 #[.int .i64 n, .int .i64 d, .agg #[.int .i64 a.n, .int .i64 a.d], .agg #[.int .i64 b.n, .int .i64 b.d], .string s] w fun e w' => e = .returned (.bool true) ∧ Below w.heap.size w w' := by
  have hBound := hS.c2
  have hZero := hS.c11
  have htab := hL.tab
  have zhBound := zlt hBound
  have xhBound := zlts hBound
  have yhBound := zne hBound
  have zhZero := zlt hZero
  have xhZero := zlts hZero
  have yhZero := zne hZero
  have g2 : decide (60 < (s.size : Int)) = true := by simp; omega
  have H_hS := Lib.hid hS
  clear hS
  have H_htab := Lib.hid htab
  clear htab
  have H_hL := Lib.hid hL
  clear hL
  go_enter Tryd.func8, Tryd.ntmps8
  go_wp2_with fail
  refine call_bel (w := w) (by repeat' (first | (with_reducible exact Below.refl _ _) | (with_reducible assumption) | (with_reducible refine bdn ?_) | (with_reducible refine Below.alloc ?_ ?_ _) | (with_reducible refine Below.drew ?_) | (with_reducible refine Below.setCell ?_ ?_ _) | omega | (simp <;> omega))) (fun HB => halved_any ea _ (gkeep HB hBound rfl) (gkeep HB hZero rfl) (tab_keep H_htab.out HB rfl)) ?_
  intro w1 hb1 hz1 c1 d1 hW1
  have t1 := hb1.size
  try simp only [World.size_alloc] at hz1 c1 d1
  try simp only [World.size_drew] at hz1 c1 d1
  try simp only [World.size_setCell] at hz1 c1 d1
  try simp only [World.heap_drewN] at hz1 c1 d1
  try simp only [World.size_alloc] at hz1 c1 d1
  try simp only [World.size_drew] at hz1 c1 d1
  try simp only [World.size_setCell] at hz1 c1 d1
  have s1_0 : w.heap.size < w1.heap.size := by omega
  have o1_0 := fun j => c1 (w.heap.size) j (by omega)
  have f1_0 := fun j => d1 (w.heap.size) j (by omega)
  have s1_1 : w.heap.size + 1 < w1.heap.size := by omega
  have o1_1 := fun j => c1 (w.heap.size + 1) j (by omega)
  have f1_1 := fun j => d1 (w.heap.size + 1) j (by omega)
  clear c1 d1 hz1 hW1
  go_wp2_with fail
  go_returns
  exact ⟨rfl, by repeat' (first | (with_reducible exact Below.refl _ _) | (with_reducible assumption) | (with_reducible refine bdn ?_) | (with_reducible refine Below.alloc ?_ ?_ _) | (with_reducible refine Below.drew ?_) | (with_reducible refine Below.setCell ?_ ?_ _) | omega | (simp <;> omega))⟩

theorem mk_any (ea : Nat → Addr) (n d : Int) (a b : Fr) (s : ByteArray) (w : World) (hn : I64 n) (hd : I64 d) (ia : a.I) (ib : b.I) (hS : Sents ea w) (hL : Libs w) :
    Calls Tryd.prog 8 #[.int .i64 n, .int .i64 d, .agg #[.int .i64 a.n, .int .i64 a.d], .agg #[.int .i64 b.n, .int .i64 b.d], .string s] w fun e w' => e = .returned (.bool true) ∧ Below w.heap.size w w' := by
  by_cases h60 : s.size ≤ 60
  · by_cases hR : rdC s.data.toList = 0
    · rcases chk_cases a.n a.d with ⟨_, h⟩ | ⟨_, _, h⟩ | ⟨_, _, _, h⟩ | ⟨_, _, _, _, h⟩ | ⟨_, _, _, _, h⟩
      · exact mk_a1_3 ea n d a b s w hn hd ia ib hS hL h60 h hR
      · exact mk_a1_3 ea n d a b s w hn hd ia ib hS hL h60 h hR
      · exact mk_a1_2 ea n d a b s w hn hd ia ib hS hL h60 h hR
      · exact mk_a1_2 ea n d a b s w hn hd ia ib hS hL h60 h hR
      · by_cases hB : chk b.n b.d = 0
        · exact mk_c1 ea n d a b s w hn hd ia ib hS hL h60 h hB hR
        · exact mk_b1 ea n d a b s w hn hd ia ib hS hL h60 h hB hR
    · rcases chk_cases a.n a.d with ⟨_, h⟩ | ⟨_, _, h⟩ | ⟨_, _, _, h⟩ | ⟨_, _, _, _, h⟩ | ⟨_, _, _, _, h⟩
      · exact mk_a0_3 ea n d a b s w hn hd ia ib hS hL h60 h hR
      · exact mk_a0_3 ea n d a b s w hn hd ia ib hS hL h60 h hR
      · exact mk_a0_2 ea n d a b s w hn hd ia ib hS hL h60 h hR
      · exact mk_a0_2 ea n d a b s w hn hd ia ib hS hL h60 h hR
      · by_cases hB : chk b.n b.d = 0
        · exact mk_c0 ea n d a b s w hn hd ia ib hS hL h60 h hB hR
        · exact mk_b0 ea n d a b s w hn hd ia ib hS hL h60 h hB hR
  · exact mk_long ea n d a b s w hS hL h60
end Go.Proofs.YthijgncjaophjaaDoor
