/-
  Walks over the statements' helper 'coded'; package frac's acts, told by fractions.
-/
import Derived.Test.YthijgncjaophjaaDoorCode2
import Derived.Test.YthijgncjaophjaaDoorFrac7
import Derived.Test.YthijgncjaophjaaDoorPl10
namespace Lead
open Go Go.RowKit
theorem call_frx {P : Program} {f : FuncId} {args : Array Value} {w W : World} {R : Ending → World → Prop} {T : Nat} {ea : Nat → Addr} {c : Nat} {q r : Int} (hB : Below w.heap.size w W)
    (h : Below w.heap.size w W → Calls P f args W fun e w' => e = .returned (frV T ea c q r) ∧ Below W.heap.size W w')
    (k : ∀ q' r' x w1, Below w.heap.size w w1 → W.heap.size ≤ w1.heap.size → (∀ b o, b < W.heap.size → w1.cell? ⟨b, o, none⟩ = W.cell? ⟨b, o, none⟩) →
      (∀ b o, b < W.heap.size → w1.frozen? ⟨b, o, none⟩ = W.frozen? ⟨b, o, none⟩) → Below W.heap.size W w1 → R (.returned (.tuple #[.agg #[.int .i64 q', .int .i64 r'], x])) w1) : Calls P f args W R :=
  (h hB).mono fun en w1 ⟨he, hb⟩ => by
    subst he
    unfold frV
    split <;> exact k _ _ _ w1 (hB.trans (hb.mono hB.size)) hb.size (bcell hb).1 (bcell hb).2 hb
def Fr.addK (a b : Fr) : Nat := opC a.n a.d b.n b.d (addN a b) (addD a b)
def Fr.subK (a b : Fr) : Nat := opC a.n a.d b.n b.d (subN a b) (addD a b)
def Fr.mulK (a b : Fr) : Nat := opC a.n a.d b.n b.d (mulN a b) (addD a b)
def Fr.divK (a b : Fr) : Nat := divC a.n a.d b.n b.d (divN a b) (divD a b)
theorem opC_0 {n d n' d' x y : Int} (h : opC n d n' d' x y = 0) : Right n d ∧ Right n' d' ∧ lowC x y = 0 := by
  rcases opC_cases n d n' d' x y with ⟨h1, h2⟩ | ⟨h1, h2⟩
  · exact absurd (h2.symm.trans h) h1
  · exact ⟨(bothC_0 h1).1, (bothC_0 h1).2, h2.symm.trans h⟩
theorem both_R {a b : Fr} (h1 : a.R) (h2 : b.R) : bothC a.n a.d b.n b.d = 0 := (if_pos (chk_right h1)).trans (chk_right h2)
theorem opC_ok {a b : Fr} {x y : Int} (h1 : a.R) (h2 : b.R) (h : lowC x y = 0) : opC a.n a.d b.n b.d x y = 0 := (if_pos (both_R h1 h2)).trans h
theorem Fr.R.i {a : Fr} (h : a.R) : a.I := ⟨Right.ni h, Right.di h⟩
end Lead
namespace Go.Proofs.YthijgncjaophjaaDoor
open Go.RowKit Lead

theorem fadd_f (ea : Nat → Addr) (a b x : Fr) (w : World) (ia : a.I) (ib : b.I) (hShape : w.cell? ⟨5, 0, none⟩ = some (.iface 312 (.pointer (some (ea 3))))) (hBound : w.cell? ⟨1, 0, none⟩ = some (.iface 312 (.pointer (some (ea 2))))) (hx : a.add b = x) :
    Calls Tryd.prog 135 #[.agg #[.int .i64 a.n, .int .i64 a.d], .agg #[.int .i64 b.n, .int .i64 b.d]] w fun e w' =>
      e = .returned (frV 312 ea (a.addK b) x.n x.d) ∧ Below w.heap.size w w' := by
  subst hx
  exact fadd_any ea a.n a.d b.n b.d (addN a b) (addD a b) w ia.n ia.d ib.n ib.d hShape hBound rfl rfl
theorem fmul_f (ea : Nat → Addr) (a b x : Fr) (w : World) (ia : a.I) (ib : b.I) (hShape : w.cell? ⟨5, 0, none⟩ = some (.iface 312 (.pointer (some (ea 3))))) (hBound : w.cell? ⟨1, 0, none⟩ = some (.iface 312 (.pointer (some (ea 2))))) (hx : a.mul b = x) :
    Calls Tryd.prog 134 #[.agg #[.int .i64 a.n, .int .i64 a.d], .agg #[.int .i64 b.n, .int .i64 b.d]] w fun e w' =>
      e = .returned (frV 312 ea (a.mulK b) x.n x.d) ∧ Below w.heap.size w w' := by
  subst hx
  exact fmul_any ea a.n a.d b.n b.d (mulN a b) (addD a b) w ia.n ia.d ib.n ib.d hShape hBound rfl rfl

set_option maxHeartbeats 1000000 in
theorem coded1_s (ea : Nat → Addr) (c : Nat) (w : World) (h1 : 1 ≤ c) (h2 : c ≤ 11) (hS : Sents ea w) :
    Calls Tryd.prog 29 #[.iface 312 (.pointer (some (ea c))), .int .i64 c] w fun e w' => e = .returned (.bool true) ∧ Below w.heap.size w w' := by
  have H_hS := Lib.hid hS
  clear hS
  go_enter Tryd.func29, Tryd.ntmps29
  go_wp2_with fail
  refine call_bel (w := w) (by repeat' (first | (with_reducible exact Below.refl _ _) | (with_reducible assumption) | (with_reducible refine bdn ?_) | (with_reducible refine Below.alloc ?_ ?_ _) | (with_reducible refine Below.drew ?_) | (with_reducible refine Below.setCell ?_ ?_ _) | omega | (simp <;> omega))) (fun HB => code_sent ea c _ h1 h2 (H_hS.out.keep HB rfl)) ?_
  intro w1 hb1 hz1 c1 d1 hW1
  have t1 := hb1.size
  clear c1 d1 hz1 hW1
  go_wp2_with fail
  go_returns
  exact ⟨rfl, by repeat' (first | (with_reducible exact Below.refl _ _) | (with_reducible assumption) | (with_reducible refine bdn ?_) | (with_reducible refine Below.alloc ?_ ?_ _) | (with_reducible refine Below.drew ?_) | (with_reducible refine Below.setCell ?_ ?_ _) | omega | (simp <;> omega))⟩
set_option maxHeartbeats 1000000 in
theorem coded1_0 (w : World) :
    Calls Tryd.prog 29 #[.nilIface, .int .i64 0] w fun e w' => e = .returned (.bool true) ∧ Below w.heap.size w w' := by
  go_enter Tryd.func29, Tryd.ntmps29
  go_wp2_with fail
  refine call_bel (w := w) (by repeat' (first | (with_reducible exact Below.refl _ _) | (with_reducible assumption) | (with_reducible refine bdn ?_) | (with_reducible refine Below.alloc ?_ ?_ _) | (with_reducible refine Below.drew ?_) | (with_reducible refine Below.setCell ?_ ?_ _) | omega | (simp <;> omega))) (fun HB => code_nil _) ?_
  intro w1 hb1 hz1 c1 d1 hW1
  have t1 := hb1.size
  clear c1 d1 hz1 hW1
  go_wp2_with fail
  go_returns
  exact ⟨rfl, by repeat' (first | (with_reducible exact Below.refl _ _) | (with_reducible assumption) | (with_reducible refine bdn ?_) | (with_reducible refine Below.alloc ?_ ?_ _) | (with_reducible refine Below.drew ?_) | (with_reducible refine Below.setCell ?_ ?_ _) | omega | (simp <;> omega))⟩
theorem coded1_t (ea : Nat → Addr) (c : Nat) (w : World) (h2 : c ≤ 11) (hS : Sents ea w) :
    Calls Tryd.prog 29 #[evl 312 ea c, .int .i64 c] w fun e w' => e = .returned (.bool true) ∧ Below w.heap.size w w' := by
  by_cases h0 : c = 0
  · subst h0; exact coded1_0 w
  · rw [evl_n h0]; exact coded1_s ea c w (by omega) h2 hS
end Go.Proofs.YthijgncjaophjaaDoor
