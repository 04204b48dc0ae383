/-
  slices.Backward over moves: what its iterator hands over, from the last one on; it reads the slice's own variable and the row between two rounds.
-/
import Derived.RangeFuncBox
import Derived.RangeFuncFrom
import Derived.RangeFuncLeaves
import Derived.Shelf.Abstract
import Derived.WalkKit
import Derived.OwnWalkIn
import Derived.TacticsInMore
import Derived.LoopNIn
import Derived.LoopIn
import Derived.Test.YtlhadgnpkooiaaaGreatDoorRdW
import Derived.Test.YtlhadgnpkooiaaaGreatDoorRd
namespace Lead
open Go Go.RowKit
/-- Right moves. -/
abbrev RMv := { m : Mv // m.R }
instance : Inhabited RMv := ⟨⟨oneM, oneM_R⟩⟩
/-- What has come when k rounds are over. -/
def bwd (zs : List RMv) (k : Nat) : List (Nat × RMv) := (List.range k).map fun j => (zs.length - 1 - j, zs[zs.length - 1 - j]?.getD default)
theorem bwd_succ (zs : List RMv) (k : Nat) : bwd zs (k + 1) = bwd zs k ++ [(zs.length - 1 - k, zs[zs.length - 1 - k]?.getD default)] := by simp [bwd, List.range_succ]
theorem bwd_length (zs : List RMv) (k : Nat) : (bwd zs k).length = k := by simp [bwd]
theorem bwd_take (zs : List RMv) {k : Nat} (hk : k ≤ zs.length) : (bwd zs k).map (·.2) = zs.reverse.take k := by
  apply List.ext_getElem
  · simp [bwd, hk]
  · intro i h1 h2
    have h3 : i < k := by simp [bwd] at h1; exact h1
    have h4 : zs.length - 1 - i < zs.length := by omega
    simp [bwd, h4]
/-- Two blocks stand as they stood. -/
def Same2 (b c : Nat) (W W' : World) : Prop := W'.heap[b]? = W.heap[b]? ∧ W'.heap[c]? = W.heap[c]?
theorem Same2.refl (b c : Nat) (W : World) : Same2 b c W W := ⟨rfl, rfl⟩
theorem Same2.trans {b c : Nat} {A B C : World} (h : Same2 b c A B) (k : Same2 b c B C) : Same2 b c A C := ⟨k.1.trans h.1, k.2.trans h.2⟩
theorem Same2.put {b c : Nat} {w : World} (hb : b < w.heap.size) (hc : c < w.heap.size) (W : World) (l : Nat) (o o' : Obj) (hl : w.heap.size ≤ l) (_ : W.heap[l]? = some o) (_ : o.isCells = false) (_ : o.isWalk = false) : Same2 b c W (W.putObj l o') :=
  ⟨World.putObj_heap_other (by omega), World.putObj_heap_other (by omega)⟩
end Lead
namespace Go.Proofs.YtlhadgnpkooiaaaGreatDoor
open Go.RowKit Go.Shelf Lead
attribute [local go_sem] Oper.semAt_some

set_option maxRecDepth 100000 in
set_option maxHeartbeats 2000000 in
theorem bwd1_in (F : Fence) (n : Nat) (hF : F.fn 50) (hro : F.round = none) (hn : 1 ≤ n) (l Bs b off cap : Nat) (zs : List RMv) (hreach : zs.length ≤ 100000) (J Jx : List (Nat × RMv) → World → Prop)
    (hY : ∀ pre x W, J pre W → pre.length < zs.length → YieldAt F (n - 1) Tryz.prog l #[.int .i64 (x.1 : Int), .agg #[.int .i64 x.2.1.A.n, .int .i64 x.2.1.A.d, .int .i64 x.2.1.B.n, .int .i64 x.2.1.B.d, .int .i64 x.2.1.C.n, .int .i64 x.2.1.C.d, .int .i64 x.2.1.D.n, .int .i64 x.2.1.D.d, .int .i64 x.2.1.E.n, .int .i64 x.2.1.E.d, .int .i64 x.2.1.F.n, .int .i64 x.2.1.F.d]] W fun e W' =>
      (e = .returned (.bool true) ∧ J (pre ++ [x]) W' ∧ Same2 b Bs W W') ∨ (e = .returned (.bool false) ∧ Jx (pre ++ [x]) W'))
    (W : World) (hBs : W.cell? ⟨Bs, 0, none⟩ = some (.slice (some ⟨b, off, none⟩) zs.length cap)) (hc : RowIn EM W b off (zs.map (·.1))) (h0 : J [] W) :
    CallsIn F n Tryz.prog 50 #[.func (.yield l) #[] #[], .pointer (some ⟨Bs, 0, none⟩)] W fun e W' => (∃ v, e = .returned v) ∧
      ((∃ ys, ys = bwd zs zs.length ∧ J ys W') ∨ (∃ pre, (∃ k, k ≤ zs.length ∧ pre = bwd zs k) ∧ Jx pre W')) := by
  refine callsIn_of_wp Tryz.func50 rfl hF ?_ hro
  simp only [Tryz.ntmps50, List.size_toArray, List.length_cons, List.length_nil, Nat.reduceAdd, Nat.reduceSub, Array.replicate_succ, Array.replicate_zero, List.push_toArray, List.append_toArray, List.nil_append, List.cons_append]
  have e0 : IntKind.i64.wrap ((zs.length : Int) - 1) = (zs.length : Int) - 1 := IntWalk.i64_in _ (by omega)
  gi_wp2
  gi_loopw [3] (fun i wr => ∃ k : Nat, k ≤ zs.length ∧ i = .int .i64 ((zs.length : Int) - 1 - k) ∧ J (bwd zs k) wr ∧ Same2 b Bs W wr)
    (fun i _ => (intOf i + 1).toNat)
  case atStart => exact ⟨0, Nat.zero_le _, by simp, h0, Same2.refl _ _ _⟩
  case round =>
    obtain ⟨k, hk, rfl, hJs, hnx⟩ := hrel
    have hBs' : wr.cell? ⟨Bs, 0, none⟩ = some (.slice (some ⟨b, off, none⟩) zs.length cap) := (World.cell?_of_block (w := W) hnx.2).trans hBs
    have hc' := hc.of (w1 := wr) (fun o => World.cell?_of_block (w := W) hnx.1)
    by_cases hlt : k < zs.length
    · obtain ⟨fn, tmps, assign, body, hy, hR⟩ := hY _ (zs.length - 1 - k, zs[zs.length - 1 - k]?.getD default) wr hJs (by rw [bwd_length]; exact hlt)
      have hsucc := bwd_succ zs k
      obtain ⟨d, hd⟩ : ∃ d, zs.length - 1 - k = d := ⟨_, rfl⟩
      have hdl : d < zs.length := by omega
      have hi : (zs.length : Int) - 1 - k = (d : Int) := by omega
      have hcd := hc' d (by simpa using hdl)
      have hx : zs[d]?.getD default = zs[d] := by simp [hdl]
      rw [hd, hx] at hy hR hsucc
      simp only [List.getElem_map] at hcd
      obtain ⟨m, hm⟩ : ∃ m, zs[d].1 = m := ⟨_, rfl⟩
      rw [hm] at hcd
      dsimp only at hy
      rw [hm] at hy
      have q0 : wr.cell? ⟨b, off + d * 12, none⟩ = some (.int .i64 m.A.n) := hcd 0 _ rfl
      have q1 : wr.cell? ⟨b, off + d * 12 + 1, none⟩ = some (.int .i64 m.A.d) := hcd 1 _ rfl
      have q2 : wr.cell? ⟨b, off + d * 12 + 2, none⟩ = some (.int .i64 m.B.n) := hcd 2 _ rfl
      have q3 : wr.cell? ⟨b, off + d * 12 + 3, none⟩ = some (.int .i64 m.B.d) := hcd 3 _ rfl
      have q4 : wr.cell? ⟨b, off + d * 12 + 4, none⟩ = some (.int .i64 m.C.n) := hcd 4 _ rfl
      have q5 : wr.cell? ⟨b, off + d * 12 + 5, none⟩ = some (.int .i64 m.C.d) := hcd 5 _ rfl
      have q6 : wr.cell? ⟨b, off + d * 12 + 6, none⟩ = some (.int .i64 m.D.n) := hcd 6 _ rfl
      have q7 : wr.cell? ⟨b, off + d * 12 + 7, none⟩ = some (.int .i64 m.D.d) := hcd 7 _ rfl
      have q8 : wr.cell? ⟨b, off + d * 12 + 8, none⟩ = some (.int .i64 m.E.n) := hcd 8 _ rfl
      have q9 : wr.cell? ⟨b, off + d * 12 + 9, none⟩ = some (.int .i64 m.E.d) := hcd 9 _ rfl
      have q10 : wr.cell? ⟨b, off + d * 12 + 10, none⟩ = some (.int .i64 m.F.n) := hcd 10 _ rfl
      have q11 : wr.cell? ⟨b, off + d * 12 + 11, none⟩ = some (.int .i64 m.F.d) := hcd 11 _ rfl
      rw [hi]
      have g1 : ¬ (d : Int) < 0 := by omega
      have g2 : IntKind.i64.wrap ((d : Int) - 1) = (d : Int) - 1 := IntWalk.i64_in _ (by omega)
      clear hcd hx
      gi_wp2
      refine hR.mono ?_
      rintro e W3 (⟨rfl, hJ3, hk3⟩ | ⟨rfl, hJx3⟩)
      · gi_wp2
        go_roundw
        case rel => exact ⟨k + 1, by omega, by simp <;> omega, by rw [hsucc]; exact hJ3, hnx.trans hk3⟩
        case measure => simp [intOf] <;> omega
      · gi_wp2
        refine bodyPost_ret (results_none rfl _ _ _) rfl ?_
        exact ⟨⟨_, rfl⟩, .inr ⟨_, ⟨k + 1, by omega, hsucc.symm⟩, hJx3⟩⟩
    · obtain rfl : k = zs.length := by omega
      gi_wp2
      go_end0
      exact ⟨⟨_, rfl⟩, .inl ⟨_, rfl, hJs⟩⟩

set_option maxHeartbeats 1000000 in
theorem bwd_in (F : Fence) (n : Nat) (hF : F.fn 31) (hro : F.round = none) (a : Option Addr) (len cap : Nat) (w : World) :
    CallsIn F n Tryz.prog 31 #[.slice a len cap] w fun e w' => e = .returned (.func (.func 50) #[] #[.pointer (some ⟨w.heap.size, 0, none⟩)]) ∧ w' = w.alloc (.cells #[.slice a len cap] 75) := by
  refine callsIn_of_wp Tryz.func31 rfl hF ?_ hro
  simp only [Tryz.ntmps31, List.size_toArray, List.length_cons, List.length_nil, Nat.reduceAdd, Nat.reduceSub, Array.replicate_succ, Array.replicate_zero, List.push_toArray, List.append_toArray, List.nil_append, List.cons_append]
  gi_wp2
  go_ret
  exact ⟨rfl, rfl⟩

/-- slices.Backward's iterator: all of zs, from the last one on; or the first k of them. -/
theorem bwd_stops (F : Fence) (n : Nat) (hF : F.fn 50) (hro : F.round = none) (hn : 1 ≤ n) (Bs b off cap : Nat) (zs : List RMv) (hreach : zs.length ≤ 100000) (w : World) (hB : Bs < w.heap.size) (hb : b < w.heap.size)
    (hBs : w.cell? ⟨Bs, 0, none⟩ = some (.slice (some ⟨b, off, none⟩) zs.length cap)) (hc : RowIn EM w b off (zs.map (·.1))) :
    SeqStopsK F n Tryz.prog 50 #[.pointer (some ⟨Bs, 0, none⟩)] (fun x : Nat × RMv => #[Value.int .i64 (x.1 : Int), .agg #[.int .i64 x.2.1.A.n, .int .i64 x.2.1.A.d, .int .i64 x.2.1.B.n, .int .i64 x.2.1.B.d, .int .i64 x.2.1.C.n, .int .i64 x.2.1.C.d, .int .i64 x.2.1.D.n, .int .i64 x.2.1.D.d, .int .i64 x.2.1.E.n, .int .i64 x.2.1.E.d, .int .i64 x.2.1.F.n, .int .i64 x.2.1.F.d]]) (Same2 b Bs) (fun ys => ys = bwd zs zs.length)
      (fun pre => ∃ k, k ≤ zs.length ∧ pre = bwd zs k) zs.length w := fun l J Jx W hW _ _ hY h0 =>
  bwd1_in F n hF hro hn l Bs b off cap zs hreach J Jx hY W ((hW.cell (p := ⟨Bs, 0, none⟩) hB).trans hBs) (hc.keep hW hb) h0
end Go.Proofs.YtlhadgnpkooiaaaGreatDoor
