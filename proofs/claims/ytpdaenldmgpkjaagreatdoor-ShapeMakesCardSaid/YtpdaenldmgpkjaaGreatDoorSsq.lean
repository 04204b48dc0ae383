/-
  strings.SplitSeq at one byte: what its iterator hands over; it writes the variable of the text that is left.
-/
import Derived.Test.YtpdaenldmgpkjaaGreatDoorRgc
import Derived.Test.YtpdaenldmgpkjaaGreatDoorPp
import Derived.Test.YtpdaenldmgpkjaaGreatDoorShelf
import Derived.Test.YtpdaenldmgpkjaaGreatDoorChecked
import Derived.RangeFuncBox
import Derived.RangeFuncFrom
import Derived.RangeFuncLeaves
import Derived.Shelf.Abstract
import Derived.WalkKit
import Derived.OwnWalkIn
import Derived.TacticsInMore
import Derived.LoopNIn
import Derived.LoopIn
namespace Lead
open Go Go.RowKit
theorem idxb_y (y : UInt8) (l : List UInt8) : Lib.indexByte l y = if (cut1 y l).2.2 = true then ((cut1 y l).1.length : Int) else -1 := by
  induction l with
  | nil => rfl
  | cons c l ih =>
    unfold Lib.indexByte cut1
    by_cases h : c = y
    · subst h
      simp
    · rw [if_neg (by simpa using h), ih]
      cases hb : (cut1 y l).2.2
      · simp [h]
      · have : ¬ ((cut1 y l).1.length : Int) = -1 := by omega
        simp [h, this]
/-- The words of a text. -/
def wdsL (y : UInt8) (l : List UInt8) : List ByteArray := (cutL y l).map fun x => ⟨x.toArray⟩
theorem wdsL_no {y : UInt8} {l : List UInt8} (h : (cut1 y l).2.2 = false) : wdsL y l = [⟨l.toArray⟩] := by
  unfold wdsL
  rw [cutL_R, cutR_1, h, if_neg (by decide), cut1_no y l h]; rfl
theorem wdsL_yes {y : UInt8} {l : List UInt8} (h : (cut1 y l).2.2 = true) : wdsL y l = ⟨(l.take (cut1 y l).1.length).toArray⟩ :: wdsL y (l.drop ((cut1 y l).1.length + 1)) := by
  obtain ⟨h1, h2⟩ := cut1_parts y l h
  unfold wdsL
  rw [h1, h2]
  conv => lhs; rw [cutL_R, cutR_1, if_pos h]
  rw [List.map_cons, cutL_R]
theorem wdsL_len (y : UInt8) (l : List UInt8) : 0 < (wdsL y l).length := by
  cases h : (cut1 y l).2.2 with
  | false => rw [wdsL_no h]; simp
  | true => rw [wdsL_yes h]; simp
/-- The iterator's three boxes: the text that is left, the separator, what is kept of it. -/
def ssK (b k : Nat) : Prop := k = b ∨ k = b + 1 ∨ k = b + 2
structure SsAt (b : Nat) (y : UInt8) (l : List UInt8) (W : World) : Prop where
  c0 : W.cell? ⟨b, 0, none⟩ = some (.string ⟨l.toArray⟩)
  f0 : W.frozen? ⟨b, 0, none⟩ = false
  c1 : W.cell? ⟨b + 1, 0, none⟩ = some (.string ⟨#[y]⟩)
  c2 : W.cell? ⟨b + 2, 0, none⟩ = some (.int .i64 0)
theorem SsAt.kp {b : Nat} {y : UInt8} {l : List UInt8} {W W' : World} (h : SsAt b y l W) (hk : Kp (ssK b) W W') : SsAt b y l W' :=
  ⟨(World.cell?_of_block (w := W) (hk b (.inl rfl))).trans h.c0, (World.frozen?_of_block (w := W) (hk b (.inl rfl))).trans h.f0, (World.cell?_of_block (w := W) (hk (b + 1) (.inr (.inl rfl)))).trans h.c1, (World.cell?_of_block (w := W) (hk (b + 2) (.inr (.inr rfl)))).trans h.c2⟩
theorem SsAt.keep {b : Nat} {y : UInt8} {l : List UInt8} {w W : World} (h : SsAt b y l w) (hb : Below w.heap.size w W) (h2 : b + 2 < w.heap.size) : SsAt b y l W :=
  h.kp fun k hk => hb.block k (by rcases hk with rfl | rfl | rfl <;> omega)
theorem SsAt.set {b : Nat} {y : UInt8} {l : List UInt8} {W : World} (h : SsAt b y l W) (r : List UInt8) : SsAt b y r (W.setCell ⟨b, 0, none⟩ (.string ⟨r.toArray⟩)) :=
  ⟨World.cell?_setCell_same' _ _ _ (by rw [h.c0]; rfl), by rw [World.frozen?_setCell]; exact h.f0, by rw [World.cell?_setCell_other _ _ _ _ (fun q => by injection q with q1; omega)]; exact h.c1, by rw [World.cell?_setCell_other _ _ _ _ (fun q => by injection q with q1; omega)]; exact h.c2⟩
def ssLeft (b : Nat) (W : World) : Nat := match W.cell? ⟨b, 0, none⟩ with
  | some (.string s) => s.size
  | _ => 0
theorem SsAt.left {b : Nat} {y : UInt8} {l : List UInt8} {W : World} (h : SsAt b y l W) : ssLeft b W = l.length := by
  unfold ssLeft
  rw [h.c0]
  show l.toArray.size = l.length
  simp
theorem ext_take (r : List UInt8) (k : Nat) : (⟨r.toArray⟩ : ByteArray).extract 0 k = ⟨(r.take k).toArray⟩ := by
  apply ByteArray.ext
  rw [ByteArray.data_extract]
  simp
theorem ext_drop (r : List UInt8) (k n : Nat) (h : r.length ≤ n) : (⟨r.toArray⟩ : ByteArray).extract k n = ⟨(r.drop k).toArray⟩ := by
  apply ByteArray.ext
  rw [ByteArray.data_extract]
  simp
  exact List.take_of_length_le (by rw [List.length_drop]; omega)
end Lead
namespace Go.Proofs.YtpdaenldmgpkjaaGreatDoor
open Go.RowKit Go.Shelf Lead
attribute [local go_sem] Oper.semAt_some
set_option maxRecDepth 100000 in
set_option maxHeartbeats 2000000 in
theorem ssq1_in (n : Nat) (hn : 1 ≤ n) (l b : Nat) (y : UInt8) (s : List UInt8) (hs : s.length ≤ 100000) (J Jx : List ByteArray → World → Prop)
    (hJ : ∀ p A A', J p A → ButOne b A A' → J p A')
    (hY : ∀ pre x W1, J pre W1 → (pre ++ [x]) <+: wdsL y s → YieldAt Fence.wide (n - 1) Tryz.prog l #[.string x] W1 fun e W' =>
      (e = .returned (.bool true) ∧ J (pre ++ [x]) W' ∧ Kp (ssK b) W1 W') ∨ (e = .returned (.bool false) ∧ Jx (pre ++ [x]) W'))
    (W : World) (hS : SsAt b y s W) (h0 : J [] W) :
    CallsIn Fence.wide n Tryz.prog 112 (#[.func (.yield l) #[] #[]] ++ #[.pointer (some ⟨b + 1, 0, none⟩), .pointer (some ⟨b, 0, none⟩), .pointer (some ⟨b + 2, 0, none⟩)]) W fun e W' => (∃ v, e = .returned v) ∧
      (J (wdsL y s) W' ∨ (∃ pre, pre <+: wdsL y s ∧ Jx pre W')) := by
  refine callsIn_of_wp Tryz.func112 rfl trivial ?_ rfl
  simp only [Tryz.ntmps112, List.size_toArray, List.length_cons, List.length_nil, Nat.reduceAdd, Nat.reduceSub, Array.replicate_succ, Array.replicate_zero, List.push_toArray, List.append_toArray, List.nil_append, List.cons_append]
  obtain ⟨c0, f0, c1, c2⟩ := hS
  have hS : SsAt b y s W := ⟨c0, f0, c1, c2⟩
  gi_wp2
  gi_loopw [7, 8] (fun _ _ wr => ∃ (pre : List ByteArray) (r : List UInt8), pre ++ wdsL y r = wdsL y s ∧ r.length ≤ 100000 ∧ SsAt b y r wr ∧ J pre wr) (fun _ _ wr => ssLeft b wr)
  case atStart => exact ⟨[], s, rfl, hs, hS, h0⟩
  case round =>
    obtain ⟨pre, r, hpre, hr, hSr, hJr⟩ := hrel
    obtain ⟨c0, f0, c1, c2⟩ := hSr
    have hSr : SsAt b y r wr := ⟨c0, f0, c1, c2⟩
    have hix := idxb_y y r
    have hI := Tryz.strings_Index_one ⟨r.toArray⟩ y wr
    cases hc : (cut1 y r).2.2 with
    | false =>
      rw [hc, if_neg (by decide)] at hix
      have hI2 : Calls Tryz.prog 114 #[.string ⟨r.toArray⟩, .string ⟨#[y]⟩] wr fun e w' => e = .returned (.int .i64 (-1)) ∧ w' = wr := by
        rw [← hix]; exact hI
      have hw := wdsL_no hc
      rw [hw] at hpre
      obtain ⟨fn, tmps, assign, body, hy, hR⟩ := hY pre ⟨r.toArray⟩ wr hJr ⟨[], by rw [List.append_nil]; exact hpre⟩
      clear hI hix
      have H_hpre := Lib.hid hpre
      clear hpre
      have H_hw := Lib.hid hw
      clear hw
      gi_wp2_with (refine ⟨trivial, ?_⟩; gi_at_call 114; refine (callsIn_wide.2 hI2).mono ?_; clear hI2; rintro e w5 ⟨rfl, rfl⟩)
      refine hR.mono ?_
      rintro e W3 (⟨rfl, hJ3, hk3⟩ | ⟨rfl, hJx3⟩)
      · gi_wp2
        go_end0
        exact ⟨⟨_, rfl⟩, .inl (by rw [← H_hpre.out]; exact hJ3)⟩
      · gi_wp2
        go_end0
        exact ⟨⟨_, rfl⟩, .inr ⟨_, by rw [← H_hpre.out]; exact List.prefix_rfl, hJx3⟩⟩
    | true =>
      rw [hc, if_pos rfl] at hix
      have hI2 : Calls Tryz.prog 114 #[.string ⟨r.toArray⟩, .string ⟨#[y]⟩] wr fun e w' => e = .returned (.int .i64 ((cut1 y r).1.length : Nat)) ∧ w' = wr := by
        rw [← hix]; exact hI
      have hw := wdsL_yes hc
      obtain ⟨k, hk⟩ : ∃ u, (cut1 y r).1.length = u := ⟨_, rfl⟩
      rw [hk] at hI2 hw
      rw [hw] at hpre
      have hkl : k < r.length := by
        have h1 := congrArg List.length (cut1_yes y r hc)
        rw [List.length_append, List.length_cons] at h1
        omega
      rw [← ext_take] at hpre
      have hdr := ext_drop r (k + 1) r.length (Nat.le_refl _)
      obtain ⟨fn, tmps, assign, body, hy, hR⟩ := hY pre ((⟨r.toArray⟩ : ByteArray).extract 0 k) wr hJr ⟨wdsL y (r.drop (k + 1)), by rw [List.append_assoc]; exact hpre⟩
      have g0 : ¬ (k : Int) < 0 := by omega
      have gw : IntKind.i64.wrap ((k : Int) + 1) = ((k + 1 : Nat) : Int) := IntWalk.i64_in _ (by omega)
      have gk1 : k + 1 ≤ r.length := by omega
      have gk2 : ((k + 1 : Nat) : Int) ≤ (r.length : Int) := by omega
      clear hI hix
      have H_hpre := Lib.hid hpre
      clear hpre
      have H_hw := Lib.hid hw
      clear hw
      gi_wp2_with (refine ⟨trivial, ?_⟩; gi_at_call 114; refine (callsIn_wide.2 hI2).mono ?_; clear hI2; rintro e w5 ⟨rfl, rfl⟩)
      refine hR.mono ?_
      rintro e W3 (⟨rfl, hJ3, hk3⟩ | ⟨rfl, hJx3⟩)
      · have hS3 := hSr.kp hk3
        obtain ⟨d0, df, d1, d2⟩ := hS3
        have hS3 : SsAt b y r W3 := ⟨d0, df, d1, d2⟩
        have hS4 := hS3.set (r.drop (k + 1))
        have hJ4 := hJ _ _ _ hJ3 (ButOne.setCell (b := b) W3 0 (.string ⟨(r.drop (k + 1)).toArray⟩))
        clear c0 f0 c1 c2
        gi_wp2
        go_roundw
        case rel =>
          first
            | exact ⟨pre ++ [(⟨r.toArray⟩ : ByteArray).extract 0 k], r.drop (k + 1), by rw [List.append_assoc]; exact H_hpre.out, by rw [List.length_drop]; omega, hS4, hJ4⟩
            | (rw [hdr]; exact ⟨pre ++ [(⟨r.toArray⟩ : ByteArray).extract 0 k], r.drop (k + 1), by rw [List.append_assoc]; exact H_hpre.out, by rw [List.length_drop]; omega, hS4, hJ4⟩)
        case measure =>
          first
            | (rw [hS4.left, hSr.left, List.length_drop]; omega)
            | (rw [hdr, hS4.left, hSr.left, List.length_drop]; omega)
      · gi_wp2
        refine bodyPost_ret (results_none rfl _ _ _) rfl ?_
        exact ⟨⟨_, rfl⟩, .inr ⟨_, ⟨wdsL y (r.drop (k + 1)), by rw [List.append_assoc]; exact H_hpre.out⟩, hJx3⟩⟩
/-- strings.SplitSeq's iterator, at one byte. -/
theorem ssq_cell (n : Nat) (hn : 1 ≤ n) (b : Nat) (y : UInt8) (s : List UInt8) (hs : s.length ≤ 100000) (w : World) (hS : SsAt b y s w) (hb : b + 2 < w.heap.size) :
    SeqCell Fence.wide n Tryz.prog 112 #[.pointer (some ⟨b + 1, 0, none⟩), .pointer (some ⟨b, 0, none⟩), .pointer (some ⟨b + 2, 0, none⟩)] (fun x : ByteArray => #[Value.string x]) (ssK b) b (wdsL y s) w :=
  fun l J Jx W hW hJ _ hY h0 => ssq1_in n hn l b y s hs J Jx hJ hY W (hS.keep hW hb) h0
end Go.Proofs.YtpdaenldmgpkjaaGreatDoor
