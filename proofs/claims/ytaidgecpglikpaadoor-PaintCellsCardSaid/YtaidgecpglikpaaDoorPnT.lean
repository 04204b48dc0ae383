/-
  Walks over package paint: (Picture).Text; the closed fact painted.
-/
import Derived.Test.YtaidgecpglikpaaDoorPn9
import Derived.Test.YtaidgecpglikpaaDoorBld
import Derived.Test.YtaidgecpglikpaaDoorShelf
namespace Lead
open Go Go.RowKit
/-- A cell's first byte, or '?'. -/
def headB (s : ByteArray) : UInt8 := s.data.toList.headD 63
/-- The text of the first k cells. -/
def textT (n : Nat) (cs : List ByteArray) : Nat → List UInt8
  | 0 => []
  | k + 1 => textT n cs k ++ (headB (cs.getD k ⟨#[]⟩) :: if (k + 1) % n = 0 then [10] else [])
theorem textT_len (n : Nat) (cs : List ByteArray) (k : Nat) : (textT n cs k).length ≤ 2 * k := by
  induction k with
  | zero => simp [textT]
  | succ k ih => unfold textT; split <;> simp <;> omega
theorem head_bytes (s : ByteArray) : ((s ++ (⟨#[63]⟩ : ByteArray)).extract 0 1).data.toList = [headB s] := by
  have e : ((s ++ (⟨#[63]⟩ : ByteArray)).extract 0 1).data.toList = (s.data.toList ++ [63]).take 1 := by
    simp [ByteArray.extract, ByteArray.copySlice, ByteArray.append, Append.append]
  rw [e]
  unfold headB
  cases s.data.toList <;> rfl
theorem byteCells_append (a b : List UInt8) : Lib.byteCells (a ++ b) = Lib.byteCells a ++ Lib.byteCells b := by simp [Lib.byteCells]
end Lead
namespace Go.Proofs.YtaidgecpglikpaaDoor
open Go.RowKit Lead
set_option maxHeartbeats 2000000 in
set_option maxRecDepth 100000 in
theorem text_any (cs : List ByteArray) (g off cap n m : Nat) (w : World) (h1 : 1 ≤ n) (h40 : n ≤ 40) (hrow : RowIn ESt w g off cs) (hg : g < w.heap.size) (hlen : cs.length ≤ 100000) (hall : ∀ s ∈ cs, s.size ≤ 1000) :
    Calls Tryd.prog 14 #[.agg #[.int .i64 n, .int .i64 m, .slice (some ⟨g, off, none⟩) cs.length cap]] w fun e w' => e = .returned (.string ⟨(textT n cs cs.length).toArray⟩) ∧ Below w.heap.size w w' := by
  have hn0 : ((n : Int) == 0) = false := by rw [beq_eq_false_iff_ne]; omega
  have hnp : decide (0 < (n : Int)) = true := by simp; omega
  have H_hrow := Lib.hid hrow
  clear hrow
  have H_hall := Lib.hid hall
  clear hall
  go_enter Tryd.func14, Tryd.ntmps14
  go_wp2_with fail
  obtain ⟨wq, hwq⟩ : ∃ u, (w.alloc (.cells #[.int .i64 n, .int .i64 m, .slice (some ⟨g, off, none⟩) cs.length cap] 27)).alloc (.cells #[.pointer none, .slice none 0 0] 72) = u := ⟨_, rfl⟩
  have hBq : Below w.heap.size w wq := by rw [← hwq]; exact by repeat' (first | (with_reducible first | exact bwR _ _ | assumption | refine bdn ?_ | refine bwA ?_ ?_ _ | refine bwD ?_ | refine bwS ?_ ?_ _) | omega | (simp <;> omega))
  have zq : wq.heap.size = w.heap.size + 2 := by rw [← hwq]; simp
  have k0 : wq.cell? ⟨w.heap.size, 0, none⟩ = some (.int .i64 n) := by rw [← hwq, World.cell?_alloc_past _ _ _ (by simp), World.cell?_alloc_new]; rfl
  have hbld : Lib.IsBuilder 72 5 (w.heap.size + 1) (w.heap.size + 1) [] wq := by
    refine .inl ⟨Nat.le_refl _, _, ?_, World.ownsRow_nil _ _ _ _, by simp [Value.ownBlock]⟩
    rw [← hwq]
    have h := heap_alloc_new (w.alloc (.cells #[.int .i64 n, .int .i64 m, .slice (some ⟨g, off, none⟩) cs.length cap] 27)) (.cells #[.pointer none, .slice none 0 0] 72)
    simpa using h
  rw [hwq]
  clear hwq
  go_loopw [9] (fun t9 wr => ∃ k : Nat, k ≤ cs.length ∧ t9 = .int .i64 k ∧ Lib.IsBuilder 72 5 (w.heap.size + 1) (w.heap.size + 1) (Lib.byteCells (textT n cs k)) wr ∧ Below (w.heap.size + 1) wq wr) (fun t9 _ => cs.length - (intOf t9).toNat)
  case atStart => exact ⟨0, Nat.zero_le _, rfl, hbld, Below.refl _ _⟩
  case round =>
    obtain ⟨k, hk, rfl, hbl, hB⟩ := hrel
    have hzr := hB.size
    have hBr : Below w.heap.size w wr := hBq.trans (hB.mono (by omega))
    have r0 := (hB.cell (p := ⟨w.heap.size, 0, none⟩) (Nat.lt_succ_self _)).trans k0
    have hsz : w.heap.size + 1 ≤ wr.heap.size := by omega
    by_cases hlt : k < cs.length
    · have q0 : wr.cell? ⟨g, off + k, none⟩ = some (.string cs[k]) := by
        have h := (H_hrow.out.keep hBr hg) k hlt 0 _ rfl
        simpa [ESt] using h
      have htl := textT_len n cs k
      obtain ⟨s, hs⟩ : ∃ s, cs[k] = s := ⟨_, rfl⟩
      rw [hs] at q0
      have H_hbl := Lib.hid hbl
      clear hbl
      have hss : s.size ≤ 1000 := by rw [← hs]; exact H_hall.out _ (List.getElem_mem hlt)
      have hov : ¬ 9223372036854775807 < s.size + 1 := by omega
      obtain ⟨x, hx⟩ : ∃ x, (s ++ (⟨#[63]⟩ : ByteArray)).extract 0 1 = x := ⟨_, rfl⟩
      have hxb : Lib.strCells x = Lib.byteCells [headB s] := by rw [Lib.strCells_eq, ← hx, head_bytes]
      have hxs : x.size = 1 := by
        have h := congrArg List.length hxb
        rw [Lib.strCells_length, Lib.byteCells_length] at h
        exact h
      have hgd : cs.getD k ⟨#[]⟩ = s := by rw [List.getD_eq_getElem?_getD, List.getElem?_eq_getElem hlt, hs]; rfl
      have hk1 : IntKind.i64.wrap ((k : Int) + 1) = ((k + 1 : Nat) : Int) := IntWalk.i64_in _ (by omega)
      have H_hx := Lib.hid hx
      clear hx
      have H_hxb := Lib.hid hxb
      clear hxb
      have H_hgd := Lib.hid hgd
      clear hgd
      go_wp2_with fail
      rw [H_hx.out]
      refine (writestring_any _ _ _ x wr H_hbl.out (by rw [Lib.byteCells_length, hxs]; omega) hsz).mono ?_
      rintro _ w1 ⟨rfl, hb1, hB1⟩
      rw [H_hxb.out, ← byteCells_append] at hb1
      have t1 := hB1.size
      have r1 := (hB1.cell (p := ⟨w.heap.size, 0, none⟩) (Nat.lt_succ_self _)).trans r0
      have H_hb1 := Lib.hid hb1
      clear hb1
      by_cases hm0 : (k + 1) % n = 0
      · have hmz : (((k : Int) + 1) % (n : Int) == 0) = true := by rw [beq_iff_eq]; exact_mod_cast hm0
        have hst : textT n cs k ++ [headB s] ++ [10] = textT n cs (k + 1) := by
          show _ = textT n cs k ++ (headB (cs.getD k ⟨#[]⟩) :: if (k + 1) % n = 0 then [10] else [])
          rw [H_hgd.out, if_pos hm0]; simp
        go_wp2_with fail
        refine (writebyte_any _ _ _ 10 w1 H_hb1.out (by rw [Lib.byteCells_length, List.length_append]; simp; omega) (by omega)).mono ?_
        rintro _ w2 ⟨rfl, hb2, hB2⟩
        have hb2' : Lib.IsBuilder 72 5 (w.heap.size + 1) (w.heap.size + 1) (Lib.byteCells (textT n cs (k + 1))) w2 := by rw [← hst, byteCells_append]; exact hb2
        clear hb2 hst
        have H_hb2' := Lib.hid hb2'
        clear hb2'
        go_wp2_with fail
        go_roundw
        case rel => exact ⟨k + 1, by omega, by go_num, H_hb2'.out, (hB.trans hB1).trans hB2⟩
        case measure => simp [intOf]; omega
      · have hmz : (((k : Int) + 1) % (n : Int) == 0) = false := by rw [beq_eq_false_iff_ne]; exact_mod_cast hm0
        have hst : textT n cs k ++ [headB s] = textT n cs (k + 1) := by
          show _ = textT n cs k ++ (headB (cs.getD k ⟨#[]⟩) :: if (k + 1) % n = 0 then [10] else [])
          rw [H_hgd.out, if_neg hm0]
        have H_hst := Lib.hid hst
        clear hst
        go_wp2_with fail
        go_roundw
        case rel => exact ⟨k + 1, by omega, by go_num, by rw [← H_hst.out]; exact H_hb1.out, hB.trans hB1⟩
        case measure => simp [intOf]; omega
    · obtain rfl : k = cs.length := by omega
      go_wp2_with fail
      refine (Tryd.Builder_String_any _ _ (textT n cs cs.length) wr hbl hsz).mono ?_
      rintro _ w1 ⟨rfl, hB1⟩
      go_wp2_with fail
      go_returns
      exact ⟨rfl, hBr.trans (hB1.mono (by omega))⟩
end Go.Proofs.YtaidgecpglikpaaDoor
