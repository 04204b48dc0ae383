/-
  Walks over package move: fracs, one.
-/
import Derived.Test.YtlhadgnpkooiaaaGreatDoorRdW
namespace Lead
open Go Go.RowKit
/-- The first text that is no fraction: the error's number. -/
def frsC : List (List UInt8) → Nat
  | [] => 0
  | a :: l => if rdC a = 0 then frsC l else rdC a
theorem frsC_step {l : List (List UInt8)} {k : Nat} (h : k < l.length) (h0 : rdC l[k] = 0) : frsC (l.drop k) = frsC (l.drop (k + 1)) := by
  rw [List.drop_eq_getElem_cons h, frsC, if_pos h0]
theorem frsC_hit {l : List (List UInt8)} {k : Nat} (h : k < l.length) (h0 : rdC l[k] ≠ 0) : frsC (l.drop k) = rdC l[k] := by
  rw [List.drop_eq_getElem_cons h, frsC, if_neg h0]
theorem frsC_end {l : List (List UInt8)} {k : Nat} (h : l.length ≤ k) : frsC (l.drop k) = 0 := by
  rw [List.drop_eq_nil_of_le h, frsC]
/-- A call that answers own fractions and an error. -/
def RetFs (T : Nat) (ea : Nat → Addr) (e : TypeId) (c : Nat) (fs : List Fr) (w : World) (en : Ending) (w' : World) : Prop :=
  ∃ v, en = .returned (.tuple #[v, evl T ea c]) ∧ (c = 0 → OwnR EF w' w.heap.size e v fs) ∧ Below w.heap.size w w'
/-- Texts that lie from a place on. -/
def StrIn (w : World) (b off : Nat) (ss : List (List UInt8)) : Prop := ∀ i (h : i < ss.length), w.cell? ⟨b, off + i, none⟩ = some (.string ⟨ss[i].toArray⟩)
theorem StrIn.keep {w w1 : World} {b off : Nat} {ss : List (List UInt8)} {B : Nat} (h : StrIn w b off ss) (hb : Below B w w1) (hB : b < B) : StrIn w1 b off ss :=
  fun i hi => by rw [hb.cell hB]; exact h i hi
theorem take_map_snoc {α β : Type} (f : α → β) (l : List α) {k : Nat} (h : k < l.length) : (l.map f).take (k + 1) = (l.map f).take k ++ [f l[k]] := by
  rw [List.take_succ_eq_append_getElem (by simpa using h), List.getElem_map]
theorem cell_at1 (w : World) (o : Obj) (vs : Array Value) (t j : Nat) : ((w.alloc o).alloc (.cells vs t)).cell? ⟨w.heap.size + 1, j, none⟩ = vs[j]? := World.cell?_alloc_at _ _ _ _ (by simp)
end Lead
namespace Go.Proofs.YtlhadgnpkooiaaaGreatDoor
open Go.RowKit Lead
theorem infoF : (Tryz.prog.info? 23).map (fun i => (i.zero, i.size, i.bytes)) = some (some (.agg #[.int .i64 0, .int .i64 0]), 2, 16) := by kernel_rfl

theorem fread_ok (ea : Nat → Addr) (l : List UInt8) (q r : Int) (w : World) (h0 : rdC l = 0) (hq : rdN l = q) (hr : rdD l = r) (hs : l.length ≤ 100000) (hL : Libs w) (hText : w.cell? ⟨1, 0, none⟩ = some (.iface 183 (.pointer (some (ea 1))))) (hShape : w.cell? ⟨2, 0, none⟩ = some (.iface 183 (.pointer (some (ea 3))))) (hBound : w.cell? ⟨0, 0, none⟩ = some (.iface 183 (.pointer (some (ea 2))))) :
    Calls Tryz.prog 64 #[.string ⟨l.toArray⟩] w fun e w' => e = .returned (.tuple #[.agg #[.int .i64 q, .int .i64 r], .nilIface]) ∧ Below w.heap.size w w' := by
  have := fread_any ea ⟨l.toArray⟩ w hs hL hText hShape hBound
  have e : frV 183 ea (rdC (⟨l.toArray⟩ : ByteArray).data.toList) (rdN (⟨l.toArray⟩ : ByteArray).data.toList) (rdD (⟨l.toArray⟩ : ByteArray).data.toList) = .tuple #[.agg #[.int .i64 q, .int .i64 r], .nilIface] := by
    show frV _ _ (rdC l) (rdN l) (rdD l) = _
    rw [frV_0 h0, hq, hr]
  rw [e] at this
  exact this
theorem fread_no (ea : Nat → Addr) (l : List UInt8) (w : World) (h0 : rdC l ≠ 0) (hs : l.length ≤ 100000) (hL : Libs w) (hText : w.cell? ⟨1, 0, none⟩ = some (.iface 183 (.pointer (some (ea 1))))) (hShape : w.cell? ⟨2, 0, none⟩ = some (.iface 183 (.pointer (some (ea 3))))) (hBound : w.cell? ⟨0, 0, none⟩ = some (.iface 183 (.pointer (some (ea 2))))) :
    Calls Tryz.prog 64 #[.string ⟨l.toArray⟩] w fun e w' => e = .returned (.tuple #[.agg #[.int .i64 0, .int .i64 0], .iface 183 (.pointer (some (ea (rdC l))))]) ∧ Below w.heap.size w w' := by
  have := fread_any ea ⟨l.toArray⟩ w hs hL hText hShape hBound
  have e : frV 183 ea (rdC (⟨l.toArray⟩ : ByteArray).data.toList) (rdN (⟨l.toArray⟩ : ByteArray).data.toList) (rdD (⟨l.toArray⟩ : ByteArray).data.toList) = .tuple #[.agg #[.int .i64 0, .int .i64 0], .iface 183 (.pointer (some (ea (rdC l))))] := by
    show frV _ _ (rdC l) (rdN l) (rdD l) = _
    rw [frV_n h0]
  rw [e] at this
  exact this
set_option maxHeartbeats 2000000 in
set_option maxRecDepth 100000 in
theorem mfracs_any (ea : Nat → Addr) (ss : List (List UInt8)) (b off n cap : Nat) (w : World) (hn : ss.length = n) (h2 : n ≤ 100) (hsz : ∀ l ∈ ss, l.length ≤ 100000) (hss : StrIn w b off ss) (_hbl : b < w.heap.size)
    (hL : Libs w) (hText : w.cell? ⟨1, 0, none⟩ = some (.iface 183 (.pointer (some (ea 1))))) (hShape : w.cell? ⟨2, 0, none⟩ = some (.iface 183 (.pointer (some (ea 3))))) (hBound : w.cell? ⟨0, 0, none⟩ = some (.iface 183 (.pointer (some (ea 2))))) :
    Calls Tryz.prog 49 #[.slice (some ⟨b, off, none⟩) n cap] w (RetFs 183 ea 23 (frsC ss) (ss.map rdF) w) := by
  have zhText := zlt hText
  have xhText := zlts hText
  have yhText := zne hText
  have zhShape := zlt hShape
  have xhShape := zlts hShape
  have yhShape := zne hShape
  have zhBound := zlt hBound
  have xhBound := zlts hBound
  have yhBound := zne hBound
  obtain ⟨F0, Fi, Fz0, Fz1, Fz2⟩ := info_parts infoF
  have H_Fi := Lib.hid Fi
  clear Fi
  have H_Fz0 := Lib.hid Fz0
  clear Fz0
  have H_Fz1 := Lib.hid Fz1
  clear Fz1
  have H_Fz2 := Lib.hid Fz2
  clear Fz2
  have H_hn := Lib.hid hn
  clear hn
  have H_hsz := Lib.hid hsz
  clear hsz
  have H_hss := Lib.hid hss
  clear hss
  have H_hL := Lib.hid hL
  clear hL
  go_enter Tryz.func49, Tryz.ntmps49
  go_wp2_with fail
  go_loopw [4, 11] (fun t4 t11 wr => ∃ k : Nat, k ≤ n ∧ t11 = .int .i64 k ∧ OwnR EF wr w.heap.size 23 t4 ((ss.map rdF).take k) ∧ frsC ss = frsC (ss.drop k) ∧ Below w.heap.size w wr) (fun _ i _ => n - (intOf i).toNat)
  case atStart => exact ⟨0, Nat.zero_le _, rfl, OwnR.nil _ _ _ _, rfl, by repeat' (first | (with_reducible first | exact bwR _ _ | assumption | refine bdn ?_ | refine bwA ?_ ?_ _ | refine bwD ?_ | refine bwS ?_ ?_ _) | omega | (simp <;> omega))⟩
  case round =>
    obtain ⟨k, hk, rfl, hown, hfc, hB⟩ := hrel
    have hzr := hB.size
    by_cases hlt : k < n
    · have hk' : k < ss.length := by have := H_hn.out; omega
      have q0 := gkeep hB (H_hss.out k hk') rfl
      have hst := frsC_step hk'
      have hhit := frsC_hit hk'
      have hsn := take_map_snoc rdF ss hk'
      have hsk := H_hsz.out _ (List.getElem_mem hk')
      obtain ⟨l, hl⟩ : ∃ l, ss[k] = l := ⟨_, rfl⟩
      rw [hl] at q0 hst hhit hsn hsk
      clear hl
      have hsk2 : (⟨l.toArray⟩ : ByteArray).size ≤ 100000 := hsk
      by_cases h0 : rdC l = 0
      · have hst' := hst h0
        obtain ⟨q, hq⟩ : ∃ q, rdN l = q := ⟨_, rfl⟩
        obtain ⟨r, hr⟩ : ∃ q, rdD l = q := ⟨_, rfl⟩
        have hrd : rdF l = ⟨q, r⟩ := by unfold rdF; rw [hq, hr]
        have H_hst' := Lib.hid hst'
        clear hst'
        have H_hfc := Lib.hid hfc
        clear hfc
        have H_hown := Lib.hid hown
        clear hown
        have H_h0 := Lib.hid h0
        clear h0
        have H_hq := Lib.hid hq
        clear hq
        have H_hr := Lib.hid hr
        clear hr
        have H_hrd := Lib.hid hrd
        clear hrd
        have H_hsn := Lib.hid hsn
        clear hsn
        have H_hsk := Lib.hid hsk
        clear hsk
        have H_hsk2 := Lib.hid hsk2
        clear hsk2
        clear hst hhit
        go_wp2_with fail
        refine call_bel (w := w) (by repeat' (first | (with_reducible first | exact bwR _ _ | assumption | refine bdn ?_ | refine bwA ?_ ?_ _ | refine bwD ?_ | refine bwS ?_ ?_ _) | omega | (simp <;> omega))) (fun HB => fread_ok ea l q r _ H_h0.out H_hq.out H_hr.out H_hsk.out (H_hL.out.keep HB rfl) (gkeep HB hText rfl) (gkeep HB hShape rfl) (gkeep HB hBound rfl)) ?_
        intro w1 hb1 hz1 c1 d1 hW1
        have t1 := hb1.size
        have e1_r : Below wr.heap.size wr w1 := below_via (by repeat' (first | (with_reducible first | exact bwR _ _ | assumption | refine bdn ?_ | refine bwA ?_ ?_ _ | refine bwD ?_ | refine bwS ?_ ?_ _) | omega | (simp <;> omega))) hW1
        have te1_r := e1_r.size
        clear c1 d1 hz1 hW1
        go_wp2_with (at_builtin; refine wp_append_row (w0 := w) rfl (.tmp 23) (.tmp 25) 58 rfl EF (w.heap.size) 23 F0 _ 16 Tryz.underlying58 H_Fi.out H_Fz0.out H_Fz1.out H_Fz2.out rfl (by decide) _ _ rfl (((H_hown.out.keep e1_r).alloc _).alloc _) _ _ 1 1 [⟨q, r⟩] rfl (rfl) (row_one (vs := #[.int .i64 q, .int .i64 r]) rfl (fun j => cell_at1 _ _ _ _ _)) ?q1 ?q2 ?q3 ?q4 ?_)
        case q1 => first | omega | (simp only [List.length_map, List.length_take, List.length_cons, List.length_nil]; omega)
        case q2 => first | exact Nat.le_refl _ | omega | (simp; omega)
        case q3 => exact (by repeat' (first | (with_reducible first | exact bwR _ _ | assumption | refine bdn ?_ | refine bwA ?_ ?_ _ | refine bwD ?_ | refine bwS ?_ ?_ _) | omega | (simp <;> omega)))
        case q4 => first | exact Nat.le_refl _ | omega | (simp; omega)
        intro v2 w2 hv2 hb2 hz2 c2 d2 hA2
        have t2 := hb2.size
        try simp only [szA] at hz2 c2 d2
        try simp only [szD] at hz2 c2 d2
        try simp only [szS] at hz2 c2 d2
        try simp only [World.heap_drewN] at hz2 c2 d2
        try simp only [szA] at hz2 c2 d2
        try simp only [szD] at hz2 c2 d2
        try simp only [szS] at hz2 c2 d2
        clear c2 d2 hA2
        go_wp2_with fail
        go_roundw
        case rel => exact ⟨k + 1, by omega, by go_num, by rw [H_hsn.out, H_hrd.out]; exact hv2, H_hfc.out.trans H_hst'.out, hb2⟩
        case measure => simp [intOf]; omega
      · have hhit' := hhit h0
        have H_hhit' := Lib.hid hhit'
        clear hhit'
        have H_hfc := Lib.hid hfc
        clear hfc
        have H_hown := Lib.hid hown
        clear hown
        have H_h0 := Lib.hid h0
        clear h0
        have H_hsn := Lib.hid hsn
        clear hsn
        have H_hsk := Lib.hid hsk
        clear hsk
        have H_hsk2 := Lib.hid hsk2
        clear hsk2
        clear hst hhit
        go_wp2_with fail
        refine call_bel (w := w) (by repeat' (first | (with_reducible first | exact bwR _ _ | assumption | refine bdn ?_ | refine bwA ?_ ?_ _ | refine bwD ?_ | refine bwS ?_ ?_ _) | omega | (simp <;> omega))) (fun HB => fread_no ea l _ H_h0.out H_hsk.out (H_hL.out.keep HB rfl) (gkeep HB hText rfl) (gkeep HB hShape rfl) (gkeep HB hBound rfl)) ?_
        intro w1 hb1 hz1 c1 d1 hW1
        have t1 := hb1.size
        clear c1 d1 hz1 hW1
        go_wp2_with fail
        go_returns
        refine ⟨.slice none 0 0, by rw [H_hfc.out, H_hhit'.out, evl_n H_h0.out]; rfl, fun h => absurd (H_hhit'.out.symm.trans (H_hfc.out.symm.trans h)) H_h0.out, by repeat' (first | (with_reducible first | exact bwR _ _ | assumption | refine bdn ?_ | refine bwA ?_ ?_ _ | refine bwD ?_ | refine bwS ?_ ?_ _) | omega | (simp <;> omega))⟩
    · obtain rfl : k = n := by omega
      have hfe : frsC ss = 0 := by rw [hfc, frsC_end (by have := H_hn.out; omega)]
      have hall : (ss.map rdF).take k = ss.map rdF := by rw [List.take_of_length_le (by have := H_hn.out; simp; omega)]
      have H_hfe := Lib.hid hfe
      clear hfe
      have H_hfc := Lib.hid hfc
      clear hfc
      have H_hall := Lib.hid hall
      clear hall
      have H_hown := Lib.hid hown
      clear hown
      go_wp2_with fail
      go_returns
      exact ⟨_, by rw [H_hfe.out]; rfl, fun _ => by rw [← H_hall.out]; exact H_hown.out, by repeat' (first | (with_reducible first | exact bwR _ _ | assumption | refine bdn ?_ | refine bwA ?_ ?_ _ | refine bwD ?_ | refine bwS ?_ ?_ _) | omega | (simp <;> omega))⟩
end Go.Proofs.YtlhadgnpkooiaaaGreatDoor
