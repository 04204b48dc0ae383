/-
  Walks over package mark: attrs.
-/
import Derived.Test.YtnpieocpniakpaaDoorKm1
import Derived.Test.YtnpieocpniakpaaDoorDn
import Derived.Test.YtnpieocpniakpaaDoorPa
namespace Lead.Dc
open Go Go.RowKit Lead
/-- The variables that documents read. -/
structure DG (T : TypeId) (gBound gShape gName gNone gExist gFull gDeep gCycle gValue : Nat) (ea : Nat → Addr) (w : World) : Prop where
  c2 : w.cell? ⟨gBound, 0, none⟩ = some (.iface T (.pointer (some (ea 2))))
  c3 : w.cell? ⟨gShape, 0, none⟩ = some (.iface T (.pointer (some (ea 3))))
  c4 : w.cell? ⟨gName, 0, none⟩ = some (.iface T (.pointer (some (ea 4))))
  c5 : w.cell? ⟨gNone, 0, none⟩ = some (.iface T (.pointer (some (ea 5))))
  c6 : w.cell? ⟨gExist, 0, none⟩ = some (.iface T (.pointer (some (ea 6))))
  c7 : w.cell? ⟨gFull, 0, none⟩ = some (.iface T (.pointer (some (ea 7))))
  c8 : w.cell? ⟨gDeep, 0, none⟩ = some (.iface T (.pointer (some (ea 8))))
  c9 : w.cell? ⟨gCycle, 0, none⟩ = some (.iface T (.pointer (some (ea 9))))
  c10 : w.cell? ⟨gValue, 0, none⟩ = some (.iface T (.pointer (some (ea 10))))
theorem DG.keep {T : TypeId} {g2 g3 g4 g5 g6 g7 g8 g9 g10 : Nat} {ea : Nat → Addr} {w w' : World} {B : Nat} (g : DG T g2 g3 g4 g5 g6 g7 g8 g9 g10 ea w) (hb : Below B w w') (hB : B = w.heap.size) : DG T g2 g3 g4 g5 g6 g7 g8 g9 g10 ea w' :=
  ⟨gkeep hb g.c2 hB, gkeep hb g.c3 hB, gkeep hb g.c4 hB, gkeep hb g.c5 hB, gkeep hb g.c6 hB, gkeep hb g.c7 hB, gkeep hb g.c8 hB, gkeep hb g.c9 hB, gkeep hb g.c10 hB⟩
/-- The errors that a check of a node hands back. -/
structure CG (T : TypeId) (gName gExist gFull gDeep gValue : Nat) (ea : Nat → Addr) (w : World) : Prop where
  c4 : w.cell? ⟨gName, 0, none⟩ = some (.iface T (.pointer (some (ea 4))))
  c6 : w.cell? ⟨gExist, 0, none⟩ = some (.iface T (.pointer (some (ea 6))))
  c7 : w.cell? ⟨gFull, 0, none⟩ = some (.iface T (.pointer (some (ea 7))))
  c8 : w.cell? ⟨gDeep, 0, none⟩ = some (.iface T (.pointer (some (ea 8))))
  c10 : w.cell? ⟨gValue, 0, none⟩ = some (.iface T (.pointer (some (ea 10))))
theorem CG.keep {T : TypeId} {g4 g6 g7 g8 g10 : Nat} {ea : Nat → Addr} {w w' : World} {B : Nat} (g : CG T g4 g6 g7 g8 g10 ea w) (hb : Below B w w') (hB : B = w.heap.size) : CG T g4 g6 g7 g8 g10 ea w' :=
  ⟨gkeep hb g.c4 hB, gkeep hb g.c6 hB, gkeep hb g.c7 hB, gkeep hb g.c8 hB, gkeep hb g.c10 hB⟩
theorem DG.toC {T : TypeId} {g2 g3 g4 g5 g6 g7 g8 g9 g10 : Nat} {ea : Nat → Addr} {w : World} (g : DG T g2 g3 g4 g5 g6 g7 g8 g9 g10 ea w) : CG T g4 g6 g7 g8 g10 ea w := ⟨g.c4, g.c6, g.c7, g.c8, g.c10⟩
def sameN (n : ByteArray) (b : ByteArray × ByteArray) : Bool := b.1.toList == n.toList
theorem sameN_eq (n : ByteArray) (b : ByteArray × ByteArray) : sameN n b = decide (b.1 = n) := by
  unfold sameN
  rw [Bool.eq_iff_iff, decide_eq_true_iff, beq_iff_eq, ByteArray.toList_eq, ByteArray.toList_eq]
  constructor
  · intro h
    obtain ⟨⟨⟨x⟩⟩, y⟩ := b
    obtain ⟨⟨z⟩⟩ := n
    simpa using h
  · intro h; rw [h]
theorem atC_step {l : List (ByteArray × ByteArray)} {k : Nat} (h : k < l.length) : atC (l.take k) (l.drop k) = (if nmOk l[k].1 = false then 4 else if (l.take k).any (sameN l[k].1) = true then 6 else if vlOk l[k].2 = false then 10 else atC (l.take (k + 1)) (l.drop (k + 1))) := by
  rw [List.drop_eq_getElem_cons h, atC, List.take_succ_eq_append_getElem h]
  have : (fun b : ByteArray × ByteArray => decide (b.1 = l[k].1)) = sameN l[k].1 := funext fun b => (sameN_eq _ b).symm
  rw [this]
theorem atC_end {l : List (ByteArray × ByteArray)} {k : Nat} (h : l.length ≤ k) : atC (l.take k) (l.drop k) = 0 := by
  rw [List.drop_eq_nil_of_le h, atC]
def encA (a : ByteArray × ByteArray) : List Value := [.string a.1, .string a.2]
end Lead.Dc
namespace Go.Proofs.YtnpieocpniakpaaDoor
open Go.RowKit Lead Lead.Dc
abbrev CGs (ea : Nat → Addr) (w : World) : Prop := CG 132 4 5 2 3 6 ea w
theorem at_pred (n : ByteArray) (B : Nat) (w : World) (hB : B < w.heap.size) (hcell : w.cell? ⟨B, 0, none⟩ = some (.string n)) :
    Go.Proofs.PredBelow Tryd.prog 45 #[.pointer (some ⟨B, 0, none⟩)] (fun x => .agg (encA x).toArray) (sameN n) w := fun W x hb => by
  have hc : W.cell? ⟨B, 0, none⟩ = some (.string n) := (hb.cell (p := ⟨B, 0, none⟩) hB).trans hcell
  have hBW : B < W.heap.size := Nat.lt_of_lt_of_le hB hb.size
  have hne : B ≠ W.heap.size := by omega
  have hq : sameN n x = (x.1.toList == n.toList) := rfl
  rw [hq]
  obtain ⟨x1, x2⟩ := x
  obtain ⟨r, hr⟩ : ∃ r, (x1.toList == n.toList) = r := ⟨_, rfl⟩
  show Calls Tryd.prog 45 #[.agg #[.string x1, .string x2], .pointer (some ⟨B, 0, none⟩)] W _
  rw [hr]
  clear hq
  have hws := hb.size
  have H_b := Lib.hid hb
  clear hb
  go_enter Tryd.func45, Tryd.ntmps45
  go_wp2_with fail
  go_returns
  exact ⟨rfl, H_b.out.alloc hws _⟩
set_option maxHeartbeats 1000000 in
theorem attrs_any (ea : Nat → Addr) (l : List (ByteArray × ByteArray)) (oa : Option Addr) (len cap c : Nat) (w : World) (hs : SlA EAt w oa len cap l) (hG : CGs ea w) (hc : atE l = c) :
    Calls Tryd.prog 31 #[.slice oa len cap] w (RetE 132 63 ea (c, none) w) := by
  have hFull := hG.c7
  have hName := hG.c4
  have hExist := hG.c6
  have hValue := hG.c10
  have zhFull := zlt hFull
  have xhFull := zlts hFull
  have yhFull := zne hFull
  have zhName := zlt hName
  have xhName := zlts hName
  have yhName := zne hName
  have zhExist := zlt hExist
  have xhExist := zlts hExist
  have yhExist := zne hExist
  have zhValue := zlt hValue
  have xhValue := zlts hValue
  have yhValue := zne hValue
  obtain ⟨h1, h2, h3, h4⟩ := hs
  have hm : len ≤ 9223372036854775807 := by unfold maxLen at h3; omega
  by_cases h12 : 12 < len
  · obtain rfl : c = 7 := by rw [← hc]; unfold atE; rw [if_pos (by omega)]
    have H_h1 := Lib.hid h1
    clear h1
    have H_h4 := Lib.hid h4
    clear h4
    have H_hc := Lib.hid hc
    clear hc
    clear hG h3
    go_enter Tryd.func31, Tryd.ntmps31
    go_wp2_with fail
    go_returns
    exact ⟨_, rfl, rfl, by repeat' (first | (with_reducible first | exact bwR _ _ | assumption | refine bdn ?_ | refine bwA ?_ ?_ _ | refine bwD ?_ | refine bwS ?_ ?_ _) | omega | (simp <;> omega))⟩
  · have hc0 : atC [] l = c := by rw [← hc]; unfold atE; rw [if_neg (by omega)]
    have H_h1 := Lib.hid h1
    clear h1
    have H_h4 := Lib.hid h4
    clear h4
    have H_hc := Lib.hid hc
    clear hc
    have H_hc0 := Lib.hid hc0
    clear hc0
    clear hG h3
    go_enter Tryd.func31, Tryd.ntmps31
    go_wp2_with fail
    go_loopw [11] (fun t11 wr => ∃ k : Nat, k ≤ len ∧ t11 = .int .i64 k ∧ RowKit.Hid (atC (l.take k) (l.drop k) = c) ∧ Below w.heap.size w wr) (fun t11 _ => len - (intOf t11).toNat)
    case atStart => exact ⟨0, Nat.zero_le _, rfl, H_hc0.out, Below.refl _ _⟩
    case round =>
      obtain ⟨k, hk, rfl, hat, hB⟩ := hrel
      have H_at : RowKit.Hid (atC (l.take k) (l.drop k) = c) := hat
      have hzr := hB.size
      clear hat
      by_cases hlt : k < len
      · have hk' : k < l.length := by have := H_h1.out; omega
        obtain ⟨b, off, rfl, hbw, hr⟩ : ∃ b off, oa = some ⟨b, off, none⟩ ∧ b < w.heap.size ∧ RowIn EAt w b off l := by
          refine H_h4.out.resolve_left ?_
          intro h; rw [h] at hk'; simp at hk'
        have hrr := hr.keep hB hbw
        have q0 : wr.cell? ⟨b, off + k * 2, none⟩ = some (.string l[k].1) := by
          have h := hrr k hk' 0 _ rfl
          simpa [EAt] using h
        have q1 : wr.cell? ⟨b, off + k * 2 + 1, none⟩ = some (.string l[k].2) := by
          have h := hrr k hk' 1 _ rfl
          simpa [EAt] using h
        have hst := atC_step hk'
        rw [H_at.out] at hst
        have hbr : b < wr.heap.size := by omega
        obtain ⟨a, ha⟩ : ∃ a, l[k] = a := ⟨_, rfl⟩
        rw [ha] at q0 q1 hst
        obtain ⟨nm, vl⟩ := a
        simp only at q0 q1 hst
        obtain ⟨r1, hr1⟩ : ∃ r, nmOk nm = r := ⟨_, rfl⟩
        obtain ⟨r2, hr2⟩ : ∃ r, (l.take k).any (sameN nm) = r := ⟨_, rfl⟩
        obtain ⟨r3, hr3⟩ : ∃ r, vlOk vl = r := ⟨_, rfl⟩
        rw [hr1, hr2, hr3] at hst
        have hcells : ∀ (W : World), Below wr.heap.size wr W → ∀ j, j < l.length → ∀ i v, (encA l[j]!)[i]? = some v → W.cell? ⟨b, off + j * 2 + i, none⟩ = some v := fun W hW j hj i v hv => by
          rw [getElem!_pos l j hj] at hv
          exact (hrr.keep hW hbr) j hj i v hv
        clear hr hrr ha
        have H_hst := Lib.hid hst
        clear hst
        have H_hr1 := Lib.hid hr1
        clear hr1
        have H_hr2 := Lib.hid hr2
        clear hr2
        have H_hr3 := Lib.hid hr3
        clear hr3
        have H_hcells := Lib.hid hcells
        clear hcells
        go_wp2_with fail
        refine call_bel (w := w) (by repeat' (first | (with_reducible first | exact bwR _ _ | assumption | refine bdn ?_ | refine bwA ?_ ?_ _ | refine bwD ?_ | refine bwS ?_ ?_ _) | omega | (simp <;> omega))) (fun HB => mname_any nm _) ?_
        intro w1 hb1 hz1 c1 d1 hW1
        have t1 := hb1.size
        have hName_1 := gkeep hb1 hName rfl
        have zhName_1 := zlt hName_1
        have xhName_1 := zlts hName_1
        have yhName_1 := zne hName_1
        have hExist_1 := gkeep hb1 hExist rfl
        have zhExist_1 := zlt hExist_1
        have xhExist_1 := zlts hExist_1
        have yhExist_1 := zne hExist_1
        have hValue_1 := gkeep hb1 hValue rfl
        have zhValue_1 := zlt hValue_1
        have xhValue_1 := zlts hValue_1
        have yhValue_1 := zne hValue_1
        have e1_r : Below wr.heap.size wr w1 := below_via (by repeat' (first | (with_reducible first | exact bwR _ _ | assumption | refine bdn ?_ | refine bwA ?_ ?_ _ | refine bwD ?_ | refine bwS ?_ ?_ _) | omega | (simp <;> omega))) hW1
        have te1_r := e1_r.size
        try simp only [szA] at hz1 c1 d1
        try simp only [szD] at hz1 c1 d1
        try simp only [szS] at hz1 c1 d1
        try simp only [World.heap_drewN] at hz1 c1 d1
        try simp only [szA] at hz1 c1 d1
        try simp only [szD] at hz1 c1 d1
        try simp only [szS] at hz1 c1 d1
        have s1_0 : wr.heap.size < w1.heap.size := by omega
        have o1_0 := fun j => c1 (wr.heap.size) j (by omega)
        have f1_0 := fun j => d1 (wr.heap.size) j (by omega)
        clear c1 d1 hz1 hW1
        rw [H_hr1.out]
        have b0 : w1.cell? ⟨wr.heap.size, 0, none⟩ = some (.string nm) := (o1_0 0).trans (by rw [World.cell?_alloc_new]; rfl)
        have b1 : w1.cell? ⟨wr.heap.size, 1, none⟩ = some (.string vl) := (o1_0 1).trans (by rw [World.cell?_alloc_new]; rfl)
        have hbr1 : b < w1.heap.size := by omega
        clear o1_0 f1_0 q0 q1
        cases r1 with
        | false =>
          obtain rfl : c = 4 := H_hst.out
          go_wp2_with fail
          go_returns
          exact ⟨_, rfl, rfl, by repeat' (first | (with_reducible first | exact bwR _ _ | assumption | refine bdn ?_ | refine bwA ?_ ?_ _ | refine bwD ?_ | refine bwS ?_ ?_ _) | omega | (simp <;> omega))⟩
        | true =>
          go_wp2_with fail
          refine call_bel (w := w) (by repeat' (first | (with_reducible first | exact bwR _ _ | assumption | refine bdn ?_ | refine bwA ?_ ?_ _ | refine bwD ?_ | refine bwS ?_ ?_ _) | omega | (simp <;> omega))) (fun HB => (AnyQ.slices_ContainsFunc (ρ := Tryd.cfA_ren) Tryd.cfA 2 Tryd.isAgg54 Tryd.sizeOf54 encA (fun _ => rfl) (sameN nm) 45 #[.pointer (some ⟨wr.heap.size, 0, none⟩)] (enters_of Tryd.func45 (by kernel_rfl) rfl) b off k cap l _ (at_pred nm wr.heap.size _ s1_0 b0) (by omega) (by omega) hbr1 (H_hcells.out _ e1_r))) ?_
          intro w2 hb2 hz2 c2 d2 hW2
          have t2 := hb2.size
          have hName_2 := gkeep hb2 hName rfl
          have zhName_2 := zlt hName_2
          have xhName_2 := zlts hName_2
          have yhName_2 := zne hName_2
          have hExist_2 := gkeep hb2 hExist rfl
          have zhExist_2 := zlt hExist_2
          have xhExist_2 := zlts hExist_2
          have yhExist_2 := zne hExist_2
          have hValue_2 := gkeep hb2 hValue rfl
          have zhValue_2 := zlt hValue_2
          have xhValue_2 := zlts hValue_2
          have yhValue_2 := zne hValue_2
          have e2_r : Below wr.heap.size wr w2 := below_via (by repeat' (first | (with_reducible first | exact bwR _ _ | assumption | refine bdn ?_ | refine bwA ?_ ?_ _ | refine bwD ?_ | refine bwS ?_ ?_ _) | omega | (simp <;> omega))) hW2
          have te2_r := e2_r.size
          try simp only [szA] at hz2 c2 d2
          try simp only [szD] at hz2 c2 d2
          try simp only [szS] at hz2 c2 d2
          try simp only [World.heap_drewN] at hz2 c2 d2
          try simp only [szA] at hz2 c2 d2
          try simp only [szD] at hz2 c2 d2
          try simp only [szS] at hz2 c2 d2
          have s2_0 : wr.heap.size < w2.heap.size := by omega
          have o2_0 := fun j => c2 (wr.heap.size) j (by omega)
          have f2_0 := fun j => d2 (wr.heap.size) j (by omega)
          clear c2 d2 hz2 hW2
          rw [H_hr2.out]
          have b1' : w2.cell? ⟨wr.heap.size, 1, none⟩ = some (.string vl) := (o2_0 1).trans b1
          clear o2_0 f2_0 b0 b1
          cases r2 with
          | true =>
            obtain rfl : c = 6 := H_hst.out
            go_wp2_with fail
            go_returns
            exact ⟨_, rfl, rfl, by repeat' (first | (with_reducible first | exact bwR _ _ | assumption | refine bdn ?_ | refine bwA ?_ ?_ _ | refine bwD ?_ | refine bwS ?_ ?_ _) | omega | (simp <;> omega))⟩
          | false =>
            go_wp2_with fail
            refine call_bel (w := w) (by repeat' (first | (with_reducible first | exact bwR _ _ | assumption | refine bdn ?_ | refine bwA ?_ ?_ _ | refine bwD ?_ | refine bwS ?_ ?_ _) | omega | (simp <;> omega))) (fun HB => mval_any vl _) ?_
            intro w3 hb3 hz3 c3 d3 hW3
            have t3 := hb3.size
            have hName_3 := gkeep hb3 hName rfl
            have zhName_3 := zlt hName_3
            have xhName_3 := zlts hName_3
            have yhName_3 := zne hName_3
            have hExist_3 := gkeep hb3 hExist rfl
            have zhExist_3 := zlt hExist_3
            have xhExist_3 := zlts hExist_3
            have yhExist_3 := zne hExist_3
            have hValue_3 := gkeep hb3 hValue rfl
            have zhValue_3 := zlt hValue_3
            have xhValue_3 := zlts hValue_3
            have yhValue_3 := zne hValue_3
            have e3_r : Below wr.heap.size wr w3 := below_via (by repeat' (first | (with_reducible first | exact bwR _ _ | assumption | refine bdn ?_ | refine bwA ?_ ?_ _ | refine bwD ?_ | refine bwS ?_ ?_ _) | omega | (simp <;> omega))) hW3
            have te3_r := e3_r.size
            clear c3 d3 hz3 hW3
            rw [H_hr3.out]
            cases r3 with
            | false =>
              obtain rfl : c = 10 := H_hst.out
              go_wp2_with fail
              go_returns
              exact ⟨_, rfl, rfl, by repeat' (first | (with_reducible first | exact bwR _ _ | assumption | refine bdn ?_ | refine bwA ?_ ?_ _ | refine bwD ?_ | refine bwS ?_ ?_ _) | omega | (simp <;> omega))⟩
            | true =>
              go_wp2_with fail
              go_roundw
              case rel => exact ⟨k + 1, by omega, by go_num, H_hst.out.symm, hb3⟩
              case measure => simp [intOf]; omega
      · obtain rfl : k = len := by omega
        obtain rfl : c = 0 := by rw [← H_at.out]; exact atC_end (by have := H_h1.out; omega)
        go_wp2_with fail
        go_returns
        exact ⟨_, rfl, rfl, hB⟩
end Go.Proofs.YtnpieocpniakpaaDoor
