/-
  Several texts as one: Km1, Km2, Km3.
-/
import Derived.Test.YtndlmmpheecleaaGreatDoorDp
import Derived.Test.YtndlmmpheecleaaGreatDoorPa
import Derived.Test.YtndlmmpheecleaaGreatDoorShelf
import Derived.Test.YtndlmmpheecleaaGreatDoorMore
import Derived.Test.YtndlmmpheecleaaGreatDoorChecked
import Derived.Laws.IdiomStrings
import Derived.Test.YtndlmmpheecleaaGreatDoorDn
/-
  Walks over package mark: Name and Value of a text.
-/
namespace Lead.Dc
open Go Go.RowKit Lead
theorem nmC_eq (x : UInt8) : nmC x = ((decide (97 ≤ x.toNat) && decide (x.toNat ≤ 122)) || (decide (48 ≤ x.toNat) && decide (x.toNat ≤ 57)) || decide (x.toNat = 45)) := by
  unfold nmC
  have h : decide (x = 45) = decide (x.toNat = 45) := by
    rw [decide_eq_decide]
    exact ⟨fun h => by rw [h]; rfl, fun h => UInt8.toNat_inj.1 (by rw [h]; rfl)⟩
  rw [h]
  simp only [UInt8.le_iff_toNat_le]
  rfl
theorem vlC_eq (x : UInt8) : vlC x = (decide (32 ≤ x.toNat) && decide (x.toNat ≤ 126)) := by
  unfold vlC
  simp only [UInt8.le_iff_toNat_le]
  rfl
theorem ret_bool {a b : Bool} (h : a = b) : Ending.returned (.bool a) = .returned (.bool b) := by rw [h]
def encB (b : UInt8) : Value := .int .u8 (b.toNat : Int)
theorem bytes_at (s : ByteArray) (cap : Nat) (_h : s.size ≤ cap) (w : World) (e : TypeId) (fr : Nat × Nat) : ∀ j, j < s.data.toList.length → (w.alloc (.cells (bytesRow s cap) e fr)).cell? ⟨w.heap.size, 0 + j, none⟩ = some (encB s.data.toList[j]!) := by
  intro j hj
  have hj' : j < s.data.size := by simpa using hj
  rw [Nat.zero_add]
  have h1 : (w.alloc (.cells (bytesRow s cap) e fr)).cell? ⟨w.heap.size, j, none⟩ = (bytesRow s cap)[j]? := by
    have h2 := heap_alloc_new w (.cells (bytesRow s cap) e fr)
    unfold World.cell?
    rw [h2]
    simp
  rw [h1]
  unfold bytesRow
  rw [Array.getElem?_append_left (by simpa using hj'), Array.getElem?_map, Array.getElem?_eq_getElem hj', Option.map_some, getElem!_pos _ j hj]
  rfl
theorem head_cons {s : ByteArray} (h : 0 < s.size) : ∃ r, s.data.toList = s[0] :: r := by
  have hl : s.data.toList.length = s.size := Array.length_toList
  cases hs : s.data.toList with
  | nil => rw [hs] at hl; simp at hl; omega
  | cons c r =>
    refine ⟨r, ?_⟩
    have h1 : s[0] = s.data.toList[0]'(by omega) := by simp [ByteArray.getElem_eq_getElem_data]
    rw [h1]
    simp [hs]
theorem nmOk_cons {s : ByteArray} {c : UInt8} {r : List UInt8} (h : s.data.toList = c :: r) : nmOk s = (decide (r.length + 1 ≤ 12) && decide (97 ≤ c.toNat) && decide (c.toNat ≤ 122) && s.data.toList.all nmC) := by
  unfold nmOk
  rw [h]
  show (decide (r.length + 1 ≤ 12) && decide (97 ≤ c) && decide (c ≤ 122) && (c :: r).all nmC) = _
  simp only [UInt8.le_iff_toNat_le]
  rfl
end Lead.Dc
namespace Go.Proofs.YtndlmmpheecleaaGreatDoor
open Go.RowKit Lead Lead.Dc
theorem nm_pred (W : World) (x : UInt8) : Calls Tryz.prog 96 #[.int .u8 (x.toNat : Int)] W fun e w' => e = .returned (.bool (!nmC x)) ∧ ∃ q, w' = W.drewN q := by
  have hx := x.toNat_lt
  obtain ⟨n, hn⟩ : ∃ n, x.toNat = n := ⟨_, rfl⟩
  have hq := nmC_eq x
  rw [hn] at hx hq ⊢
  rw [hq]
  clear hq hn
  go_enter Tryz.func96, Tryz.ntmps96
  go_wp2_with fail
  all_goals
    go_returns
    refine ⟨ret_bool ?_, 0, rfl⟩
    rw [Bool.eq_iff_iff]
    simp
    omega
theorem vl_pred (W : World) (x : UInt8) : Calls Tryz.prog 102 #[.int .u8 (x.toNat : Int)] W fun e w' => e = .returned (.bool (!vlC x)) ∧ ∃ q, w' = W.drewN q := by
  have hx := x.toNat_lt
  obtain ⟨n, hn⟩ : ∃ n, x.toNat = n := ⟨_, rfl⟩
  have hq := vlC_eq x
  rw [hn] at hx hq ⊢
  rw [hq]
  clear hq hn
  go_enter Tryz.func102, Tryz.ntmps102
  go_wp2_with fail
  all_goals
    go_returns
    refine ⟨ret_bool ?_, 0, rfl⟩
    rw [Bool.eq_iff_iff]
    simp
    omega
theorem nm_at (w : World) : Go.Proofs.PredAt Tryz.prog 96 #[] encB (fun c => !nmC c) w := fun W x _ => nm_pred W x
theorem vl_at (w : World) : Go.Proofs.PredAt Tryz.prog 102 #[] encB (fun c => !vlC c) w := fun W x _ => vl_pred W x
theorem mval_any (s : ByteArray) (w : World) : Calls Tryz.prog 63 #[.string s] w fun e w' => e = .returned (.bool (vlOk s)) ∧ Below w.heap.size w w' := by
  have hl : s.data.toList.length = s.size := Array.length_toList
  by_cases h : s.size ≤ 200
  · have hv : vlOk s = !(s.data.toList.any fun c => !vlC c) := by
      unfold vlOk
      rw [decide_eq_true h, Bool.true_and]
      simp [List.all_eq_not_any_not]
    have hd : decide ((s.size : Int) ≤ 200) = true := by simp; omega
    have hkb : ∀ w, (convert 9 164 (.string s)).run Tryz.prog w = _ := fun w => run_bytes_of_string w 9 164 5 s Tryz.underlying9 Tryz.underlying164 Tryz.underlying5
    rw [hv]
    obtain ⟨r, hr⟩ : ∃ r, (s.data.toList.any fun c => !vlC c) = r := ⟨_, rfl⟩
    rw [hr]
    have H_hv := Lib.hid hv
    clear hv
    have H_hr := Lib.hid hr
    clear hr
    have H_hl := Lib.hid hl
    clear hl
    go_enter Tryz.func63, Tryz.ntmps63
    go_wp2_with fail
    obtain ⟨C, hC⟩ : ∃ u, grownCap w s.size 0 5 = u := ⟨_, rfl⟩
    have hge := grownCap_ge w s.size 0 5
    rw [hC] at hge ⊢
    refine (AnyE.slices_ContainsFunc (ρ := Tryz.cfB_ren) Tryz.cfB encB (fun c => !vlC c) 102 #[] (enters_of Tryz.func102 (by kernel_rfl) rfl) w.heap.size 0 s.size C s.data.toList _ (vl_at _) (by rw [H_hl.out]; exact Nat.le_refl _) (by omega) (bytes_at s C hge w.drew 5 _)).mono ?_
    rintro _ w1 ⟨rfl, q, rfl⟩
    rw [List.take_of_length_le (by rw [H_hl.out]; exact Nat.le_refl _), H_hr.out]
    go_wp2_with fail
    go_returns
    exact ⟨rfl, by repeat' (first | (with_reducible first | exact bwR _ _ | assumption | refine bdn ?_ | refine bwA ?_ ?_ _ | refine bwD ?_ | refine bwS ?_ ?_ _) | omega | (simp <;> omega))⟩
  · have hv : vlOk s = false := by
      unfold vlOk
      rw [decide_eq_false h, Bool.false_and]
    have hd : decide ((s.size : Int) ≤ 200) = false := by simp; omega
    rw [hv]
    have H_hv := Lib.hid hv
    clear hv
    have H_hl := Lib.hid hl
    clear hl
    go_enter Tryz.func63, Tryz.ntmps63
    go_wp2_with fail
    go_returns
    exact ⟨rfl, by repeat' (first | (with_reducible first | exact bwR _ _ | assumption | refine bdn ?_ | refine bwA ?_ ?_ _ | refine bwD ?_ | refine bwS ?_ ?_ _) | omega | (simp <;> omega))⟩
theorem mname_any (s : ByteArray) (w : World) : Calls Tryz.prog 48 #[.string s] w fun e w' => e = .returned (.bool (nmOk s)) ∧ Below w.heap.size w w' := by
  have hl : s.data.toList.length = s.size := Array.length_toList
  by_cases h0 : s.size = 0
  · have hv : nmOk s = false := by
      unfold nmOk
      rw [List.length_eq_zero_iff.1 (hl.trans h0)]; rfl
    have ha : (s.toList == ([] : List UInt8)) = true := by rw [ByteArray.toList_eq, List.length_eq_zero_iff.1 (hl.trans h0)]; rfl
    have hb : s.toList = [] := by rw [ByteArray.toList_eq]; exact List.length_eq_zero_iff.1 (hl.trans h0)
    rw [hv]
    have H_hv := Lib.hid hv
    clear hv
    have H_hl := Lib.hid hl
    clear hl
    go_enter Tryz.func48, Tryz.ntmps48
    go_wp2_with fail
    go_returns
    exact ⟨rfl, by repeat' (first | (with_reducible first | exact bwR _ _ | assumption | refine bdn ?_ | refine bwA ?_ ?_ _ | refine bwD ?_ | refine bwS ?_ ?_ _) | omega | (simp <;> omega))⟩
  have hp : 0 < s.size := by omega
  obtain ⟨r, hr⟩ := head_cons hp
  have ha : (s.toList == ([] : List UInt8)) = false := by rw [ByteArray.toList_eq, hr]; rfl
  have hb : s.toList.isEmpty = false := by rw [ByteArray.toList_eq, hr]; rfl
  have hv := nmOk_cons hr
  have hlr : r.length + 1 = s.size := by rw [← hl, hr]; rfl
  by_cases h1 : 12 < s.size
  · have hv : nmOk s = false := by rw [hv, decide_eq_false (by omega)]; rfl
    rw [hv]
    have H_hv := Lib.hid hv
    clear hv
    have H_hl := Lib.hid hl
    clear hl
    have H_hr := Lib.hid hr
    clear hr
    have H_hlr := Lib.hid hlr
    clear hlr
    go_enter Tryz.func48, Tryz.ntmps48
    go_wp2_with fail
    go_returns
    exact ⟨rfl, by repeat' (first | (with_reducible first | exact bwR _ _ | assumption | refine bdn ?_ | refine bwA ?_ ?_ _ | refine bwD ?_ | refine bwS ?_ ?_ _) | omega | (simp <;> omega))⟩
  by_cases h2 : (s[0]).toNat < 97
  · have hv : nmOk s = false := by rw [hv, decide_eq_false (show ¬ 97 ≤ (s[0]).toNat by omega)]; simp
    have h2' : ¬ (97 : Int) ≤ ((s[0]).toNat : Int) := by omega
    rw [hv]
    have H_hv := Lib.hid hv
    clear hv
    have H_hl := Lib.hid hl
    clear hl
    have H_hr := Lib.hid hr
    clear hr
    have H_hlr := Lib.hid hlr
    clear hlr
    go_enter Tryz.func48, Tryz.ntmps48
    go_wp2_with fail
    go_returns
    exact ⟨rfl, by repeat' (first | (with_reducible first | exact bwR _ _ | assumption | refine bdn ?_ | refine bwA ?_ ?_ _ | refine bwD ?_ | refine bwS ?_ ?_ _) | omega | (simp <;> omega))⟩
  by_cases h3 : 122 < (s[0]).toNat
  · have hv : nmOk s = false := by rw [hv, decide_eq_false (show ¬ (s[0]).toNat ≤ 122 by omega)]; simp
    have h2' : (97 : Int) ≤ ((s[0]).toNat : Int) := by omega
    have h3' : ¬ ((s[0]).toNat : Int) ≤ 122 := by omega
    rw [hv]
    have H_hv := Lib.hid hv
    clear hv
    have H_hl := Lib.hid hl
    clear hl
    have H_hr := Lib.hid hr
    clear hr
    have H_hlr := Lib.hid hlr
    clear hlr
    go_enter Tryz.func48, Tryz.ntmps48
    go_wp2_with fail
    go_returns
    exact ⟨rfl, by repeat' (first | (with_reducible first | exact bwR _ _ | assumption | refine bdn ?_ | refine bwA ?_ ?_ _ | refine bwD ?_ | refine bwS ?_ ?_ _) | omega | (simp <;> omega))⟩
  have hv : nmOk s = !(s.data.toList.any fun c => !nmC c) := by
    rw [hv, decide_eq_true (show r.length + 1 ≤ 12 by omega), decide_eq_true (show 97 ≤ (s[0]).toNat by omega), decide_eq_true (show (s[0]).toNat ≤ 122 by omega), List.all_eq_not_any_not]; rfl
  have h2' : (97 : Int) ≤ ((s[0]).toNat : Int) := by omega
  have h3' : ((s[0]).toNat : Int) ≤ 122 := by omega
  have hkb : ∀ w, (convert 9 164 (.string s)).run Tryz.prog w = _ := fun w => run_bytes_of_string w 9 164 5 s Tryz.underlying9 Tryz.underlying164 Tryz.underlying5
  rw [hv]
  obtain ⟨r', hr'⟩ : ∃ r, (s.data.toList.any fun c => !nmC c) = r := ⟨_, rfl⟩
  rw [hr']
  have H_hv := Lib.hid hv
  clear hv
  have H_hr' := Lib.hid hr'
  clear hr'
  have H_hl := Lib.hid hl
  clear hl
  have H_hr := Lib.hid hr
  clear hr
  have H_hlr := Lib.hid hlr
  clear hlr
  go_enter Tryz.func48, Tryz.ntmps48
  go_wp2_with fail
  obtain ⟨C, hC⟩ : ∃ u, grownCap w s.size 0 5 = u := ⟨_, rfl⟩
  have hge := grownCap_ge w s.size 0 5
  rw [hC] at hge ⊢
  refine (AnyE.slices_ContainsFunc (ρ := Tryz.cfB_ren) Tryz.cfB encB (fun c => !nmC c) 96 #[] (enters_of Tryz.func96 (by kernel_rfl) rfl) w.heap.size 0 s.size C s.data.toList _ (nm_at _) (by rw [H_hl.out]; exact Nat.le_refl _) (by omega) (bytes_at s C hge w.drew 5 _)).mono ?_
  rintro _ w1 ⟨rfl, q, rfl⟩
  rw [List.take_of_length_le (by rw [H_hl.out]; exact Nat.le_refl _), H_hr'.out]
  go_wp2_with fail
  go_returns
  exact ⟨rfl, by repeat' (first | (with_reducible first | exact bwR _ _ | assumption | refine bdn ?_ | refine bwA ?_ ?_ _ | refine bwD ?_ | refine bwS ?_ ?_ _) | omega | (simp <;> omega))⟩
end Go.Proofs.YtndlmmpheecleaaGreatDoor

/-
  Walks over package mark: attrs.
-/
namespace Lead.Dc
open Go Go.RowKit Lead
/-- The variables that documents read. -/
structure DG (T : TypeId) (gBound gShape gName gNone gExist gFull gDeep gCycle gValue : Nat) (ea : Nat → Addr) (w : World) : Prop where
  c2 : w.cell? ⟨gBound, 0, none⟩ = some (.iface T (.pointer (some (ea 2))))
  c3 : w.cell? ⟨gShape, 0, none⟩ = some (.iface T (.pointer (some (ea 3))))
  c4 : w.cell? ⟨gName, 0, none⟩ = some (.iface T (.pointer (some (ea 4))))
  c5 : w.cell? ⟨gNone, 0, none⟩ = some (.iface T (.pointer (some (ea 5))))
  c6 : w.cell? ⟨gExist, 0, none⟩ = some (.iface T (.pointer (some (ea 6))))
  c7 : w.cell? ⟨gFull, 0, none⟩ = some (.iface T (.pointer (some (ea 7))))
  c8 : w.cell? ⟨gDeep, 0, none⟩ = some (.iface T (.pointer (some (ea 8))))
  c9 : w.cell? ⟨gCycle, 0, none⟩ = some (.iface T (.pointer (some (ea 9))))
  c10 : w.cell? ⟨gValue, 0, none⟩ = some (.iface T (.pointer (some (ea 10))))
theorem DG.keep {T : TypeId} {g2 g3 g4 g5 g6 g7 g8 g9 g10 : Nat} {ea : Nat → Addr} {w w' : World} {B : Nat} (g : DG T g2 g3 g4 g5 g6 g7 g8 g9 g10 ea w) (hb : Below B w w') (hB : B = w.heap.size) : DG T g2 g3 g4 g5 g6 g7 g8 g9 g10 ea w' :=
  ⟨gkeep hb g.c2 hB, gkeep hb g.c3 hB, gkeep hb g.c4 hB, gkeep hb g.c5 hB, gkeep hb g.c6 hB, gkeep hb g.c7 hB, gkeep hb g.c8 hB, gkeep hb g.c9 hB, gkeep hb g.c10 hB⟩
/-- The errors that a check of a node hands back. -/
structure CG (T : TypeId) (gName gExist gFull gDeep gValue : Nat) (ea : Nat → Addr) (w : World) : Prop where
  c4 : w.cell? ⟨gName, 0, none⟩ = some (.iface T (.pointer (some (ea 4))))
  c6 : w.cell? ⟨gExist, 0, none⟩ = some (.iface T (.pointer (some (ea 6))))
  c7 : w.cell? ⟨gFull, 0, none⟩ = some (.iface T (.pointer (some (ea 7))))
  c8 : w.cell? ⟨gDeep, 0, none⟩ = some (.iface T (.pointer (some (ea 8))))
  c10 : w.cell? ⟨gValue, 0, none⟩ = some (.iface T (.pointer (some (ea 10))))
theorem CG.keep {T : TypeId} {g4 g6 g7 g8 g10 : Nat} {ea : Nat → Addr} {w w' : World} {B : Nat} (g : CG T g4 g6 g7 g8 g10 ea w) (hb : Below B w w') (hB : B = w.heap.size) : CG T g4 g6 g7 g8 g10 ea w' :=
  ⟨gkeep hb g.c4 hB, gkeep hb g.c6 hB, gkeep hb g.c7 hB, gkeep hb g.c8 hB, gkeep hb g.c10 hB⟩
theorem DG.toC {T : TypeId} {g2 g3 g4 g5 g6 g7 g8 g9 g10 : Nat} {ea : Nat → Addr} {w : World} (g : DG T g2 g3 g4 g5 g6 g7 g8 g9 g10 ea w) : CG T g4 g6 g7 g8 g10 ea w := ⟨g.c4, g.c6, g.c7, g.c8, g.c10⟩
def sameN (n : ByteArray) (b : ByteArray × ByteArray) : Bool := b.1.toList == n.toList
theorem sameN_eq (n : ByteArray) (b : ByteArray × ByteArray) : sameN n b = decide (b.1 = n) := by
  unfold sameN
  rw [Bool.eq_iff_iff, decide_eq_true_iff, beq_iff_eq, ByteArray.toList_eq, ByteArray.toList_eq]
  constructor
  · intro h
    obtain ⟨⟨⟨x⟩⟩, y⟩ := b
    obtain ⟨⟨z⟩⟩ := n
    simpa using h
  · intro h; rw [h]
theorem atC_step {l : List (ByteArray × ByteArray)} {k : Nat} (h : k < l.length) : atC (l.take k) (l.drop k) = (if nmOk l[k].1 = false then 4 else if (l.take k).any (sameN l[k].1) = true then 6 else if vlOk l[k].2 = false then 10 else atC (l.take (k + 1)) (l.drop (k + 1))) := by
  rw [List.drop_eq_getElem_cons h, atC, List.take_succ_eq_append_getElem h]
  have : (fun b : ByteArray × ByteArray => decide (b.1 = l[k].1)) = sameN l[k].1 := funext fun b => (sameN_eq _ b).symm
  rw [this]
theorem atC_end {l : List (ByteArray × ByteArray)} {k : Nat} (h : l.length ≤ k) : atC (l.take k) (l.drop k) = 0 := by
  rw [List.drop_eq_nil_of_le h, atC]
def encA (a : ByteArray × ByteArray) : List Value := [.string a.1, .string a.2]
end Lead.Dc
namespace Go.Proofs.YtndlmmpheecleaaGreatDoor
open Go.RowKit Lead Lead.Dc
abbrev CGs (ea : Nat → Addr) (w : World) : Prop := CG 264 2 9 4 3 7 ea w
abbrev DGs (ea : Nat → Addr) (w : World) : Prop := DG 264 1 5 2 0 9 4 3 6 7 ea w
theorem at_pred (n : ByteArray) (B : Nat) (w : World) (hB : B < w.heap.size) (hcell : w.cell? ⟨B, 0, none⟩ = some (.string n)) :
    Go.Proofs.PredBelow Tryz.prog 145 #[.pointer (some ⟨B, 0, none⟩)] (fun x => .agg (encA x).toArray) (sameN n) w := fun W x hb => by
  have hc : W.cell? ⟨B, 0, none⟩ = some (.string n) := (hb.cell (p := ⟨B, 0, none⟩) hB).trans hcell
  have hBW : B < W.heap.size := Nat.lt_of_lt_of_le hB hb.size
  have hne : B ≠ W.heap.size := by omega
  have hq : sameN n x = (x.1.toList == n.toList) := rfl
  rw [hq]
  obtain ⟨x1, x2⟩ := x
  obtain ⟨r, hr⟩ : ∃ r, (x1.toList == n.toList) = r := ⟨_, rfl⟩
  show Calls Tryz.prog 145 #[.agg #[.string x1, .string x2], .pointer (some ⟨B, 0, none⟩)] W _
  rw [hr]
  clear hq
  have hws := hb.size
  have H_b := Lib.hid hb
  clear hb
  go_enter Tryz.func145, Tryz.ntmps145
  go_wp2_with fail
  go_returns
  exact ⟨rfl, H_b.out.alloc hws _⟩
set_option maxHeartbeats 1000000 in
theorem attrs_any (ea : Nat → Addr) (l : List (ByteArray × ByteArray)) (oa : Option Addr) (len cap c : Nat) (w : World) (hs : SlA EAt w oa len cap l) (hG : CGs ea w) (hc : atE l = c) :
    Calls Tryz.prog 124 #[.slice oa len cap] w (RetE 264 145 ea (c, none) w) := by
  have hFull := hG.c7
  have hName := hG.c4
  have hExist := hG.c6
  have hValue := hG.c10
  have zhFull := zlt hFull
  have xhFull := zlts hFull
  have yhFull := zne hFull
  have zhName := zlt hName
  have xhName := zlts hName
  have yhName := zne hName
  have zhExist := zlt hExist
  have xhExist := zlts hExist
  have yhExist := zne hExist
  have zhValue := zlt hValue
  have xhValue := zlts hValue
  have yhValue := zne hValue
  obtain ⟨h1, h2, h3, h4⟩ := hs
  have hm : len ≤ 9223372036854775807 := by unfold maxLen at h3; omega
  by_cases h12 : 12 < len
  · obtain rfl : c = 7 := by rw [← hc]; unfold atE; rw [if_pos (by omega)]
    have H_h1 := Lib.hid h1
    clear h1
    have H_h4 := Lib.hid h4
    clear h4
    have H_hc := Lib.hid hc
    clear hc
    clear hG h3
    go_enter Tryz.func124, Tryz.ntmps124
    go_wp2_with fail
    go_returns
    exact ⟨_, rfl, rfl, by repeat' (first | (with_reducible first | exact bwR _ _ | assumption | refine bdn ?_ | refine bwA ?_ ?_ _ | refine bwD ?_ | refine bwS ?_ ?_ _) | omega | (simp <;> omega))⟩
  · have hc0 : atC [] l = c := by rw [← hc]; unfold atE; rw [if_neg (by omega)]
    have H_h1 := Lib.hid h1
    clear h1
    have H_h4 := Lib.hid h4
    clear h4
    have H_hc := Lib.hid hc
    clear hc
    have H_hc0 := Lib.hid hc0
    clear hc0
    clear hG h3
    go_enter Tryz.func124, Tryz.ntmps124
    go_wp2_with fail
    go_loopw [11] (fun t11 wr => ∃ k : Nat, k ≤ len ∧ t11 = .int .i64 k ∧ RowKit.Hid (atC (l.take k) (l.drop k) = c) ∧ Below w.heap.size w wr) (fun t11 _ => len - (intOf t11).toNat)
    case atStart => exact ⟨0, Nat.zero_le _, rfl, H_hc0.out, Below.refl _ _⟩
    case round =>
      obtain ⟨k, hk, rfl, hat, hB⟩ := hrel
      have H_at : RowKit.Hid (atC (l.take k) (l.drop k) = c) := hat
      have hzr := hB.size
      clear hat
      by_cases hlt : k < len
      · have hk' : k < l.length := by have := H_h1.out; omega
        obtain ⟨b, off, rfl, hbw, hr⟩ : ∃ b off, oa = some ⟨b, off, none⟩ ∧ b < w.heap.size ∧ RowIn EAt w b off l := by
          refine H_h4.out.resolve_left ?_
          intro h; rw [h] at hk'; simp at hk'
        have hrr := hr.keep hB hbw
        have q0 : wr.cell? ⟨b, off + k * 2, none⟩ = some (.string l[k].1) := by
          have h := hrr k hk' 0 _ rfl
          simpa [EAt] using h
        have q1 : wr.cell? ⟨b, off + k * 2 + 1, none⟩ = some (.string l[k].2) := by
          have h := hrr k hk' 1 _ rfl
          simpa [EAt] using h
        have hst := atC_step hk'
        rw [H_at.out] at hst
        have hbr : b < wr.heap.size := by omega
        obtain ⟨a, ha⟩ : ∃ a, l[k] = a := ⟨_, rfl⟩
        rw [ha] at q0 q1 hst
        obtain ⟨nm, vl⟩ := a
        simp only at q0 q1 hst
        obtain ⟨r1, hr1⟩ : ∃ r, nmOk nm = r := ⟨_, rfl⟩
        obtain ⟨r2, hr2⟩ : ∃ r, (l.take k).any (sameN nm) = r := ⟨_, rfl⟩
        obtain ⟨r3, hr3⟩ : ∃ r, vlOk vl = r := ⟨_, rfl⟩
        rw [hr1, hr2, hr3] at hst
        have hcells : ∀ (W : World), Below wr.heap.size wr W → ∀ j, j < l.length → ∀ i v, (encA l[j]!)[i]? = some v → W.cell? ⟨b, off + j * 2 + i, none⟩ = some v := fun W hW j hj i v hv => by
          rw [getElem!_pos l j hj] at hv
          exact (hrr.keep hW hbr) j hj i v hv
        clear hr hrr ha
        have H_hst := Lib.hid hst
        clear hst
        have H_hr1 := Lib.hid hr1
        clear hr1
        have H_hr2 := Lib.hid hr2
        clear hr2
        have H_hr3 := Lib.hid hr3
        clear hr3
        have H_hcells := Lib.hid hcells
        clear hcells
        go_wp2_with fail
        refine call_bel (w := w) (by repeat' (first | (with_reducible first | exact bwR _ _ | assumption | refine bdn ?_ | refine bwA ?_ ?_ _ | refine bwD ?_ | refine bwS ?_ ?_ _) | omega | (simp <;> omega))) (fun HB => mname_any nm _) ?_
        intro w1 hb1 hz1 c1 d1 hW1
        have t1 := hb1.size
        have hName_1 := gkeep hb1 hName rfl
        have zhName_1 := zlt hName_1
        have xhName_1 := zlts hName_1
        have yhName_1 := zne hName_1
        have hExist_1 := gkeep hb1 hExist rfl
        have zhExist_1 := zlt hExist_1
        have xhExist_1 := zlts hExist_1
        have yhExist_1 := zne hExist_1
        have hValue_1 := gkeep hb1 hValue rfl
        have zhValue_1 := zlt hValue_1
        have xhValue_1 := zlts hValue_1
        have yhValue_1 := zne hValue_1
        have e1_r : Below wr.heap.size wr w1 := below_via (by repeat' (first | (with_reducible first | exact bwR _ _ | assumption | refine bdn ?_ | refine bwA ?_ ?_ _ | refine bwD ?_ | refine bwS ?_ ?_ _) | omega | (simp <;> omega))) hW1
        have te1_r := e1_r.size
        try simp only [szA] at hz1 c1 d1
        try simp only [szD] at hz1 c1 d1
        try simp only [szS] at hz1 c1 d1
        try simp only [World.heap_drewN] at hz1 c1 d1
        try simp only [szA] at hz1 c1 d1
        try simp only [szD] at hz1 c1 d1
        try simp only [szS] at hz1 c1 d1
        have s1_0 : wr.heap.size < w1.heap.size := by omega
        have o1_0 := fun j => c1 (wr.heap.size) j (by omega)
        have f1_0 := fun j => d1 (wr.heap.size) j (by omega)
        clear c1 d1 hz1 hW1
        rw [H_hr1.out]
        have b0 : w1.cell? ⟨wr.heap.size, 0, none⟩ = some (.string nm) := (o1_0 0).trans (by rw [World.cell?_alloc_new]; rfl)
        have b1 : w1.cell? ⟨wr.heap.size, 1, none⟩ = some (.string vl) := (o1_0 1).trans (by rw [World.cell?_alloc_new]; rfl)
        have hbr1 : b < w1.heap.size := by omega
        clear o1_0 f1_0 q0 q1
        cases r1 with
        | false =>
          obtain rfl : c = 4 := H_hst.out
          go_wp2_with fail
          go_returns
          exact ⟨_, rfl, rfl, by repeat' (first | (with_reducible first | exact bwR _ _ | assumption | refine bdn ?_ | refine bwA ?_ ?_ _ | refine bwD ?_ | refine bwS ?_ ?_ _) | omega | (simp <;> omega))⟩
        | true =>
          go_wp2_with fail
          refine call_bel (w := w) (by repeat' (first | (with_reducible first | exact bwR _ _ | assumption | refine bdn ?_ | refine bwA ?_ ?_ _ | refine bwD ?_ | refine bwS ?_ ?_ _) | omega | (simp <;> omega))) (fun HB => (AnyQ.slices_ContainsFunc (ρ := Tryz.cfA_ren) Tryz.cfA 2 Tryz.isAgg59 Tryz.sizeOf59 encA (fun _ => rfl) (sameN nm) 145 #[.pointer (some ⟨wr.heap.size, 0, none⟩)] (enters_of Tryz.func145 (by kernel_rfl) rfl) b off k cap l _ (at_pred nm wr.heap.size _ s1_0 b0) (by omega) (by omega) hbr1 (H_hcells.out _ e1_r))) ?_
          intro w2 hb2 hz2 c2 d2 hW2
          have t2 := hb2.size
          have hName_2 := gkeep hb2 hName rfl
          have zhName_2 := zlt hName_2
          have xhName_2 := zlts hName_2
          have yhName_2 := zne hName_2
          have hExist_2 := gkeep hb2 hExist rfl
          have zhExist_2 := zlt hExist_2
          have xhExist_2 := zlts hExist_2
          have yhExist_2 := zne hExist_2
          have hValue_2 := gkeep hb2 hValue rfl
          have zhValue_2 := zlt hValue_2
          have xhValue_2 := zlts hValue_2
          have yhValue_2 := zne hValue_2
          have e2_r : Below wr.heap.size wr w2 := below_via (by repeat' (first | (with_reducible first | exact bwR _ _ | assumption | refine bdn ?_ | refine bwA ?_ ?_ _ | refine bwD ?_ | refine bwS ?_ ?_ _) | omega | (simp <;> omega))) hW2
          have te2_r := e2_r.size
          try simp only [szA] at hz2 c2 d2
          try simp only [szD] at hz2 c2 d2
          try simp only [szS] at hz2 c2 d2
          try simp only [World.heap_drewN] at hz2 c2 d2
          try simp only [szA] at hz2 c2 d2
          try simp only [szD] at hz2 c2 d2
          try simp only [szS] at hz2 c2 d2
          have s2_0 : wr.heap.size < w2.heap.size := by omega
          have o2_0 := fun j => c2 (wr.heap.size) j (by omega)
          have f2_0 := fun j => d2 (wr.heap.size) j (by omega)
          clear c2 d2 hz2 hW2
          rw [H_hr2.out]
          have b1' : w2.cell? ⟨wr.heap.size, 1, none⟩ = some (.string vl) := (o2_0 1).trans b1
          clear o2_0 f2_0 b0 b1
          cases r2 with
          | true =>
            obtain rfl : c = 6 := H_hst.out
            go_wp2_with fail
            go_returns
            exact ⟨_, rfl, rfl, by repeat' (first | (with_reducible first | exact bwR _ _ | assumption | refine bdn ?_ | refine bwA ?_ ?_ _ | refine bwD ?_ | refine bwS ?_ ?_ _) | omega | (simp <;> omega))⟩
          | false =>
            go_wp2_with fail
            refine call_bel (w := w) (by repeat' (first | (with_reducible first | exact bwR _ _ | assumption | refine bdn ?_ | refine bwA ?_ ?_ _ | refine bwD ?_ | refine bwS ?_ ?_ _) | omega | (simp <;> omega))) (fun HB => mval_any vl _) ?_
            intro w3 hb3 hz3 c3 d3 hW3
            have t3 := hb3.size
            have hName_3 := gkeep hb3 hName rfl
            have zhName_3 := zlt hName_3
            have xhName_3 := zlts hName_3
            have yhName_3 := zne hName_3
            have hExist_3 := gkeep hb3 hExist rfl
            have zhExist_3 := zlt hExist_3
            have xhExist_3 := zlts hExist_3
            have yhExist_3 := zne hExist_3
            have hValue_3 := gkeep hb3 hValue rfl
            have zhValue_3 := zlt hValue_3
            have xhValue_3 := zlts hValue_3
            have yhValue_3 := zne hValue_3
            have e3_r : Below wr.heap.size wr w3 := below_via (by repeat' (first | (with_reducible first | exact bwR _ _ | assumption | refine bdn ?_ | refine bwA ?_ ?_ _ | refine bwD ?_ | refine bwS ?_ ?_ _) | omega | (simp <;> omega))) hW3
            have te3_r := e3_r.size
            clear c3 d3 hz3 hW3
            rw [H_hr3.out]
            cases r3 with
            | false =>
              obtain rfl : c = 10 := H_hst.out
              go_wp2_with fail
              go_returns
              exact ⟨_, rfl, rfl, by repeat' (first | (with_reducible first | exact bwR _ _ | assumption | refine bdn ?_ | refine bwA ?_ ?_ _ | refine bwD ?_ | refine bwS ?_ ?_ _) | omega | (simp <;> omega))⟩
            | true =>
              go_wp2_with fail
              go_roundw
              case rel => exact ⟨k + 1, by omega, by go_num, H_hst.out.symm, hb3⟩
              case measure => simp [intOf]; omega
      · obtain rfl : k = len := by omega
        obtain rfl : c = 0 := by rw [← H_at.out]; exact atC_end (by have := H_h1.out; omega)
        go_wp2_with fail
        go_returns
        exact ⟨_, rfl, rfl, hB⟩
end Go.Proofs.YtndlmmpheecleaaGreatDoor

/-
  Walks over package mark: check, Check.
-/
namespace Lead.Dc
open Go Go.RowKit Lead
/-- The error that the check hands back. -/
def chkE (r : Nat × Nat) : Nat × Option Nat := if r.2 = 0 then (0, none) else (r.2, some r.1)
theorem chkE_0 {r : Nat × Nat} (h : r.2 = 0) : chkE r = (0, none) := if_pos h
theorem chkE_n {r : Nat × Nat} (h : r.2 ≠ 0) : chkE r = (r.2, some r.1) := if_neg h
theorem chk_top (nm : ByteArray) (ats : List (ByteArray × ByteArray)) (ks : List RT) (i deep : Nat) : chkN (.mk nm ats ks) i deep = if nodeE nm ats i deep ≠ 0 then (i, nodeE nm ats i deep) else chkL ks (i + 1) (deep + 1) := by rw [chkN]
theorem chk_kid {ks : List NT} {k i deep : Nat} (hk : k < ks.length) (h : (chkL (NT.rtL (ks.take k)) i deep).2 = 0) : chkL (NT.rtL (ks.take (k + 1))) i deep = chkN ks[k].rt (chkL (NT.rtL (ks.take k)) i deep).1 deep := by
  rw [List.take_succ_eq_append_getElem hk, rtL_map, List.map_append, List.map_cons, List.map_nil, ← rtL_map]
  exact chkL_next h
theorem chk_stop {ks : List NT} {k i deep : Nat} (h : (chkL (NT.rtL (ks.take k)) i deep).2 ≠ 0) : chkL (NT.rtL ks) i deep = chkL (NT.rtL (ks.take k)) i deep := by
  have e : NT.rtL ks = NT.rtL (ks.take k) ++ NT.rtL (ks.drop k) := by rw [rtL_map, rtL_map, rtL_map, ← List.map_append, List.take_append_drop]
  rw [e]; exact chkL_stop h
end Lead.Dc
namespace Go.Proofs.YtndlmmpheecleaaGreatDoor
open Go.RowKit Lead Lead.Dc
set_option maxHeartbeats 2000000 in
theorem check_step (ea : Nat → Addr) (nm : ByteArray) (ao : Option Addr) (al ac : Nat) (ats : List (ByteArray × ByteArray)) (ko : Option Addr) (kl kc : Nat) (ks : List NT) (i deep : Nat) (w : World) (h1 : SlA EAt w ao al ac ats) (h2 : SlA ENd w ko kl kc ks) (h3 : ∀ k ∈ ks, NodeOk w k) (hG : CGs ea w) (hi : i ≤ 100) (hdp : deep ≤ 11)
    (ih : ∀ k ∈ ks, ∀ (i' : Nat) (w' : World), i' ≤ 100 → deep ≤ 10 → NodeOk w' k → CGs ea w' → Calls Tryz.prog 91 #[.agg k.vals.toArray, .int .i64 i', .int .i64 ((deep + 1 : Nat) : Int)] w' (RetNE 264 145 ea (chkE (chkN k.rt i' (deep + 1))) (chkN k.rt i' (deep + 1)).1 w')) :
    Calls Tryz.prog 91 #[.agg #[.string nm, .slice ao al ac, .slice ko kl kc], .int .i64 i, .int .i64 deep] w (RetNE 264 145 ea (chkE (chkN (.mk nm ats (NT.rtL ks)) i deep)) (chkN (.mk nm ats (NT.rtL ks)) i deep).1 w) := by
  have hFull := hG.c7
  have hName := hG.c4
  have hDeep := hG.c8
  have zhFull := zlt hFull
  have xhFull := zlts hFull
  have yhFull := zne hFull
  have zhName := zlt hName
  have xhName := zlts hName
  have yhName := zne hName
  have zhDeep := zlt hDeep
  have xhDeep := zlts hDeep
  have yhDeep := zne hDeep
  obtain ⟨c, hc⟩ : ∃ c, atE ats = c := ⟨_, rfl⟩
  have htop := chk_top nm ats (NT.rtL ks) i deep
  obtain ⟨e, he⟩ : ∃ e, nodeE nm ats i deep = e := ⟨_, rfl⟩
  rw [he] at htop
  have hw3 := h2.2.2.1
  have hkm : kl ≤ 9223372036854775807 := by have := h2.2.1; unfold maxLen at hw3; omega
  by_cases hA : 10 < deep
  · obtain rfl : e = 8 := by rw [← he]; unfold nodeE; rw [if_pos hA]
    rw [if_pos (by decide)] at htop
    rw [htop]
    show Calls _ _ _ _ (RetNE 264 145 ea (8, some i) (i : Int) w)
    have H_h1 := Lib.hid h1
    clear h1
    have H_h2 := Lib.hid h2
    clear h2
    have H_h3 := Lib.hid h3
    clear h3
    have H_hG := Lib.hid hG
    clear hG
    have H_ih := Lib.hid ih
    clear ih
    have H_he := Lib.hid he
    clear he
    have H_htop := Lib.hid htop
    clear htop
    have H_hc := Lib.hid hc
    clear hc
    go_enter Tryz.func91, Tryz.ntmps91
    go_wp2_with fail
    refine call_ew (w := w) (by repeat' (first | (with_reducible first | exact bwR _ _ | assumption | refine bdn ?_ | refine bwA ?_ ?_ _ | refine bwD ?_ | refine bwS ?_ ?_ _) | omega | (simp <;> omega))) (fun HB => attrs_any ea ats ao al ac c _ (H_h1.out.keep HB rfl) (H_hG.out.keep HB rfl) H_hc.out) ?_
    intro x1 w1 hx1 hb1 hz1 c1 d1 hW1
    have t1 := hb1.size
    have hFull_1 := gkeep hb1 hFull rfl
    have zhFull_1 := zlt hFull_1
    have xhFull_1 := zlts hFull_1
    have yhFull_1 := zne hFull_1
    have hName_1 := gkeep hb1 hName rfl
    have zhName_1 := zlt hName_1
    have xhName_1 := zlts hName_1
    have yhName_1 := zne hName_1
    have hDeep_1 := gkeep hb1 hDeep rfl
    have zhDeep_1 := zlt hDeep_1
    have xhDeep_1 := zlts hDeep_1
    have yhDeep_1 := zne hDeep_1
    try simp only [szA] at hz1 c1 d1
    try simp only [szD] at hz1 c1 d1
    try simp only [szS] at hz1 c1 d1
    try simp only [World.heap_drewN] at hz1 c1 d1
    try simp only [szA] at hz1 c1 d1
    try simp only [szD] at hz1 c1 d1
    try simp only [szS] at hz1 c1 d1
    have s1_0 : w.heap.size < w1.heap.size := by omega
    have o1_0 := fun j => c1 (w.heap.size) j (by omega)
    have f1_0 := fun j => d1 (w.heap.size) j (by omega)
    clear c1 d1 hz1 hW1
    obtain rfl : x1 = _ := hx1
    go_wp2_with fail
    go_returns
    refine ⟨_, rfl, ⟨(Nat.succ_ne_zero _), _, ?_, rfl, ?_, ?_⟩, by repeat' (first | (with_reducible first | exact bwR _ _ | assumption | refine bdn ?_ | refine bwA ?_ ?_ _ | refine bwD ?_ | refine bwS ?_ ?_ _) | omega | (simp <;> omega))⟩
    · show w.heap.size ≤ _
      first | omega | (simp; omega)
    · rw [World.cell?_alloc_new]; rfl
    · rw [World.cell?_alloc_new]; rfl
  by_cases hB : 100 ≤ i
  · obtain rfl : e = 7 := by rw [← he]; unfold nodeE; rw [if_neg hA, if_pos hB]
    rw [if_pos (by decide)] at htop
    rw [htop]
    show Calls _ _ _ _ (RetNE 264 145 ea (7, some i) (i : Int) w)
    have H_h1 := Lib.hid h1
    clear h1
    have H_h2 := Lib.hid h2
    clear h2
    have H_h3 := Lib.hid h3
    clear h3
    have H_hG := Lib.hid hG
    clear hG
    have H_ih := Lib.hid ih
    clear ih
    have H_he := Lib.hid he
    clear he
    have H_htop := Lib.hid htop
    clear htop
    have H_hc := Lib.hid hc
    clear hc
    go_enter Tryz.func91, Tryz.ntmps91
    go_wp2_with fail
    refine call_ew (w := w) (by repeat' (first | (with_reducible first | exact bwR _ _ | assumption | refine bdn ?_ | refine bwA ?_ ?_ _ | refine bwD ?_ | refine bwS ?_ ?_ _) | omega | (simp <;> omega))) (fun HB => attrs_any ea ats ao al ac c _ (H_h1.out.keep HB rfl) (H_hG.out.keep HB rfl) H_hc.out) ?_
    intro x1 w1 hx1 hb1 hz1 c1 d1 hW1
    have t1 := hb1.size
    have hFull_1 := gkeep hb1 hFull rfl
    have zhFull_1 := zlt hFull_1
    have xhFull_1 := zlts hFull_1
    have yhFull_1 := zne hFull_1
    have hName_1 := gkeep hb1 hName rfl
    have zhName_1 := zlt hName_1
    have xhName_1 := zlts hName_1
    have yhName_1 := zne hName_1
    have hDeep_1 := gkeep hb1 hDeep rfl
    have zhDeep_1 := zlt hDeep_1
    have xhDeep_1 := zlts hDeep_1
    have yhDeep_1 := zne hDeep_1
    try simp only [szA] at hz1 c1 d1
    try simp only [szD] at hz1 c1 d1
    try simp only [szS] at hz1 c1 d1
    try simp only [World.heap_drewN] at hz1 c1 d1
    try simp only [szA] at hz1 c1 d1
    try simp only [szD] at hz1 c1 d1
    try simp only [szS] at hz1 c1 d1
    have s1_0 : w.heap.size < w1.heap.size := by omega
    have o1_0 := fun j => c1 (w.heap.size) j (by omega)
    have f1_0 := fun j => d1 (w.heap.size) j (by omega)
    clear c1 d1 hz1 hW1
    obtain rfl : x1 = _ := hx1
    go_wp2_with fail
    go_returns
    refine ⟨_, rfl, ⟨(Nat.succ_ne_zero _), _, ?_, rfl, ?_, ?_⟩, by repeat' (first | (with_reducible first | exact bwR _ _ | assumption | refine bdn ?_ | refine bwA ?_ ?_ _ | refine bwD ?_ | refine bwS ?_ ?_ _) | omega | (simp <;> omega))⟩
    · show w.heap.size ≤ _
      first | omega | (simp; omega)
    · rw [World.cell?_alloc_new]; rfl
    · rw [World.cell?_alloc_new]; rfl
  by_cases hC : nmOk nm = false
  · obtain rfl : e = 4 := by rw [← he]; unfold nodeE; rw [if_neg hA, if_neg hB, if_pos hC]
    rw [if_pos (by decide)] at htop
    rw [htop]
    show Calls _ _ _ _ (RetNE 264 145 ea (4, some i) (i : Int) w)
    have H_h1 := Lib.hid h1
    clear h1
    have H_h2 := Lib.hid h2
    clear h2
    have H_h3 := Lib.hid h3
    clear h3
    have H_hG := Lib.hid hG
    clear hG
    have H_ih := Lib.hid ih
    clear ih
    have H_he := Lib.hid he
    clear he
    have H_htop := Lib.hid htop
    clear htop
    have H_hc := Lib.hid hc
    clear hc
    have H_hC := Lib.hid hC
    clear hC
    go_enter Tryz.func91, Tryz.ntmps91
    go_wp2_with fail
    refine call_ew (w := w) (by repeat' (first | (with_reducible first | exact bwR _ _ | assumption | refine bdn ?_ | refine bwA ?_ ?_ _ | refine bwD ?_ | refine bwS ?_ ?_ _) | omega | (simp <;> omega))) (fun HB => attrs_any ea ats ao al ac c _ (H_h1.out.keep HB rfl) (H_hG.out.keep HB rfl) H_hc.out) ?_
    intro x1 w1 hx1 hb1 hz1 c1 d1 hW1
    have t1 := hb1.size
    have hFull_1 := gkeep hb1 hFull rfl
    have zhFull_1 := zlt hFull_1
    have xhFull_1 := zlts hFull_1
    have yhFull_1 := zne hFull_1
    have hName_1 := gkeep hb1 hName rfl
    have zhName_1 := zlt hName_1
    have xhName_1 := zlts hName_1
    have yhName_1 := zne hName_1
    have hDeep_1 := gkeep hb1 hDeep rfl
    have zhDeep_1 := zlt hDeep_1
    have xhDeep_1 := zlts hDeep_1
    have yhDeep_1 := zne hDeep_1
    try simp only [szA] at hz1 c1 d1
    try simp only [szD] at hz1 c1 d1
    try simp only [szS] at hz1 c1 d1
    try simp only [World.heap_drewN] at hz1 c1 d1
    try simp only [szA] at hz1 c1 d1
    try simp only [szD] at hz1 c1 d1
    try simp only [szS] at hz1 c1 d1
    have s1_0 : w.heap.size < w1.heap.size := by omega
    have o1_0 := fun j => c1 (w.heap.size) j (by omega)
    have f1_0 := fun j => d1 (w.heap.size) j (by omega)
    clear c1 d1 hz1 hW1
    obtain rfl : x1 = _ := hx1
    go_wp2_with fail
    refine call_bel (w := w) (by repeat' (first | (with_reducible first | exact bwR _ _ | assumption | refine bdn ?_ | refine bwA ?_ ?_ _ | refine bwD ?_ | refine bwS ?_ ?_ _) | omega | (simp <;> omega))) (fun HB => mname_any nm _) ?_
    intro w2 hb2 hz2 c2 d2 hW2
    have t2 := hb2.size
    have hFull_2 := gkeep hb2 hFull rfl
    have zhFull_2 := zlt hFull_2
    have xhFull_2 := zlts hFull_2
    have yhFull_2 := zne hFull_2
    have hName_2 := gkeep hb2 hName rfl
    have zhName_2 := zlt hName_2
    have xhName_2 := zlts hName_2
    have yhName_2 := zne hName_2
    have hDeep_2 := gkeep hb2 hDeep rfl
    have zhDeep_2 := zlt hDeep_2
    have xhDeep_2 := zlts hDeep_2
    have yhDeep_2 := zne hDeep_2
    try simp only [szA] at hz2 c2 d2
    try simp only [szD] at hz2 c2 d2
    try simp only [szS] at hz2 c2 d2
    try simp only [World.heap_drewN] at hz2 c2 d2
    try simp only [szA] at hz2 c2 d2
    try simp only [szD] at hz2 c2 d2
    try simp only [szS] at hz2 c2 d2
    have s2_0 : w.heap.size < w2.heap.size := by omega
    have o2_0 := fun j => c2 (w.heap.size) j (by omega)
    have f2_0 := fun j => d2 (w.heap.size) j (by omega)
    clear c2 d2 hz2 hW2
    rw [H_hC.out]
    go_wp2_with fail
    go_returns
    refine ⟨_, rfl, ⟨(Nat.succ_ne_zero _), _, ?_, rfl, ?_, ?_⟩, by repeat' (first | (with_reducible first | exact bwR _ _ | assumption | refine bdn ?_ | refine bwA ?_ ?_ _ | refine bwD ?_ | refine bwS ?_ ?_ _) | omega | (simp <;> omega))⟩
    · show w.heap.size ≤ _
      first | omega | (simp; omega)
    · rw [World.cell?_alloc_new]; rfl
    · rw [World.cell?_alloc_new]; rfl
  have hC' : nmOk nm = true := by simpa using hC
  have hec : e = c := by rw [← he, ← hc]; unfold nodeE; rw [if_neg hA, if_neg hB, if_neg hC]
  subst hec
  by_cases hc0 : e = 0
  · subst hc0
    rw [if_neg (by decide)] at htop
    rw [htop]
    have hx0 : evl 264 ea 0 = .nilIface := evl_0 rfl
    have H_h1 := Lib.hid h1
    clear h1
    have H_h2 := Lib.hid h2
    clear h2
    have H_h3 := Lib.hid h3
    clear h3
    have H_hG := Lib.hid hG
    clear hG
    have H_ih := Lib.hid ih
    clear ih
    have H_he := Lib.hid he
    clear he
    have H_htop := Lib.hid htop
    clear htop
    have H_hc := Lib.hid hc
    clear hc
    have H_hC' := Lib.hid hC'
    clear hC'
    have H_hx0 := Lib.hid hx0
    clear hx0
    go_enter Tryz.func91, Tryz.ntmps91
    go_wp2_with fail
    refine call_ew (w := w) (by repeat' (first | (with_reducible first | exact bwR _ _ | assumption | refine bdn ?_ | refine bwA ?_ ?_ _ | refine bwD ?_ | refine bwS ?_ ?_ _) | omega | (simp <;> omega))) (fun HB => attrs_any ea ats ao al ac 0 _ (H_h1.out.keep HB rfl) (H_hG.out.keep HB rfl) H_hc.out) ?_
    intro x1 w1 hx1 hb1 hz1 c1 d1 hW1
    have t1 := hb1.size
    have hFull_1 := gkeep hb1 hFull rfl
    have zhFull_1 := zlt hFull_1
    have xhFull_1 := zlts hFull_1
    have yhFull_1 := zne hFull_1
    have hName_1 := gkeep hb1 hName rfl
    have zhName_1 := zlt hName_1
    have xhName_1 := zlts hName_1
    have yhName_1 := zne hName_1
    have hDeep_1 := gkeep hb1 hDeep rfl
    have zhDeep_1 := zlt hDeep_1
    have xhDeep_1 := zlts hDeep_1
    have yhDeep_1 := zne hDeep_1
    try simp only [szA] at hz1 c1 d1
    try simp only [szD] at hz1 c1 d1
    try simp only [szS] at hz1 c1 d1
    try simp only [World.heap_drewN] at hz1 c1 d1
    try simp only [szA] at hz1 c1 d1
    try simp only [szD] at hz1 c1 d1
    try simp only [szS] at hz1 c1 d1
    have s1_0 : w.heap.size < w1.heap.size := by omega
    have o1_0 := fun j => c1 (w.heap.size) j (by omega)
    have f1_0 := fun j => d1 (w.heap.size) j (by omega)
    clear c1 d1 hz1 hW1
    obtain rfl : x1 = .nilIface := (show x1 = evl 264 ea 0 from hx1).trans H_hx0.out
    go_wp2_with fail
    refine call_bel (w := w) (by repeat' (first | (with_reducible first | exact bwR _ _ | assumption | refine bdn ?_ | refine bwA ?_ ?_ _ | refine bwD ?_ | refine bwS ?_ ?_ _) | omega | (simp <;> omega))) (fun HB => mname_any nm _) ?_
    intro w2 hb2 hz2 c2 d2 hW2
    have t2 := hb2.size
    have hFull_2 := gkeep hb2 hFull rfl
    have zhFull_2 := zlt hFull_2
    have xhFull_2 := zlts hFull_2
    have yhFull_2 := zne hFull_2
    have hName_2 := gkeep hb2 hName rfl
    have zhName_2 := zlt hName_2
    have xhName_2 := zlts hName_2
    have yhName_2 := zne hName_2
    have hDeep_2 := gkeep hb2 hDeep rfl
    have zhDeep_2 := zlt hDeep_2
    have xhDeep_2 := zlts hDeep_2
    have yhDeep_2 := zne hDeep_2
    try simp only [szA] at hz2 c2 d2
    try simp only [szD] at hz2 c2 d2
    try simp only [szS] at hz2 c2 d2
    try simp only [World.heap_drewN] at hz2 c2 d2
    try simp only [szA] at hz2 c2 d2
    try simp only [szD] at hz2 c2 d2
    try simp only [szS] at hz2 c2 d2
    have s2_0 : w.heap.size < w2.heap.size := by omega
    have o2_0 := fun j => c2 (w.heap.size) j (by omega)
    have f2_0 := fun j => d2 (w.heap.size) j (by omega)
    clear c2 d2 hz2 hW2
    rw [H_hC'.out]
    have r2 : w2.cell? ⟨w.heap.size, 2, none⟩ = some (.slice ko kl kc) := (o2_0 2).trans ((o1_0 2).trans (by rw [World.cell?_alloc_new]; rfl))
    have t2w : w.heap.size < w2.heap.size := s2_0
    clear o1_0 o2_0 f1_0 f2_0
    go_wp2_with fail
    go_loopw [1, 41] (fun t1 t41 wr => ∃ k j : Nat, k ≤ kl ∧ t41 = .int .i64 k ∧ t1 = .int .i64 j ∧ j ≤ 100 ∧ RowKit.Hid (chkL (NT.rtL (ks.take k)) (i + 1) (deep + 1) = (j, 0)) ∧ Below w.heap.size w wr) (fun _ t41 _ => kl - (intOf t41).toNat)
    case atStart => exact ⟨0, i + 1, Nat.zero_le _, rfl, by go_num, by omega, (by rw [List.take_zero]; rfl), hb2⟩
    case round =>
      obtain ⟨k, j, hk, rfl, rfl, hj, hat, hB⟩ := hrel
      have H_at : RowKit.Hid (chkL (NT.rtL (ks.take k)) (i + 1) (deep + 1) = (j, 0)) := hat
      have hzr := hB.size
      clear hat r2
      by_cases hlt : k < kl
      · have hk' : k < ks.length := by have := H_h2.out.1; omega
        obtain ⟨b, off, rfl, hbw, hr⟩ : ∃ b off, ko = some ⟨b, off, none⟩ ∧ b < w.heap.size ∧ RowIn ENd w b off ks := by
          refine H_h2.out.2.2.2.resolve_left ?_
          intro h; rw [h] at hk'; simp at hk'
        have hkid := (H_h3.out _ (List.getElem_mem hk')).keep hB rfl
        obtain ⟨ao', al', ac', ko', kl', kc', hv, _⟩ := hkid.attrsAt
        have hcell := fun (q : Nat) (v : Value) (hq : ks[k].vals[q]? = some v) => (hr.keep hB hbw) k hk' q v hq
        rw [hv] at hcell
        have q0 : wr.cell? ⟨b, off + k * 3, none⟩ = some (.string ks[k].name) := hcell 0 _ rfl
        have q1 : wr.cell? ⟨b, off + k * 3 + 1, none⟩ = some (.slice ao' al' ac') := hcell 1 _ rfl
        have q2 : wr.cell? ⟨b, off + k * 3 + 2, none⟩ = some (.slice ko' kl' kc') := hcell 2 _ rfl
        have hstep := chk_kid (i := i + 1) (deep := deep + 1) hk' (by rw [H_at.out])
        rw [H_at.out] at hstep
        have hcon := H_ih.out _ (List.getElem_mem hk') j (wr.alloc (.cells #[.string ks[k].name, .slice ao' al' ac', .slice ko' kl' kc'] 25)) hj (by omega) (hkid.keep ((Below.refl _ _).alloc (Nat.le_refl _) _) rfl) (H_hG.out.keep (hB.alloc hzr _) rfl)
        rw [hv] at hcon
        obtain ⟨nk, hnk⟩ : ∃ u, ks[k].name = u := ⟨_, rfl⟩
        obtain ⟨R, hR⟩ : ∃ u, chkN ks[k].rt j (deep + 1) = u := ⟨_, rfl⟩
        rw [hnk] at q0 hcon
        rw [hR] at hcon hstep
        have hkidk : (chkL (NT.rtL (ks.take (k + 1))) (i + 1) (deep + 1)).2 = 0 → R.1 ≤ 100 := fun h => by
          have h1 := chkL_ok (NT.rtL (ks.take (k + 1))) (i + 1) (deep + 1) (by omega) (by omega) h
          rw [hstep] at h1
          omega
        have hd1 : IntKind.i64.wrap ((deep : Int) + 1) = ((deep + 1 : Nat) : Int) := IntWalk.i64_in _ (by omega)
        clear hr hkid hv hcell hnk hR
        have H_hstep := Lib.hid hstep
        clear hstep
        have H_hcon := Lib.hid hcon
        clear hcon
        have H_hkidk := Lib.hid hkidk
        clear hkidk
        go_wp2_with fail
        refine H_hcon.out.mono ?_
        rintro _ w5 ⟨x5, rfl, hx5, hb5⟩
        have hB5 : Below w.heap.size w w5 := below_via (hB.alloc hzr _) hb5
        have t5 := hb5.size
        by_cases hR0 : R.2 = 0
        · have hx5' : x5 = .nilIface := hx5.nil (chkE_0 hR0)
          subst hx5'
          have hRe : R = (R.1, 0) := by rw [← hR0]
          have hR1 := H_hkidk.out (by rw [H_hstep.out]; exact hR0)
          have hstep2 : chkL (NT.rtL (ks.take (k + 1))) (i + 1) (deep + 1) = (R.1, 0) := H_hstep.out.trans hRe
          clear hx5 hRe hR0
          obtain ⟨R1, hR1e⟩ : ∃ u, R.1 = u := ⟨_, rfl⟩
          rw [hR1e] at hR1 hstep2 ⊢
          clear hR1e
          have H_hstep2 := Lib.hid hstep2
          clear hstep2
          go_wp2_with fail
          go_roundw
          case rel => exact ⟨k + 1, R1, by omega, by go_num, rfl, hR1, H_hstep2, hB5⟩
          case measure => simp [intOf]; omega
        · obtain ⟨t', a', hxe⟩ := hx5.some (by rw [chkE_n hR0]; exact hR0)
          have hfin : chkL (NT.rtL ks) (i + 1) (deep + 1) = R := (chk_stop (by rw [H_hstep.out]; exact hR0)).trans H_hstep.out
          have hx6 := hx5
          rw [hxe] at hx6 ⊢
          have H_hfin := Lib.hid hfin
          clear hfin
          have H_hx6 := Lib.hid hx6
          clear hx6
          clear hx5 hxe
          obtain ⟨R1, hR1e⟩ : ∃ u, R.1 = u := ⟨_, rfl⟩
          rw [hR1e]
          have H_hR1e := Lib.hid hR1e
          clear hR1e
          have H_hR0 := Lib.hid hR0
          clear hR0
          go_wp2_with fail
          go_returns
          refine ⟨.iface t' (.pointer (some a')), ?_, ?_, hB5⟩
          · rw [H_hfin.out, H_hR1e.out]; rfl
          · rw [H_hfin.out]
            exact H_hx6.out.keep (Below.refl _ _) rfl (by simp; omega)
      · obtain rfl : k = kl := by omega
        have hfull : ks.take k = ks := List.take_of_length_le (by have := H_h2.out.1; omega)
        rw [hfull] at H_at
        clear hfull
        go_wp2_with fail
        go_returns
        refine ⟨.nilIface, ?_, ?_, hB⟩
        · rw [H_at.out]; rfl
        · rw [H_at.out, chkE_0 rfl]; exact H_hx0.out.symm
  · rw [if_pos hc0] at htop
    rw [htop, chkE_n (show (i, e).2 ≠ 0 from hc0)]
    show Calls _ _ _ _ (RetNE 264 145 ea (e, some i) (i : Int) w)
    have hev : evl 264 ea e = .iface 264 (.pointer (some (ea e))) := evl_n hc0
    have H_h1 := Lib.hid h1
    clear h1
    have H_h2 := Lib.hid h2
    clear h2
    have H_h3 := Lib.hid h3
    clear h3
    have H_hG := Lib.hid hG
    clear hG
    have H_ih := Lib.hid ih
    clear ih
    have H_he := Lib.hid he
    clear he
    have H_htop := Lib.hid htop
    clear htop
    have H_hc := Lib.hid hc
    clear hc
    have H_hC' := Lib.hid hC'
    clear hC'
    have H_hc0 := Lib.hid hc0
    clear hc0
    go_enter Tryz.func91, Tryz.ntmps91
    go_wp2_with fail
    refine call_ew (w := w) (by repeat' (first | (with_reducible first | exact bwR _ _ | assumption | refine bdn ?_ | refine bwA ?_ ?_ _ | refine bwD ?_ | refine bwS ?_ ?_ _) | omega | (simp <;> omega))) (fun HB => attrs_any ea ats ao al ac e _ (H_h1.out.keep HB rfl) (H_hG.out.keep HB rfl) H_hc.out) ?_
    intro x1 w1 hx1 hb1 hz1 c1 d1 hW1
    have t1 := hb1.size
    have hFull_1 := gkeep hb1 hFull rfl
    have zhFull_1 := zlt hFull_1
    have xhFull_1 := zlts hFull_1
    have yhFull_1 := zne hFull_1
    have hName_1 := gkeep hb1 hName rfl
    have zhName_1 := zlt hName_1
    have xhName_1 := zlts hName_1
    have yhName_1 := zne hName_1
    have hDeep_1 := gkeep hb1 hDeep rfl
    have zhDeep_1 := zlt hDeep_1
    have xhDeep_1 := zlts hDeep_1
    have yhDeep_1 := zne hDeep_1
    try simp only [szA] at hz1 c1 d1
    try simp only [szD] at hz1 c1 d1
    try simp only [szS] at hz1 c1 d1
    try simp only [World.heap_drewN] at hz1 c1 d1
    try simp only [szA] at hz1 c1 d1
    try simp only [szD] at hz1 c1 d1
    try simp only [szS] at hz1 c1 d1
    have s1_0 : w.heap.size < w1.heap.size := by omega
    have o1_0 := fun j => c1 (w.heap.size) j (by omega)
    have f1_0 := fun j => d1 (w.heap.size) j (by omega)
    clear c1 d1 hz1 hW1
    obtain rfl : x1 = _ := hx1
    go_wp2_with fail
    refine call_bel (w := w) (by repeat' (first | (with_reducible first | exact bwR _ _ | assumption | refine bdn ?_ | refine bwA ?_ ?_ _ | refine bwD ?_ | refine bwS ?_ ?_ _) | omega | (simp <;> omega))) (fun HB => mname_any nm _) ?_
    intro w2 hb2 hz2 c2 d2 hW2
    have t2 := hb2.size
    have hFull_2 := gkeep hb2 hFull rfl
    have zhFull_2 := zlt hFull_2
    have xhFull_2 := zlts hFull_2
    have yhFull_2 := zne hFull_2
    have hName_2 := gkeep hb2 hName rfl
    have zhName_2 := zlt hName_2
    have xhName_2 := zlts hName_2
    have yhName_2 := zne hName_2
    have hDeep_2 := gkeep hb2 hDeep rfl
    have zhDeep_2 := zlt hDeep_2
    have xhDeep_2 := zlts hDeep_2
    have yhDeep_2 := zne hDeep_2
    try simp only [szA] at hz2 c2 d2
    try simp only [szD] at hz2 c2 d2
    try simp only [szS] at hz2 c2 d2
    try simp only [World.heap_drewN] at hz2 c2 d2
    try simp only [szA] at hz2 c2 d2
    try simp only [szD] at hz2 c2 d2
    try simp only [szS] at hz2 c2 d2
    have s2_0 : w.heap.size < w2.heap.size := by omega
    have o2_0 := fun j => c2 (w.heap.size) j (by omega)
    have f2_0 := fun j => d2 (w.heap.size) j (by omega)
    clear c2 d2 hz2 hW2
    rw [H_hC'.out]
    go_wp2_with fail
    go_returns
    refine ⟨_, rfl, ⟨H_hc0.out, _, ?_, rfl, ?_, ?_⟩, by repeat' (first | (with_reducible first | exact bwR _ _ | assumption | refine bdn ?_ | refine bwA ?_ ?_ _ | refine bwD ?_ | refine bwS ?_ ?_ _) | omega | (simp <;> omega))⟩
    · show w.heap.size ≤ _
      first | omega | (simp; omega)
    · rw [World.cell?_alloc_new]; rfl
    · rw [World.cell?_alloc_new]; rfl
theorem check_any (ea : Nat → Addr) : ∀ (s : Nat) (n : NT) (i deep : Nat) (w : World), SizeOf.sizeOf n < s → NodeOk w n → CGs ea w → i ≤ 100 → deep ≤ 11 →
    Calls Tryz.prog 91 #[.agg n.vals.toArray, .int .i64 i, .int .i64 deep] w (RetNE 264 145 ea (chkE (chkN n.rt i deep)) (chkN n.rt i deep).1 w) := by
  intro s
  induction s with
  | zero => intro n i deep w h; omega
  | succ s ih =>
    intro n i deep w hs hn hG hi hd
    cases hn with
    | mk h1 h2 h3 =>
      rename_i nm ao al ac ats ko kl kc ks
      rw [rt_eq]
      exact check_step ea nm ao al ac ats ko kl kc ks i deep w h1 h2 h3 hG hi hd fun k hk i' w' hi' hd' hk' hG' =>
        ih k i' (deep + 1) w' (by have := kid_less (n := .mk nm ao al ac ats ko kl kc ks) hk; omega) hk' hG' hi' (by omega)
theorem mcheck_any (ea : Nat → Addr) (n : NT) (w : World) (hn : NodeOk w n) (hG : CGs ea w) :
    Calls Tryz.prog 41 #[.agg n.vals.toArray] w (RetE 264 145 ea (chkE (chkN n.rt 0 1)) w) := by
  obtain ⟨ao, al, ac, ko, kl, kc, hv, _⟩ := hn.attrsAt
  have hcon := check_any ea (SizeOf.sizeOf n + 1) n 0 1 (w.alloc (.cells n.vals.toArray 25)) (by omega) (hn.keep ((Below.refl _ _).alloc (Nat.le_refl _) _) rfl) (hG.keep ((Below.refl _ _).alloc (Nat.le_refl _) _) rfl) (by decide) (by decide)
  rw [hv] at hcon ⊢
  obtain ⟨nk, hnk⟩ : ∃ u, n.name = u := ⟨_, rfl⟩
  obtain ⟨R, hR⟩ : ∃ u, chkN n.rt 0 1 = u := ⟨_, rfl⟩
  rw [hnk, hR] at hcon
  rw [hnk, hR]
  clear hv hn hG hnk hR
  have H_hcon := Lib.hid hcon
  clear hcon
  go_enter Tryz.func41, Tryz.ntmps41
  go_wp2_with fail
  refine H_hcon.out.mono ?_
  rintro _ w1 ⟨x1, rfl, hx1, hb1⟩
  have H_hx1 := Lib.hid hx1
  clear hx1
  have hB : Below w.heap.size w w1 := below_via ((Below.refl _ _).alloc (Nat.le_refl _) _) hb1
  go_wp2_with fail
  go_returns
  exact ⟨_, rfl, H_hx1.out.keep (Below.refl _ _) rfl (by simp), hB⟩
end Go.Proofs.YtndlmmpheecleaaGreatDoor
