/-
  Walks over package mark: Name and Value of a text.
-/
import Derived.Test.YtnpieocpniakpaaDoorDp
import Derived.Test.YtnpieocpniakpaaDoorPa
import Derived.Test.YtnpieocpniakpaaDoorShelf
import Derived.Test.YtnpieocpniakpaaDoorMore
import Derived.Test.YtnpieocpniakpaaDoorChecked
import Derived.Laws.IdiomStrings
namespace Lead.Dc
open Go Go.RowKit Lead
theorem nmC_eq (x : UInt8) : nmC x = ((decide (97 ≤ x.toNat) && decide (x.toNat ≤ 122)) || (decide (48 ≤ x.toNat) && decide (x.toNat ≤ 57)) || decide (x.toNat = 45)) := by
  unfold nmC
  have h : decide (x = 45) = decide (x.toNat = 45) := by
    rw [decide_eq_decide]
    exact ⟨fun h => by rw [h]; rfl, fun h => UInt8.toNat_inj.1 (by rw [h]; rfl)⟩
  rw [h]
  simp only [UInt8.le_iff_toNat_le]
  rfl
theorem vlC_eq (x : UInt8) : vlC x = (decide (32 ≤ x.toNat) && decide (x.toNat ≤ 126)) := by
  unfold vlC
  simp only [UInt8.le_iff_toNat_le]
  rfl
theorem ret_bool {a b : Bool} (h : a = b) : Ending.returned (.bool a) = .returned (.bool b) := by rw [h]
def encB (b : UInt8) : Value := .int .u8 (b.toNat : Int)
theorem bytes_at (s : ByteArray) (cap : Nat) (_h : s.size ≤ cap) (w : World) (e : TypeId) (fr : Nat × Nat) : ∀ j, j < s.data.toList.length → (w.alloc (.cells (bytesRow s cap) e fr)).cell? ⟨w.heap.size, 0 + j, none⟩ = some (encB s.data.toList[j]!) := by
  intro j hj
  have hj' : j < s.data.size := by simpa using hj
  rw [Nat.zero_add]
  have h1 : (w.alloc (.cells (bytesRow s cap) e fr)).cell? ⟨w.heap.size, j, none⟩ = (bytesRow s cap)[j]? := by
    have h2 := heap_alloc_new w (.cells (bytesRow s cap) e fr)
    unfold World.cell?
    rw [h2]
    simp
  rw [h1]
  unfold bytesRow
  rw [Array.getElem?_append_left (by simpa using hj'), Array.getElem?_map, Array.getElem?_eq_getElem hj', Option.map_some, getElem!_pos _ j hj]
  rfl
theorem head_cons {s : ByteArray} (h : 0 < s.size) : ∃ r, s.data.toList = s[0] :: r := by
  have hl : s.data.toList.length = s.size := Array.length_toList
  cases hs : s.data.toList with
  | nil => rw [hs] at hl; simp at hl; omega
  | cons c r =>
    refine ⟨r, ?_⟩
    have h1 : s[0] = s.data.toList[0]'(by omega) := by simp [ByteArray.getElem_eq_getElem_data]
    rw [h1]
    simp [hs]
theorem nmOk_cons {s : ByteArray} {c : UInt8} {r : List UInt8} (h : s.data.toList = c :: r) : nmOk s = (decide (r.length + 1 ≤ 12) && decide (97 ≤ c.toNat) && decide (c.toNat ≤ 122) && s.data.toList.all nmC) := by
  unfold nmOk
  rw [h]
  show (decide (r.length + 1 ≤ 12) && decide (97 ≤ c) && decide (c ≤ 122) && (c :: r).all nmC) = _
  simp only [UInt8.le_iff_toNat_le]
  rfl
end Lead.Dc
namespace Go.Proofs.YtnpieocpniakpaaDoor
open Go.RowKit Lead Lead.Dc
theorem nm_pred (W : World) (x : UInt8) : Calls Tryd.prog 47 #[.int .u8 (x.toNat : Int)] W fun e w' => e = .returned (.bool (!nmC x)) ∧ ∃ q, w' = W.drewN q := by
  have hx := x.toNat_lt
  obtain ⟨n, hn⟩ : ∃ n, x.toNat = n := ⟨_, rfl⟩
  have hq := nmC_eq x
  rw [hn] at hx hq ⊢
  rw [hq]
  clear hq hn
  go_enter Tryd.func47, Tryd.ntmps47
  go_wp2_with fail
  all_goals
    go_returns
    refine ⟨ret_bool ?_, 0, rfl⟩
    rw [Bool.eq_iff_iff]
    simp
    omega
theorem vl_pred (W : World) (x : UInt8) : Calls Tryd.prog 59 #[.int .u8 (x.toNat : Int)] W fun e w' => e = .returned (.bool (!vlC x)) ∧ ∃ q, w' = W.drewN q := by
  have hx := x.toNat_lt
  obtain ⟨n, hn⟩ : ∃ n, x.toNat = n := ⟨_, rfl⟩
  have hq := vlC_eq x
  rw [hn] at hx hq ⊢
  rw [hq]
  clear hq hn
  go_enter Tryd.func59, Tryd.ntmps59
  go_wp2_with fail
  all_goals
    go_returns
    refine ⟨ret_bool ?_, 0, rfl⟩
    rw [Bool.eq_iff_iff]
    simp
    omega
theorem nm_at (w : World) : Go.Proofs.PredAt Tryd.prog 47 #[] encB (fun c => !nmC c) w := fun W x _ => nm_pred W x
theorem vl_at (w : World) : Go.Proofs.PredAt Tryd.prog 59 #[] encB (fun c => !vlC c) w := fun W x _ => vl_pred W x
theorem mval_any (s : ByteArray) (w : World) : Calls Tryd.prog 46 #[.string s] w fun e w' => e = .returned (.bool (vlOk s)) ∧ Below w.heap.size w w' := by
  have hl : s.data.toList.length = s.size := Array.length_toList
  by_cases h : s.size ≤ 200
  · have hv : vlOk s = !(s.data.toList.any fun c => !vlC c) := by
      unfold vlOk
      rw [decide_eq_true h, Bool.true_and]
      simp [List.all_eq_not_any_not]
    have hd : decide ((s.size : Int) ≤ 200) = true := by simp; omega
    have hkb : ∀ w, (convert 9 96 (.string s)).run Tryd.prog w = _ := fun w => run_bytes_of_string w 9 96 5 s Tryd.underlying9 Tryd.underlying96 Tryd.underlying5
    rw [hv]
    obtain ⟨r, hr⟩ : ∃ r, (s.data.toList.any fun c => !vlC c) = r := ⟨_, rfl⟩
    rw [hr]
    have H_hv := Lib.hid hv
    clear hv
    have H_hr := Lib.hid hr
    clear hr
    have H_hl := Lib.hid hl
    clear hl
    go_enter Tryd.func46, Tryd.ntmps46
    go_wp2_with fail
    obtain ⟨C, hC⟩ : ∃ u, grownCap w s.size 0 5 = u := ⟨_, rfl⟩
    have hge := grownCap_ge w s.size 0 5
    rw [hC] at hge ⊢
    refine (AnyE.slices_ContainsFunc (ρ := Tryd.cfB_ren) Tryd.cfB encB (fun c => !vlC c) 59 #[] (enters_of Tryd.func59 (by kernel_rfl) rfl) w.heap.size 0 s.size C s.data.toList _ (vl_at _) (by rw [H_hl.out]; exact Nat.le_refl _) (by omega) (bytes_at s C hge w.drew 5 _)).mono ?_
    rintro _ w1 ⟨rfl, q, rfl⟩
    rw [List.take_of_length_le (by rw [H_hl.out]; exact Nat.le_refl _), H_hr.out]
    go_wp2_with fail
    go_returns
    exact ⟨rfl, by repeat' (first | (with_reducible first | exact bwR _ _ | assumption | refine bdn ?_ | refine bwA ?_ ?_ _ | refine bwD ?_ | refine bwS ?_ ?_ _) | omega | (simp <;> omega))⟩
  · have hv : vlOk s = false := by
      unfold vlOk
      rw [decide_eq_false h, Bool.false_and]
    have hd : decide ((s.size : Int) ≤ 200) = false := by simp; omega
    rw [hv]
    have H_hv := Lib.hid hv
    clear hv
    have H_hl := Lib.hid hl
    clear hl
    go_enter Tryd.func46, Tryd.ntmps46
    go_wp2_with fail
    go_returns
    exact ⟨rfl, by repeat' (first | (with_reducible first | exact bwR _ _ | assumption | refine bdn ?_ | refine bwA ?_ ?_ _ | refine bwD ?_ | refine bwS ?_ ?_ _) | omega | (simp <;> omega))⟩
theorem mname_any (s : ByteArray) (w : World) : Calls Tryd.prog 32 #[.string s] w fun e w' => e = .returned (.bool (nmOk s)) ∧ Below w.heap.size w w' := by
  have hl : s.data.toList.length = s.size := Array.length_toList
  by_cases h0 : s.size = 0
  · have hv : nmOk s = false := by
      unfold nmOk
      rw [List.length_eq_zero_iff.1 (hl.trans h0)]; rfl
    have ha : (s.toList == ([] : List UInt8)) = true := by rw [ByteArray.toList_eq, List.length_eq_zero_iff.1 (hl.trans h0)]; rfl
    have hb : s.toList = [] := by rw [ByteArray.toList_eq]; exact List.length_eq_zero_iff.1 (hl.trans h0)
    rw [hv]
    have H_hv := Lib.hid hv
    clear hv
    have H_hl := Lib.hid hl
    clear hl
    go_enter Tryd.func32, Tryd.ntmps32
    go_wp2_with fail
    go_returns
    exact ⟨rfl, by repeat' (first | (with_reducible first | exact bwR _ _ | assumption | refine bdn ?_ | refine bwA ?_ ?_ _ | refine bwD ?_ | refine bwS ?_ ?_ _) | omega | (simp <;> omega))⟩
  have hp : 0 < s.size := by omega
  obtain ⟨r, hr⟩ := head_cons hp
  have ha : (s.toList == ([] : List UInt8)) = false := by rw [ByteArray.toList_eq, hr]; rfl
  have hb : s.toList.isEmpty = false := by rw [ByteArray.toList_eq, hr]; rfl
  have hv := nmOk_cons hr
  have hlr : r.length + 1 = s.size := by rw [← hl, hr]; rfl
  by_cases h1 : 12 < s.size
  · have hv : nmOk s = false := by rw [hv, decide_eq_false (by omega)]; rfl
    rw [hv]
    have H_hv := Lib.hid hv
    clear hv
    have H_hl := Lib.hid hl
    clear hl
    have H_hr := Lib.hid hr
    clear hr
    have H_hlr := Lib.hid hlr
    clear hlr
    go_enter Tryd.func32, Tryd.ntmps32
    go_wp2_with fail
    go_returns
    exact ⟨rfl, by repeat' (first | (with_reducible first | exact bwR _ _ | assumption | refine bdn ?_ | refine bwA ?_ ?_ _ | refine bwD ?_ | refine bwS ?_ ?_ _) | omega | (simp <;> omega))⟩
  by_cases h2 : (s[0]).toNat < 97
  · have hv : nmOk s = false := by rw [hv, decide_eq_false (show ¬ 97 ≤ (s[0]).toNat by omega)]; simp
    have h2' : ¬ (97 : Int) ≤ ((s[0]).toNat : Int) := by omega
    rw [hv]
    have H_hv := Lib.hid hv
    clear hv
    have H_hl := Lib.hid hl
    clear hl
    have H_hr := Lib.hid hr
    clear hr
    have H_hlr := Lib.hid hlr
    clear hlr
    go_enter Tryd.func32, Tryd.ntmps32
    go_wp2_with fail
    go_returns
    exact ⟨rfl, by repeat' (first | (with_reducible first | exact bwR _ _ | assumption | refine bdn ?_ | refine bwA ?_ ?_ _ | refine bwD ?_ | refine bwS ?_ ?_ _) | omega | (simp <;> omega))⟩
  by_cases h3 : 122 < (s[0]).toNat
  · have hv : nmOk s = false := by rw [hv, decide_eq_false (show ¬ (s[0]).toNat ≤ 122 by omega)]; simp
    have h2' : (97 : Int) ≤ ((s[0]).toNat : Int) := by omega
    have h3' : ¬ ((s[0]).toNat : Int) ≤ 122 := by omega
    rw [hv]
    have H_hv := Lib.hid hv
    clear hv
    have H_hl := Lib.hid hl
    clear hl
    have H_hr := Lib.hid hr
    clear hr
    have H_hlr := Lib.hid hlr
    clear hlr
    go_enter Tryd.func32, Tryd.ntmps32
    go_wp2_with fail
    go_returns
    exact ⟨rfl, by repeat' (first | (with_reducible first | exact bwR _ _ | assumption | refine bdn ?_ | refine bwA ?_ ?_ _ | refine bwD ?_ | refine bwS ?_ ?_ _) | omega | (simp <;> omega))⟩
  have hv : nmOk s = !(s.data.toList.any fun c => !nmC c) := by
    rw [hv, decide_eq_true (show r.length + 1 ≤ 12 by omega), decide_eq_true (show 97 ≤ (s[0]).toNat by omega), decide_eq_true (show (s[0]).toNat ≤ 122 by omega), List.all_eq_not_any_not]; rfl
  have h2' : (97 : Int) ≤ ((s[0]).toNat : Int) := by omega
  have h3' : ((s[0]).toNat : Int) ≤ 122 := by omega
  have hkb : ∀ w, (convert 9 96 (.string s)).run Tryd.prog w = _ := fun w => run_bytes_of_string w 9 96 5 s Tryd.underlying9 Tryd.underlying96 Tryd.underlying5
  rw [hv]
  obtain ⟨r', hr'⟩ : ∃ r, (s.data.toList.any fun c => !nmC c) = r := ⟨_, rfl⟩
  rw [hr']
  have H_hv := Lib.hid hv
  clear hv
  have H_hr' := Lib.hid hr'
  clear hr'
  have H_hl := Lib.hid hl
  clear hl
  have H_hr := Lib.hid hr
  clear hr
  have H_hlr := Lib.hid hlr
  clear hlr
  go_enter Tryd.func32, Tryd.ntmps32
  go_wp2_with fail
  obtain ⟨C, hC⟩ : ∃ u, grownCap w s.size 0 5 = u := ⟨_, rfl⟩
  have hge := grownCap_ge w s.size 0 5
  rw [hC] at hge ⊢
  refine (AnyE.slices_ContainsFunc (ρ := Tryd.cfB_ren) Tryd.cfB encB (fun c => !nmC c) 47 #[] (enters_of Tryd.func47 (by kernel_rfl) rfl) w.heap.size 0 s.size C s.data.toList _ (nm_at _) (by rw [H_hl.out]; exact Nat.le_refl _) (by omega) (bytes_at s C hge w.drew 5 _)).mono ?_
  rintro _ w1 ⟨rfl, q, rfl⟩
  rw [List.take_of_length_le (by rw [H_hl.out]; exact Nat.le_refl _), H_hr'.out]
  go_wp2_with fail
  go_returns
  exact ⟨rfl, by repeat' (first | (with_reducible first | exact bwR _ _ | assumption | refine bdn ?_ | refine bwA ?_ ?_ _ | refine bwD ?_ | refine bwS ?_ ?_ _) | omega | (simp <;> omega))⟩
end Go.Proofs.YtnpieocpniakpaaDoor
