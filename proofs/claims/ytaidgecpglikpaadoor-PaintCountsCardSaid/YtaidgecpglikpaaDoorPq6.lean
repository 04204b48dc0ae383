/-
  Walks: SameTexts of any texts; Same of two pictures of one size.
-/
import Derived.Test.YtaidgecpglikpaaDoorPn8
import Derived.Test.YtaidgecpglikpaaDoorShelf
namespace Lead
open Go Go.RowKit
theorem row_getD {w : World} {b off : Nat} {xs : List ByteArray} (h : RowIn ESt w b off xs) : ∀ j, j < xs.length → w.cell? ⟨b, off + j, none⟩ = some (.string (xs.getD j ByteArray.empty)) := by
  intro j hj
  have h1 := h j hj 0 (.string xs[j]) rfl
  rw [List.getD_eq_getElem?_getD, List.getElem?_eq_getElem hj]
  simpa [ESt] using h1
end Lead
namespace Go.Proofs.YtaidgecpglikpaaDoor
open Go.RowKit Lead
/-- The same texts? -/
theorem sametexts_all (a b la ca lb cb oa ob : Nat) (xs ys : List ByteArray) (r : Bool) (w : World) (ha : a < w.heap.size) (hb : b < w.heap.size) (hx : RowIn ESt w a oa xs) (hy : RowIn ESt w b ob ys) (hla : la = xs.length) (hlb : lb = ys.length) (hbig : la ≤ 100000) (hbig2 : lb ≤ 100000) (hr : decide (xs = ys) = r) :
    Calls Tryd.prog 13 #[.slice (some ⟨a, oa, none⟩) la ca, .slice (some ⟨b, ob, none⟩) lb cb] w fun e w' => e = .returned (.bool r) ∧ Below w.heap.size w w' := by
  by_cases hne : la = lb
  · obtain rfl : la = lb := hne
    have e0 : ((la : Int) != la) = false := by simp
    have H_hx := Lib.hid hx
    clear hx
    have H_hy := Lib.hid hy
    clear hy
    have H_hla := Lib.hid hla
    clear hla
    have H_hlb := Lib.hid hlb
    clear hlb
    have H_hr := Lib.hid hr
    clear hr
    go_enter Tryd.func13, Tryd.ntmps13
    go_wp2_with fail
    go_loopw [5] (fun i wr => ∃ k : Nat, k ≤ la ∧ i = .int .i64 k ∧ RowKit.Hid (xs.take k = ys.take k) ∧ Below w.heap.size w wr) (fun i _ => la - (intOf i).toNat)
    case atStart => exact ⟨0, Nat.zero_le _, rfl, (rfl : ([] : List ByteArray) = []), by repeat' (first | (with_reducible first | exact bwR _ _ | assumption | refine bdn ?_ | refine bwA ?_ ?_ _ | refine bwD ?_ | refine bwS ?_ ?_ _) | omega | (simp <;> omega))⟩
    case round =>
      obtain ⟨k, hk, rfl, heq, hB⟩ := hrel
      have H_eq : RowKit.Hid (xs.take k = ys.take k) := heq
      clear heq
      by_cases hlt : k < la
      · have hk' : k < xs.length := by have := H_hla.out; omega
        have hk2 : k < ys.length := by have := H_hlb.out; omega
        have q0 : wr.cell? ⟨a, oa + k, none⟩ = some (.string xs[k]) := by
          have h := (H_hx.out.keep hB ha) k hk' 0 _ rfl
          simpa [ESt] using h
        have q1 : wr.cell? ⟨b, ob + k, none⟩ = some (.string ys[k]) := by
          have h := (H_hy.out.keep hB hb) k hk2 0 _ rfl
          simpa [ESt] using h
        by_cases hs : xs[k] = ys[k]
        · have H_next : RowKit.Hid (xs.take (k + 1) = ys.take (k + 1)) := by
            show xs.take (k + 1) = ys.take (k + 1)
            rw [List.take_succ_eq_append_getElem hk', List.take_succ_eq_append_getElem hk2, H_eq.out, hs]
          rw [← hs] at q1
          obtain ⟨s, hs'⟩ : ∃ s, xs[k] = s := ⟨_, rfl⟩
          rw [hs'] at q0 q1
          clear hs hs'
          go_wp2_with fail
          go_region
          all_goals
            go_wp2_with fail
            go_roundw
            case rel => exact ⟨k + 1, by omega, by go_num, H_next, by repeat' (first | (with_reducible first | exact bwR _ _ | assumption | refine bdn ?_ | refine bwA ?_ ?_ _ | refine bwD ?_ | refine bwS ?_ ?_ _) | omega | (simp <;> omega))⟩
            case measure => simp [intOf]; omega
        · have ht : (xs[k].toList == ys[k].toList) = false := by
            rw [beq_eq_false_iff_ne]
            intro h
            rw [ByteArray.toList_eq, ByteArray.toList_eq] at h
            exact hs (by cases hx : xs[k]; cases hy : ys[k]; rw [hx, hy] at h; simpa using h)
          obtain rfl : r = false := by
            rw [← H_hr.out, decide_eq_false_iff_not]
            intro h
            exact hs (by simp only [h])
          obtain ⟨s, hs'⟩ : ∃ s, xs[k] = s := ⟨_, rfl⟩
          obtain ⟨t, ht'⟩ : ∃ t, ys[k] = t := ⟨_, rfl⟩
          rw [hs'] at q0 ht
          rw [ht'] at q1 ht
          clear hs hs' ht' H_eq
          go_wp2_with fail
          go_region
          all_goals
            go_wp2_with fail
            go_returns
            exact ⟨rfl, by repeat' (first | (with_reducible first | exact bwR _ _ | assumption | refine bdn ?_ | refine bwA ?_ ?_ _ | refine bwD ?_ | refine bwS ?_ ?_ _) | omega | (simp <;> omega))⟩
      · obtain rfl : k = la := by omega
        obtain rfl : r = true := by
          rw [← H_hr.out, decide_eq_true_iff]
          have h := H_eq.out
          rw [List.take_of_length_le (by rw [← H_hla.out]; exact Nat.le_refl _), List.take_of_length_le (by rw [← H_hlb.out]; exact Nat.le_refl _)] at h
          exact h
        clear H_eq
        go_wp2_with fail
        go_returns
        exact ⟨rfl, by repeat' (first | (with_reducible first | exact bwR _ _ | assumption | refine bdn ?_ | refine bwA ?_ ?_ _ | refine bwD ?_ | refine bwS ?_ ?_ _) | omega | (simp <;> omega))⟩
  · have e0 : ((la : Int) != (lb : Int)) = true := by simp; omega
    obtain rfl : r = false := by
      rw [← hr, decide_eq_false_iff_not]
      intro h
      exact hne (by rw [hla, hlb, h])
    clear hr hla hlb
    have H_hx := Lib.hid hx
    clear hx
    have H_hy := Lib.hid hy
    clear hy
    go_enter Tryd.func13, Tryd.ntmps13
    go_wp2_with fail
    go_returns
    exact ⟨rfl, by repeat' (first | (with_reducible first | exact bwR _ _ | assumption | refine bdn ?_ | refine bwA ?_ ?_ _ | refine bwD ?_ | refine bwS ?_ ?_ _) | omega | (simp <;> omega))⟩
/-- Same, of two pictures of one size. -/
theorem same2_any (xs ys : List ByteArray) (ga gb la lb ca cb : Nat) (n m : Int) (r : Bool) (w : World) (ha : ga < w.heap.size) (hb : gb < w.heap.size) (hx : RowIn ESt w ga 0 xs) (hy : RowIn ESt w gb 0 ys) (hla : la = xs.length) (hlb : lb = ys.length) (hbig : la ≤ 100000) (hbig2 : lb ≤ 100000) (hr : decide (xs = ys) = r) :
    Calls Tryd.prog 21 #[.agg #[.int .i64 n, .int .i64 m, .slice (some ⟨ga, 0, none⟩) la ca], .agg #[.int .i64 n, .int .i64 m, .slice (some ⟨gb, 0, none⟩) lb cb]] w fun e w' => e = .returned (.bool r) ∧ Below w.heap.size w w' := by
  have H_hx := Lib.hid hx
  clear hx
  have H_hy := Lib.hid hy
  clear hy
  have H_hla := Lib.hid hla
  clear hla
  have H_hlb := Lib.hid hlb
  clear hlb
  have H_hr := Lib.hid hr
  clear hr
  go_enter Tryd.func21, Tryd.ntmps21
  go_wp2_with fail
  have hB : Below w.heap.size w ((w.alloc (.cells #[.int .i64 n, .int .i64 m, .slice (some ⟨ga, 0, none⟩) la ca] 27)).alloc (.cells #[.int .i64 n, .int .i64 m, .slice (some ⟨gb, 0, none⟩) lb cb] 27)) := by repeat' (first | (with_reducible first | exact bwR _ _ | assumption | refine bdn ?_ | refine bwA ?_ ?_ _ | refine bwD ?_ | refine bwS ?_ ?_ _) | omega | (simp <;> omega))
  refine (Tryd.slices_Equal_string ga 0 la ca gb 0 lb cb xs ys _ (by rw [H_hla.out]; exact Nat.le_refl _) (by rw [H_hlb.out]; exact Nat.le_refl _) (by omega) (by omega) (row_getD (H_hx.out.keep hB ha)) (row_getD (H_hy.out.keep hB hb))).mono ?_
  rintro _ w1 ⟨rfl, q, rfl⟩
  rw [List.take_of_length_le (by rw [← H_hla.out]; exact Nat.le_refl _), List.take_of_length_le (by rw [← H_hlb.out]; exact Nat.le_refl _), H_hr.out]
  go_wp2_with fail
  go_returns
  exact ⟨rfl, by repeat' (first | (with_reducible first | exact bwR _ _ | assumption | refine bdn ?_ | refine bwA ?_ ?_ _ | refine bwD ?_ | refine bwS ?_ ?_ _) | omega | (simp <;> omega))⟩
end Go.Proofs.YtaidgecpglikpaaDoor
