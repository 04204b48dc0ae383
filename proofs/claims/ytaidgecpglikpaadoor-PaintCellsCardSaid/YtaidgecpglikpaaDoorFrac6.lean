/-
  Walks over package frac: Make; Itoa of a number.
-/
import Derived.Test.YtaidgecpglikpaaDoorFa
import Derived.Test.YtaidgecpglikpaaDoorShelf
import Derived.Test.YtaidgecpglikpaaDoorPa
import Derived.Lib.ItoaLen
namespace Lead
open Go Go.RowKit
theorem Below.grow {B : Nat} {a w : World} (h : Below B a w) (os : Array Obj) (hB : B ≤ w.heap.size) : Below B a (Go.Sort.grow w os) :=
  h.trans ⟨rfl, rfl, rfl, by simp [Go.Sort.grow], fun k hk => by simp only [Go.Sort.grow]; exact Array.getElem?_append_left (by omega)⟩
theorem tab_keep {P : Program} {w w' : World} {n : String} {k : IntKind} {zs : List Int} {B : Nat} (h : Lib.TabIs P w n k zs) (hb : Below B w w') (hB : B = w.heap.size) : Lib.TabIs P w' n k zs := by
  unfold Lib.TabIs World.var? at *
  cases hg : P.globalNamed n with
  | none => rw [hg] at h; cases h
  | some g =>
    rw [hg] at h
    simp only [Option.bind_some] at h ⊢
    have hlt : g < w.heap.size := by
      rcases Nat.lt_or_ge g w.heap.size with h1 | h1
      · exact h1
      · rw [Array.getElem?_eq_none h1] at h; cases h
    rw [hb.block g (by omega)]; exact h
theorem cat_slash (a b : List UInt8) : (⟨a.toArray⟩ : ByteArray) ++ ((⟨#[47]⟩ : ByteArray) ++ (⟨b.toArray⟩ : ByteArray)) = ⟨(a ++ 47 :: b).toArray⟩ := by
  apply ByteArray.ext; simp
theorem itoa_len {n : Int} (h : I64 n) : (Lib.itoa n).length ≤ 21 := by
  unfold I64 at h
  unfold Lib.itoa
  split
  · rw [List.length_cons, Lib.decDigits_length]; have := Lib.nDigits_le20 n.natAbs (by omega); omega
  · rw [Lib.decDigits_length]; have := Lib.nDigits_le20 n.toNat (by omega); omega
/-- Make's error. -/
def mkC (n d : Int) : Nat := if d = 0 then 11 else if sml n = true ∧ sml d = true then lowC n d else 2
theorem mkC_cases (n d : Int) : (d = 0 ∧ mkC n d = 11) ∨ (d ≠ 0 ∧ sml n = false ∧ mkC n d = 2) ∨ (d ≠ 0 ∧ sml n = true ∧ sml d = false ∧ mkC n d = 2) ∨ (d ≠ 0 ∧ sml n = true ∧ sml d = true ∧ mkC n d = lowC n d) := by
  unfold mkC
  by_cases h1 : d = 0 <;> cases h2 : sml n <;> cases h3 : sml d <;> simp [h1]
theorem sml_b62 {n : Int} (h : sml n = true) : B62 n := by have := sml_true.1 h; unfold B62; omega
end Lead
namespace Go.Proofs.YtaidgecpglikpaaDoor
open Go.RowKit Lead


set_option maxHeartbeats 400000 in
theorem fmake_any (ea : Nat → Addr) (n d : Int) (w : World) (_hn : I64 n) (_hd : I64 d) (hBound : w.cell? ⟨0, 0, none⟩ = some (.iface 181 (.pointer (some (ea 2))))) (hZero : w.cell? ⟨10, 0, none⟩ = some (.iface 181 (.pointer (some (ea 11))))) :
    Calls Tryd.prog 35 #[.int .i64 n, .int .i64 d] w fun e w' => e = .returned (frV 181 ea (mkC n d) (lowN n d) (lowD n d)) ∧ Below w.heap.size w w' := by
  have zhBound := zlt hBound
  have xhBound := zlts hBound
  have yhBound := zne hBound
  have zhZero := zlt hZero
  have xhZero := zlts hZero
  have yhZero := zne hZero
  rcases mkC_cases n d with ⟨h1, hc⟩ | ⟨h1, h2, hc⟩ | ⟨h1, h2, h3, hc⟩ | ⟨h1, h2, h3, hc⟩
  · have h1' : (d == 0) = true := by simp [h1]
    have H_hc := Lib.hid hc
    clear hc
    have H_h1 := Lib.hid h1
    clear h1
    go_enter Tryd.func35, Tryd.ntmps35
    go_wp2_with fail
    go_region
    all_goals
      go_wp2_with fail
      refine bodyPost_ret (by simp [results, Tryd.results35, go_sem, *]; try rfl) rfl ?_
      exact ⟨by rw [H_hc.out, frV_n (by decide)], by repeat' (first | (with_reducible first | exact bwR _ _ | assumption | refine bdn ?_ | refine bwA ?_ ?_ _ | refine bwD ?_ | refine bwS ?_ ?_ _) | omega | (simp <;> omega))⟩
  · have h1' : (d == 0) = false := by simp [h1]
    have H_hc := Lib.hid hc
    clear hc
    have H_h1 := Lib.hid h1
    clear h1
    go_enter Tryd.func35, Tryd.ntmps35
    go_wp2_with fail
    refine (fsmall_b _ _ _ h2).mono ?_
    rintro _ _ ⟨rfl, rfl⟩
    go_wp2_with fail
    go_region
    all_goals
      go_wp2_with fail
      refine bodyPost_ret (by simp [results, Tryd.results35, go_sem, *]; try rfl) rfl ?_
      exact ⟨by rw [H_hc.out, frV_n (by decide)], by repeat' (first | (with_reducible first | exact bwR _ _ | assumption | refine bdn ?_ | refine bwA ?_ ?_ _ | refine bwD ?_ | refine bwS ?_ ?_ _) | omega | (simp <;> omega))⟩
  · have h1' : (d == 0) = false := by simp [h1]
    have H_hc := Lib.hid hc
    clear hc
    have H_h1 := Lib.hid h1
    clear h1
    go_enter Tryd.func35, Tryd.ntmps35
    go_wp2_with fail
    refine (fsmall_b _ _ _ h2).mono ?_
    rintro _ _ ⟨rfl, rfl⟩
    go_wp2_with fail
    refine (fsmall_b _ _ _ h3).mono ?_
    rintro _ _ ⟨rfl, rfl⟩
    go_wp2_with fail
    go_region
    all_goals
      go_wp2_with fail
      refine bodyPost_ret (by simp [results, Tryd.results35, go_sem, *]; try rfl) rfl ?_
      exact ⟨by rw [H_hc.out, frV_n (by decide)], by repeat' (first | (with_reducible first | exact bwR _ _ | assumption | refine bdn ?_ | refine bwA ?_ ?_ _ | refine bwD ?_ | refine bwS ?_ ?_ _) | omega | (simp <;> omega))⟩
  · have h1' : (d == 0) = false := by simp [h1]
    have H1 := sml_b62 h2
    have H2 := sml_b62 h3
    rcases lowC_cases n d with ⟨_, hl⟩ | ⟨_, _, hl⟩ | ⟨_, _, hl⟩
    · have H_hc := Lib.hid hc
      clear hc
      have H_h1 := Lib.hid h1
      clear h1
      have H_hl := Lib.hid hl
      clear hl
      go_enter Tryd.func35, Tryd.ntmps35
      go_wp2_with fail
      refine (fsmall_b _ _ _ h2).mono ?_
      rintro _ _ ⟨rfl, rfl⟩
      go_wp2_with fail
      refine (fsmall_b _ _ _ h3).mono ?_
      rintro _ _ ⟨rfl, rfl⟩
      go_wp2_with fail
      refine call_below (w := w) (by repeat' (first | (with_reducible first | exact bwR _ _ | assumption | refine bdn ?_ | refine bwA ?_ ?_ _ | refine bwD ?_ | refine bwS ?_ ?_ _) | omega | (simp <;> omega))) (fun HB => flowest_n ea _ _ _ H1 H2 H_h1.out (gkeep HB hBound rfl) H_hl.out) ?_
      intro w1 hb1 hz1 c1 d1
      have t1 := hb1.size
      have hBound_1 := gkeep hb1 hBound rfl
      have zhBound_1 := zlt hBound_1
      have xhBound_1 := zlts hBound_1
      have yhBound_1 := zne hBound_1
      try simp only [szA] at hz1 c1 d1
      try simp only [szD] at hz1 c1 d1
      try simp only [szS] at hz1 c1 d1
      try simp only [World.heap_drewN] at hz1 c1 d1
      have s1_0 : w.heap.size < w1.heap.size := by omega
      have o1_0 := fun j => c1 (w.heap.size) j (by omega)
      have f1_0 := fun j => d1 (w.heap.size) j (by omega)
      clear c1 d1 hz1
      go_wp2_with fail
      refine bodyPost_ret (by simp [results, Tryd.results35, go_sem, *]; try rfl) rfl ?_
      exact ⟨by rw [H_hc.out, H_hl.out, frV_n (by decide)], by repeat' (first | (with_reducible first | exact bwR _ _ | assumption | refine bdn ?_ | refine bwA ?_ ?_ _ | refine bwD ?_ | refine bwS ?_ ?_ _) | omega | (simp <;> omega))⟩
    · have H_hc := Lib.hid hc
      clear hc
      have H_h1 := Lib.hid h1
      clear h1
      have H_hl := Lib.hid hl
      clear hl
      go_enter Tryd.func35, Tryd.ntmps35
      go_wp2_with fail
      refine (fsmall_b _ _ _ h2).mono ?_
      rintro _ _ ⟨rfl, rfl⟩
      go_wp2_with fail
      refine (fsmall_b _ _ _ h3).mono ?_
      rintro _ _ ⟨rfl, rfl⟩
      go_wp2_with fail
      refine call_below (w := w) (by repeat' (first | (with_reducible first | exact bwR _ _ | assumption | refine bdn ?_ | refine bwA ?_ ?_ _ | refine bwD ?_ | refine bwS ?_ ?_ _) | omega | (simp <;> omega))) (fun HB => flowest_n ea _ _ _ H1 H2 H_h1.out (gkeep HB hBound rfl) H_hl.out) ?_
      intro w1 hb1 hz1 c1 d1
      have t1 := hb1.size
      have hBound_1 := gkeep hb1 hBound rfl
      have zhBound_1 := zlt hBound_1
      have xhBound_1 := zlts hBound_1
      have yhBound_1 := zne hBound_1
      try simp only [szA] at hz1 c1 d1
      try simp only [szD] at hz1 c1 d1
      try simp only [szS] at hz1 c1 d1
      try simp only [World.heap_drewN] at hz1 c1 d1
      have s1_0 : w.heap.size < w1.heap.size := by omega
      have o1_0 := fun j => c1 (w.heap.size) j (by omega)
      have f1_0 := fun j => d1 (w.heap.size) j (by omega)
      clear c1 d1 hz1
      go_wp2_with fail
      refine bodyPost_ret (by simp [results, Tryd.results35, go_sem, *]; try rfl) rfl ?_
      exact ⟨by rw [H_hc.out, H_hl.out, frV_n (by decide)], by repeat' (first | (with_reducible first | exact bwR _ _ | assumption | refine bdn ?_ | refine bwA ?_ ?_ _ | refine bwD ?_ | refine bwS ?_ ?_ _) | omega | (simp <;> omega))⟩
    · have H_hc := Lib.hid hc
      clear hc
      have H_h1 := Lib.hid h1
      clear h1
      have H_hl := Lib.hid hl
      clear hl
      go_enter Tryd.func35, Tryd.ntmps35
      go_wp2_with fail
      refine (fsmall_b _ _ _ h2).mono ?_
      rintro _ _ ⟨rfl, rfl⟩
      go_wp2_with fail
      refine (fsmall_b _ _ _ h3).mono ?_
      rintro _ _ ⟨rfl, rfl⟩
      go_wp2_with fail
      refine call_below (w := w) (by repeat' (first | (with_reducible first | exact bwR _ _ | assumption | refine bdn ?_ | refine bwA ?_ ?_ _ | refine bwD ?_ | refine bwS ?_ ?_ _) | omega | (simp <;> omega))) (fun HB => flowest_0 ea _ _ _ H1 H2 H_h1.out (gkeep HB hBound rfl) H_hl.out) ?_
      intro w1 hb1 hz1 c1 d1
      have t1 := hb1.size
      have hBound_1 := gkeep hb1 hBound rfl
      have zhBound_1 := zlt hBound_1
      have xhBound_1 := zlts hBound_1
      have yhBound_1 := zne hBound_1
      try simp only [szA] at hz1 c1 d1
      try simp only [szD] at hz1 c1 d1
      try simp only [szS] at hz1 c1 d1
      try simp only [World.heap_drewN] at hz1 c1 d1
      have s1_0 : w.heap.size < w1.heap.size := by omega
      have o1_0 := fun j => c1 (w.heap.size) j (by omega)
      have f1_0 := fun j => d1 (w.heap.size) j (by omega)
      clear c1 d1 hz1
      go_wp2_with fail
      refine bodyPost_ret (by simp [results, Tryd.results35, go_sem, *]; try rfl) rfl ?_
      exact ⟨by rw [H_hc.out, H_hl.out, frV_0 rfl], by repeat' (first | (with_reducible first | exact bwR _ _ | assumption | refine bdn ?_ | refine bwA ?_ ?_ _ | refine bwD ?_ | refine bwS ?_ ?_ _) | omega | (simp <;> omega))⟩
/-- A fraction's text. -/
def txtF (n d : Int) : List UInt8 := if d = 1 then Lib.itoa n else Lib.itoa n ++ (47 :: Lib.itoa d)
end Go.Proofs.YtaidgecpglikpaaDoor
