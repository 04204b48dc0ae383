/-
  Walks over package frac: Make; Itoa of a number.
-/
import Derived.Test.YthijgncjaophjaaDoorFrac4
import Derived.Test.YthijgncjaophjaaDoorShelf
import Derived.Test.YthijgncjaophjaaDoorPl7
import Derived.Lib.ItoaLen
namespace Lead
open Go Go.RowKit
theorem Below.grow {B : Nat} {a w : World} (h : Below B a w) (os : Array Obj) (hB : B ≤ w.heap.size) : Below B a (Go.Sort.grow w os) :=
  h.trans ⟨rfl, rfl, rfl, by simp [Go.Sort.grow], fun k hk => by simp only [Go.Sort.grow]; exact Array.getElem?_append_left (by omega)⟩
theorem tab_keep {P : Program} {w w' : World} {n : String} {k : IntKind} {zs : List Int} {B : Nat} (h : Lib.TabIs P w n k zs) (hb : Below B w w') (hB : B = w.heap.size) : Lib.TabIs P w' n k zs := by
  unfold Lib.TabIs World.var? at *
  cases hg : P.globalNamed n with
  | none => rw [hg] at h; cases h
  | some g =>
    rw [hg] at h
    simp only [Option.bind_some] at h ⊢
    have hlt : g < w.heap.size := by
      rcases Nat.lt_or_ge g w.heap.size with h1 | h1
      · exact h1
      · rw [Array.getElem?_eq_none h1] at h; cases h
    rw [hb.block g (by omega)]; exact h
theorem cat_slash (a b : List UInt8) : (⟨a.toArray⟩ : ByteArray) ++ ((⟨#[47]⟩ : ByteArray) ++ (⟨b.toArray⟩ : ByteArray)) = ⟨(a ++ 47 :: b).toArray⟩ := by
  apply ByteArray.ext; simp
theorem itoa_len {n : Int} (h : I64 n) : (Lib.itoa n).length ≤ 21 := by
  unfold I64 at h
  unfold Lib.itoa
  split
  · rw [List.length_cons, Lib.decDigits_length]; have := Lib.nDigits_le20 n.natAbs (by omega); omega
  · rw [Lib.decDigits_length]; have := Lib.nDigits_le20 n.toNat (by omega); omega
/-- Make's error. -/
def mkC (n d : Int) : Nat := if d = 0 then 11 else if sml n = true ∧ sml d = true then lowC n d else 2
theorem mkC_cases (n d : Int) : (d = 0 ∧ mkC n d = 11) ∨ (d ≠ 0 ∧ sml n = false ∧ mkC n d = 2) ∨ (d ≠ 0 ∧ sml n = true ∧ sml d = false ∧ mkC n d = 2) ∨ (d ≠ 0 ∧ sml n = true ∧ sml d = true ∧ mkC n d = lowC n d) := by
  unfold mkC
  by_cases h1 : d = 0 <;> cases h2 : sml n <;> cases h3 : sml d <;> simp [h1]
theorem sml_b62 {n : Int} (h : sml n = true) : B62 n := by have := sml_true.1 h; unfold B62; omega
end Lead
namespace Go.Proofs.YthijgncjaophjaaDoor
open Go.RowKit Lead

theorem itoa_any (n : Int) (w : World) (hn : I64 n) (htab : Lib.TabIs Tryd.prog w "internal/strconv.uint64pow10" .u64 Lib.pow10Tab) :
    Calls Tryd.prog 91 #[.int .i64 n] w fun e w' => e = .returned (.string ⟨(Lib.itoa n).toArray⟩) ∧ Below w.heap.size w w' :=
  (Tryd.strconv_Itoa n hn.1 hn.2 w htab).mono fun e w' ⟨h1, k, os, h2⟩ => ⟨h1, by rw [h2]; exact Below.grow (bdn (Below.refl _ _)) _ (Nat.le_refl _)⟩

set_option maxHeartbeats 400000 in
theorem fmake_any (ea : Nat → Addr) (n d : Int) (w : World) (_hn : I64 n) (_hd : I64 d) (hBound : w.cell? ⟨1, 0, none⟩ = some (.iface 312 (.pointer (some (ea 2))))) (hZero : w.cell? ⟨7, 0, none⟩ = some (.iface 312 (.pointer (some (ea 11))))) :
    Calls Tryd.prog 43 #[.int .i64 n, .int .i64 d] w fun e w' => e = .returned (frV 312 ea (mkC n d) (lowN n d) (lowD n d)) ∧ Below w.heap.size w w' := by
  have zhBound := zlt hBound
  have xhBound := zlts hBound
  have yhBound := zne hBound
  have zhZero := zlt hZero
  have xhZero := zlts hZero
  have yhZero := zne hZero
  rcases mkC_cases n d with ⟨h1, hc⟩ | ⟨h1, h2, hc⟩ | ⟨h1, h2, h3, hc⟩ | ⟨h1, h2, h3, hc⟩
  · have h1' : (d == 0) = true := by simp [h1]
    have H_hc := Lib.hid hc
    clear hc
    have H_h1 := Lib.hid h1
    clear h1
    go_enter Tryd.func43, Tryd.ntmps43
    go_wp2_with fail
    go_region
    all_goals
      go_wp2_with fail
      refine bodyPost_ret (by simp [results, Tryd.results43, go_sem, *]; try rfl) rfl ?_
      exact ⟨by rw [H_hc.out, frV_n (by decide)], by repeat' (first | (with_reducible exact Below.refl _ _) | (with_reducible assumption) | (with_reducible refine bdn ?_) | (with_reducible refine Below.alloc ?_ ?_ _) | (with_reducible refine Below.drew ?_) | (with_reducible refine Below.setCell ?_ ?_ _) | omega | (simp <;> omega))⟩
  · have h1' : (d == 0) = false := by simp [h1]
    have H_hc := Lib.hid hc
    clear hc
    have H_h1 := Lib.hid h1
    clear h1
    go_enter Tryd.func43, Tryd.ntmps43
    go_wp2_with fail
    refine (fsmall_b _ _ _ h2).mono ?_
    rintro _ _ ⟨rfl, rfl⟩
    go_wp2_with fail
    go_region
    all_goals
      go_wp2_with fail
      refine bodyPost_ret (by simp [results, Tryd.results43, go_sem, *]; try rfl) rfl ?_
      exact ⟨by rw [H_hc.out, frV_n (by decide)], by repeat' (first | (with_reducible exact Below.refl _ _) | (with_reducible assumption) | (with_reducible refine bdn ?_) | (with_reducible refine Below.alloc ?_ ?_ _) | (with_reducible refine Below.drew ?_) | (with_reducible refine Below.setCell ?_ ?_ _) | omega | (simp <;> omega))⟩
  · have h1' : (d == 0) = false := by simp [h1]
    have H_hc := Lib.hid hc
    clear hc
    have H_h1 := Lib.hid h1
    clear h1
    go_enter Tryd.func43, Tryd.ntmps43
    go_wp2_with fail
    refine (fsmall_b _ _ _ h2).mono ?_
    rintro _ _ ⟨rfl, rfl⟩
    go_wp2_with fail
    refine (fsmall_b _ _ _ h3).mono ?_
    rintro _ _ ⟨rfl, rfl⟩
    go_wp2_with fail
    go_region
    all_goals
      go_wp2_with fail
      refine bodyPost_ret (by simp [results, Tryd.results43, go_sem, *]; try rfl) rfl ?_
      exact ⟨by rw [H_hc.out, frV_n (by decide)], by repeat' (first | (with_reducible exact Below.refl _ _) | (with_reducible assumption) | (with_reducible refine bdn ?_) | (with_reducible refine Below.alloc ?_ ?_ _) | (with_reducible refine Below.drew ?_) | (with_reducible refine Below.setCell ?_ ?_ _) | omega | (simp <;> omega))⟩
  · have h1' : (d == 0) = false := by simp [h1]
    have H1 := sml_b62 h2
    have H2 := sml_b62 h3
    rcases lowC_cases n d with ⟨_, hl⟩ | ⟨_, _, hl⟩ | ⟨_, _, hl⟩
    · have H_hc := Lib.hid hc
      clear hc
      have H_h1 := Lib.hid h1
      clear h1
      have H_hl := Lib.hid hl
      clear hl
      go_enter Tryd.func43, Tryd.ntmps43
      go_wp2_with fail
      refine (fsmall_b _ _ _ h2).mono ?_
      rintro _ _ ⟨rfl, rfl⟩
      go_wp2_with fail
      refine (fsmall_b _ _ _ h3).mono ?_
      rintro _ _ ⟨rfl, rfl⟩
      go_wp2_with fail
      refine call_below (w := w) (by repeat' (first | (with_reducible exact Below.refl _ _) | (with_reducible assumption) | (with_reducible refine bdn ?_) | (with_reducible refine Below.alloc ?_ ?_ _) | (with_reducible refine Below.drew ?_) | (with_reducible refine Below.setCell ?_ ?_ _) | omega | (simp <;> omega))) (fun HB => flowest_n ea _ _ _ H1 H2 H_h1.out (gkeep HB hBound rfl) H_hl.out) ?_
      intro w1 hb1 hz1 c1 d1
      have t1 := hb1.size
      have hBound_1 := gkeep hb1 hBound rfl
      have zhBound_1 := zlt hBound_1
      have xhBound_1 := zlts hBound_1
      have yhBound_1 := zne hBound_1
      try simp only [World.size_alloc] at hz1 c1 d1
      try simp only [World.size_drew] at hz1 c1 d1
      try simp only [World.size_setCell] at hz1 c1 d1
      try simp only [World.heap_drewN] at hz1 c1 d1
      have s1_0 : w.heap.size < w1.heap.size := by omega
      have o1_0 := fun j => c1 (w.heap.size) j (by omega)
      have f1_0 := fun j => d1 (w.heap.size) j (by omega)
      clear c1 d1 hz1
      go_wp2_with fail
      refine bodyPost_ret (by simp [results, Tryd.results43, go_sem, *]; try rfl) rfl ?_
      exact ⟨by rw [H_hc.out, H_hl.out, frV_n (by decide)], by repeat' (first | (with_reducible exact Below.refl _ _) | (with_reducible assumption) | (with_reducible refine bdn ?_) | (with_reducible refine Below.alloc ?_ ?_ _) | (with_reducible refine Below.drew ?_) | (with_reducible refine Below.setCell ?_ ?_ _) | omega | (simp <;> omega))⟩
    · have H_hc := Lib.hid hc
      clear hc
      have H_h1 := Lib.hid h1
      clear h1
      have H_hl := Lib.hid hl
      clear hl
      go_enter Tryd.func43, Tryd.ntmps43
      go_wp2_with fail
      refine (fsmall_b _ _ _ h2).mono ?_
      rintro _ _ ⟨rfl, rfl⟩
      go_wp2_with fail
      refine (fsmall_b _ _ _ h3).mono ?_
      rintro _ _ ⟨rfl, rfl⟩
      go_wp2_with fail
      refine call_below (w := w) (by repeat' (first | (with_reducible exact Below.refl _ _) | (with_reducible assumption) | (with_reducible refine bdn ?_) | (with_reducible refine Below.alloc ?_ ?_ _) | (with_reducible refine Below.drew ?_) | (with_reducible refine Below.setCell ?_ ?_ _) | omega | (simp <;> omega))) (fun HB => flowest_n ea _ _ _ H1 H2 H_h1.out (gkeep HB hBound rfl) H_hl.out) ?_
      intro w1 hb1 hz1 c1 d1
      have t1 := hb1.size
      have hBound_1 := gkeep hb1 hBound rfl
      have zhBound_1 := zlt hBound_1
      have xhBound_1 := zlts hBound_1
      have yhBound_1 := zne hBound_1
      try simp only [World.size_alloc] at hz1 c1 d1
      try simp only [World.size_drew] at hz1 c1 d1
      try simp only [World.size_setCell] at hz1 c1 d1
      try simp only [World.heap_drewN] at hz1 c1 d1
      have s1_0 : w.heap.size < w1.heap.size := by omega
      have o1_0 := fun j => c1 (w.heap.size) j (by omega)
      have f1_0 := fun j => d1 (w.heap.size) j (by omega)
      clear c1 d1 hz1
      go_wp2_with fail
      refine bodyPost_ret (by simp [results, Tryd.results43, go_sem, *]; try rfl) rfl ?_
      exact ⟨by rw [H_hc.out, H_hl.out, frV_n (by decide)], by repeat' (first | (with_reducible exact Below.refl _ _) | (with_reducible assumption) | (with_reducible refine bdn ?_) | (with_reducible refine Below.alloc ?_ ?_ _) | (with_reducible refine Below.drew ?_) | (with_reducible refine Below.setCell ?_ ?_ _) | omega | (simp <;> omega))⟩
    · have H_hc := Lib.hid hc
      clear hc
      have H_h1 := Lib.hid h1
      clear h1
      have H_hl := Lib.hid hl
      clear hl
      go_enter Tryd.func43, Tryd.ntmps43
      go_wp2_with fail
      refine (fsmall_b _ _ _ h2).mono ?_
      rintro _ _ ⟨rfl, rfl⟩
      go_wp2_with fail
      refine (fsmall_b _ _ _ h3).mono ?_
      rintro _ _ ⟨rfl, rfl⟩
      go_wp2_with fail
      refine call_below (w := w) (by repeat' (first | (with_reducible exact Below.refl _ _) | (with_reducible assumption) | (with_reducible refine bdn ?_) | (with_reducible refine Below.alloc ?_ ?_ _) | (with_reducible refine Below.drew ?_) | (with_reducible refine Below.setCell ?_ ?_ _) | omega | (simp <;> omega))) (fun HB => flowest_0 ea _ _ _ H1 H2 H_h1.out (gkeep HB hBound rfl) H_hl.out) ?_
      intro w1 hb1 hz1 c1 d1
      have t1 := hb1.size
      have hBound_1 := gkeep hb1 hBound rfl
      have zhBound_1 := zlt hBound_1
      have xhBound_1 := zlts hBound_1
      have yhBound_1 := zne hBound_1
      try simp only [World.size_alloc] at hz1 c1 d1
      try simp only [World.size_drew] at hz1 c1 d1
      try simp only [World.size_setCell] at hz1 c1 d1
      try simp only [World.heap_drewN] at hz1 c1 d1
      have s1_0 : w.heap.size < w1.heap.size := by omega
      have o1_0 := fun j => c1 (w.heap.size) j (by omega)
      have f1_0 := fun j => d1 (w.heap.size) j (by omega)
      clear c1 d1 hz1
      go_wp2_with fail
      refine bodyPost_ret (by simp [results, Tryd.results43, go_sem, *]; try rfl) rfl ?_
      exact ⟨by rw [H_hc.out, H_hl.out, frV_0 rfl], by repeat' (first | (with_reducible exact Below.refl _ _) | (with_reducible assumption) | (with_reducible refine bdn ?_) | (with_reducible refine Below.alloc ?_ ?_ _) | (with_reducible refine Below.drew ?_) | (with_reducible refine Below.setCell ?_ ?_ _) | omega | (simp <;> omega))⟩

/-- A fraction's text. -/
def txtF (n d : Int) : List UInt8 := if d = 1 then Lib.itoa n else Lib.itoa n ++ (47 :: Lib.itoa d)
set_option maxHeartbeats 400000 in
theorem ftext_any (n d : Int) (w : World) (hn : I64 n) (hd : I64 d) (htab : Lib.TabIs Tryd.prog w "internal/strconv.uint64pow10" .u64 Lib.pow10Tab) :
    Calls Tryd.prog 47 #[.agg #[.int .i64 n, .int .i64 d]] w fun e w' => e = .returned (.string ⟨(txtF n d).toArray⟩) ∧ Below w.heap.size w w' := by
  by_cases h1 : d = 1
  · have h1' : (d != 1) = false := by simp [h1]
    have ht : txtF n d = Lib.itoa n := if_pos h1
    have H_h1 := Lib.hid h1
    clear h1
    have H_ht := Lib.hid ht
    clear ht
    go_enter Tryd.func47, Tryd.ntmps47
    go_wp2_with fail
    refine call_below (w := w) (by repeat' (first | (with_reducible exact Below.refl _ _) | (with_reducible assumption) | (with_reducible refine bdn ?_) | (with_reducible refine Below.alloc ?_ ?_ _) | (with_reducible refine Below.drew ?_) | (with_reducible refine Below.setCell ?_ ?_ _) | omega | (simp <;> omega))) (fun HB => itoa_any n _ hn (tab_keep htab HB rfl)) ?_
    intro w1 hb1 hz1 c1 d1
    have t1 := hb1.size
    try simp only [World.size_alloc] at hz1 c1 d1
    try simp only [World.size_drew] at hz1 c1 d1
    try simp only [World.size_setCell] at hz1 c1 d1
    try simp only [World.heap_drewN] at hz1 c1 d1
    have s1_0 : w.heap.size < w1.heap.size := by omega
    have o1_0 := fun j => c1 (w.heap.size) j (by omega)
    have f1_0 := fun j => d1 (w.heap.size) j (by omega)
    clear c1 d1 hz1
    go_wp2_with fail
    go_returns
    exact ⟨by rw [H_ht.out]; rfl, by repeat' (first | (with_reducible exact Below.refl _ _) | (with_reducible assumption) | (with_reducible refine bdn ?_) | (with_reducible refine Below.alloc ?_ ?_ _) | (with_reducible refine Below.drew ?_) | (with_reducible refine Below.setCell ?_ ?_ _) | omega | (simp <;> omega))⟩
  · have h1' : (d != 1) = true := by simp [h1]
    have l1 := itoa_len hn
    have l2 := itoa_len hd
    have k1 : 1 + (Lib.itoa d).length ≤ 9223372036854775807 := by omega
    have k2 : (Lib.itoa n).length + (1 + (Lib.itoa d).length) ≤ 9223372036854775807 := by omega
    have k3 : (Lib.itoa n).length + ((Lib.itoa d).length + 1) ≤ 9223372036854775807 := by omega
    have k4 : (Lib.itoa d).length + 1 ≤ 9223372036854775807 := by omega
    clear l1 l2
    have ht : txtF n d = Lib.itoa n ++ (47 :: Lib.itoa d) := if_neg h1
    have H_h1 := Lib.hid h1
    clear h1
    have H_ht := Lib.hid ht
    clear ht
    go_enter Tryd.func47, Tryd.ntmps47
    go_wp2_with fail
    refine call_below (w := w) (by repeat' (first | (with_reducible exact Below.refl _ _) | (with_reducible assumption) | (with_reducible refine bdn ?_) | (with_reducible refine Below.alloc ?_ ?_ _) | (with_reducible refine Below.drew ?_) | (with_reducible refine Below.setCell ?_ ?_ _) | omega | (simp <;> omega))) (fun HB => itoa_any n _ hn (tab_keep htab HB rfl)) ?_
    intro w1 hb1 hz1 c1 d1
    have t1 := hb1.size
    try simp only [World.size_alloc] at hz1 c1 d1
    try simp only [World.size_drew] at hz1 c1 d1
    try simp only [World.size_setCell] at hz1 c1 d1
    try simp only [World.heap_drewN] at hz1 c1 d1
    have s1_0 : w.heap.size < w1.heap.size := by omega
    have o1_0 := fun j => c1 (w.heap.size) j (by omega)
    have f1_0 := fun j => d1 (w.heap.size) j (by omega)
    clear c1 d1 hz1
    go_wp2_with fail
    refine call_below (w := w) (by repeat' (first | (with_reducible exact Below.refl _ _) | (with_reducible assumption) | (with_reducible refine bdn ?_) | (with_reducible refine Below.alloc ?_ ?_ _) | (with_reducible refine Below.drew ?_) | (with_reducible refine Below.setCell ?_ ?_ _) | omega | (simp <;> omega))) (fun HB => itoa_any d _ hd (tab_keep htab HB rfl)) ?_
    intro w2 hb2 hz2 c2 d2
    have t2 := hb2.size
    try simp only [World.size_alloc] at hz2 c2 d2
    try simp only [World.size_drew] at hz2 c2 d2
    try simp only [World.size_setCell] at hz2 c2 d2
    try simp only [World.heap_drewN] at hz2 c2 d2
    have s2_0 : w.heap.size < w2.heap.size := by omega
    have o2_0 := fun j => c2 (w.heap.size) j (by omega)
    have f2_0 := fun j => d2 (w.heap.size) j (by omega)
    clear c2 d2 hz2
    go_wp2_with fail
    go_wp2_with fail
    go_returns
    exact ⟨by rw [H_ht.out, ← cat_slash]; rfl, by repeat' (first | (with_reducible exact Below.refl _ _) | (with_reducible assumption) | (with_reducible refine bdn ?_) | (with_reducible refine Below.alloc ?_ ?_ _) | (with_reducible refine Below.drew ?_) | (with_reducible refine Below.setCell ?_ ?_ _) | omega | (simp <;> omega))⟩

end Go.Proofs.YthijgncjaophjaaDoor
