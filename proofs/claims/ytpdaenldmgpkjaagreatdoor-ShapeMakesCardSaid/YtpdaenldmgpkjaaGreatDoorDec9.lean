/-
  Walks over package frac: Read.
-/
import Derived.Test.YtpdaenldmgpkjaaGreatDoorDec8
import Derived.Test.YtpdaenldmgpkjaaGreatDoorDec3
namespace Lead
open Go Go.RowKit
theorem numS_minus {t : List UInt8} (h : t.head? = some 45) : numOf t 10 = -1 :=
  numOf_bad (c := 45) (by cases t with
    | nil => cases h
    | cons a r => have : a = 45 := by simpa using h
                  rw [this]; simp) (by decide)
theorem rdf_cases (l : List UInt8) : (numS (cut1 47 l).1 = none ∧ rdP l = none) ∨ ∃ n, numS (cut1 47 l).1 = some n ∧
    (((cut1 47 l).2.2 = false ∧ rdP l = some (n, 1)) ∨ ((cut1 47 l).2.2 = true ∧ numS (cut1 47 l).2.1 = none ∧ rdP l = none) ∨
     ((cut1 47 l).2.2 = true ∧ numS (cut1 47 l).2.1 = some 1 ∧ rdP l = none) ∨
     (∃ d, (cut1 47 l).2.2 = true ∧ numS (cut1 47 l).2.1 = some d ∧ d ≠ 1 ∧ (cut1 47 l).2.1.head? = some 45 ∧ rdP l = none) ∨
     (∃ d, (cut1 47 l).2.2 = true ∧ numS (cut1 47 l).2.1 = some d ∧ d ≠ 1 ∧ (cut1 47 l).2.1.head? ≠ some 45 ∧ (cut1 47 l).2.1 ≠ [] ∧ rdP l = some (n, d))) := by
  unfold rdP
  cases hn : numS (cut1 47 l).1 with
  | none => exact .inl ⟨rfl, rfl⟩
  | some n =>
    right
    refine ⟨n, rfl, ?_⟩
    by_cases hi : (cut1 47 l).2.2 = true
    · right
      simp only [if_pos hi]
      generalize (cut1 47 l).2.1 = t
      by_cases hm : t.head? = some 45
      · have hb := numS_minus hm
        rw [hb]
        have hr : (if (-1 : Int) < 0 ∨ (-1 : Int) = 1 then (none : Option (Int × Int)) else some (n, -1)) = none := if_pos (by decide)
        rw [hr]
        cases ht : numS t with
        | none => exact .inl ⟨hi, rfl, rfl⟩
        | some d =>
          by_cases h1 : d = 1
          · subst h1; exact .inr (.inl ⟨hi, rfl, rfl⟩)
          · exact .inr (.inr (.inl ⟨d, hi, rfl, h1, hm, rfl⟩))
      · have e : numS t = if 0 ≤ numOf t 10 then some (numOf t 10) else none := if_neg hm
        rw [e]
        by_cases h0 : 0 ≤ numOf t 10
        · rw [if_pos h0]
          by_cases h1 : numOf t 10 = 1
          · rw [h1, if_pos (.inr rfl)]; exact .inr (.inl ⟨hi, rfl, rfl⟩)
          · rw [if_neg (by omega)]
            refine .inr (.inr (.inr ⟨_, hi, rfl, h1, hm, ?_, rfl⟩))
            intro e; rw [e] at h0; exact absurd h0 (by decide)
        · rw [if_neg h0, if_pos (.inl (by omega))]; exact .inl ⟨hi, rfl, rfl⟩
    · left
      exact ⟨Bool.eq_false_iff.2 hi, if_neg hi⟩
theorem cut1_len (y : UInt8) (l : List UInt8) : (cut1 y l).1.length ≤ l.length ∧ (cut1 y l).2.1.length ≤ l.length := by
  induction l with
  | nil => exact ⟨Nat.le_refl _, Nat.le_refl _⟩
  | cons c l ih =>
    by_cases h : c = y
    · simp [cut1, h]
    · simp only [cut1, if_neg h, List.length_cons]; omega
theorem size_list (s : ByteArray) : s.data.toList.length = s.size := by simp
end Lead
namespace Go.Proofs.YtpdaenldmgpkjaaGreatDoor
open Go.RowKit Lead

theorem fcut_any (s : ByteArray) (w : World) (x y : ByteArray) (b : Bool) (hs : s.size ≤ 100000) (hL : Libs w) (hx : (⟨(cut1 47 s.data.toList).1.toArray⟩ : ByteArray) = x) (hy : (⟨(cut1 47 s.data.toList).2.1.toArray⟩ : ByteArray) = y) (hb : (cut1 47 s.data.toList).2.2 = b) :
    Calls Tryz.prog 49 #[.string s, .string ⟨#[47]⟩] w fun e w' => e = .returned (.tuple #[.string x, .string y, .bool b]) ∧ Below w.heap.size w w' := by
  obtain ⟨m, hm⟩ := hL.len
  refine (Tryz.strings_Cut s ⟨#[47]⟩ m w (by omega) hm).mono ?_
  rintro e w' ⟨h1, n, rfl⟩
  refine ⟨?_, bdn (Below.refl _ _)⟩
  rw [h1, show (⟨#[47]⟩ : ByteArray).data.toList = [47] from rfl, cut_first, hx, hy, hb]

set_option maxHeartbeats 4000000 in
theorem fread_any (ea : Nat → Addr) (s : ByteArray) (w : World) (hs : s.size ≤ 100000) (hL : Libs w) (hText : w.cell? ⟨1, 0, none⟩ = some (.iface 308 (.pointer (some (ea 1))))) (hShape : w.cell? ⟨2, 0, none⟩ = some (.iface 308 (.pointer (some (ea 3))))) (hBound : w.cell? ⟨0, 0, none⟩ = some (.iface 308 (.pointer (some (ea 2))))) :
    Calls Tryz.prog 50 #[.string s] w fun e w' => e = .returned (frV 308 ea (rdC s.data.toList) (rdN s.data.toList) (rdD s.data.toList)) ∧ Below w.heap.size w w' := by
  have zhText := zlt hText
  have xhText := zlts hText
  have yhText := zne hText
  have zhShape := zlt hShape
  have xhShape := zlts hShape
  have yhShape := zne hShape
  have zhBound := zlt hBound
  have xhBound := zlts hBound
  have yhBound := zne hBound
  have hc := rdf_cases s.data.toList
  obtain ⟨x, hx⟩ : ∃ x : ByteArray, (⟨(cut1 47 s.data.toList).1.toArray⟩ : ByteArray) = x := ⟨_, rfl⟩
  obtain ⟨y, hy⟩ : ∃ x : ByteArray, (⟨(cut1 47 s.data.toList).2.1.toArray⟩ : ByteArray) = x := ⟨_, rfl⟩
  have hxl : x.data.toList = (cut1 47 s.data.toList).1 := by rw [← hx]
  have hyl : y.data.toList = (cut1 47 s.data.toList).2.1 := by rw [← hy]
  obtain ⟨hl1, hl2⟩ := cut1_len 47 s.data.toList
  have hxs : x.size ≤ 100000 := by rw [← size_list, hxl]; rw [size_list] at hl1; omega
  have hys : y.size ≤ 100000 := by rw [← size_list, hyl]; rw [size_list] at hl2; omega
  clear hl1 hl2
  rw [← hxl, ← hyl] at hc
  rcases hc with ⟨hn, hP⟩ | ⟨n, hn, ⟨hb, hP⟩ | ⟨hb, hd, hP⟩ | ⟨hb, hd, hP⟩ | ⟨d, hb, hd, hd1, hm, hP⟩ | ⟨d, hb, hd, hd1, hm, hne, hP⟩⟩
  · obtain ⟨b, hb⟩ : ∃ b, (cut1 47 s.data.toList).2.2 = b := ⟨_, rfl⟩
    have H_hL := Lib.hid hL
    clear hL
    have H_hn := Lib.hid hn
    clear hn
    have H_hP := Lib.hid hP
    clear hP
    have H_hx := Lib.hid hx
    clear hx
    have H_hy := Lib.hid hy
    clear hy
    have H_hxl := Lib.hid hxl
    clear hxl
    have H_hyl := Lib.hid hyl
    clear hyl
    have H_hb := Lib.hid hb
    clear hb
    go_enter Tryz.func50, Tryz.ntmps50
    go_wp2_with fail
    refine call_bel (w := w) (by repeat' (first | (with_reducible first | exact bwR _ _ | assumption | refine bdn ?_ | refine bwA ?_ ?_ _ | refine bwD ?_ | refine bwS ?_ ?_ _) | omega | (simp <;> omega))) (fun HB => fcut_any s _ x y b hs (H_hL.out.keep HB rfl) H_hx.out H_hy.out H_hb.out) ?_
    intro w1 hb1 hz1 c1 d1 hW1
    have t1 := hb1.size
    have hText_1 := gkeep hb1 hText rfl
    have zhText_1 := zlt hText_1
    have xhText_1 := zlts hText_1
    have yhText_1 := zne hText_1
    try simp only [szA] at hz1 c1 d1
    try simp only [szD] at hz1 c1 d1
    try simp only [szS] at hz1 c1 d1
    try simp only [World.heap_drewN] at hz1 c1 d1
    try simp only [szA] at hz1 c1 d1
    try simp only [szD] at hz1 c1 d1
    try simp only [szS] at hz1 c1 d1
    have s1_0 : w.heap.size < w1.heap.size := by omega
    have o1_0 := fun j => c1 (w.heap.size) j (by omega)
    have f1_0 := fun j => d1 (w.heap.size) j (by omega)
    clear c1 d1 hz1 hW1
    go_wp2_with fail
    refine call_nf (w := w) (by repeat' (first | (with_reducible first | exact bwR _ _ | assumption | refine bdn ?_ | refine bwA ?_ ?_ _ | refine bwD ?_ | refine bwS ?_ ?_ _) | omega | (simp <;> omega))) (fun HB => fnumber_no x _ hxs (H_hL.out.keep HB rfl) H_hn.out) ?_
    intro v2 w2 hb2 hz2 c2 d2 hW2
    have t2 := hb2.size
    have hText_2 := gkeep hb2 hText rfl
    have zhText_2 := zlt hText_2
    have xhText_2 := zlts hText_2
    have yhText_2 := zne hText_2
    have e2_1 : Below w1.heap.size w1 w2 := below_via (by repeat' (first | (with_reducible first | exact bwR _ _ | assumption | refine bdn ?_ | refine bwA ?_ ?_ _ | refine bwD ?_ | refine bwS ?_ ?_ _) | omega | (simp <;> omega))) hW2
    have te2_1 := e2_1.size
    try simp only [szA] at hz2 c2 d2
    try simp only [szD] at hz2 c2 d2
    try simp only [szS] at hz2 c2 d2
    try simp only [World.heap_drewN] at hz2 c2 d2
    try simp only [szA] at hz2 c2 d2
    try simp only [szD] at hz2 c2 d2
    try simp only [szS] at hz2 c2 d2
    have s2_0 : w.heap.size < w2.heap.size := by omega
    have o2_0 := fun j => c2 (w.heap.size) j (by omega)
    have f2_0 := fun j => d2 (w.heap.size) j (by omega)
    have s2_1 : w1.heap.size < w2.heap.size := by omega
    have o2_1 := fun j => c2 (w1.heap.size) j (by omega)
    have f2_1 := fun j => d2 (w1.heap.size) j (by omega)
    clear c2 d2 hz2 hW2
    go_wp2_with fail
    go_region
    all_goals
      go_wp2_with fail
      refine bodyPost_ret (by simp [results, Tryz.results50, go_sem, *]; try rfl) rfl ?_
      exact ⟨by rw [rd_none H_hP.out, frV_n (by decide)], by repeat' (first | (with_reducible first | exact bwR _ _ | assumption | refine bdn ?_ | refine bwA ?_ ?_ _ | refine bwD ?_ | refine bwS ?_ ?_ _) | omega | (simp <;> omega))⟩
  · have hI := (numS_itoa hn).2.2
    have hIn : I64 n := by unfold I64; omega
    have hR := rd_some hP
    rcases Nat.eq_zero_or_pos (chk n 1) with hc | hc
    · have H_hL := Lib.hid hL
      clear hL
      have H_hn := Lib.hid hn
      clear hn
      have H_hP := Lib.hid hP
      clear hP
      have H_hx := Lib.hid hx
      clear hx
      have H_hy := Lib.hid hy
      clear hy
      have H_hxl := Lib.hid hxl
      clear hxl
      have H_hyl := Lib.hid hyl
      clear hyl
      have H_hb := Lib.hid hb
      clear hb
      have H_hR := Lib.hid hR
      clear hR
      have H_hc := Lib.hid hc
      clear hc
      have H_hI := Lib.hid hI
      clear hI
      go_enter Tryz.func50, Tryz.ntmps50
      go_wp2_with fail
      refine call_bel (w := w) (by repeat' (first | (with_reducible first | exact bwR _ _ | assumption | refine bdn ?_ | refine bwA ?_ ?_ _ | refine bwD ?_ | refine bwS ?_ ?_ _) | omega | (simp <;> omega))) (fun HB => fcut_any s _ x y false hs (H_hL.out.keep HB rfl) H_hx.out H_hy.out H_hb.out) ?_
      intro w1 hb1 hz1 c1 d1 hW1
      have t1 := hb1.size
      have hText_1 := gkeep hb1 hText rfl
      have zhText_1 := zlt hText_1
      have xhText_1 := zlts hText_1
      have yhText_1 := zne hText_1
      try simp only [szA] at hz1 c1 d1
      try simp only [szD] at hz1 c1 d1
      try simp only [szS] at hz1 c1 d1
      try simp only [World.heap_drewN] at hz1 c1 d1
      try simp only [szA] at hz1 c1 d1
      try simp only [szD] at hz1 c1 d1
      try simp only [szS] at hz1 c1 d1
      have s1_0 : w.heap.size < w1.heap.size := by omega
      have o1_0 := fun j => c1 (w.heap.size) j (by omega)
      have f1_0 := fun j => d1 (w.heap.size) j (by omega)
      clear c1 d1 hz1 hW1
      go_wp2_with fail
      refine call_bel (w := w) (by repeat' (first | (with_reducible first | exact bwR _ _ | assumption | refine bdn ?_ | refine bwA ?_ ?_ _ | refine bwD ?_ | refine bwS ?_ ?_ _) | omega | (simp <;> omega))) (fun HB => fnumber_yes x n _ hxs (H_hL.out.keep HB rfl) H_hn.out) ?_
      intro w2 hb2 hz2 c2 d2 hW2
      have t2 := hb2.size
      have hText_2 := gkeep hb2 hText rfl
      have zhText_2 := zlt hText_2
      have xhText_2 := zlts hText_2
      have yhText_2 := zne hText_2
      have e2_1 : Below w1.heap.size w1 w2 := below_via (by repeat' (first | (with_reducible first | exact bwR _ _ | assumption | refine bdn ?_ | refine bwA ?_ ?_ _ | refine bwD ?_ | refine bwS ?_ ?_ _) | omega | (simp <;> omega))) hW2
      have te2_1 := e2_1.size
      try simp only [szA] at hz2 c2 d2
      try simp only [szD] at hz2 c2 d2
      try simp only [szS] at hz2 c2 d2
      try simp only [World.heap_drewN] at hz2 c2 d2
      try simp only [szA] at hz2 c2 d2
      try simp only [szD] at hz2 c2 d2
      try simp only [szS] at hz2 c2 d2
      have s2_0 : w.heap.size < w2.heap.size := by omega
      have o2_0 := fun j => c2 (w.heap.size) j (by omega)
      have f2_0 := fun j => d2 (w.heap.size) j (by omega)
      have s2_1 : w1.heap.size < w2.heap.size := by omega
      have o2_1 := fun j => c2 (w1.heap.size) j (by omega)
      have f2_1 := fun j => d2 (w1.heap.size) j (by omega)
      clear c2 d2 hz2 hW2
      go_wp2_with fail
      refine call_bel (w := w) (by repeat' (first | (with_reducible first | exact bwR _ _ | assumption | refine bdn ?_ | refine bwA ?_ ?_ _ | refine bwD ?_ | refine bwS ?_ ?_ _) | omega | (simp <;> omega))) (fun HB => fcheck_0 ea n 1 _ hIn (by unfold I64; decide) (gkeep HB hShape rfl) (gkeep HB hBound rfl) H_hc.out) ?_
      intro w4 hb4 hz4 c4 d4 hW4
      have t4 := hb4.size
      have e4_1 : Below w1.heap.size w1 w4 := below_via (by repeat' (first | (with_reducible first | exact bwR _ _ | assumption | refine bdn ?_ | refine bwA ?_ ?_ _ | refine bwD ?_ | refine bwS ?_ ?_ _) | omega | (simp <;> omega))) hW4
      have te4_1 := e4_1.size
      try simp only [szA] at hz4 c4 d4
      try simp only [szD] at hz4 c4 d4
      try simp only [szS] at hz4 c4 d4
      try simp only [World.heap_drewN] at hz4 c4 d4
      try simp only [szA] at hz4 c4 d4
      try simp only [szD] at hz4 c4 d4
      try simp only [szS] at hz4 c4 d4
      have s4_0 : w.heap.size < w4.heap.size := by omega
      have o4_0 := fun j => c4 (w.heap.size) j (by omega)
      have f4_0 := fun j => d4 (w.heap.size) j (by omega)
      have s4_1 : w1.heap.size < w4.heap.size := by omega
      have o4_1 := fun j => c4 (w1.heap.size) j (by omega)
      have f4_1 := fun j => d4 (w1.heap.size) j (by omega)
      clear c4 d4 hz4 hW4
      go_wp2_with fail
      refine bodyPost_ret (by simp [results, Tryz.results50, go_sem, *]; try rfl) rfl ?_
      exact ⟨by rw [H_hR.out.1, H_hR.out.2.1, H_hR.out.2.2, frV_0 H_hc.out], by repeat' (first | (with_reducible first | exact bwR _ _ | assumption | refine bdn ?_ | refine bwA ?_ ?_ _ | refine bwD ?_ | refine bwS ?_ ?_ _) | omega | (simp <;> omega))⟩
    · have hcn : chk n 1 ≠ 0 := by omega
      have H_hL := Lib.hid hL
      clear hL
      have H_hn := Lib.hid hn
      clear hn
      have H_hP := Lib.hid hP
      clear hP
      have H_hx := Lib.hid hx
      clear hx
      have H_hy := Lib.hid hy
      clear hy
      have H_hxl := Lib.hid hxl
      clear hxl
      have H_hyl := Lib.hid hyl
      clear hyl
      have H_hb := Lib.hid hb
      clear hb
      have H_hR := Lib.hid hR
      clear hR
      have H_hcn := Lib.hid hcn
      clear hcn
      have H_hI := Lib.hid hI
      clear hI
      go_enter Tryz.func50, Tryz.ntmps50
      go_wp2_with fail
      refine call_bel (w := w) (by repeat' (first | (with_reducible first | exact bwR _ _ | assumption | refine bdn ?_ | refine bwA ?_ ?_ _ | refine bwD ?_ | refine bwS ?_ ?_ _) | omega | (simp <;> omega))) (fun HB => fcut_any s _ x y false hs (H_hL.out.keep HB rfl) H_hx.out H_hy.out H_hb.out) ?_
      intro w1 hb1 hz1 c1 d1 hW1
      have t1 := hb1.size
      have hText_1 := gkeep hb1 hText rfl
      have zhText_1 := zlt hText_1
      have xhText_1 := zlts hText_1
      have yhText_1 := zne hText_1
      try simp only [szA] at hz1 c1 d1
      try simp only [szD] at hz1 c1 d1
      try simp only [szS] at hz1 c1 d1
      try simp only [World.heap_drewN] at hz1 c1 d1
      try simp only [szA] at hz1 c1 d1
      try simp only [szD] at hz1 c1 d1
      try simp only [szS] at hz1 c1 d1
      have s1_0 : w.heap.size < w1.heap.size := by omega
      have o1_0 := fun j => c1 (w.heap.size) j (by omega)
      have f1_0 := fun j => d1 (w.heap.size) j (by omega)
      clear c1 d1 hz1 hW1
      go_wp2_with fail
      refine call_bel (w := w) (by repeat' (first | (with_reducible first | exact bwR _ _ | assumption | refine bdn ?_ | refine bwA ?_ ?_ _ | refine bwD ?_ | refine bwS ?_ ?_ _) | omega | (simp <;> omega))) (fun HB => fnumber_yes x n _ hxs (H_hL.out.keep HB rfl) H_hn.out) ?_
      intro w2 hb2 hz2 c2 d2 hW2
      have t2 := hb2.size
      have hText_2 := gkeep hb2 hText rfl
      have zhText_2 := zlt hText_2
      have xhText_2 := zlts hText_2
      have yhText_2 := zne hText_2
      have e2_1 : Below w1.heap.size w1 w2 := below_via (by repeat' (first | (with_reducible first | exact bwR _ _ | assumption | refine bdn ?_ | refine bwA ?_ ?_ _ | refine bwD ?_ | refine bwS ?_ ?_ _) | omega | (simp <;> omega))) hW2
      have te2_1 := e2_1.size
      try simp only [szA] at hz2 c2 d2
      try simp only [szD] at hz2 c2 d2
      try simp only [szS] at hz2 c2 d2
      try simp only [World.heap_drewN] at hz2 c2 d2
      try simp only [szA] at hz2 c2 d2
      try simp only [szD] at hz2 c2 d2
      try simp only [szS] at hz2 c2 d2
      have s2_0 : w.heap.size < w2.heap.size := by omega
      have o2_0 := fun j => c2 (w.heap.size) j (by omega)
      have f2_0 := fun j => d2 (w.heap.size) j (by omega)
      have s2_1 : w1.heap.size < w2.heap.size := by omega
      have o2_1 := fun j => c2 (w1.heap.size) j (by omega)
      have f2_1 := fun j => d2 (w1.heap.size) j (by omega)
      clear c2 d2 hz2 hW2
      go_wp2_with fail
      refine call_bel (w := w) (by repeat' (first | (with_reducible first | exact bwR _ _ | assumption | refine bdn ?_ | refine bwA ?_ ?_ _ | refine bwD ?_ | refine bwS ?_ ?_ _) | omega | (simp <;> omega))) (fun HB => fcheck_n ea n 1 _ hIn (by unfold I64; decide) (gkeep HB hShape rfl) (gkeep HB hBound rfl) H_hcn.out) ?_
      intro w4 hb4 hz4 c4 d4 hW4
      have t4 := hb4.size
      have e4_1 : Below w1.heap.size w1 w4 := below_via (by repeat' (first | (with_reducible first | exact bwR _ _ | assumption | refine bdn ?_ | refine bwA ?_ ?_ _ | refine bwD ?_ | refine bwS ?_ ?_ _) | omega | (simp <;> omega))) hW4
      have te4_1 := e4_1.size
      try simp only [szA] at hz4 c4 d4
      try simp only [szD] at hz4 c4 d4
      try simp only [szS] at hz4 c4 d4
      try simp only [World.heap_drewN] at hz4 c4 d4
      try simp only [szA] at hz4 c4 d4
      try simp only [szD] at hz4 c4 d4
      try simp only [szS] at hz4 c4 d4
      have s4_0 : w.heap.size < w4.heap.size := by omega
      have o4_0 := fun j => c4 (w.heap.size) j (by omega)
      have f4_0 := fun j => d4 (w.heap.size) j (by omega)
      have s4_1 : w1.heap.size < w4.heap.size := by omega
      have o4_1 := fun j => c4 (w1.heap.size) j (by omega)
      have f4_1 := fun j => d4 (w1.heap.size) j (by omega)
      clear c4 d4 hz4 hW4
      go_wp2_with fail
      refine bodyPost_ret (by simp [results, Tryz.results50, go_sem, *]; try rfl) rfl ?_
      exact ⟨by rw [H_hR.out.1, H_hR.out.2.1, H_hR.out.2.2, frV_n H_hcn.out], by repeat' (first | (with_reducible first | exact bwR _ _ | assumption | refine bdn ?_ | refine bwA ?_ ?_ _ | refine bwD ?_ | refine bwS ?_ ?_ _) | omega | (simp <;> omega))⟩
  · have H_hL := Lib.hid hL
    clear hL
    have H_hn := Lib.hid hn
    clear hn
    have H_hP := Lib.hid hP
    clear hP
    have H_hx := Lib.hid hx
    clear hx
    have H_hy := Lib.hid hy
    clear hy
    have H_hxl := Lib.hid hxl
    clear hxl
    have H_hyl := Lib.hid hyl
    clear hyl
    have H_hb := Lib.hid hb
    clear hb
    have H_hd := Lib.hid hd
    clear hd
    go_enter Tryz.func50, Tryz.ntmps50
    go_wp2_with fail
    refine call_bel (w := w) (by repeat' (first | (with_reducible first | exact bwR _ _ | assumption | refine bdn ?_ | refine bwA ?_ ?_ _ | refine bwD ?_ | refine bwS ?_ ?_ _) | omega | (simp <;> omega))) (fun HB => fcut_any s _ x y true hs (H_hL.out.keep HB rfl) H_hx.out H_hy.out H_hb.out) ?_
    intro w1 hb1 hz1 c1 d1 hW1
    have t1 := hb1.size
    have hText_1 := gkeep hb1 hText rfl
    have zhText_1 := zlt hText_1
    have xhText_1 := zlts hText_1
    have yhText_1 := zne hText_1
    try simp only [szA] at hz1 c1 d1
    try simp only [szD] at hz1 c1 d1
    try simp only [szS] at hz1 c1 d1
    try simp only [World.heap_drewN] at hz1 c1 d1
    try simp only [szA] at hz1 c1 d1
    try simp only [szD] at hz1 c1 d1
    try simp only [szS] at hz1 c1 d1
    have s1_0 : w.heap.size < w1.heap.size := by omega
    have o1_0 := fun j => c1 (w.heap.size) j (by omega)
    have f1_0 := fun j => d1 (w.heap.size) j (by omega)
    clear c1 d1 hz1 hW1
    go_wp2_with fail
    refine call_bel (w := w) (by repeat' (first | (with_reducible first | exact bwR _ _ | assumption | refine bdn ?_ | refine bwA ?_ ?_ _ | refine bwD ?_ | refine bwS ?_ ?_ _) | omega | (simp <;> omega))) (fun HB => fnumber_yes x n _ hxs (H_hL.out.keep HB rfl) H_hn.out) ?_
    intro w2 hb2 hz2 c2 d2 hW2
    have t2 := hb2.size
    have hText_2 := gkeep hb2 hText rfl
    have zhText_2 := zlt hText_2
    have xhText_2 := zlts hText_2
    have yhText_2 := zne hText_2
    have e2_1 : Below w1.heap.size w1 w2 := below_via (by repeat' (first | (with_reducible first | exact bwR _ _ | assumption | refine bdn ?_ | refine bwA ?_ ?_ _ | refine bwD ?_ | refine bwS ?_ ?_ _) | omega | (simp <;> omega))) hW2
    have te2_1 := e2_1.size
    try simp only [szA] at hz2 c2 d2
    try simp only [szD] at hz2 c2 d2
    try simp only [szS] at hz2 c2 d2
    try simp only [World.heap_drewN] at hz2 c2 d2
    try simp only [szA] at hz2 c2 d2
    try simp only [szD] at hz2 c2 d2
    try simp only [szS] at hz2 c2 d2
    have s2_0 : w.heap.size < w2.heap.size := by omega
    have o2_0 := fun j => c2 (w.heap.size) j (by omega)
    have f2_0 := fun j => d2 (w.heap.size) j (by omega)
    have s2_1 : w1.heap.size < w2.heap.size := by omega
    have o2_1 := fun j => c2 (w1.heap.size) j (by omega)
    have f2_1 := fun j => d2 (w1.heap.size) j (by omega)
    clear c2 d2 hz2 hW2
    go_wp2_with fail
    refine call_nf (w := w) (by repeat' (first | (with_reducible first | exact bwR _ _ | assumption | refine bdn ?_ | refine bwA ?_ ?_ _ | refine bwD ?_ | refine bwS ?_ ?_ _) | omega | (simp <;> omega))) (fun HB => fnumber_no y _ hys (H_hL.out.keep HB rfl) H_hd.out) ?_
    intro v3 w3 hb3 hz3 c3 d3 hW3
    have t3 := hb3.size
    have hText_3 := gkeep hb3 hText rfl
    have zhText_3 := zlt hText_3
    have xhText_3 := zlts hText_3
    have yhText_3 := zne hText_3
    have e3_1 : Below w1.heap.size w1 w3 := below_via (by repeat' (first | (with_reducible first | exact bwR _ _ | assumption | refine bdn ?_ | refine bwA ?_ ?_ _ | refine bwD ?_ | refine bwS ?_ ?_ _) | omega | (simp <;> omega))) hW3
    have te3_1 := e3_1.size
    try simp only [szA] at hz3 c3 d3
    try simp only [szD] at hz3 c3 d3
    try simp only [szS] at hz3 c3 d3
    try simp only [World.heap_drewN] at hz3 c3 d3
    try simp only [szA] at hz3 c3 d3
    try simp only [szD] at hz3 c3 d3
    try simp only [szS] at hz3 c3 d3
    have s3_0 : w.heap.size < w3.heap.size := by omega
    have o3_0 := fun j => c3 (w.heap.size) j (by omega)
    have f3_0 := fun j => d3 (w.heap.size) j (by omega)
    have s3_1 : w1.heap.size < w3.heap.size := by omega
    have o3_1 := fun j => c3 (w1.heap.size) j (by omega)
    have f3_1 := fun j => d3 (w1.heap.size) j (by omega)
    clear c3 d3 hz3 hW3
    go_wp2_with fail
    go_region
    all_goals
      go_wp2_with fail
      refine bodyPost_ret (by simp [results, Tryz.results50, go_sem, *]; try rfl) rfl ?_
      exact ⟨by rw [rd_none H_hP.out, frV_n (by decide)], by repeat' (first | (with_reducible first | exact bwR _ _ | assumption | refine bdn ?_ | refine bwA ?_ ?_ _ | refine bwD ?_ | refine bwS ?_ ?_ _) | omega | (simp <;> omega))⟩
  · have H_hL := Lib.hid hL
    clear hL
    have H_hn := Lib.hid hn
    clear hn
    have H_hP := Lib.hid hP
    clear hP
    have H_hx := Lib.hid hx
    clear hx
    have H_hy := Lib.hid hy
    clear hy
    have H_hxl := Lib.hid hxl
    clear hxl
    have H_hyl := Lib.hid hyl
    clear hyl
    have H_hb := Lib.hid hb
    clear hb
    have H_hd := Lib.hid hd
    clear hd
    go_enter Tryz.func50, Tryz.ntmps50
    go_wp2_with fail
    refine call_bel (w := w) (by repeat' (first | (with_reducible first | exact bwR _ _ | assumption | refine bdn ?_ | refine bwA ?_ ?_ _ | refine bwD ?_ | refine bwS ?_ ?_ _) | omega | (simp <;> omega))) (fun HB => fcut_any s _ x y true hs (H_hL.out.keep HB rfl) H_hx.out H_hy.out H_hb.out) ?_
    intro w1 hb1 hz1 c1 d1 hW1
    have t1 := hb1.size
    have hText_1 := gkeep hb1 hText rfl
    have zhText_1 := zlt hText_1
    have xhText_1 := zlts hText_1
    have yhText_1 := zne hText_1
    try simp only [szA] at hz1 c1 d1
    try simp only [szD] at hz1 c1 d1
    try simp only [szS] at hz1 c1 d1
    try simp only [World.heap_drewN] at hz1 c1 d1
    try simp only [szA] at hz1 c1 d1
    try simp only [szD] at hz1 c1 d1
    try simp only [szS] at hz1 c1 d1
    have s1_0 : w.heap.size < w1.heap.size := by omega
    have o1_0 := fun j => c1 (w.heap.size) j (by omega)
    have f1_0 := fun j => d1 (w.heap.size) j (by omega)
    clear c1 d1 hz1 hW1
    go_wp2_with fail
    refine call_bel (w := w) (by repeat' (first | (with_reducible first | exact bwR _ _ | assumption | refine bdn ?_ | refine bwA ?_ ?_ _ | refine bwD ?_ | refine bwS ?_ ?_ _) | omega | (simp <;> omega))) (fun HB => fnumber_yes x n _ hxs (H_hL.out.keep HB rfl) H_hn.out) ?_
    intro w2 hb2 hz2 c2 d2 hW2
    have t2 := hb2.size
    have hText_2 := gkeep hb2 hText rfl
    have zhText_2 := zlt hText_2
    have xhText_2 := zlts hText_2
    have yhText_2 := zne hText_2
    have e2_1 : Below w1.heap.size w1 w2 := below_via (by repeat' (first | (with_reducible first | exact bwR _ _ | assumption | refine bdn ?_ | refine bwA ?_ ?_ _ | refine bwD ?_ | refine bwS ?_ ?_ _) | omega | (simp <;> omega))) hW2
    have te2_1 := e2_1.size
    try simp only [szA] at hz2 c2 d2
    try simp only [szD] at hz2 c2 d2
    try simp only [szS] at hz2 c2 d2
    try simp only [World.heap_drewN] at hz2 c2 d2
    try simp only [szA] at hz2 c2 d2
    try simp only [szD] at hz2 c2 d2
    try simp only [szS] at hz2 c2 d2
    have s2_0 : w.heap.size < w2.heap.size := by omega
    have o2_0 := fun j => c2 (w.heap.size) j (by omega)
    have f2_0 := fun j => d2 (w.heap.size) j (by omega)
    have s2_1 : w1.heap.size < w2.heap.size := by omega
    have o2_1 := fun j => c2 (w1.heap.size) j (by omega)
    have f2_1 := fun j => d2 (w1.heap.size) j (by omega)
    clear c2 d2 hz2 hW2
    go_wp2_with fail
    refine call_bel (w := w) (by repeat' (first | (with_reducible first | exact bwR _ _ | assumption | refine bdn ?_ | refine bwA ?_ ?_ _ | refine bwD ?_ | refine bwS ?_ ?_ _) | omega | (simp <;> omega))) (fun HB => fnumber_yes y 1 _ hys (H_hL.out.keep HB rfl) H_hd.out) ?_
    intro w3 hb3 hz3 c3 d3 hW3
    have t3 := hb3.size
    have hText_3 := gkeep hb3 hText rfl
    have zhText_3 := zlt hText_3
    have xhText_3 := zlts hText_3
    have yhText_3 := zne hText_3
    have e3_1 : Below w1.heap.size w1 w3 := below_via (by repeat' (first | (with_reducible first | exact bwR _ _ | assumption | refine bdn ?_ | refine bwA ?_ ?_ _ | refine bwD ?_ | refine bwS ?_ ?_ _) | omega | (simp <;> omega))) hW3
    have te3_1 := e3_1.size
    try simp only [szA] at hz3 c3 d3
    try simp only [szD] at hz3 c3 d3
    try simp only [szS] at hz3 c3 d3
    try simp only [World.heap_drewN] at hz3 c3 d3
    try simp only [szA] at hz3 c3 d3
    try simp only [szD] at hz3 c3 d3
    try simp only [szS] at hz3 c3 d3
    have s3_0 : w.heap.size < w3.heap.size := by omega
    have o3_0 := fun j => c3 (w.heap.size) j (by omega)
    have f3_0 := fun j => d3 (w.heap.size) j (by omega)
    have s3_1 : w1.heap.size < w3.heap.size := by omega
    have o3_1 := fun j => c3 (w1.heap.size) j (by omega)
    have f3_1 := fun j => d3 (w1.heap.size) j (by omega)
    clear c3 d3 hz3 hW3
    go_wp2_with fail
    go_region
    all_goals
      go_wp2_with fail
      refine bodyPost_ret (by simp [results, Tryz.results50, go_sem, *]; try rfl) rfl ?_
      exact ⟨by rw [rd_none H_hP.out, frV_n (by decide)], by repeat' (first | (with_reducible first | exact bwR _ _ | assumption | refine bdn ?_ | refine bwA ?_ ?_ _ | refine bwD ?_ | refine bwS ?_ ?_ _) | omega | (simp <;> omega))⟩
  · have g1 : (d == 1) = false := by rw [beq_eq_false_iff_ne]; exact hd1
    have hy0 : 0 < y.size := by
      rcases Nat.eq_zero_or_pos y.size with h | h
      · rw [← size_list] at h; rw [List.length_eq_zero_iff.1 h] at hm; cases hm
      · exact h
    rw [head_at hy0] at hm
    have g2 : (((y[0]).toNat : Int) == 45) = true := by rw [Option.some.inj hm]; rfl
    have H_hL := Lib.hid hL
    clear hL
    have H_hn := Lib.hid hn
    clear hn
    have H_hP := Lib.hid hP
    clear hP
    have H_hx := Lib.hid hx
    clear hx
    have H_hy := Lib.hid hy
    clear hy
    have H_hxl := Lib.hid hxl
    clear hxl
    have H_hyl := Lib.hid hyl
    clear hyl
    have H_hb := Lib.hid hb
    clear hb
    have H_hd := Lib.hid hd
    clear hd
    have H_hd1 := Lib.hid hd1
    clear hd1
    have H_hm := Lib.hid hm
    clear hm
    go_enter Tryz.func50, Tryz.ntmps50
    go_wp2_with fail
    refine call_bel (w := w) (by repeat' (first | (with_reducible first | exact bwR _ _ | assumption | refine bdn ?_ | refine bwA ?_ ?_ _ | refine bwD ?_ | refine bwS ?_ ?_ _) | omega | (simp <;> omega))) (fun HB => fcut_any s _ x y true hs (H_hL.out.keep HB rfl) H_hx.out H_hy.out H_hb.out) ?_
    intro w1 hb1 hz1 c1 d1 hW1
    have t1 := hb1.size
    have hText_1 := gkeep hb1 hText rfl
    have zhText_1 := zlt hText_1
    have xhText_1 := zlts hText_1
    have yhText_1 := zne hText_1
    try simp only [szA] at hz1 c1 d1
    try simp only [szD] at hz1 c1 d1
    try simp only [szS] at hz1 c1 d1
    try simp only [World.heap_drewN] at hz1 c1 d1
    try simp only [szA] at hz1 c1 d1
    try simp only [szD] at hz1 c1 d1
    try simp only [szS] at hz1 c1 d1
    have s1_0 : w.heap.size < w1.heap.size := by omega
    have o1_0 := fun j => c1 (w.heap.size) j (by omega)
    have f1_0 := fun j => d1 (w.heap.size) j (by omega)
    clear c1 d1 hz1 hW1
    go_wp2_with fail
    refine call_bel (w := w) (by repeat' (first | (with_reducible first | exact bwR _ _ | assumption | refine bdn ?_ | refine bwA ?_ ?_ _ | refine bwD ?_ | refine bwS ?_ ?_ _) | omega | (simp <;> omega))) (fun HB => fnumber_yes x n _ hxs (H_hL.out.keep HB rfl) H_hn.out) ?_
    intro w2 hb2 hz2 c2 d2 hW2
    have t2 := hb2.size
    have hText_2 := gkeep hb2 hText rfl
    have zhText_2 := zlt hText_2
    have xhText_2 := zlts hText_2
    have yhText_2 := zne hText_2
    have e2_1 : Below w1.heap.size w1 w2 := below_via (by repeat' (first | (with_reducible first | exact bwR _ _ | assumption | refine bdn ?_ | refine bwA ?_ ?_ _ | refine bwD ?_ | refine bwS ?_ ?_ _) | omega | (simp <;> omega))) hW2
    have te2_1 := e2_1.size
    try simp only [szA] at hz2 c2 d2
    try simp only [szD] at hz2 c2 d2
    try simp only [szS] at hz2 c2 d2
    try simp only [World.heap_drewN] at hz2 c2 d2
    try simp only [szA] at hz2 c2 d2
    try simp only [szD] at hz2 c2 d2
    try simp only [szS] at hz2 c2 d2
    have s2_0 : w.heap.size < w2.heap.size := by omega
    have o2_0 := fun j => c2 (w.heap.size) j (by omega)
    have f2_0 := fun j => d2 (w.heap.size) j (by omega)
    have s2_1 : w1.heap.size < w2.heap.size := by omega
    have o2_1 := fun j => c2 (w1.heap.size) j (by omega)
    have f2_1 := fun j => d2 (w1.heap.size) j (by omega)
    clear c2 d2 hz2 hW2
    go_wp2_with fail
    refine call_bel (w := w) (by repeat' (first | (with_reducible first | exact bwR _ _ | assumption | refine bdn ?_ | refine bwA ?_ ?_ _ | refine bwD ?_ | refine bwS ?_ ?_ _) | omega | (simp <;> omega))) (fun HB => fnumber_yes y d _ hys (H_hL.out.keep HB rfl) H_hd.out) ?_
    intro w3 hb3 hz3 c3 d3 hW3
    have t3 := hb3.size
    have hText_3 := gkeep hb3 hText rfl
    have zhText_3 := zlt hText_3
    have xhText_3 := zlts hText_3
    have yhText_3 := zne hText_3
    have e3_1 : Below w1.heap.size w1 w3 := below_via (by repeat' (first | (with_reducible first | exact bwR _ _ | assumption | refine bdn ?_ | refine bwA ?_ ?_ _ | refine bwD ?_ | refine bwS ?_ ?_ _) | omega | (simp <;> omega))) hW3
    have te3_1 := e3_1.size
    try simp only [szA] at hz3 c3 d3
    try simp only [szD] at hz3 c3 d3
    try simp only [szS] at hz3 c3 d3
    try simp only [World.heap_drewN] at hz3 c3 d3
    try simp only [szA] at hz3 c3 d3
    try simp only [szD] at hz3 c3 d3
    try simp only [szS] at hz3 c3 d3
    have s3_0 : w.heap.size < w3.heap.size := by omega
    have o3_0 := fun j => c3 (w.heap.size) j (by omega)
    have f3_0 := fun j => d3 (w.heap.size) j (by omega)
    have s3_1 : w1.heap.size < w3.heap.size := by omega
    have o3_1 := fun j => c3 (w1.heap.size) j (by omega)
    have f3_1 := fun j => d3 (w1.heap.size) j (by omega)
    clear c3 d3 hz3 hW3
    go_wp2_with fail
    go_region
    all_goals
      go_wp2_with fail
      refine bodyPost_ret (by simp [results, Tryz.results50, go_sem, *]; try rfl) rfl ?_
      exact ⟨by rw [rd_none H_hP.out, frV_n (by decide)], by repeat' (first | (with_reducible first | exact bwR _ _ | assumption | refine bdn ?_ | refine bwA ?_ ?_ _ | refine bwD ?_ | refine bwS ?_ ?_ _) | omega | (simp <;> omega))⟩
  · have g1 : (d == 1) = false := by rw [beq_eq_false_iff_ne]; exact hd1
    have hy0 : 0 < y.size := by
      rcases Nat.eq_zero_or_pos y.size with h | h
      · rw [← size_list] at h; exact absurd (List.length_eq_zero_iff.1 h) hne
      · exact h
    rw [head_at hy0] at hm
    have g2 : (((y[0]).toNat : Int) == 45) = false := by
      rw [beq_eq_false_iff_ne]; intro e; exact hm (congrArg some (UInt8.toNat_inj.1 (by show _ = 45; omega)))
    have hI := (numS_itoa hn).2.2
    have hIn : I64 n := by unfold I64; omega
    have hI2 := (numS_itoa hd).2.2
    have hId : I64 d := by unfold I64; omega
    have hR := rd_some hP
    rcases Nat.eq_zero_or_pos (chk n d) with hc | hc
    · have H_hL := Lib.hid hL
      clear hL
      have H_hn := Lib.hid hn
      clear hn
      have H_hP := Lib.hid hP
      clear hP
      have H_hx := Lib.hid hx
      clear hx
      have H_hy := Lib.hid hy
      clear hy
      have H_hxl := Lib.hid hxl
      clear hxl
      have H_hyl := Lib.hid hyl
      clear hyl
      have H_hb := Lib.hid hb
      clear hb
      have H_hd := Lib.hid hd
      clear hd
      have H_hd1 := Lib.hid hd1
      clear hd1
      have H_hm := Lib.hid hm
      clear hm
      have H_hne := Lib.hid hne
      clear hne
      have H_hR := Lib.hid hR
      clear hR
      have H_hc := Lib.hid hc
      clear hc
      have H_hI := Lib.hid hI
      clear hI
      have H_hI2 := Lib.hid hI2
      clear hI2
      go_enter Tryz.func50, Tryz.ntmps50
      go_wp2_with fail
      refine call_bel (w := w) (by repeat' (first | (with_reducible first | exact bwR _ _ | assumption | refine bdn ?_ | refine bwA ?_ ?_ _ | refine bwD ?_ | refine bwS ?_ ?_ _) | omega | (simp <;> omega))) (fun HB => fcut_any s _ x y true hs (H_hL.out.keep HB rfl) H_hx.out H_hy.out H_hb.out) ?_
      intro w1 hb1 hz1 c1 d1 hW1
      have t1 := hb1.size
      have hText_1 := gkeep hb1 hText rfl
      have zhText_1 := zlt hText_1
      have xhText_1 := zlts hText_1
      have yhText_1 := zne hText_1
      try simp only [szA] at hz1 c1 d1
      try simp only [szD] at hz1 c1 d1
      try simp only [szS] at hz1 c1 d1
      try simp only [World.heap_drewN] at hz1 c1 d1
      try simp only [szA] at hz1 c1 d1
      try simp only [szD] at hz1 c1 d1
      try simp only [szS] at hz1 c1 d1
      have s1_0 : w.heap.size < w1.heap.size := by omega
      have o1_0 := fun j => c1 (w.heap.size) j (by omega)
      have f1_0 := fun j => d1 (w.heap.size) j (by omega)
      clear c1 d1 hz1 hW1
      go_wp2_with fail
      refine call_bel (w := w) (by repeat' (first | (with_reducible first | exact bwR _ _ | assumption | refine bdn ?_ | refine bwA ?_ ?_ _ | refine bwD ?_ | refine bwS ?_ ?_ _) | omega | (simp <;> omega))) (fun HB => fnumber_yes x n _ hxs (H_hL.out.keep HB rfl) H_hn.out) ?_
      intro w2 hb2 hz2 c2 d2 hW2
      have t2 := hb2.size
      have hText_2 := gkeep hb2 hText rfl
      have zhText_2 := zlt hText_2
      have xhText_2 := zlts hText_2
      have yhText_2 := zne hText_2
      have e2_1 : Below w1.heap.size w1 w2 := below_via (by repeat' (first | (with_reducible first | exact bwR _ _ | assumption | refine bdn ?_ | refine bwA ?_ ?_ _ | refine bwD ?_ | refine bwS ?_ ?_ _) | omega | (simp <;> omega))) hW2
      have te2_1 := e2_1.size
      try simp only [szA] at hz2 c2 d2
      try simp only [szD] at hz2 c2 d2
      try simp only [szS] at hz2 c2 d2
      try simp only [World.heap_drewN] at hz2 c2 d2
      try simp only [szA] at hz2 c2 d2
      try simp only [szD] at hz2 c2 d2
      try simp only [szS] at hz2 c2 d2
      have s2_0 : w.heap.size < w2.heap.size := by omega
      have o2_0 := fun j => c2 (w.heap.size) j (by omega)
      have f2_0 := fun j => d2 (w.heap.size) j (by omega)
      have s2_1 : w1.heap.size < w2.heap.size := by omega
      have o2_1 := fun j => c2 (w1.heap.size) j (by omega)
      have f2_1 := fun j => d2 (w1.heap.size) j (by omega)
      clear c2 d2 hz2 hW2
      go_wp2_with fail
      refine call_bel (w := w) (by repeat' (first | (with_reducible first | exact bwR _ _ | assumption | refine bdn ?_ | refine bwA ?_ ?_ _ | refine bwD ?_ | refine bwS ?_ ?_ _) | omega | (simp <;> omega))) (fun HB => fnumber_yes y d _ hys (H_hL.out.keep HB rfl) H_hd.out) ?_
      intro w3 hb3 hz3 c3 d3 hW3
      have t3 := hb3.size
      have e3_1 : Below w1.heap.size w1 w3 := below_via (by repeat' (first | (with_reducible first | exact bwR _ _ | assumption | refine bdn ?_ | refine bwA ?_ ?_ _ | refine bwD ?_ | refine bwS ?_ ?_ _) | omega | (simp <;> omega))) hW3
      have te3_1 := e3_1.size
      try simp only [szA] at hz3 c3 d3
      try simp only [szD] at hz3 c3 d3
      try simp only [szS] at hz3 c3 d3
      try simp only [World.heap_drewN] at hz3 c3 d3
      try simp only [szA] at hz3 c3 d3
      try simp only [szD] at hz3 c3 d3
      try simp only [szS] at hz3 c3 d3
      have s3_0 : w.heap.size < w3.heap.size := by omega
      have o3_0 := fun j => c3 (w.heap.size) j (by omega)
      have f3_0 := fun j => d3 (w.heap.size) j (by omega)
      have s3_1 : w1.heap.size < w3.heap.size := by omega
      have o3_1 := fun j => c3 (w1.heap.size) j (by omega)
      have f3_1 := fun j => d3 (w1.heap.size) j (by omega)
      clear c3 d3 hz3 hW3
      go_wp2_with fail
      refine call_bel (w := w) (by repeat' (first | (with_reducible first | exact bwR _ _ | assumption | refine bdn ?_ | refine bwA ?_ ?_ _ | refine bwD ?_ | refine bwS ?_ ?_ _) | omega | (simp <;> omega))) (fun HB => fcheck_0 ea n d _ hIn hId (gkeep HB hShape rfl) (gkeep HB hBound rfl) H_hc.out) ?_
      intro w4 hb4 hz4 c4 d4 hW4
      have t4 := hb4.size
      have e4_1 : Below w1.heap.size w1 w4 := below_via (by repeat' (first | (with_reducible first | exact bwR _ _ | assumption | refine bdn ?_ | refine bwA ?_ ?_ _ | refine bwD ?_ | refine bwS ?_ ?_ _) | omega | (simp <;> omega))) hW4
      have te4_1 := e4_1.size
      try simp only [szA] at hz4 c4 d4
      try simp only [szD] at hz4 c4 d4
      try simp only [szS] at hz4 c4 d4
      try simp only [World.heap_drewN] at hz4 c4 d4
      try simp only [szA] at hz4 c4 d4
      try simp only [szD] at hz4 c4 d4
      try simp only [szS] at hz4 c4 d4
      have s4_0 : w.heap.size < w4.heap.size := by omega
      have o4_0 := fun j => c4 (w.heap.size) j (by omega)
      have f4_0 := fun j => d4 (w.heap.size) j (by omega)
      have s4_1 : w1.heap.size < w4.heap.size := by omega
      have o4_1 := fun j => c4 (w1.heap.size) j (by omega)
      have f4_1 := fun j => d4 (w1.heap.size) j (by omega)
      clear c4 d4 hz4 hW4
      go_wp2_with fail
      refine bodyPost_ret (by simp [results, Tryz.results50, go_sem, *]; try rfl) rfl ?_
      exact ⟨by rw [H_hR.out.1, H_hR.out.2.1, H_hR.out.2.2, frV_0 H_hc.out], by repeat' (first | (with_reducible first | exact bwR _ _ | assumption | refine bdn ?_ | refine bwA ?_ ?_ _ | refine bwD ?_ | refine bwS ?_ ?_ _) | omega | (simp <;> omega))⟩
    · have hcn : chk n d ≠ 0 := by omega
      have H_hL := Lib.hid hL
      clear hL
      have H_hn := Lib.hid hn
      clear hn
      have H_hP := Lib.hid hP
      clear hP
      have H_hx := Lib.hid hx
      clear hx
      have H_hy := Lib.hid hy
      clear hy
      have H_hxl := Lib.hid hxl
      clear hxl
      have H_hyl := Lib.hid hyl
      clear hyl
      have H_hb := Lib.hid hb
      clear hb
      have H_hd := Lib.hid hd
      clear hd
      have H_hd1 := Lib.hid hd1
      clear hd1
      have H_hm := Lib.hid hm
      clear hm
      have H_hne := Lib.hid hne
      clear hne
      have H_hR := Lib.hid hR
      clear hR
      have H_hcn := Lib.hid hcn
      clear hcn
      have H_hI := Lib.hid hI
      clear hI
      have H_hI2 := Lib.hid hI2
      clear hI2
      go_enter Tryz.func50, Tryz.ntmps50
      go_wp2_with fail
      refine call_bel (w := w) (by repeat' (first | (with_reducible first | exact bwR _ _ | assumption | refine bdn ?_ | refine bwA ?_ ?_ _ | refine bwD ?_ | refine bwS ?_ ?_ _) | omega | (simp <;> omega))) (fun HB => fcut_any s _ x y true hs (H_hL.out.keep HB rfl) H_hx.out H_hy.out H_hb.out) ?_
      intro w1 hb1 hz1 c1 d1 hW1
      have t1 := hb1.size
      have hText_1 := gkeep hb1 hText rfl
      have zhText_1 := zlt hText_1
      have xhText_1 := zlts hText_1
      have yhText_1 := zne hText_1
      try simp only [szA] at hz1 c1 d1
      try simp only [szD] at hz1 c1 d1
      try simp only [szS] at hz1 c1 d1
      try simp only [World.heap_drewN] at hz1 c1 d1
      try simp only [szA] at hz1 c1 d1
      try simp only [szD] at hz1 c1 d1
      try simp only [szS] at hz1 c1 d1
      have s1_0 : w.heap.size < w1.heap.size := by omega
      have o1_0 := fun j => c1 (w.heap.size) j (by omega)
      have f1_0 := fun j => d1 (w.heap.size) j (by omega)
      clear c1 d1 hz1 hW1
      go_wp2_with fail
      refine call_bel (w := w) (by repeat' (first | (with_reducible first | exact bwR _ _ | assumption | refine bdn ?_ | refine bwA ?_ ?_ _ | refine bwD ?_ | refine bwS ?_ ?_ _) | omega | (simp <;> omega))) (fun HB => fnumber_yes x n _ hxs (H_hL.out.keep HB rfl) H_hn.out) ?_
      intro w2 hb2 hz2 c2 d2 hW2
      have t2 := hb2.size
      have hText_2 := gkeep hb2 hText rfl
      have zhText_2 := zlt hText_2
      have xhText_2 := zlts hText_2
      have yhText_2 := zne hText_2
      have e2_1 : Below w1.heap.size w1 w2 := below_via (by repeat' (first | (with_reducible first | exact bwR _ _ | assumption | refine bdn ?_ | refine bwA ?_ ?_ _ | refine bwD ?_ | refine bwS ?_ ?_ _) | omega | (simp <;> omega))) hW2
      have te2_1 := e2_1.size
      try simp only [szA] at hz2 c2 d2
      try simp only [szD] at hz2 c2 d2
      try simp only [szS] at hz2 c2 d2
      try simp only [World.heap_drewN] at hz2 c2 d2
      try simp only [szA] at hz2 c2 d2
      try simp only [szD] at hz2 c2 d2
      try simp only [szS] at hz2 c2 d2
      have s2_0 : w.heap.size < w2.heap.size := by omega
      have o2_0 := fun j => c2 (w.heap.size) j (by omega)
      have f2_0 := fun j => d2 (w.heap.size) j (by omega)
      have s2_1 : w1.heap.size < w2.heap.size := by omega
      have o2_1 := fun j => c2 (w1.heap.size) j (by omega)
      have f2_1 := fun j => d2 (w1.heap.size) j (by omega)
      clear c2 d2 hz2 hW2
      go_wp2_with fail
      refine call_bel (w := w) (by repeat' (first | (with_reducible first | exact bwR _ _ | assumption | refine bdn ?_ | refine bwA ?_ ?_ _ | refine bwD ?_ | refine bwS ?_ ?_ _) | omega | (simp <;> omega))) (fun HB => fnumber_yes y d _ hys (H_hL.out.keep HB rfl) H_hd.out) ?_
      intro w3 hb3 hz3 c3 d3 hW3
      have t3 := hb3.size
      have e3_1 : Below w1.heap.size w1 w3 := below_via (by repeat' (first | (with_reducible first | exact bwR _ _ | assumption | refine bdn ?_ | refine bwA ?_ ?_ _ | refine bwD ?_ | refine bwS ?_ ?_ _) | omega | (simp <;> omega))) hW3
      have te3_1 := e3_1.size
      try simp only [szA] at hz3 c3 d3
      try simp only [szD] at hz3 c3 d3
      try simp only [szS] at hz3 c3 d3
      try simp only [World.heap_drewN] at hz3 c3 d3
      try simp only [szA] at hz3 c3 d3
      try simp only [szD] at hz3 c3 d3
      try simp only [szS] at hz3 c3 d3
      have s3_0 : w.heap.size < w3.heap.size := by omega
      have o3_0 := fun j => c3 (w.heap.size) j (by omega)
      have f3_0 := fun j => d3 (w.heap.size) j (by omega)
      have s3_1 : w1.heap.size < w3.heap.size := by omega
      have o3_1 := fun j => c3 (w1.heap.size) j (by omega)
      have f3_1 := fun j => d3 (w1.heap.size) j (by omega)
      clear c3 d3 hz3 hW3
      go_wp2_with fail
      refine call_bel (w := w) (by repeat' (first | (with_reducible first | exact bwR _ _ | assumption | refine bdn ?_ | refine bwA ?_ ?_ _ | refine bwD ?_ | refine bwS ?_ ?_ _) | omega | (simp <;> omega))) (fun HB => fcheck_n ea n d _ hIn hId (gkeep HB hShape rfl) (gkeep HB hBound rfl) H_hcn.out) ?_
      intro w4 hb4 hz4 c4 d4 hW4
      have t4 := hb4.size
      have e4_1 : Below w1.heap.size w1 w4 := below_via (by repeat' (first | (with_reducible first | exact bwR _ _ | assumption | refine bdn ?_ | refine bwA ?_ ?_ _ | refine bwD ?_ | refine bwS ?_ ?_ _) | omega | (simp <;> omega))) hW4
      have te4_1 := e4_1.size
      try simp only [szA] at hz4 c4 d4
      try simp only [szD] at hz4 c4 d4
      try simp only [szS] at hz4 c4 d4
      try simp only [World.heap_drewN] at hz4 c4 d4
      try simp only [szA] at hz4 c4 d4
      try simp only [szD] at hz4 c4 d4
      try simp only [szS] at hz4 c4 d4
      have s4_0 : w.heap.size < w4.heap.size := by omega
      have o4_0 := fun j => c4 (w.heap.size) j (by omega)
      have f4_0 := fun j => d4 (w.heap.size) j (by omega)
      have s4_1 : w1.heap.size < w4.heap.size := by omega
      have o4_1 := fun j => c4 (w1.heap.size) j (by omega)
      have f4_1 := fun j => d4 (w1.heap.size) j (by omega)
      clear c4 d4 hz4 hW4
      go_wp2_with fail
      refine bodyPost_ret (by simp [results, Tryz.results50, go_sem, *]; try rfl) rfl ?_
      exact ⟨by rw [H_hR.out.1, H_hR.out.2.1, H_hR.out.2.2, frV_n H_hcn.out], by repeat' (first | (with_reducible first | exact bwR _ _ | assumption | refine bdn ?_ | refine bwA ?_ ?_ _ | refine bwD ?_ | refine bwS ?_ ?_ _) | omega | (simp <;> omega))⟩
end Go.Proofs.YtpdaenldmgpkjaaGreatDoor
