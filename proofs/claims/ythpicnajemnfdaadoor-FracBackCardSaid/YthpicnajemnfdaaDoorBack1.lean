/-
  The walk over the statement FracBack.
-/
import Derived.Test.YthpicnajemnfdaaDoorCode3
namespace Go.Proofs.YthpicnajemnfdaaDoor
open Go.RowKit Lead

set_option maxHeartbeats 8000000 in
theorem back_any (ea : Nat → Addr) (a b : Fr) (w : World) (ia : a.I) (ib : b.I) (hS : Sents ea w) (htab : Lib.TabIs Tryd.prog w "internal/strconv.uint64pow10" .u64 Lib.pow10Tab) :
    Calls Tryd.prog 10 #[.agg #[.int .i64 a.n, .int .i64 a.d], .agg #[.int .i64 b.n, .int .i64 b.d]] w fun e w' => e = .returned (.bool true) ∧ Below w.heap.size w w' := by
  have hBound := hS.c2
  have hShape := hS.c3
  have hZero := hS.c11
  have zhShape := zlt hShape
  have xhShape := zlts hShape
  have yhShape := zne hShape
  have zhBound := zlt hBound
  have xhBound := zlts hBound
  have yhBound := zne hBound
  have zhZero := zlt hZero
  have xhZero := zlts hZero
  have yhZero := zne hZero
  obtain ⟨ia1, ia2⟩ := ia
  obtain ⟨ib1, ib2⟩ := ib
  obtain ⟨s, hs⟩ : ∃ s, a.add b = s := ⟨_, rfl⟩
  obtain ⟨p, hp⟩ : ∃ p, a.mul b = p := ⟨_, rfl⟩
  have H_hS := Lib.hid hS
  clear hS
  have H_hs := Lib.hid hs
  clear hs
  have H_hp := Lib.hid hp
  clear hp
  go_enter Tryd.func10, Tryd.ntmps10
  go_wp2_with fail
  refine call_bel (w := w) (by repeat' (first | (with_reducible exact Below.refl _ _) | (with_reducible assumption) | (with_reducible refine bdn ?_) | (with_reducible refine Below.alloc ?_ ?_ _) | (with_reducible refine Below.drew ?_) | (with_reducible refine Below.setCell ?_ ?_ _) | omega | (simp <;> omega))) (fun HB => halved_any ea _ (gkeep HB hBound rfl) (gkeep HB hZero rfl) (tab_keep htab HB rfl)) ?_
  intro w1 hb1 hz1 c1 d1 hW1
  have t1 := hb1.size
  try simp only [World.size_alloc] at hz1 c1 d1
  try simp only [World.size_drew] at hz1 c1 d1
  try simp only [World.size_setCell] at hz1 c1 d1
  try simp only [World.heap_drewN] at hz1 c1 d1
  have s1_0 : w.heap.size < w1.heap.size := by omega
  have o1_0 := fun j => c1 (w.heap.size) j (by omega)
  have f1_0 := fun j => d1 (w.heap.size) j (by omega)
  have s1_1 : w.heap.size + 1 < w1.heap.size := by omega
  have o1_1 := fun j => c1 (w.heap.size + 1) j (by omega)
  have f1_1 := fun j => d1 (w.heap.size + 1) j (by omega)
  clear c1 d1 hz1 hW1
  by_cases hk : a.addK b = 0
  · obtain ⟨ra, rb, hkC⟩ := opC_0 hk
    have rs : s.R := by rw [← H_hs.out]; exact add_right ra.d0 rb.d0 hkC
    have rsi := rs.i
    have hk2 : b.addK a = 0 := opC_ok rb ra (by have := hkC; rw [show lowC (addN a b) (addD a b) = a.addC b from rfl, addC_comm2] at this; exact this)
    have ht : b.add a = s := by rw [← add_comm2]; exact H_hs.out
    obtain ⟨hd, hdC⟩ := sub_back ra rb hkC
    rw [H_hs.out] at hd hdC
    have hk3 : s.subK b = 0 := opC_ok rs rb hdC
    have H_hk := Lib.hid hk
    clear hk
    have H_hk2 := Lib.hid hk2
    clear hk2
    have H_ht := Lib.hid ht
    clear ht
    have H_hd := Lib.hid hd
    clear hd
    have H_hdC := Lib.hid hdC
    clear hdC
    have H_hk3 := Lib.hid hk3
    clear hk3
    have H_ra := Lib.hid ra
    clear ra
    have H_rb := Lib.hid rb
    clear rb
    have H_hkC := Lib.hid hkC
    clear hkC
    have H_rs := Lib.hid rs
    clear rs
    have H_rsi := Lib.hid rsi
    clear rsi
    go_wp2_with fail
    refine call_fr0 (w := w) (by repeat' (first | (with_reducible exact Below.refl _ _) | (with_reducible assumption) | (with_reducible refine bdn ?_) | (with_reducible refine Below.alloc ?_ ?_ _) | (with_reducible refine Below.drew ?_) | (with_reducible refine Below.setCell ?_ ?_ _) | omega | (simp <;> omega))) (fun HB => fadd_f ea a b s _ ⟨ia1, ia2⟩ ⟨ib1, ib2⟩ (gkeep HB hShape rfl) (gkeep HB hBound rfl) H_hs.out) (H_hk.out) ?_
    intro w2 hb2 hz2 c2 d2 hW2
    have t2 := hb2.size
    try simp only [World.size_alloc] at hz2 c2 d2
    try simp only [World.size_drew] at hz2 c2 d2
    try simp only [World.size_setCell] at hz2 c2 d2
    try simp only [World.heap_drewN] at hz2 c2 d2
    have s2_0 : w.heap.size < w2.heap.size := by omega
    have o2_0 := fun j => c2 (w.heap.size) j (by omega)
    have f2_0 := fun j => d2 (w.heap.size) j (by omega)
    have s2_1 : w.heap.size + 1 < w2.heap.size := by omega
    have o2_1 := fun j => c2 (w.heap.size + 1) j (by omega)
    have f2_1 := fun j => d2 (w.heap.size + 1) j (by omega)
    clear c2 d2 hz2 hW2
    go_wp2_with fail
    refine call_fr0 (w := w) (by repeat' (first | (with_reducible exact Below.refl _ _) | (with_reducible assumption) | (with_reducible refine bdn ?_) | (with_reducible refine Below.alloc ?_ ?_ _) | (with_reducible refine Below.drew ?_) | (with_reducible refine Below.setCell ?_ ?_ _) | omega | (simp <;> omega))) (fun HB => fadd_f ea b a s _ ⟨ib1, ib2⟩ ⟨ia1, ia2⟩ (gkeep HB hShape rfl) (gkeep HB hBound rfl) H_ht.out) (H_hk2.out) ?_
    intro w3 hb3 hz3 c3 d3 hW3
    have t3 := hb3.size
    try simp only [World.size_alloc] at hz3 c3 d3
    try simp only [World.size_drew] at hz3 c3 d3
    try simp only [World.size_setCell] at hz3 c3 d3
    try simp only [World.heap_drewN] at hz3 c3 d3
    have s3_0 : w.heap.size < w3.heap.size := by omega
    have o3_0 := fun j => c3 (w.heap.size) j (by omega)
    have f3_0 := fun j => d3 (w.heap.size) j (by omega)
    have s3_1 : w.heap.size + 1 < w3.heap.size := by omega
    have o3_1 := fun j => c3 (w.heap.size + 1) j (by omega)
    have f3_1 := fun j => d3 (w.heap.size + 1) j (by omega)
    have s3_2 : w2.heap.size < w3.heap.size := by omega
    have o3_2 := fun j => c3 (w2.heap.size) j (by omega)
    have f3_2 := fun j => d3 (w2.heap.size) j (by omega)
    clear c3 d3 hz3 hW3
    go_wp2_with fail
    refine call_fr0 (w := w) (by repeat' (first | (with_reducible exact Below.refl _ _) | (with_reducible assumption) | (with_reducible refine bdn ?_) | (with_reducible refine Below.alloc ?_ ?_ _) | (with_reducible refine Below.drew ?_) | (with_reducible refine Below.setCell ?_ ?_ _) | omega | (simp <;> omega))) (fun HB => fsub_f ea s b a _ H_rsi.out ⟨ib1, ib2⟩ (gkeep HB hShape rfl) (gkeep HB hBound rfl) H_hd.out) (H_hk3.out) ?_
    intro w4 hb4 hz4 c4 d4 hW4
    have t4 := hb4.size
    try simp only [World.size_alloc] at hz4 c4 d4
    try simp only [World.size_drew] at hz4 c4 d4
    try simp only [World.size_setCell] at hz4 c4 d4
    try simp only [World.heap_drewN] at hz4 c4 d4
    have s4_0 : w.heap.size < w4.heap.size := by omega
    have o4_0 := fun j => c4 (w.heap.size) j (by omega)
    have f4_0 := fun j => d4 (w.heap.size) j (by omega)
    have s4_1 : w.heap.size + 1 < w4.heap.size := by omega
    have o4_1 := fun j => c4 (w.heap.size + 1) j (by omega)
    have f4_1 := fun j => d4 (w.heap.size + 1) j (by omega)
    have s4_2 : w2.heap.size < w4.heap.size := by omega
    have o4_2 := fun j => c4 (w2.heap.size) j (by omega)
    have f4_2 := fun j => d4 (w2.heap.size) j (by omega)
    have s4_3 : w3.heap.size < w4.heap.size := by omega
    have o4_3 := fun j => c4 (w3.heap.size) j (by omega)
    have f4_3 := fun j => d4 (w3.heap.size) j (by omega)
    clear c4 d4 hz4 hW4
    by_cases hm : a.mulK b = 0
    · obtain ⟨ra, rb, hmC⟩ := opC_0 hm
      have rp : p.R := by rw [← H_hp.out]; exact mul_right ra.d0 rb.d0 hmC
      have rpi := rp.i
      have hm2 : b.mulK a = 0 := opC_ok rb ra (by have := hmC; rw [show lowC (mulN a b) (addD a b) = a.mulC b from rfl, mulC_comm2] at this; exact this)
      have hq : b.mul a = p := by rw [← mul_comm2]; exact H_hp.out
      have H_hm := Lib.hid hm
      clear hm
      have H_hm2 := Lib.hid hm2
      clear hm2
      have H_hq := Lib.hid hq
      clear hq
      go_wp2_with fail
      refine call_fr0 (w := w) (by repeat' (first | (with_reducible exact Below.refl _ _) | (with_reducible assumption) | (with_reducible refine bdn ?_) | (with_reducible refine Below.alloc ?_ ?_ _) | (with_reducible refine Below.drew ?_) | (with_reducible refine Below.setCell ?_ ?_ _) | omega | (simp <;> omega))) (fun HB => fmul_f ea a b p _ ⟨ia1, ia2⟩ ⟨ib1, ib2⟩ (gkeep HB hShape rfl) (gkeep HB hBound rfl) H_hp.out) (H_hm.out) ?_
      intro w5 hb5 hz5 c5 d5 hW5
      have t5 := hb5.size
      try simp only [World.size_alloc] at hz5 c5 d5
      try simp only [World.size_drew] at hz5 c5 d5
      try simp only [World.size_setCell] at hz5 c5 d5
      try simp only [World.heap_drewN] at hz5 c5 d5
      have s5_0 : w.heap.size < w5.heap.size := by omega
      have o5_0 := fun j => c5 (w.heap.size) j (by omega)
      have f5_0 := fun j => d5 (w.heap.size) j (by omega)
      have s5_1 : w.heap.size + 1 < w5.heap.size := by omega
      have o5_1 := fun j => c5 (w.heap.size + 1) j (by omega)
      have f5_1 := fun j => d5 (w.heap.size + 1) j (by omega)
      clear c5 d5 hz5 hW5
      go_wp2_with fail
      refine call_fr0 (w := w) (by repeat' (first | (with_reducible exact Below.refl _ _) | (with_reducible assumption) | (with_reducible refine bdn ?_) | (with_reducible refine Below.alloc ?_ ?_ _) | (with_reducible refine Below.drew ?_) | (with_reducible refine Below.setCell ?_ ?_ _) | omega | (simp <;> omega))) (fun HB => fmul_f ea b a p _ ⟨ib1, ib2⟩ ⟨ia1, ia2⟩ (gkeep HB hShape rfl) (gkeep HB hBound rfl) H_hq.out) (H_hm2.out) ?_
      intro w6 hb6 hz6 c6 d6 hW6
      have t6 := hb6.size
      try simp only [World.size_alloc] at hz6 c6 d6
      try simp only [World.size_drew] at hz6 c6 d6
      try simp only [World.size_setCell] at hz6 c6 d6
      try simp only [World.heap_drewN] at hz6 c6 d6
      have s6_0 : w.heap.size < w6.heap.size := by omega
      have o6_0 := fun j => c6 (w.heap.size) j (by omega)
      have f6_0 := fun j => d6 (w.heap.size) j (by omega)
      have s6_1 : w.heap.size + 1 < w6.heap.size := by omega
      have o6_1 := fun j => c6 (w.heap.size + 1) j (by omega)
      have f6_1 := fun j => d6 (w.heap.size + 1) j (by omega)
      have s6_2 : w5.heap.size < w6.heap.size := by omega
      have o6_2 := fun j => c6 (w5.heap.size) j (by omega)
      have f6_2 := fun j => d6 (w5.heap.size) j (by omega)
      clear c6 d6 hz6 hW6
      by_cases h0 : b.n = 0
      · have h0' : (b.n == 0) = true := by simp [h0]
        have hpz : (p.n == 0) = true := by rw [← H_hp.out, mul_zero ra.d0 rb.d0 h0]; rfl
        have hdv : p.divK b = 11 := by unfold Fr.divK divC; rw [if_pos (both_R rp rb), if_pos h0]
        have H_h0 := Lib.hid h0
        clear h0
        have H_ra := Lib.hid ra
        clear ra
        have H_rb := Lib.hid rb
        clear rb
        have H_rp := Lib.hid rp
        clear rp
        have H_rpi := Lib.hid rpi
        clear rpi
        have H_hdv := Lib.hid hdv
        clear hdv
        obtain ⟨r, hr⟩ : ∃ r, p.div b = r := ⟨_, rfl⟩
        have H_hr := Lib.hid hr
        clear hr
        go_wp2_with fail
        refine call_frn (w := w) (by repeat' (first | (with_reducible exact Below.refl _ _) | (with_reducible assumption) | (with_reducible refine bdn ?_) | (with_reducible refine Below.alloc ?_ ?_ _) | (with_reducible refine Below.drew ?_) | (with_reducible refine Below.setCell ?_ ?_ _) | omega | (simp <;> omega))) (fun HB => fdiv_f ea p b r _ H_rpi.out ⟨ib1, ib2⟩ (gkeep HB hShape rfl) (gkeep HB hBound rfl) (gkeep HB hZero rfl) H_hr.out) (by rw [H_hdv.out]; decide) ?_
        intro w7 hb7 hz7 c7 d7 hW7
        have t7 := hb7.size
        try simp only [World.size_alloc] at hz7 c7 d7
        try simp only [World.size_drew] at hz7 c7 d7
        try simp only [World.size_setCell] at hz7 c7 d7
        try simp only [World.heap_drewN] at hz7 c7 d7
        have s7_0 : w.heap.size < w7.heap.size := by omega
        have o7_0 := fun j => c7 (w.heap.size) j (by omega)
        have f7_0 := fun j => d7 (w.heap.size) j (by omega)
        have s7_1 : w.heap.size + 1 < w7.heap.size := by omega
        have o7_1 := fun j => c7 (w.heap.size + 1) j (by omega)
        have f7_1 := fun j => d7 (w.heap.size + 1) j (by omega)
        have s7_2 : w5.heap.size < w7.heap.size := by omega
        have o7_2 := fun j => c7 (w5.heap.size) j (by omega)
        have f7_2 := fun j => d7 (w5.heap.size) j (by omega)
        have s7_3 : w6.heap.size < w7.heap.size := by omega
        have o7_3 := fun j => c7 (w6.heap.size) j (by omega)
        have f7_3 := fun j => d7 (w6.heap.size) j (by omega)
        clear c7 d7 hz7 hW7
        rw [H_hdv.out]
        go_wp2_with fail
        refine call_bel (w := w) (by repeat' (first | (with_reducible exact Below.refl _ _) | (with_reducible assumption) | (with_reducible refine bdn ?_) | (with_reducible refine Below.alloc ?_ ?_ _) | (with_reducible refine Below.drew ?_) | (with_reducible refine Below.setCell ?_ ?_ _) | omega | (simp <;> omega))) (fun HB => coded1_s ea 11 _ (by decide) (by decide) (H_hS.out.keep HB rfl)) ?_
        intro w8 hb8 hz8 c8 d8 hW8
        have t8 := hb8.size
        try simp only [World.size_alloc] at hz8 c8 d8
        try simp only [World.size_drew] at hz8 c8 d8
        try simp only [World.size_setCell] at hz8 c8 d8
        try simp only [World.heap_drewN] at hz8 c8 d8
        have s8_0 : w.heap.size < w8.heap.size := by omega
        have o8_0 := fun j => c8 (w.heap.size) j (by omega)
        have f8_0 := fun j => d8 (w.heap.size) j (by omega)
        have s8_1 : w.heap.size + 1 < w8.heap.size := by omega
        have o8_1 := fun j => c8 (w.heap.size + 1) j (by omega)
        have f8_1 := fun j => d8 (w.heap.size + 1) j (by omega)
        have s8_2 : w5.heap.size < w8.heap.size := by omega
        have o8_2 := fun j => c8 (w5.heap.size) j (by omega)
        have f8_2 := fun j => d8 (w5.heap.size) j (by omega)
        clear c8 d8 hz8 hW8
        go_wp2_with fail
        go_returns
        exact ⟨rfl, by repeat' (first | (with_reducible exact Below.refl _ _) | (with_reducible assumption) | (with_reducible refine bdn ?_) | (with_reducible refine Below.alloc ?_ ?_ _) | (with_reducible refine Below.drew ?_) | (with_reducible refine Below.setCell ?_ ?_ _) | omega | (simp <;> omega))⟩
      · have h0' : (b.n == 0) = false := by simp [h0]
        obtain ⟨hr, hrC⟩ := div_back ra rb hmC h0
        rw [H_hp.out] at hr hrC
        have hdv : p.divK b = 0 := by unfold Fr.divK divC; rw [if_pos (both_R rp rb), if_neg h0]; exact hrC
        have H_h0 := Lib.hid h0
        clear h0
        have H_ra := Lib.hid ra
        clear ra
        have H_rb := Lib.hid rb
        clear rb
        have H_rp := Lib.hid rp
        clear rp
        have H_rpi := Lib.hid rpi
        clear rpi
        have H_hdv := Lib.hid hdv
        clear hdv
        have H_hr := Lib.hid hr
        clear hr
        have H_hrC := Lib.hid hrC
        clear hrC
        go_wp2_with fail
        refine call_fr0 (w := w) (by repeat' (first | (with_reducible exact Below.refl _ _) | (with_reducible assumption) | (with_reducible refine bdn ?_) | (with_reducible refine Below.alloc ?_ ?_ _) | (with_reducible refine Below.drew ?_) | (with_reducible refine Below.setCell ?_ ?_ _) | omega | (simp <;> omega))) (fun HB => fdiv_f ea p b a _ H_rpi.out ⟨ib1, ib2⟩ (gkeep HB hShape rfl) (gkeep HB hBound rfl) (gkeep HB hZero rfl) H_hr.out) (H_hdv.out) ?_
        intro w7 hb7 hz7 c7 d7 hW7
        have t7 := hb7.size
        try simp only [World.size_alloc] at hz7 c7 d7
        try simp only [World.size_drew] at hz7 c7 d7
        try simp only [World.size_setCell] at hz7 c7 d7
        try simp only [World.heap_drewN] at hz7 c7 d7
        have s7_0 : w.heap.size < w7.heap.size := by omega
        have o7_0 := fun j => c7 (w.heap.size) j (by omega)
        have f7_0 := fun j => d7 (w.heap.size) j (by omega)
        have s7_1 : w.heap.size + 1 < w7.heap.size := by omega
        have o7_1 := fun j => c7 (w.heap.size + 1) j (by omega)
        have f7_1 := fun j => d7 (w.heap.size + 1) j (by omega)
        have s7_2 : w5.heap.size < w7.heap.size := by omega
        have o7_2 := fun j => c7 (w5.heap.size) j (by omega)
        have f7_2 := fun j => d7 (w5.heap.size) j (by omega)
        have s7_3 : w6.heap.size < w7.heap.size := by omega
        have o7_3 := fun j => c7 (w6.heap.size) j (by omega)
        have f7_3 := fun j => d7 (w6.heap.size) j (by omega)
        clear c7 d7 hz7 hW7
        go_wp2_with fail
        go_returns
        exact ⟨rfl, by repeat' (first | (with_reducible exact Below.refl _ _) | (with_reducible assumption) | (with_reducible refine bdn ?_) | (with_reducible refine Below.alloc ?_ ?_ _) | (with_reducible refine Below.drew ?_) | (with_reducible refine Below.setCell ?_ ?_ _) | omega | (simp <;> omega))⟩
    · have H_hm := Lib.hid hm
      clear hm
      go_wp2_with fail
      refine call_frn (w := w) (by repeat' (first | (with_reducible exact Below.refl _ _) | (with_reducible assumption) | (with_reducible refine bdn ?_) | (with_reducible refine Below.alloc ?_ ?_ _) | (with_reducible refine Below.drew ?_) | (with_reducible refine Below.setCell ?_ ?_ _) | omega | (simp <;> omega))) (fun HB => fmul_f ea a b p _ ⟨ia1, ia2⟩ ⟨ib1, ib2⟩ (gkeep HB hShape rfl) (gkeep HB hBound rfl) H_hp.out) (H_hm.out) ?_
      intro w5 hb5 hz5 c5 d5 hW5
      have t5 := hb5.size
      try simp only [World.size_alloc] at hz5 c5 d5
      try simp only [World.size_drew] at hz5 c5 d5
      try simp only [World.size_setCell] at hz5 c5 d5
      try simp only [World.heap_drewN] at hz5 c5 d5
      have s5_0 : w.heap.size < w5.heap.size := by omega
      have o5_0 := fun j => c5 (w.heap.size) j (by omega)
      have f5_0 := fun j => d5 (w.heap.size) j (by omega)
      have s5_1 : w.heap.size + 1 < w5.heap.size := by omega
      have o5_1 := fun j => c5 (w.heap.size + 1) j (by omega)
      have f5_1 := fun j => d5 (w.heap.size + 1) j (by omega)
      clear c5 d5 hz5 hW5
      go_wp2_with fail
      go_returns
      exact ⟨rfl, by repeat' (first | (with_reducible exact Below.refl _ _) | (with_reducible assumption) | (with_reducible refine bdn ?_) | (with_reducible refine Below.alloc ?_ ?_ _) | (with_reducible refine Below.drew ?_) | (with_reducible refine Below.setCell ?_ ?_ _) | omega | (simp <;> omega))⟩
  · have H_hk := Lib.hid hk
    clear hk
    go_wp2_with fail
    refine call_frn (w := w) (by repeat' (first | (with_reducible exact Below.refl _ _) | (with_reducible assumption) | (with_reducible refine bdn ?_) | (with_reducible refine Below.alloc ?_ ?_ _) | (with_reducible refine Below.drew ?_) | (with_reducible refine Below.setCell ?_ ?_ _) | omega | (simp <;> omega))) (fun HB => fadd_f ea a b s _ ⟨ia1, ia2⟩ ⟨ib1, ib2⟩ (gkeep HB hShape rfl) (gkeep HB hBound rfl) H_hs.out) (H_hk.out) ?_
    intro w2 hb2 hz2 c2 d2 hW2
    have t2 := hb2.size
    try simp only [World.size_alloc] at hz2 c2 d2
    try simp only [World.size_drew] at hz2 c2 d2
    try simp only [World.size_setCell] at hz2 c2 d2
    try simp only [World.heap_drewN] at hz2 c2 d2
    have s2_0 : w.heap.size < w2.heap.size := by omega
    have o2_0 := fun j => c2 (w.heap.size) j (by omega)
    have f2_0 := fun j => d2 (w.heap.size) j (by omega)
    have s2_1 : w.heap.size + 1 < w2.heap.size := by omega
    have o2_1 := fun j => c2 (w.heap.size + 1) j (by omega)
    have f2_1 := fun j => d2 (w.heap.size + 1) j (by omega)
    clear c2 d2 hz2 hW2
    by_cases hm : a.mulK b = 0
    · obtain ⟨ra, rb, hmC⟩ := opC_0 hm
      have rp : p.R := by rw [← H_hp.out]; exact mul_right ra.d0 rb.d0 hmC
      have rpi := rp.i
      have hm2 : b.mulK a = 0 := opC_ok rb ra (by have := hmC; rw [show lowC (mulN a b) (addD a b) = a.mulC b from rfl, mulC_comm2] at this; exact this)
      have hq : b.mul a = p := by rw [← mul_comm2]; exact H_hp.out
      have H_hm := Lib.hid hm
      clear hm
      have H_hm2 := Lib.hid hm2
      clear hm2
      have H_hq := Lib.hid hq
      clear hq
      go_wp2_with fail
      refine call_fr0 (w := w) (by repeat' (first | (with_reducible exact Below.refl _ _) | (with_reducible assumption) | (with_reducible refine bdn ?_) | (with_reducible refine Below.alloc ?_ ?_ _) | (with_reducible refine Below.drew ?_) | (with_reducible refine Below.setCell ?_ ?_ _) | omega | (simp <;> omega))) (fun HB => fmul_f ea a b p _ ⟨ia1, ia2⟩ ⟨ib1, ib2⟩ (gkeep HB hShape rfl) (gkeep HB hBound rfl) H_hp.out) (H_hm.out) ?_
      intro w3 hb3 hz3 c3 d3 hW3
      have t3 := hb3.size
      try simp only [World.size_alloc] at hz3 c3 d3
      try simp only [World.size_drew] at hz3 c3 d3
      try simp only [World.size_setCell] at hz3 c3 d3
      try simp only [World.heap_drewN] at hz3 c3 d3
      have s3_0 : w.heap.size < w3.heap.size := by omega
      have o3_0 := fun j => c3 (w.heap.size) j (by omega)
      have f3_0 := fun j => d3 (w.heap.size) j (by omega)
      have s3_1 : w.heap.size + 1 < w3.heap.size := by omega
      have o3_1 := fun j => c3 (w.heap.size + 1) j (by omega)
      have f3_1 := fun j => d3 (w.heap.size + 1) j (by omega)
      clear c3 d3 hz3 hW3
      go_wp2_with fail
      refine call_fr0 (w := w) (by repeat' (first | (with_reducible exact Below.refl _ _) | (with_reducible assumption) | (with_reducible refine bdn ?_) | (with_reducible refine Below.alloc ?_ ?_ _) | (with_reducible refine Below.drew ?_) | (with_reducible refine Below.setCell ?_ ?_ _) | omega | (simp <;> omega))) (fun HB => fmul_f ea b a p _ ⟨ib1, ib2⟩ ⟨ia1, ia2⟩ (gkeep HB hShape rfl) (gkeep HB hBound rfl) H_hq.out) (H_hm2.out) ?_
      intro w4 hb4 hz4 c4 d4 hW4
      have t4 := hb4.size
      try simp only [World.size_alloc] at hz4 c4 d4
      try simp only [World.size_drew] at hz4 c4 d4
      try simp only [World.size_setCell] at hz4 c4 d4
      try simp only [World.heap_drewN] at hz4 c4 d4
      have s4_0 : w.heap.size < w4.heap.size := by omega
      have o4_0 := fun j => c4 (w.heap.size) j (by omega)
      have f4_0 := fun j => d4 (w.heap.size) j (by omega)
      have s4_1 : w.heap.size + 1 < w4.heap.size := by omega
      have o4_1 := fun j => c4 (w.heap.size + 1) j (by omega)
      have f4_1 := fun j => d4 (w.heap.size + 1) j (by omega)
      have s4_2 : w3.heap.size < w4.heap.size := by omega
      have o4_2 := fun j => c4 (w3.heap.size) j (by omega)
      have f4_2 := fun j => d4 (w3.heap.size) j (by omega)
      clear c4 d4 hz4 hW4
      by_cases h0 : b.n = 0
      · have h0' : (b.n == 0) = true := by simp [h0]
        have hpz : (p.n == 0) = true := by rw [← H_hp.out, mul_zero ra.d0 rb.d0 h0]; rfl
        have hdv : p.divK b = 11 := by unfold Fr.divK divC; rw [if_pos (both_R rp rb), if_pos h0]
        have H_h0 := Lib.hid h0
        clear h0
        have H_ra := Lib.hid ra
        clear ra
        have H_rb := Lib.hid rb
        clear rb
        have H_rp := Lib.hid rp
        clear rp
        have H_rpi := Lib.hid rpi
        clear rpi
        have H_hdv := Lib.hid hdv
        clear hdv
        obtain ⟨r, hr⟩ : ∃ r, p.div b = r := ⟨_, rfl⟩
        have H_hr := Lib.hid hr
        clear hr
        go_wp2_with fail
        refine call_frn (w := w) (by repeat' (first | (with_reducible exact Below.refl _ _) | (with_reducible assumption) | (with_reducible refine bdn ?_) | (with_reducible refine Below.alloc ?_ ?_ _) | (with_reducible refine Below.drew ?_) | (with_reducible refine Below.setCell ?_ ?_ _) | omega | (simp <;> omega))) (fun HB => fdiv_f ea p b r _ H_rpi.out ⟨ib1, ib2⟩ (gkeep HB hShape rfl) (gkeep HB hBound rfl) (gkeep HB hZero rfl) H_hr.out) (by rw [H_hdv.out]; decide) ?_
        intro w5 hb5 hz5 c5 d5 hW5
        have t5 := hb5.size
        try simp only [World.size_alloc] at hz5 c5 d5
        try simp only [World.size_drew] at hz5 c5 d5
        try simp only [World.size_setCell] at hz5 c5 d5
        try simp only [World.heap_drewN] at hz5 c5 d5
        have s5_0 : w.heap.size < w5.heap.size := by omega
        have o5_0 := fun j => c5 (w.heap.size) j (by omega)
        have f5_0 := fun j => d5 (w.heap.size) j (by omega)
        have s5_1 : w.heap.size + 1 < w5.heap.size := by omega
        have o5_1 := fun j => c5 (w.heap.size + 1) j (by omega)
        have f5_1 := fun j => d5 (w.heap.size + 1) j (by omega)
        have s5_2 : w3.heap.size < w5.heap.size := by omega
        have o5_2 := fun j => c5 (w3.heap.size) j (by omega)
        have f5_2 := fun j => d5 (w3.heap.size) j (by omega)
        have s5_3 : w4.heap.size < w5.heap.size := by omega
        have o5_3 := fun j => c5 (w4.heap.size) j (by omega)
        have f5_3 := fun j => d5 (w4.heap.size) j (by omega)
        clear c5 d5 hz5 hW5
        rw [H_hdv.out]
        go_wp2_with fail
        refine call_bel (w := w) (by repeat' (first | (with_reducible exact Below.refl _ _) | (with_reducible assumption) | (with_reducible refine bdn ?_) | (with_reducible refine Below.alloc ?_ ?_ _) | (with_reducible refine Below.drew ?_) | (with_reducible refine Below.setCell ?_ ?_ _) | omega | (simp <;> omega))) (fun HB => coded1_s ea 11 _ (by decide) (by decide) (H_hS.out.keep HB rfl)) ?_
        intro w6 hb6 hz6 c6 d6 hW6
        have t6 := hb6.size
        try simp only [World.size_alloc] at hz6 c6 d6
        try simp only [World.size_drew] at hz6 c6 d6
        try simp only [World.size_setCell] at hz6 c6 d6
        try simp only [World.heap_drewN] at hz6 c6 d6
        have s6_0 : w.heap.size < w6.heap.size := by omega
        have o6_0 := fun j => c6 (w.heap.size) j (by omega)
        have f6_0 := fun j => d6 (w.heap.size) j (by omega)
        have s6_1 : w.heap.size + 1 < w6.heap.size := by omega
        have o6_1 := fun j => c6 (w.heap.size + 1) j (by omega)
        have f6_1 := fun j => d6 (w.heap.size + 1) j (by omega)
        have s6_2 : w3.heap.size < w6.heap.size := by omega
        have o6_2 := fun j => c6 (w3.heap.size) j (by omega)
        have f6_2 := fun j => d6 (w3.heap.size) j (by omega)
        clear c6 d6 hz6 hW6
        go_wp2_with fail
        go_returns
        exact ⟨rfl, by repeat' (first | (with_reducible exact Below.refl _ _) | (with_reducible assumption) | (with_reducible refine bdn ?_) | (with_reducible refine Below.alloc ?_ ?_ _) | (with_reducible refine Below.drew ?_) | (with_reducible refine Below.setCell ?_ ?_ _) | omega | (simp <;> omega))⟩
      · have h0' : (b.n == 0) = false := by simp [h0]
        obtain ⟨hr, hrC⟩ := div_back ra rb hmC h0
        rw [H_hp.out] at hr hrC
        have hdv : p.divK b = 0 := by unfold Fr.divK divC; rw [if_pos (both_R rp rb), if_neg h0]; exact hrC
        have H_h0 := Lib.hid h0
        clear h0
        have H_ra := Lib.hid ra
        clear ra
        have H_rb := Lib.hid rb
        clear rb
        have H_rp := Lib.hid rp
        clear rp
        have H_rpi := Lib.hid rpi
        clear rpi
        have H_hdv := Lib.hid hdv
        clear hdv
        have H_hr := Lib.hid hr
        clear hr
        have H_hrC := Lib.hid hrC
        clear hrC
        go_wp2_with fail
        refine call_fr0 (w := w) (by repeat' (first | (with_reducible exact Below.refl _ _) | (with_reducible assumption) | (with_reducible refine bdn ?_) | (with_reducible refine Below.alloc ?_ ?_ _) | (with_reducible refine Below.drew ?_) | (with_reducible refine Below.setCell ?_ ?_ _) | omega | (simp <;> omega))) (fun HB => fdiv_f ea p b a _ H_rpi.out ⟨ib1, ib2⟩ (gkeep HB hShape rfl) (gkeep HB hBound rfl) (gkeep HB hZero rfl) H_hr.out) (H_hdv.out) ?_
        intro w5 hb5 hz5 c5 d5 hW5
        have t5 := hb5.size
        try simp only [World.size_alloc] at hz5 c5 d5
        try simp only [World.size_drew] at hz5 c5 d5
        try simp only [World.size_setCell] at hz5 c5 d5
        try simp only [World.heap_drewN] at hz5 c5 d5
        have s5_0 : w.heap.size < w5.heap.size := by omega
        have o5_0 := fun j => c5 (w.heap.size) j (by omega)
        have f5_0 := fun j => d5 (w.heap.size) j (by omega)
        have s5_1 : w.heap.size + 1 < w5.heap.size := by omega
        have o5_1 := fun j => c5 (w.heap.size + 1) j (by omega)
        have f5_1 := fun j => d5 (w.heap.size + 1) j (by omega)
        have s5_2 : w3.heap.size < w5.heap.size := by omega
        have o5_2 := fun j => c5 (w3.heap.size) j (by omega)
        have f5_2 := fun j => d5 (w3.heap.size) j (by omega)
        have s5_3 : w4.heap.size < w5.heap.size := by omega
        have o5_3 := fun j => c5 (w4.heap.size) j (by omega)
        have f5_3 := fun j => d5 (w4.heap.size) j (by omega)
        clear c5 d5 hz5 hW5
        go_wp2_with fail
        go_returns
        exact ⟨rfl, by repeat' (first | (with_reducible exact Below.refl _ _) | (with_reducible assumption) | (with_reducible refine bdn ?_) | (with_reducible refine Below.alloc ?_ ?_ _) | (with_reducible refine Below.drew ?_) | (with_reducible refine Below.setCell ?_ ?_ _) | omega | (simp <;> omega))⟩
    · have H_hm := Lib.hid hm
      clear hm
      go_wp2_with fail
      refine call_frn (w := w) (by repeat' (first | (with_reducible exact Below.refl _ _) | (with_reducible assumption) | (with_reducible refine bdn ?_) | (with_reducible refine Below.alloc ?_ ?_ _) | (with_reducible refine Below.drew ?_) | (with_reducible refine Below.setCell ?_ ?_ _) | omega | (simp <;> omega))) (fun HB => fmul_f ea a b p _ ⟨ia1, ia2⟩ ⟨ib1, ib2⟩ (gkeep HB hShape rfl) (gkeep HB hBound rfl) H_hp.out) (H_hm.out) ?_
      intro w3 hb3 hz3 c3 d3 hW3
      have t3 := hb3.size
      try simp only [World.size_alloc] at hz3 c3 d3
      try simp only [World.size_drew] at hz3 c3 d3
      try simp only [World.size_setCell] at hz3 c3 d3
      try simp only [World.heap_drewN] at hz3 c3 d3
      have s3_0 : w.heap.size < w3.heap.size := by omega
      have o3_0 := fun j => c3 (w.heap.size) j (by omega)
      have f3_0 := fun j => d3 (w.heap.size) j (by omega)
      have s3_1 : w.heap.size + 1 < w3.heap.size := by omega
      have o3_1 := fun j => c3 (w.heap.size + 1) j (by omega)
      have f3_1 := fun j => d3 (w.heap.size + 1) j (by omega)
      clear c3 d3 hz3 hW3
      go_wp2_with fail
      go_returns
      exact ⟨rfl, by repeat' (first | (with_reducible exact Below.refl _ _) | (with_reducible assumption) | (with_reducible refine bdn ?_) | (with_reducible refine Below.alloc ?_ ?_ _) | (with_reducible refine Below.drew ?_) | (with_reducible refine Below.setCell ?_ ?_ _) | omega | (simp <;> omega))⟩
end Go.Proofs.YthpicnajemnfdaaDoor
