/-
  The walk over the statement FracMakes, first part: its parts up to the reading of the text.
-/
import Derived.Test.YthijgncjaophjaaDoorMk1
import Derived.Test.YthijgncjaophjaaDoorFrac7
import Derived.Test.YthijgncjaophjaaDoorDec5
namespace Lead
open Go Go.RowKit
theorem chk_n0 {c : Nat} (h : c ≠ 0) : ((c : Int) == 0) = false := by simp; omega
theorem chk_p0 {c : Nat} (h : c ≠ 0) : decide (0 < (c : Int)) = true := by simp; omega
theorem chk_z0 {c : Nat} (h : c = 0) : ((c : Int) == 0) = true := by simp; omega
theorem chk_q0 {c : Nat} (h : c = 0) : decide (0 < (c : Int)) = false := by simp; omega
end Lead
namespace Go.Proofs.YthijgncjaophjaaDoor
open Go.RowKit Lead

theorem cmp_c (ea : Nat → Addr) (n d n' d' : Int) (c : Nat) (w : World) (hn : I64 n) (hd : I64 d) (hn' : I64 n') (hd' : I64 d') (hShape : w.cell? ⟨5, 0, none⟩ = some (.iface 312 (.pointer (some (ea 3))))) (hBound : w.cell? ⟨1, 0, none⟩ = some (.iface 312 (.pointer (some (ea 2))))) (hb : bothC n d n' d' = c) (hc : c ≠ 0) :
    Calls Tryd.prog 51 #[.agg #[.int .i64 n, .int .i64 d], .agg #[.int .i64 n', .int .i64 d']] w fun e w' =>
      e = .returned (.tuple #[.int .i64 0, evl 312 ea c]) ∧ Below w.heap.size w w' := by
  subst hb
  rw [evl_n hc]
  exact fcmp_n ea n d n' d' w hn hd hn' hd' hShape hBound hc
theorem rd_text2 {l : List UInt8} {q r : Int} (h : rdC l = 0) (hq : z0 (rdC l) (rdN l) = q) (hr : z0 (rdC l) (rdD l) = r) : txtF q r = l ∧ I64 q ∧ I64 r := by
  rw [z0_0 h] at hq hr
  cases hP : rdP l with
  | none => rw [rd_none hP] at h; cases h
  | some x =>
    obtain ⟨h1, h2, h3⟩ := rd_some (n := x.1) (d := x.2) hP
    rw [← hq, ← hr, h2, h3]
    exact ⟨rd_text (n := x.1) (d := x.2) hP, rd_I (n := x.1) (d := x.2) hP⟩
theorem ftext_s (n d : Int) (s : ByteArray) (w : World) (h : txtF n d = s.data.toList ∧ I64 n ∧ I64 d) (htab : Lib.TabIs Tryd.prog w "internal/strconv.uint64pow10" .u64 Lib.pow10Tab) :
    Calls Tryd.prog 47 #[.agg #[.int .i64 n, .int .i64 d]] w fun e w' => e = .returned (.string s) ∧ Below w.heap.size w w' := by
  have := ftext_any n d w h.2.1 h.2.2 htab
  rw [h.1] at this
  exact this
theorem fcmpr_c (n d n' d' c : Int) (w : World) (h : Right n d) (h' : Right n' d') (hc : cmpI (n * d') (n' * d) = c) :
    Calls Tryd.prog 52 #[.agg #[.int .i64 n, .int .i64 d], .agg #[.int .i64 n', .int .i64 d']] w fun e w' => e = .returned (.int .i64 c) ∧ Below w.heap.size w w' := by
  subst hc; exact rfraccmp_any n d n' d' _ _ w h h' rfl rfl

set_option maxHeartbeats 4000000 in
set_option maxRecDepth 100000 in
theorem mk_a0_2 (ea : Nat → Addr) (n d : Int) (a b : Fr) (s : ByteArray) (w : World) (hn : I64 n) (hd : I64 d) (ia : a.I) (ib : b.I) (hS : Sents ea w) (hL : Libs w) (h60 : s.size ≤ 60) (hA' : chk a.n a.d = 2)  (hR : rdC s.data.toList ≠ 0) :
    Calls Tryd.prog 8 #[.int .i64 n, .int .i64 d, .agg #[.int .i64 a.n, .int .i64 a.d], .agg #[.int .i64 b.n, .int .i64 b.d], .string s] w fun e w' => e = .returned (.bool true) ∧ Below w.heap.size w w' := by
  have hText := hS.c1
  have hBound := hS.c2
  have hShape := hS.c3
  have hZero := hS.c11
  have htab := hL.tab
  have zhShape := zlt hShape
  have xhShape := zlts hShape
  have yhShape := zne hShape
  have zhBound := zlt hBound
  have xhBound := zlts hBound
  have yhBound := zne hBound
  have zhZero := zlt hZero
  have xhZero := zlts hZero
  have yhZero := zne hZero
  have zhText := zlt hText
  have xhText := zlts hText
  have yhText := zne hText
  obtain ⟨ia1, ia2⟩ := ia
  obtain ⟨ib1, ib2⟩ := ib
  have g2 : decide (60 < (s.size : Int)) = false := by simp; omega
  obtain ⟨q, hq⟩ : ∃ q, z0 (mkC n d) (lowN n d) = q := ⟨_, rfl⟩
  obtain ⟨r, hr⟩ : ∃ q, z0 (mkC n d) (lowD n d) = q := ⟨_, rfl⟩
  obtain ⟨q2, hq2⟩ : ∃ q, z0 (rdC s.data.toList) (rdN s.data.toList) = q := ⟨_, rfl⟩
  obtain ⟨r2, hr2⟩ : ∃ q, z0 (rdC s.data.toList) (rdD s.data.toList) = q := ⟨_, rfl⟩
  have g4 := chk_n0 hR
  have hA : chk a.n a.d ≠ 0 := by omega
  have hAi : (chk a.n a.d : Int) = 2 := by omega
  have H_hAi := Lib.hid hAi
  clear hAi
  have g3 := chk_n0 hA
  have g5 := chk_p0 hA
  have g6 : decide (0 < chk a.n a.d) = true := by simp; omega
  have hC : bothC a.n a.d b.n b.d = chk a.n a.d := by unfold bothC; rw [if_neg hA]
  have H_hA := Lib.hid hA
  clear hA
  have H_hA' := Lib.hid hA'
  clear hA'
  have H_hC := Lib.hid hC
  clear hC
  have H_hS := Lib.hid hS
  clear hS
  have H_htab := Lib.hid htab
  clear htab
  have H_hL := Lib.hid hL
  clear hL
  have H_hq := Lib.hid hq
  clear hq
  have H_hr := Lib.hid hr
  clear hr
  have H_hq2 := Lib.hid hq2
  clear hq2
  have H_hr2 := Lib.hid hr2
  clear hr2
  have H_hR := Lib.hid hR
  clear hR
  go_enter Tryd.func8, Tryd.ntmps8
  go_wp2_with fail
  refine call_bel (w := w) (by repeat' (first | (with_reducible exact Below.refl _ _) | (with_reducible assumption) | (with_reducible refine bdn ?_) | (with_reducible refine Below.alloc ?_ ?_ _) | (with_reducible refine Below.drew ?_) | (with_reducible refine Below.setCell ?_ ?_ _) | omega | (simp <;> omega))) (fun HB => halved_any ea _ (gkeep HB hBound rfl) (gkeep HB hZero rfl) (tab_keep H_htab.out HB rfl)) ?_
  intro w1 hb1 hz1 c1 d1 hW1
  have t1 := hb1.size
  try simp only [World.size_alloc] at hz1 c1 d1
  try simp only [World.size_drew] at hz1 c1 d1
  try simp only [World.size_setCell] at hz1 c1 d1
  try simp only [World.heap_drewN] at hz1 c1 d1
  try simp only [World.size_alloc] at hz1 c1 d1
  try simp only [World.size_drew] at hz1 c1 d1
  try simp only [World.size_setCell] at hz1 c1 d1
  have s1_0 : w.heap.size < w1.heap.size := by omega
  have o1_0 := fun j => c1 (w.heap.size) j (by omega)
  have f1_0 := fun j => d1 (w.heap.size) j (by omega)
  have s1_1 : w.heap.size + 1 < w1.heap.size := by omega
  have o1_1 := fun j => c1 (w.heap.size + 1) j (by omega)
  have f1_1 := fun j => d1 (w.heap.size + 1) j (by omega)
  clear c1 d1 hz1 hW1
  go_wp2_with fail
  refine call_bel (w := w) (by repeat' (first | (with_reducible exact Below.refl _ _) | (with_reducible assumption) | (with_reducible refine bdn ?_) | (with_reducible refine Below.alloc ?_ ?_ _) | (with_reducible refine Below.drew ?_) | (with_reducible refine Below.setCell ?_ ?_ _) | omega | (simp <;> omega))) (fun HB => fmake_any ea n d _ hn hd (gkeep HB hBound rfl) (gkeep HB hZero rfl)) ?_
  intro w2 hb2 hz2 c2 d2 hW2
  have t2 := hb2.size
  try simp only [World.size_alloc] at hz2 c2 d2
  try simp only [World.size_drew] at hz2 c2 d2
  try simp only [World.size_setCell] at hz2 c2 d2
  try simp only [World.heap_drewN] at hz2 c2 d2
  try simp only [World.size_alloc] at hz2 c2 d2
  try simp only [World.size_drew] at hz2 c2 d2
  try simp only [World.size_setCell] at hz2 c2 d2
  have s2_0 : w.heap.size < w2.heap.size := by omega
  have o2_0 := fun j => c2 (w.heap.size) j (by omega)
  have f2_0 := fun j => d2 (w.heap.size) j (by omega)
  have s2_1 : w.heap.size + 1 < w2.heap.size := by omega
  have o2_1 := fun j => c2 (w.heap.size + 1) j (by omega)
  have f2_1 := fun j => d2 (w.heap.size + 1) j (by omega)
  clear c2 d2 hz2 hW2
  rw [frV_z, H_hq.out, H_hr.out]
  go_wp2_with fail
  refine call_bel (w := w) (by repeat' (first | (with_reducible exact Below.refl _ _) | (with_reducible assumption) | (with_reducible refine bdn ?_) | (with_reducible refine Below.alloc ?_ ?_ _) | (with_reducible refine Below.drew ?_) | (with_reducible refine Below.setCell ?_ ?_ _) | omega | (simp <;> omega))) (fun HB => rfracmake_any n d _) ?_
  intro w3 hb3 hz3 c3 d3 hW3
  have t3 := hb3.size
  have e3_2 : Below w2.heap.size w2 w3 := below_via (by repeat' (first | (with_reducible exact Below.refl _ _) | (with_reducible assumption) | (with_reducible refine bdn ?_) | (with_reducible refine Below.alloc ?_ ?_ _) | (with_reducible refine Below.drew ?_) | (with_reducible refine Below.setCell ?_ ?_ _) | omega | (simp <;> omega))) hW3
  have te3_2 := e3_2.size
  try simp only [World.size_alloc] at hz3 c3 d3
  try simp only [World.size_drew] at hz3 c3 d3
  try simp only [World.size_setCell] at hz3 c3 d3
  try simp only [World.heap_drewN] at hz3 c3 d3
  try simp only [World.size_alloc] at hz3 c3 d3
  try simp only [World.size_drew] at hz3 c3 d3
  try simp only [World.size_setCell] at hz3 c3 d3
  have s3_0 : w.heap.size < w3.heap.size := by omega
  have o3_0 := fun j => c3 (w.heap.size) j (by omega)
  have f3_0 := fun j => d3 (w.heap.size) j (by omega)
  have s3_1 : w.heap.size + 1 < w3.heap.size := by omega
  have o3_1 := fun j => c3 (w.heap.size + 1) j (by omega)
  have f3_1 := fun j => d3 (w.heap.size + 1) j (by omega)
  have s3_2 : w2.heap.size < w3.heap.size := by omega
  have o3_2 := fun j => c3 (w2.heap.size) j (by omega)
  have f3_2 := fun j => d3 (w2.heap.size) j (by omega)
  clear c3 d3 hz3 hW3
  rw [frN, H_hq.out, H_hr.out]
  have p2 : ∀ j, w3.cell? ⟨w2.heap.size, j, none⟩ = #[Value.int .i64 q, Value.int .i64 r][j]? := fun j => by rw [o3_2]; exact World.cell?_alloc_new _ _ _ _
  have p0 : ∀ j, w3.cell? ⟨w.heap.size, j, none⟩ = #[Value.int .i64 a.n, Value.int .i64 a.d][j]? := fun j => by rw [o3_0, World.cell?_alloc_lt _ _ _ (by simp; omega), o2_0, o1_0, World.cell?_alloc_lt _ _ _ (by simp)]; exact World.cell?_alloc_new _ _ _ _
  have p1 : ∀ j, w3.cell? ⟨w.heap.size + 1, j, none⟩ = #[Value.int .i64 b.n, Value.int .i64 b.d][j]? := fun j => by rw [o3_1, World.cell?_alloc_lt _ _ _ (by simp; omega), o2_1, o1_1]; have hj := World.cell?_alloc_new (w.alloc (.cells #[.int .i64 a.n, .int .i64 a.d] 90)) #[.int .i64 b.n, .int .i64 b.d] 90 j; rw [World.size_alloc] at hj; exact hj
  have SK : ∀ W, Below (w3.heap.size + 1) (w3.alloc (.cells #[.int .i64 q, .int .i64 r] 90)) W → Below (w3.heap.size + 1) (w3.alloc (.cells #[.int .i64 q, .int .i64 r] 90)) W ∧ (∀ j, W.cell? ⟨w.heap.size, j, none⟩ = #[Value.int .i64 a.n, Value.int .i64 a.d][j]?) ∧ (∀ j, W.cell? ⟨w2.heap.size, j, none⟩ = #[Value.int .i64 q, Value.int .i64 r][j]?) ∧ (∀ j, W.cell? ⟨w3.heap.size, j, none⟩ = #[Value.int .i64 q, Value.int .i64 r][j]?) := by
    intro W h
    refine ⟨h, fun j => ?_, fun j => ?_, fun j => ?_⟩
    · rw [h.cell (by simp; omega), World.cell?_alloc_lt _ _ _ (by simp; omega)]; exact p0 j
    · rw [h.cell (by simp; omega), World.cell?_alloc_lt _ _ _ (by simp; omega)]; exact p2 j
    · rw [h.cell (by simp)]; exact World.cell?_alloc_new _ _ _ _
  have KB : ∀ W, Below (w3.heap.size + 1) (w3.alloc (.cells #[.int .i64 q, .int .i64 r] 90)) W → Below w3.heap.size w3 W := fun W h => ((Below.refl _ _).alloc (Nat.le_refl _) _).trans (h.mono (by omega))
  have HK : ∀ W, Below (w3.heap.size + 1) (w3.alloc (.cells #[.int .i64 q, .int .i64 r] 90)) W ∧ (∀ j, W.cell? ⟨w.heap.size, j, none⟩ = #[Value.int .i64 a.n, Value.int .i64 a.d][j]?) ∧ (∀ j, W.cell? ⟨w2.heap.size, j, none⟩ = #[Value.int .i64 q, Value.int .i64 r][j]?) ∧ (∀ j, W.cell? ⟨w3.heap.size, j, none⟩ = #[Value.int .i64 q, Value.int .i64 r][j]?) → W.cell? ⟨5, 0, none⟩ = some (.iface 312 (.pointer (some (ea 3)))) ∧ W.cell? ⟨1, 0, none⟩ = some (.iface 312 (.pointer (some (ea 2)))) ∧ Sents ea W := by
    intro W h
    have k' := hb3.trans ((KB W h.1).mono t3)
    exact ⟨gkeep k' hShape rfl, gkeep k' hBound rfl, H_hS.out.keep k' rfl⟩
  have pf2 := f3_2
  have H_SK := Lib.hid SK
  clear SK
  have H_KB := Lib.hid KB
  clear KB
  have H_HK := Lib.hid HK
  clear HK
  go_wp2_with fail
  clear o1_0 f1_0 o1_1 f1_1 o2_0 f2_0 o2_1 f2_1 o3_0 f3_0 o3_1 f3_1 o3_2 f3_2
  go_region_held3 (fun W => Below (w3.heap.size + 1) (w3.alloc (.cells #[.int .i64 q, .int .i64 r] 90)) W ∧ (∀ j, W.cell? ⟨w.heap.size, j, none⟩ = #[Value.int .i64 a.n, Value.int .i64 a.d][j]?) ∧ (∀ j, W.cell? ⟨w2.heap.size, j, none⟩ = #[Value.int .i64 q, Value.int .i64 r][j]?) ∧ (∀ j, W.cell? ⟨w3.heap.size, j, none⟩ = #[Value.int .i64 q, Value.int .i64 r][j]?)) (first | exact H_SK.out _ (Below.refl _ _).drew | exact H_SK.out _ (held_step (by simp) (by assumption) (by assumption)))
    (first | (go_at_call 45; (with_reducible refine (fcheck_any ea a.n a.d _ ia1 ia2 (H_HK.out _ (by assumption)).1 (H_HK.out _ (by assumption)).2.1).mono ?_); rintro e w' ⟨rfl, hbb⟩) | (go_at_call 46; (with_reducible refine (rfracerror_any a.n a.d _ ia1 ia2).mono ?_); rintro e w' ⟨rfl, hbb⟩) | (go_at_call 29; (with_reducible refine (coded1_t ea (mkC n d) _ (mkC_le n d) (H_HK.out _ (by assumption)).2.2).mono ?_); rintro e w' ⟨rfl, hbb⟩) | (go_at_call 29; (with_reducible refine (coded1_t ea (chk a.n a.d) _ (chk_le11 a.n a.d) (H_HK.out _ (by assumption)).2.2).mono ?_); rintro e w' ⟨rfl, hbb⟩))
  rename_i hh
  have hS1 := hh.1
  have o30_0 := hh.2.1
  have o30_2 := hh.2.2.1
  have o30_3 := hh.2.2.2
  clear hh
  generalize hW : w' = w30 at *
  clear hW hbb
  have e30_3 : Below w3.heap.size w3 w30 := H_KB.out _ hS1
  have hb30 : Below w.heap.size w w30 := hb3.trans (e30_3.mono t3)
  have e30_2 : Below w2.heap.size w2 w30 := e3_2.trans (e30_3.mono te3_2)
  have o30_1 : ∀ j, w30.cell? ⟨w.heap.size + 1, j, none⟩ = #[Value.int .i64 b.n, Value.int .i64 b.d][j]? := fun j => by rw [e30_3.cell (by simp; omega)]; exact p1 j
  have t30 : w3.heap.size + 1 ≤ w30.heap.size := by have := hS1.size; simpa using this
  have f30_2 : ∀ j, w30.frozen? ⟨w2.heap.size, j, none⟩ = (w2.alloc (.cells #[.int .i64 q, .int .i64 r] 90)).frozen? ⟨w2.heap.size, j, none⟩ := fun j => by rw [e30_3.frozen (by simp; omega)]; exact pf2 j
  have f30_3 : ∀ j, w30.frozen? ⟨w3.heap.size, j, none⟩ = (w3.alloc (.cells #[.int .i64 q, .int .i64 r] 90)).frozen? ⟨w3.heap.size, j, none⟩ := fun j => hS1.frozen (by simp)
  have s30_0 : w.heap.size < w30.heap.size := by omega
  have s30_1 : w.heap.size + 1 < w30.heap.size := by omega
  have s30_2 : w2.heap.size < w30.heap.size := by omega
  have s30_3 : w3.heap.size < w30.heap.size := by omega
  have SK8 : ∀ W, Below w30.heap.size w30 W → Below w30.heap.size w30 W ∧ (∀ j, W.cell? ⟨w.heap.size, j, none⟩ = #[Value.int .i64 a.n, Value.int .i64 a.d][j]?) := by
    intro W h
    refine ⟨h, fun j => ?_⟩
    rw [h.cell s30_0]; exact o30_0 j
  have HT8 : ∀ W, Below w30.heap.size w30 W ∧ (∀ j, W.cell? ⟨w.heap.size, j, none⟩ = #[Value.int .i64 a.n, Value.int .i64 a.d][j]?) → Lib.TabIs Tryd.prog W "internal/strconv.uint64pow10" .u64 Lib.pow10Tab := fun W h => tab_keep H_htab.out (hb30.trans (h.1.mono (by omega))) rfl
  have H_SK8 := Lib.hid SK8
  clear SK8
  have H_HT8 := Lib.hid HT8
  clear HT8
  go_wp2_with fail
  go_region_with (go_at_call 46; (with_reducible refine (rfracerror_c a.n a.d 2 _ H_hAi.out ia1 ia2).mono ?_); rintro e w' ⟨rfl, hbb⟩)
  all_goals
    have hS8 : Below w30.heap.size w30 w' := by first | exact hbb | exact (Below.refl _ _).drew.trans (hbb.mono (by simp)) | exact (Below.refl _ _).trans (hbb.mono (by simp))
    generalize hW : w' = w31 at *
    clear hW hbb
    have hb31 : Below w.heap.size w w31 := hb30.trans (hS8.mono (by omega))
    have t31 := hS8.size
    have o31_0 : ∀ j, w31.cell? ⟨w.heap.size, j, none⟩ = #[Value.int .i64 a.n, Value.int .i64 a.d][j]? := fun j => by rw [hS8.cell s30_0]; exact o30_0 j
    have o31_1 : ∀ j, w31.cell? ⟨w.heap.size + 1, j, none⟩ = #[Value.int .i64 b.n, Value.int .i64 b.d][j]? := fun j => by rw [hS8.cell s30_1]; exact o30_1 j
    have o31_2 : ∀ j, w31.cell? ⟨w2.heap.size, j, none⟩ = #[Value.int .i64 q, Value.int .i64 r][j]? := fun j => by rw [hS8.cell s30_2]; exact o30_2 j
    have o31_3 : ∀ j, w31.cell? ⟨w3.heap.size, j, none⟩ = #[Value.int .i64 q, Value.int .i64 r][j]? := fun j => by rw [hS8.cell s30_3]; exact o30_3 j
    have f31_2 : ∀ j, w31.frozen? ⟨w2.heap.size, j, none⟩ = (w2.alloc (.cells #[.int .i64 q, .int .i64 r] 90)).frozen? ⟨w2.heap.size, j, none⟩ := fun j => by rw [hS8.frozen s30_2]; exact f30_2 j
    have f31_3 : ∀ j, w31.frozen? ⟨w3.heap.size, j, none⟩ = (w3.alloc (.cells #[.int .i64 q, .int .i64 r] 90)).frozen? ⟨w3.heap.size, j, none⟩ := fun j => by rw [hS8.frozen s30_3]; exact f30_3 j
    have s31_0 : w.heap.size < w31.heap.size := by omega
    have s31_1 : w.heap.size + 1 < w31.heap.size := by omega
    have s31_2 : w2.heap.size < w31.heap.size := by omega
    have s31_3 : w3.heap.size < w31.heap.size := by omega
    clear hS8 o30_0 o30_1 o30_2 o30_3 f30_2 f30_3
    go_wp2_with fail
    refine call_bel (w := w) (by repeat' (first | (with_reducible exact Below.refl _ _) | (with_reducible assumption) | (with_reducible refine bdn ?_) | (with_reducible refine Below.alloc ?_ ?_ _) | (with_reducible refine Below.drew ?_) | (with_reducible refine Below.setCell ?_ ?_ _) | omega | (simp <;> omega))) (fun HB => fread_any ea s _ (by omega) (H_hL.out.keep HB rfl) (gkeep HB hText rfl) (gkeep HB hShape rfl) (gkeep HB hBound rfl)) ?_
    intro w4 hb4 hz4 c4 d4 hW4
    have t4 := hb4.size
    try simp only [World.size_alloc] at hz4 c4 d4
    try simp only [World.size_drew] at hz4 c4 d4
    try simp only [World.size_setCell] at hz4 c4 d4
    try simp only [World.heap_drewN] at hz4 c4 d4
    try simp only [World.size_alloc] at hz4 c4 d4
    try simp only [World.size_drew] at hz4 c4 d4
    try simp only [World.size_setCell] at hz4 c4 d4
    have s4_0 : w.heap.size < w4.heap.size := by omega
    have o4_0 := fun j => c4 (w.heap.size) j (by omega)
    have f4_0 := fun j => d4 (w.heap.size) j (by omega)
    have s4_1 : w.heap.size + 1 < w4.heap.size := by omega
    have o4_1 := fun j => c4 (w.heap.size + 1) j (by omega)
    have f4_1 := fun j => d4 (w.heap.size + 1) j (by omega)
    have s4_2 : w2.heap.size < w4.heap.size := by omega
    have o4_2 := fun j => c4 (w2.heap.size) j (by omega)
    have f4_2 := fun j => d4 (w2.heap.size) j (by omega)
    have s4_3 : w3.heap.size < w4.heap.size := by omega
    have o4_3 := fun j => c4 (w3.heap.size) j (by omega)
    have f4_3 := fun j => d4 (w3.heap.size) j (by omega)
    clear c4 d4 hz4 hW4
    rw [frV_z, H_hq2.out, H_hr2.out]
    go_wp2_with fail
    refine call_bel (w := w) (by repeat' (first | (with_reducible exact Below.refl _ _) | (with_reducible assumption) | (with_reducible refine bdn ?_) | (with_reducible refine Below.alloc ?_ ?_ _) | (with_reducible refine Below.drew ?_) | (with_reducible refine Below.setCell ?_ ?_ _) | omega | (simp <;> omega))) (fun HB => rfracof_any s _ (by omega)) ?_
    intro w5 hb5 hz5 c5 d5 hW5
    have t5 := hb5.size
    try simp only [World.size_alloc] at hz5 c5 d5
    try simp only [World.size_drew] at hz5 c5 d5
    try simp only [World.size_setCell] at hz5 c5 d5
    try simp only [World.heap_drewN] at hz5 c5 d5
    try simp only [World.size_alloc] at hz5 c5 d5
    try simp only [World.size_drew] at hz5 c5 d5
    try simp only [World.size_setCell] at hz5 c5 d5
    have s5_0 : w.heap.size < w5.heap.size := by omega
    have o5_0 := fun j => c5 (w.heap.size) j (by omega)
    have f5_0 := fun j => d5 (w.heap.size) j (by omega)
    have s5_1 : w.heap.size + 1 < w5.heap.size := by omega
    have o5_1 := fun j => c5 (w.heap.size + 1) j (by omega)
    have f5_1 := fun j => d5 (w.heap.size + 1) j (by omega)
    have s5_2 : w2.heap.size < w5.heap.size := by omega
    have o5_2 := fun j => c5 (w2.heap.size) j (by omega)
    have f5_2 := fun j => d5 (w2.heap.size) j (by omega)
    have s5_3 : w3.heap.size < w5.heap.size := by omega
    have o5_3 := fun j => c5 (w3.heap.size) j (by omega)
    have f5_3 := fun j => d5 (w3.heap.size) j (by omega)
    clear c5 d5 hz5 hW5
    rw [frN, H_hq2.out, H_hr2.out]
    go_wp2_with fail
    refine call_bel (w := w) (by repeat' (first | (with_reducible exact Below.refl _ _) | (with_reducible assumption) | (with_reducible refine bdn ?_) | (with_reducible refine Below.alloc ?_ ?_ _) | (with_reducible refine Below.drew ?_) | (with_reducible refine Below.setCell ?_ ?_ _) | omega | (simp <;> omega))) (fun HB => coded1_t ea (rdC s.data.toList) _ (rdC_le _) (H_hS.out.keep HB rfl)) ?_
    intro w6 hb6 hz6 c6 d6 hW6
    have t6 := hb6.size
    try simp only [World.size_alloc] at hz6 c6 d6
    try simp only [World.size_drew] at hz6 c6 d6
    try simp only [World.size_setCell] at hz6 c6 d6
    try simp only [World.heap_drewN] at hz6 c6 d6
    try simp only [World.size_alloc] at hz6 c6 d6
    try simp only [World.size_drew] at hz6 c6 d6
    try simp only [World.size_setCell] at hz6 c6 d6
    have s6_0 : w.heap.size < w6.heap.size := by omega
    have o6_0 := fun j => c6 (w.heap.size) j (by omega)
    have f6_0 := fun j => d6 (w.heap.size) j (by omega)
    have s6_1 : w.heap.size + 1 < w6.heap.size := by omega
    have o6_1 := fun j => c6 (w.heap.size + 1) j (by omega)
    have f6_1 := fun j => d6 (w.heap.size + 1) j (by omega)
    have s6_2 : w2.heap.size < w6.heap.size := by omega
    have o6_2 := fun j => c6 (w2.heap.size) j (by omega)
    have f6_2 := fun j => d6 (w2.heap.size) j (by omega)
    have s6_3 : w3.heap.size < w6.heap.size := by omega
    have o6_3 := fun j => c6 (w3.heap.size) j (by omega)
    have f6_3 := fun j => d6 (w3.heap.size) j (by omega)
    clear c6 d6 hz6 hW6
    go_wp2_with fail
    refine call_bel (w := w) (by repeat' (first | (with_reducible exact Below.refl _ _) | (with_reducible assumption) | (with_reducible refine bdn ?_) | (with_reducible refine Below.alloc ?_ ?_ _) | (with_reducible refine Below.drew ?_) | (with_reducible refine Below.setCell ?_ ?_ _) | omega | (simp <;> omega))) (fun HB => cmp_c ea a.n a.d b.n b.d (chk a.n a.d) _ ia1 ia2 ib1 ib2 (gkeep HB hShape rfl) (gkeep HB hBound rfl) H_hC.out H_hA.out) ?_
    intro w8 hb8 hz8 c8 d8 hW8
    have t8 := hb8.size
    try simp only [World.size_alloc] at hz8 c8 d8
    try simp only [World.size_drew] at hz8 c8 d8
    try simp only [World.size_setCell] at hz8 c8 d8
    try simp only [World.heap_drewN] at hz8 c8 d8
    try simp only [World.size_alloc] at hz8 c8 d8
    try simp only [World.size_drew] at hz8 c8 d8
    try simp only [World.size_setCell] at hz8 c8 d8
    have s8_0 : w.heap.size < w8.heap.size := by omega
    have o8_0 := fun j => c8 (w.heap.size) j (by omega)
    have f8_0 := fun j => d8 (w.heap.size) j (by omega)
    have s8_1 : w.heap.size + 1 < w8.heap.size := by omega
    have o8_1 := fun j => c8 (w.heap.size + 1) j (by omega)
    have f8_1 := fun j => d8 (w.heap.size + 1) j (by omega)
    have s8_2 : w2.heap.size < w8.heap.size := by omega
    have o8_2 := fun j => c8 (w2.heap.size) j (by omega)
    have f8_2 := fun j => d8 (w2.heap.size) j (by omega)
    have s8_3 : w3.heap.size < w8.heap.size := by omega
    have o8_3 := fun j => c8 (w3.heap.size) j (by omega)
    have f8_3 := fun j => d8 (w3.heap.size) j (by omega)
    clear c8 d8 hz8 hW8
    go_wp2_with fail
    refine call_bel (w := w) (by repeat' (first | (with_reducible exact Below.refl _ _) | (with_reducible assumption) | (with_reducible refine bdn ?_) | (with_reducible refine Below.alloc ?_ ?_ _) | (with_reducible refine Below.drew ?_) | (with_reducible refine Below.setCell ?_ ?_ _) | omega | (simp <;> omega))) (fun HB => rfracerror_any a.n a.d _ ia1 ia2) ?_
    intro w9 hb9 hz9 c9 d9 hW9
    have t9 := hb9.size
    try simp only [World.size_alloc] at hz9 c9 d9
    try simp only [World.size_drew] at hz9 c9 d9
    try simp only [World.size_setCell] at hz9 c9 d9
    try simp only [World.heap_drewN] at hz9 c9 d9
    try simp only [World.size_alloc] at hz9 c9 d9
    try simp only [World.size_drew] at hz9 c9 d9
    try simp only [World.size_setCell] at hz9 c9 d9
    have s9_0 : w.heap.size < w9.heap.size := by omega
    have o9_0 := fun j => c9 (w.heap.size) j (by omega)
    have f9_0 := fun j => d9 (w.heap.size) j (by omega)
    have s9_1 : w.heap.size + 1 < w9.heap.size := by omega
    have o9_1 := fun j => c9 (w.heap.size + 1) j (by omega)
    have f9_1 := fun j => d9 (w.heap.size + 1) j (by omega)
    have s9_2 : w2.heap.size < w9.heap.size := by omega
    have o9_2 := fun j => c9 (w2.heap.size) j (by omega)
    have f9_2 := fun j => d9 (w2.heap.size) j (by omega)
    have s9_3 : w3.heap.size < w9.heap.size := by omega
    have o9_3 := fun j => c9 (w3.heap.size) j (by omega)
    have f9_3 := fun j => d9 (w3.heap.size) j (by omega)
    clear c9 d9 hz9 hW9
    go_wp2_with fail
    refine call_bel (w := w) (by repeat' (first | (with_reducible exact Below.refl _ _) | (with_reducible assumption) | (with_reducible refine bdn ?_) | (with_reducible refine Below.alloc ?_ ?_ _) | (with_reducible refine Below.drew ?_) | (with_reducible refine Below.setCell ?_ ?_ _) | omega | (simp <;> omega))) (fun HB => coded1_t ea (chk a.n a.d) _ (chk_le11 _ _) (H_hS.out.keep HB rfl)) ?_
    intro w10 hb10 hz10 c10 d10 hW10
    have t10 := hb10.size
    try simp only [World.size_alloc] at hz10 c10 d10
    try simp only [World.size_drew] at hz10 c10 d10
    try simp only [World.size_setCell] at hz10 c10 d10
    try simp only [World.heap_drewN] at hz10 c10 d10
    try simp only [World.size_alloc] at hz10 c10 d10
    try simp only [World.size_drew] at hz10 c10 d10
    try simp only [World.size_setCell] at hz10 c10 d10
    have s10_0 : w.heap.size < w10.heap.size := by omega
    have o10_0 := fun j => c10 (w.heap.size) j (by omega)
    have f10_0 := fun j => d10 (w.heap.size) j (by omega)
    have s10_1 : w.heap.size + 1 < w10.heap.size := by omega
    have o10_1 := fun j => c10 (w.heap.size + 1) j (by omega)
    have f10_1 := fun j => d10 (w.heap.size + 1) j (by omega)
    have s10_2 : w2.heap.size < w10.heap.size := by omega
    have o10_2 := fun j => c10 (w2.heap.size) j (by omega)
    have f10_2 := fun j => d10 (w2.heap.size) j (by omega)
    have s10_3 : w3.heap.size < w10.heap.size := by omega
    have o10_3 := fun j => c10 (w3.heap.size) j (by omega)
    have f10_3 := fun j => d10 (w3.heap.size) j (by omega)
    clear c10 d10 hz10 hW10
    go_wp2_with fail
    go_returns
    exact ⟨rfl, by repeat' (first | (with_reducible exact Below.refl _ _) | (with_reducible assumption) | (with_reducible refine bdn ?_) | (with_reducible refine Below.alloc ?_ ?_ _) | (with_reducible refine Below.drew ?_) | (with_reducible refine Below.setCell ?_ ?_ _) | omega | (simp <;> omega))⟩

set_option maxHeartbeats 4000000 in
set_option maxRecDepth 100000 in
theorem mk_a0_3 (ea : Nat → Addr) (n d : Int) (a b : Fr) (s : ByteArray) (w : World) (hn : I64 n) (hd : I64 d) (ia : a.I) (ib : b.I) (hS : Sents ea w) (hL : Libs w) (h60 : s.size ≤ 60) (hA' : chk a.n a.d = 3)  (hR : rdC s.data.toList ≠ 0) :
    Calls Tryd.prog 8 #[.int .i64 n, .int .i64 d, .agg #[.int .i64 a.n, .int .i64 a.d], .agg #[.int .i64 b.n, .int .i64 b.d], .string s] w fun e w' => e = .returned (.bool true) ∧ Below w.heap.size w w' := by
  have hText := hS.c1
  have hBound := hS.c2
  have hShape := hS.c3
  have hZero := hS.c11
  have htab := hL.tab
  have zhShape := zlt hShape
  have xhShape := zlts hShape
  have yhShape := zne hShape
  have zhBound := zlt hBound
  have xhBound := zlts hBound
  have yhBound := zne hBound
  have zhZero := zlt hZero
  have xhZero := zlts hZero
  have yhZero := zne hZero
  have zhText := zlt hText
  have xhText := zlts hText
  have yhText := zne hText
  obtain ⟨ia1, ia2⟩ := ia
  obtain ⟨ib1, ib2⟩ := ib
  have g2 : decide (60 < (s.size : Int)) = false := by simp; omega
  obtain ⟨q, hq⟩ : ∃ q, z0 (mkC n d) (lowN n d) = q := ⟨_, rfl⟩
  obtain ⟨r, hr⟩ : ∃ q, z0 (mkC n d) (lowD n d) = q := ⟨_, rfl⟩
  obtain ⟨q2, hq2⟩ : ∃ q, z0 (rdC s.data.toList) (rdN s.data.toList) = q := ⟨_, rfl⟩
  obtain ⟨r2, hr2⟩ : ∃ q, z0 (rdC s.data.toList) (rdD s.data.toList) = q := ⟨_, rfl⟩
  have g4 := chk_n0 hR
  have hA : chk a.n a.d ≠ 0 := by omega
  have hAi : (chk a.n a.d : Int) = 3 := by omega
  have H_hAi := Lib.hid hAi
  clear hAi
  have g3 := chk_n0 hA
  have g5 := chk_p0 hA
  have g6 : decide (0 < chk a.n a.d) = true := by simp; omega
  have hC : bothC a.n a.d b.n b.d = chk a.n a.d := by unfold bothC; rw [if_neg hA]
  have H_hA := Lib.hid hA
  clear hA
  have H_hA' := Lib.hid hA'
  clear hA'
  have H_hC := Lib.hid hC
  clear hC
  have H_hS := Lib.hid hS
  clear hS
  have H_htab := Lib.hid htab
  clear htab
  have H_hL := Lib.hid hL
  clear hL
  have H_hq := Lib.hid hq
  clear hq
  have H_hr := Lib.hid hr
  clear hr
  have H_hq2 := Lib.hid hq2
  clear hq2
  have H_hr2 := Lib.hid hr2
  clear hr2
  have H_hR := Lib.hid hR
  clear hR
  go_enter Tryd.func8, Tryd.ntmps8
  go_wp2_with fail
  refine call_bel (w := w) (by repeat' (first | (with_reducible exact Below.refl _ _) | (with_reducible assumption) | (with_reducible refine bdn ?_) | (with_reducible refine Below.alloc ?_ ?_ _) | (with_reducible refine Below.drew ?_) | (with_reducible refine Below.setCell ?_ ?_ _) | omega | (simp <;> omega))) (fun HB => halved_any ea _ (gkeep HB hBound rfl) (gkeep HB hZero rfl) (tab_keep H_htab.out HB rfl)) ?_
  intro w1 hb1 hz1 c1 d1 hW1
  have t1 := hb1.size
  try simp only [World.size_alloc] at hz1 c1 d1
  try simp only [World.size_drew] at hz1 c1 d1
  try simp only [World.size_setCell] at hz1 c1 d1
  try simp only [World.heap_drewN] at hz1 c1 d1
  try simp only [World.size_alloc] at hz1 c1 d1
  try simp only [World.size_drew] at hz1 c1 d1
  try simp only [World.size_setCell] at hz1 c1 d1
  have s1_0 : w.heap.size < w1.heap.size := by omega
  have o1_0 := fun j => c1 (w.heap.size) j (by omega)
  have f1_0 := fun j => d1 (w.heap.size) j (by omega)
  have s1_1 : w.heap.size + 1 < w1.heap.size := by omega
  have o1_1 := fun j => c1 (w.heap.size + 1) j (by omega)
  have f1_1 := fun j => d1 (w.heap.size + 1) j (by omega)
  clear c1 d1 hz1 hW1
  go_wp2_with fail
  refine call_bel (w := w) (by repeat' (first | (with_reducible exact Below.refl _ _) | (with_reducible assumption) | (with_reducible refine bdn ?_) | (with_reducible refine Below.alloc ?_ ?_ _) | (with_reducible refine Below.drew ?_) | (with_reducible refine Below.setCell ?_ ?_ _) | omega | (simp <;> omega))) (fun HB => fmake_any ea n d _ hn hd (gkeep HB hBound rfl) (gkeep HB hZero rfl)) ?_
  intro w2 hb2 hz2 c2 d2 hW2
  have t2 := hb2.size
  try simp only [World.size_alloc] at hz2 c2 d2
  try simp only [World.size_drew] at hz2 c2 d2
  try simp only [World.size_setCell] at hz2 c2 d2
  try simp only [World.heap_drewN] at hz2 c2 d2
  try simp only [World.size_alloc] at hz2 c2 d2
  try simp only [World.size_drew] at hz2 c2 d2
  try simp only [World.size_setCell] at hz2 c2 d2
  have s2_0 : w.heap.size < w2.heap.size := by omega
  have o2_0 := fun j => c2 (w.heap.size) j (by omega)
  have f2_0 := fun j => d2 (w.heap.size) j (by omega)
  have s2_1 : w.heap.size + 1 < w2.heap.size := by omega
  have o2_1 := fun j => c2 (w.heap.size + 1) j (by omega)
  have f2_1 := fun j => d2 (w.heap.size + 1) j (by omega)
  clear c2 d2 hz2 hW2
  rw [frV_z, H_hq.out, H_hr.out]
  go_wp2_with fail
  refine call_bel (w := w) (by repeat' (first | (with_reducible exact Below.refl _ _) | (with_reducible assumption) | (with_reducible refine bdn ?_) | (with_reducible refine Below.alloc ?_ ?_ _) | (with_reducible refine Below.drew ?_) | (with_reducible refine Below.setCell ?_ ?_ _) | omega | (simp <;> omega))) (fun HB => rfracmake_any n d _) ?_
  intro w3 hb3 hz3 c3 d3 hW3
  have t3 := hb3.size
  have e3_2 : Below w2.heap.size w2 w3 := below_via (by repeat' (first | (with_reducible exact Below.refl _ _) | (with_reducible assumption) | (with_reducible refine bdn ?_) | (with_reducible refine Below.alloc ?_ ?_ _) | (with_reducible refine Below.drew ?_) | (with_reducible refine Below.setCell ?_ ?_ _) | omega | (simp <;> omega))) hW3
  have te3_2 := e3_2.size
  try simp only [World.size_alloc] at hz3 c3 d3
  try simp only [World.size_drew] at hz3 c3 d3
  try simp only [World.size_setCell] at hz3 c3 d3
  try simp only [World.heap_drewN] at hz3 c3 d3
  try simp only [World.size_alloc] at hz3 c3 d3
  try simp only [World.size_drew] at hz3 c3 d3
  try simp only [World.size_setCell] at hz3 c3 d3
  have s3_0 : w.heap.size < w3.heap.size := by omega
  have o3_0 := fun j => c3 (w.heap.size) j (by omega)
  have f3_0 := fun j => d3 (w.heap.size) j (by omega)
  have s3_1 : w.heap.size + 1 < w3.heap.size := by omega
  have o3_1 := fun j => c3 (w.heap.size + 1) j (by omega)
  have f3_1 := fun j => d3 (w.heap.size + 1) j (by omega)
  have s3_2 : w2.heap.size < w3.heap.size := by omega
  have o3_2 := fun j => c3 (w2.heap.size) j (by omega)
  have f3_2 := fun j => d3 (w2.heap.size) j (by omega)
  clear c3 d3 hz3 hW3
  rw [frN, H_hq.out, H_hr.out]
  have p2 : ∀ j, w3.cell? ⟨w2.heap.size, j, none⟩ = #[Value.int .i64 q, Value.int .i64 r][j]? := fun j => by rw [o3_2]; exact World.cell?_alloc_new _ _ _ _
  have p0 : ∀ j, w3.cell? ⟨w.heap.size, j, none⟩ = #[Value.int .i64 a.n, Value.int .i64 a.d][j]? := fun j => by rw [o3_0, World.cell?_alloc_lt _ _ _ (by simp; omega), o2_0, o1_0, World.cell?_alloc_lt _ _ _ (by simp)]; exact World.cell?_alloc_new _ _ _ _
  have p1 : ∀ j, w3.cell? ⟨w.heap.size + 1, j, none⟩ = #[Value.int .i64 b.n, Value.int .i64 b.d][j]? := fun j => by rw [o3_1, World.cell?_alloc_lt _ _ _ (by simp; omega), o2_1, o1_1]; have hj := World.cell?_alloc_new (w.alloc (.cells #[.int .i64 a.n, .int .i64 a.d] 90)) #[.int .i64 b.n, .int .i64 b.d] 90 j; rw [World.size_alloc] at hj; exact hj
  have SK : ∀ W, Below (w3.heap.size + 1) (w3.alloc (.cells #[.int .i64 q, .int .i64 r] 90)) W → Below (w3.heap.size + 1) (w3.alloc (.cells #[.int .i64 q, .int .i64 r] 90)) W ∧ (∀ j, W.cell? ⟨w.heap.size, j, none⟩ = #[Value.int .i64 a.n, Value.int .i64 a.d][j]?) ∧ (∀ j, W.cell? ⟨w2.heap.size, j, none⟩ = #[Value.int .i64 q, Value.int .i64 r][j]?) ∧ (∀ j, W.cell? ⟨w3.heap.size, j, none⟩ = #[Value.int .i64 q, Value.int .i64 r][j]?) := by
    intro W h
    refine ⟨h, fun j => ?_, fun j => ?_, fun j => ?_⟩
    · rw [h.cell (by simp; omega), World.cell?_alloc_lt _ _ _ (by simp; omega)]; exact p0 j
    · rw [h.cell (by simp; omega), World.cell?_alloc_lt _ _ _ (by simp; omega)]; exact p2 j
    · rw [h.cell (by simp)]; exact World.cell?_alloc_new _ _ _ _
  have KB : ∀ W, Below (w3.heap.size + 1) (w3.alloc (.cells #[.int .i64 q, .int .i64 r] 90)) W → Below w3.heap.size w3 W := fun W h => ((Below.refl _ _).alloc (Nat.le_refl _) _).trans (h.mono (by omega))
  have HK : ∀ W, Below (w3.heap.size + 1) (w3.alloc (.cells #[.int .i64 q, .int .i64 r] 90)) W ∧ (∀ j, W.cell? ⟨w.heap.size, j, none⟩ = #[Value.int .i64 a.n, Value.int .i64 a.d][j]?) ∧ (∀ j, W.cell? ⟨w2.heap.size, j, none⟩ = #[Value.int .i64 q, Value.int .i64 r][j]?) ∧ (∀ j, W.cell? ⟨w3.heap.size, j, none⟩ = #[Value.int .i64 q, Value.int .i64 r][j]?) → W.cell? ⟨5, 0, none⟩ = some (.iface 312 (.pointer (some (ea 3)))) ∧ W.cell? ⟨1, 0, none⟩ = some (.iface 312 (.pointer (some (ea 2)))) ∧ Sents ea W := by
    intro W h
    have k' := hb3.trans ((KB W h.1).mono t3)
    exact ⟨gkeep k' hShape rfl, gkeep k' hBound rfl, H_hS.out.keep k' rfl⟩
  have pf2 := f3_2
  have H_SK := Lib.hid SK
  clear SK
  have H_KB := Lib.hid KB
  clear KB
  have H_HK := Lib.hid HK
  clear HK
  go_wp2_with fail
  clear o1_0 f1_0 o1_1 f1_1 o2_0 f2_0 o2_1 f2_1 o3_0 f3_0 o3_1 f3_1 o3_2 f3_2
  go_region_held3 (fun W => Below (w3.heap.size + 1) (w3.alloc (.cells #[.int .i64 q, .int .i64 r] 90)) W ∧ (∀ j, W.cell? ⟨w.heap.size, j, none⟩ = #[Value.int .i64 a.n, Value.int .i64 a.d][j]?) ∧ (∀ j, W.cell? ⟨w2.heap.size, j, none⟩ = #[Value.int .i64 q, Value.int .i64 r][j]?) ∧ (∀ j, W.cell? ⟨w3.heap.size, j, none⟩ = #[Value.int .i64 q, Value.int .i64 r][j]?)) (first | exact H_SK.out _ (Below.refl _ _).drew | exact H_SK.out _ (held_step (by simp) (by assumption) (by assumption)))
    (first | (go_at_call 45; (with_reducible refine (fcheck_any ea a.n a.d _ ia1 ia2 (H_HK.out _ (by assumption)).1 (H_HK.out _ (by assumption)).2.1).mono ?_); rintro e w' ⟨rfl, hbb⟩) | (go_at_call 46; (with_reducible refine (rfracerror_any a.n a.d _ ia1 ia2).mono ?_); rintro e w' ⟨rfl, hbb⟩) | (go_at_call 29; (with_reducible refine (coded1_t ea (mkC n d) _ (mkC_le n d) (H_HK.out _ (by assumption)).2.2).mono ?_); rintro e w' ⟨rfl, hbb⟩) | (go_at_call 29; (with_reducible refine (coded1_t ea (chk a.n a.d) _ (chk_le11 a.n a.d) (H_HK.out _ (by assumption)).2.2).mono ?_); rintro e w' ⟨rfl, hbb⟩))
  rename_i hh
  have hS1 := hh.1
  have o30_0 := hh.2.1
  have o30_2 := hh.2.2.1
  have o30_3 := hh.2.2.2
  clear hh
  generalize hW : w' = w30 at *
  clear hW hbb
  have e30_3 : Below w3.heap.size w3 w30 := H_KB.out _ hS1
  have hb30 : Below w.heap.size w w30 := hb3.trans (e30_3.mono t3)
  have e30_2 : Below w2.heap.size w2 w30 := e3_2.trans (e30_3.mono te3_2)
  have o30_1 : ∀ j, w30.cell? ⟨w.heap.size + 1, j, none⟩ = #[Value.int .i64 b.n, Value.int .i64 b.d][j]? := fun j => by rw [e30_3.cell (by simp; omega)]; exact p1 j
  have t30 : w3.heap.size + 1 ≤ w30.heap.size := by have := hS1.size; simpa using this
  have f30_2 : ∀ j, w30.frozen? ⟨w2.heap.size, j, none⟩ = (w2.alloc (.cells #[.int .i64 q, .int .i64 r] 90)).frozen? ⟨w2.heap.size, j, none⟩ := fun j => by rw [e30_3.frozen (by simp; omega)]; exact pf2 j
  have f30_3 : ∀ j, w30.frozen? ⟨w3.heap.size, j, none⟩ = (w3.alloc (.cells #[.int .i64 q, .int .i64 r] 90)).frozen? ⟨w3.heap.size, j, none⟩ := fun j => hS1.frozen (by simp)
  have s30_0 : w.heap.size < w30.heap.size := by omega
  have s30_1 : w.heap.size + 1 < w30.heap.size := by omega
  have s30_2 : w2.heap.size < w30.heap.size := by omega
  have s30_3 : w3.heap.size < w30.heap.size := by omega
  have SK8 : ∀ W, Below w30.heap.size w30 W → Below w30.heap.size w30 W ∧ (∀ j, W.cell? ⟨w.heap.size, j, none⟩ = #[Value.int .i64 a.n, Value.int .i64 a.d][j]?) := by
    intro W h
    refine ⟨h, fun j => ?_⟩
    rw [h.cell s30_0]; exact o30_0 j
  have HT8 : ∀ W, Below w30.heap.size w30 W ∧ (∀ j, W.cell? ⟨w.heap.size, j, none⟩ = #[Value.int .i64 a.n, Value.int .i64 a.d][j]?) → Lib.TabIs Tryd.prog W "internal/strconv.uint64pow10" .u64 Lib.pow10Tab := fun W h => tab_keep H_htab.out (hb30.trans (h.1.mono (by omega))) rfl
  have H_SK8 := Lib.hid SK8
  clear SK8
  have H_HT8 := Lib.hid HT8
  clear HT8
  go_wp2_with fail
  go_region_with (go_at_call 46; (with_reducible refine (rfracerror_c a.n a.d 3 _ H_hAi.out ia1 ia2).mono ?_); rintro e w' ⟨rfl, hbb⟩)
  all_goals
    have hS8 : Below w30.heap.size w30 w' := by first | exact hbb | exact (Below.refl _ _).drew.trans (hbb.mono (by simp)) | exact (Below.refl _ _).trans (hbb.mono (by simp))
    generalize hW : w' = w31 at *
    clear hW hbb
    have hb31 : Below w.heap.size w w31 := hb30.trans (hS8.mono (by omega))
    have t31 := hS8.size
    have o31_0 : ∀ j, w31.cell? ⟨w.heap.size, j, none⟩ = #[Value.int .i64 a.n, Value.int .i64 a.d][j]? := fun j => by rw [hS8.cell s30_0]; exact o30_0 j
    have o31_1 : ∀ j, w31.cell? ⟨w.heap.size + 1, j, none⟩ = #[Value.int .i64 b.n, Value.int .i64 b.d][j]? := fun j => by rw [hS8.cell s30_1]; exact o30_1 j
    have o31_2 : ∀ j, w31.cell? ⟨w2.heap.size, j, none⟩ = #[Value.int .i64 q, Value.int .i64 r][j]? := fun j => by rw [hS8.cell s30_2]; exact o30_2 j
    have o31_3 : ∀ j, w31.cell? ⟨w3.heap.size, j, none⟩ = #[Value.int .i64 q, Value.int .i64 r][j]? := fun j => by rw [hS8.cell s30_3]; exact o30_3 j
    have f31_2 : ∀ j, w31.frozen? ⟨w2.heap.size, j, none⟩ = (w2.alloc (.cells #[.int .i64 q, .int .i64 r] 90)).frozen? ⟨w2.heap.size, j, none⟩ := fun j => by rw [hS8.frozen s30_2]; exact f30_2 j
    have f31_3 : ∀ j, w31.frozen? ⟨w3.heap.size, j, none⟩ = (w3.alloc (.cells #[.int .i64 q, .int .i64 r] 90)).frozen? ⟨w3.heap.size, j, none⟩ := fun j => by rw [hS8.frozen s30_3]; exact f30_3 j
    have s31_0 : w.heap.size < w31.heap.size := by omega
    have s31_1 : w.heap.size + 1 < w31.heap.size := by omega
    have s31_2 : w2.heap.size < w31.heap.size := by omega
    have s31_3 : w3.heap.size < w31.heap.size := by omega
    clear hS8 o30_0 o30_1 o30_2 o30_3 f30_2 f30_3
    go_wp2_with fail
    refine call_bel (w := w) (by repeat' (first | (with_reducible exact Below.refl _ _) | (with_reducible assumption) | (with_reducible refine bdn ?_) | (with_reducible refine Below.alloc ?_ ?_ _) | (with_reducible refine Below.drew ?_) | (with_reducible refine Below.setCell ?_ ?_ _) | omega | (simp <;> omega))) (fun HB => fread_any ea s _ (by omega) (H_hL.out.keep HB rfl) (gkeep HB hText rfl) (gkeep HB hShape rfl) (gkeep HB hBound rfl)) ?_
    intro w4 hb4 hz4 c4 d4 hW4
    have t4 := hb4.size
    try simp only [World.size_alloc] at hz4 c4 d4
    try simp only [World.size_drew] at hz4 c4 d4
    try simp only [World.size_setCell] at hz4 c4 d4
    try simp only [World.heap_drewN] at hz4 c4 d4
    try simp only [World.size_alloc] at hz4 c4 d4
    try simp only [World.size_drew] at hz4 c4 d4
    try simp only [World.size_setCell] at hz4 c4 d4
    have s4_0 : w.heap.size < w4.heap.size := by omega
    have o4_0 := fun j => c4 (w.heap.size) j (by omega)
    have f4_0 := fun j => d4 (w.heap.size) j (by omega)
    have s4_1 : w.heap.size + 1 < w4.heap.size := by omega
    have o4_1 := fun j => c4 (w.heap.size + 1) j (by omega)
    have f4_1 := fun j => d4 (w.heap.size + 1) j (by omega)
    have s4_2 : w2.heap.size < w4.heap.size := by omega
    have o4_2 := fun j => c4 (w2.heap.size) j (by omega)
    have f4_2 := fun j => d4 (w2.heap.size) j (by omega)
    have s4_3 : w3.heap.size < w4.heap.size := by omega
    have o4_3 := fun j => c4 (w3.heap.size) j (by omega)
    have f4_3 := fun j => d4 (w3.heap.size) j (by omega)
    clear c4 d4 hz4 hW4
    rw [frV_z, H_hq2.out, H_hr2.out]
    go_wp2_with fail
    refine call_bel (w := w) (by repeat' (first | (with_reducible exact Below.refl _ _) | (with_reducible assumption) | (with_reducible refine bdn ?_) | (with_reducible refine Below.alloc ?_ ?_ _) | (with_reducible refine Below.drew ?_) | (with_reducible refine Below.setCell ?_ ?_ _) | omega | (simp <;> omega))) (fun HB => rfracof_any s _ (by omega)) ?_
    intro w5 hb5 hz5 c5 d5 hW5
    have t5 := hb5.size
    try simp only [World.size_alloc] at hz5 c5 d5
    try simp only [World.size_drew] at hz5 c5 d5
    try simp only [World.size_setCell] at hz5 c5 d5
    try simp only [World.heap_drewN] at hz5 c5 d5
    try simp only [World.size_alloc] at hz5 c5 d5
    try simp only [World.size_drew] at hz5 c5 d5
    try simp only [World.size_setCell] at hz5 c5 d5
    have s5_0 : w.heap.size < w5.heap.size := by omega
    have o5_0 := fun j => c5 (w.heap.size) j (by omega)
    have f5_0 := fun j => d5 (w.heap.size) j (by omega)
    have s5_1 : w.heap.size + 1 < w5.heap.size := by omega
    have o5_1 := fun j => c5 (w.heap.size + 1) j (by omega)
    have f5_1 := fun j => d5 (w.heap.size + 1) j (by omega)
    have s5_2 : w2.heap.size < w5.heap.size := by omega
    have o5_2 := fun j => c5 (w2.heap.size) j (by omega)
    have f5_2 := fun j => d5 (w2.heap.size) j (by omega)
    have s5_3 : w3.heap.size < w5.heap.size := by omega
    have o5_3 := fun j => c5 (w3.heap.size) j (by omega)
    have f5_3 := fun j => d5 (w3.heap.size) j (by omega)
    clear c5 d5 hz5 hW5
    rw [frN, H_hq2.out, H_hr2.out]
    go_wp2_with fail
    refine call_bel (w := w) (by repeat' (first | (with_reducible exact Below.refl _ _) | (with_reducible assumption) | (with_reducible refine bdn ?_) | (with_reducible refine Below.alloc ?_ ?_ _) | (with_reducible refine Below.drew ?_) | (with_reducible refine Below.setCell ?_ ?_ _) | omega | (simp <;> omega))) (fun HB => coded1_t ea (rdC s.data.toList) _ (rdC_le _) (H_hS.out.keep HB rfl)) ?_
    intro w6 hb6 hz6 c6 d6 hW6
    have t6 := hb6.size
    try simp only [World.size_alloc] at hz6 c6 d6
    try simp only [World.size_drew] at hz6 c6 d6
    try simp only [World.size_setCell] at hz6 c6 d6
    try simp only [World.heap_drewN] at hz6 c6 d6
    try simp only [World.size_alloc] at hz6 c6 d6
    try simp only [World.size_drew] at hz6 c6 d6
    try simp only [World.size_setCell] at hz6 c6 d6
    have s6_0 : w.heap.size < w6.heap.size := by omega
    have o6_0 := fun j => c6 (w.heap.size) j (by omega)
    have f6_0 := fun j => d6 (w.heap.size) j (by omega)
    have s6_1 : w.heap.size + 1 < w6.heap.size := by omega
    have o6_1 := fun j => c6 (w.heap.size + 1) j (by omega)
    have f6_1 := fun j => d6 (w.heap.size + 1) j (by omega)
    have s6_2 : w2.heap.size < w6.heap.size := by omega
    have o6_2 := fun j => c6 (w2.heap.size) j (by omega)
    have f6_2 := fun j => d6 (w2.heap.size) j (by omega)
    have s6_3 : w3.heap.size < w6.heap.size := by omega
    have o6_3 := fun j => c6 (w3.heap.size) j (by omega)
    have f6_3 := fun j => d6 (w3.heap.size) j (by omega)
    clear c6 d6 hz6 hW6
    go_wp2_with fail
    refine call_bel (w := w) (by repeat' (first | (with_reducible exact Below.refl _ _) | (with_reducible assumption) | (with_reducible refine bdn ?_) | (with_reducible refine Below.alloc ?_ ?_ _) | (with_reducible refine Below.drew ?_) | (with_reducible refine Below.setCell ?_ ?_ _) | omega | (simp <;> omega))) (fun HB => cmp_c ea a.n a.d b.n b.d (chk a.n a.d) _ ia1 ia2 ib1 ib2 (gkeep HB hShape rfl) (gkeep HB hBound rfl) H_hC.out H_hA.out) ?_
    intro w8 hb8 hz8 c8 d8 hW8
    have t8 := hb8.size
    try simp only [World.size_alloc] at hz8 c8 d8
    try simp only [World.size_drew] at hz8 c8 d8
    try simp only [World.size_setCell] at hz8 c8 d8
    try simp only [World.heap_drewN] at hz8 c8 d8
    try simp only [World.size_alloc] at hz8 c8 d8
    try simp only [World.size_drew] at hz8 c8 d8
    try simp only [World.size_setCell] at hz8 c8 d8
    have s8_0 : w.heap.size < w8.heap.size := by omega
    have o8_0 := fun j => c8 (w.heap.size) j (by omega)
    have f8_0 := fun j => d8 (w.heap.size) j (by omega)
    have s8_1 : w.heap.size + 1 < w8.heap.size := by omega
    have o8_1 := fun j => c8 (w.heap.size + 1) j (by omega)
    have f8_1 := fun j => d8 (w.heap.size + 1) j (by omega)
    have s8_2 : w2.heap.size < w8.heap.size := by omega
    have o8_2 := fun j => c8 (w2.heap.size) j (by omega)
    have f8_2 := fun j => d8 (w2.heap.size) j (by omega)
    have s8_3 : w3.heap.size < w8.heap.size := by omega
    have o8_3 := fun j => c8 (w3.heap.size) j (by omega)
    have f8_3 := fun j => d8 (w3.heap.size) j (by omega)
    clear c8 d8 hz8 hW8
    go_wp2_with fail
    refine call_bel (w := w) (by repeat' (first | (with_reducible exact Below.refl _ _) | (with_reducible assumption) | (with_reducible refine bdn ?_) | (with_reducible refine Below.alloc ?_ ?_ _) | (with_reducible refine Below.drew ?_) | (with_reducible refine Below.setCell ?_ ?_ _) | omega | (simp <;> omega))) (fun HB => rfracerror_any a.n a.d _ ia1 ia2) ?_
    intro w9 hb9 hz9 c9 d9 hW9
    have t9 := hb9.size
    try simp only [World.size_alloc] at hz9 c9 d9
    try simp only [World.size_drew] at hz9 c9 d9
    try simp only [World.size_setCell] at hz9 c9 d9
    try simp only [World.heap_drewN] at hz9 c9 d9
    try simp only [World.size_alloc] at hz9 c9 d9
    try simp only [World.size_drew] at hz9 c9 d9
    try simp only [World.size_setCell] at hz9 c9 d9
    have s9_0 : w.heap.size < w9.heap.size := by omega
    have o9_0 := fun j => c9 (w.heap.size) j (by omega)
    have f9_0 := fun j => d9 (w.heap.size) j (by omega)
    have s9_1 : w.heap.size + 1 < w9.heap.size := by omega
    have o9_1 := fun j => c9 (w.heap.size + 1) j (by omega)
    have f9_1 := fun j => d9 (w.heap.size + 1) j (by omega)
    have s9_2 : w2.heap.size < w9.heap.size := by omega
    have o9_2 := fun j => c9 (w2.heap.size) j (by omega)
    have f9_2 := fun j => d9 (w2.heap.size) j (by omega)
    have s9_3 : w3.heap.size < w9.heap.size := by omega
    have o9_3 := fun j => c9 (w3.heap.size) j (by omega)
    have f9_3 := fun j => d9 (w3.heap.size) j (by omega)
    clear c9 d9 hz9 hW9
    go_wp2_with fail
    refine call_bel (w := w) (by repeat' (first | (with_reducible exact Below.refl _ _) | (with_reducible assumption) | (with_reducible refine bdn ?_) | (with_reducible refine Below.alloc ?_ ?_ _) | (with_reducible refine Below.drew ?_) | (with_reducible refine Below.setCell ?_ ?_ _) | omega | (simp <;> omega))) (fun HB => coded1_t ea (chk a.n a.d) _ (chk_le11 _ _) (H_hS.out.keep HB rfl)) ?_
    intro w10 hb10 hz10 c10 d10 hW10
    have t10 := hb10.size
    try simp only [World.size_alloc] at hz10 c10 d10
    try simp only [World.size_drew] at hz10 c10 d10
    try simp only [World.size_setCell] at hz10 c10 d10
    try simp only [World.heap_drewN] at hz10 c10 d10
    try simp only [World.size_alloc] at hz10 c10 d10
    try simp only [World.size_drew] at hz10 c10 d10
    try simp only [World.size_setCell] at hz10 c10 d10
    have s10_0 : w.heap.size < w10.heap.size := by omega
    have o10_0 := fun j => c10 (w.heap.size) j (by omega)
    have f10_0 := fun j => d10 (w.heap.size) j (by omega)
    have s10_1 : w.heap.size + 1 < w10.heap.size := by omega
    have o10_1 := fun j => c10 (w.heap.size + 1) j (by omega)
    have f10_1 := fun j => d10 (w.heap.size + 1) j (by omega)
    have s10_2 : w2.heap.size < w10.heap.size := by omega
    have o10_2 := fun j => c10 (w2.heap.size) j (by omega)
    have f10_2 := fun j => d10 (w2.heap.size) j (by omega)
    have s10_3 : w3.heap.size < w10.heap.size := by omega
    have o10_3 := fun j => c10 (w3.heap.size) j (by omega)
    have f10_3 := fun j => d10 (w3.heap.size) j (by omega)
    clear c10 d10 hz10 hW10
    go_wp2_with fail
    go_returns
    exact ⟨rfl, by repeat' (first | (with_reducible exact Below.refl _ _) | (with_reducible assumption) | (with_reducible refine bdn ?_) | (with_reducible refine Below.alloc ?_ ?_ _) | (with_reducible refine Below.drew ?_) | (with_reducible refine Below.setCell ?_ ?_ _) | omega | (simp <;> omega))⟩

set_option maxHeartbeats 4000000 in
set_option maxRecDepth 100000 in
theorem mk_b0 (ea : Nat → Addr) (n d : Int) (a b : Fr) (s : ByteArray) (w : World) (hn : I64 n) (hd : I64 d) (ia : a.I) (ib : b.I) (hS : Sents ea w) (hL : Libs w) (h60 : s.size ≤ 60) (hA : chk a.n a.d = 0) (hB : chk b.n b.d ≠ 0) (hR : rdC s.data.toList ≠ 0) :
    Calls Tryd.prog 8 #[.int .i64 n, .int .i64 d, .agg #[.int .i64 a.n, .int .i64 a.d], .agg #[.int .i64 b.n, .int .i64 b.d], .string s] w fun e w' => e = .returned (.bool true) ∧ Below w.heap.size w w' := by
  have hText := hS.c1
  have hBound := hS.c2
  have hShape := hS.c3
  have hZero := hS.c11
  have htab := hL.tab
  have zhShape := zlt hShape
  have xhShape := zlts hShape
  have yhShape := zne hShape
  have zhBound := zlt hBound
  have xhBound := zlts hBound
  have yhBound := zne hBound
  have zhZero := zlt hZero
  have xhZero := zlts hZero
  have yhZero := zne hZero
  have zhText := zlt hText
  have xhText := zlts hText
  have yhText := zne hText
  obtain ⟨ia1, ia2⟩ := ia
  obtain ⟨ib1, ib2⟩ := ib
  have g2 : decide (60 < (s.size : Int)) = false := by simp; omega
  obtain ⟨q, hq⟩ : ∃ q, z0 (mkC n d) (lowN n d) = q := ⟨_, rfl⟩
  obtain ⟨r, hr⟩ : ∃ q, z0 (mkC n d) (lowD n d) = q := ⟨_, rfl⟩
  obtain ⟨q2, hq2⟩ : ∃ q, z0 (rdC s.data.toList) (rdN s.data.toList) = q := ⟨_, rfl⟩
  obtain ⟨r2, hr2⟩ : ∃ q, z0 (rdC s.data.toList) (rdD s.data.toList) = q := ⟨_, rfl⟩
  have g4 := chk_n0 hR
  have g3 := chk_z0 hA
  have g5 := chk_p0 hB
  have g6 : decide (0 < chk b.n b.d) = true := by simp; omega
  have hC : bothC a.n a.d b.n b.d = chk b.n b.d := by unfold bothC; rw [if_pos hA]
  have H_hA := Lib.hid hA
  clear hA
  have H_hB := Lib.hid hB
  clear hB
  have H_hC := Lib.hid hC
  clear hC
  have H_hS := Lib.hid hS
  clear hS
  have H_htab := Lib.hid htab
  clear htab
  have H_hL := Lib.hid hL
  clear hL
  have H_hq := Lib.hid hq
  clear hq
  have H_hr := Lib.hid hr
  clear hr
  have H_hq2 := Lib.hid hq2
  clear hq2
  have H_hr2 := Lib.hid hr2
  clear hr2
  have H_hR := Lib.hid hR
  clear hR
  go_enter Tryd.func8, Tryd.ntmps8
  go_wp2_with fail
  refine call_bel (w := w) (by repeat' (first | (with_reducible exact Below.refl _ _) | (with_reducible assumption) | (with_reducible refine bdn ?_) | (with_reducible refine Below.alloc ?_ ?_ _) | (with_reducible refine Below.drew ?_) | (with_reducible refine Below.setCell ?_ ?_ _) | omega | (simp <;> omega))) (fun HB => halved_any ea _ (gkeep HB hBound rfl) (gkeep HB hZero rfl) (tab_keep H_htab.out HB rfl)) ?_
  intro w1 hb1 hz1 c1 d1 hW1
  have t1 := hb1.size
  try simp only [World.size_alloc] at hz1 c1 d1
  try simp only [World.size_drew] at hz1 c1 d1
  try simp only [World.size_setCell] at hz1 c1 d1
  try simp only [World.heap_drewN] at hz1 c1 d1
  try simp only [World.size_alloc] at hz1 c1 d1
  try simp only [World.size_drew] at hz1 c1 d1
  try simp only [World.size_setCell] at hz1 c1 d1
  have s1_0 : w.heap.size < w1.heap.size := by omega
  have o1_0 := fun j => c1 (w.heap.size) j (by omega)
  have f1_0 := fun j => d1 (w.heap.size) j (by omega)
  have s1_1 : w.heap.size + 1 < w1.heap.size := by omega
  have o1_1 := fun j => c1 (w.heap.size + 1) j (by omega)
  have f1_1 := fun j => d1 (w.heap.size + 1) j (by omega)
  clear c1 d1 hz1 hW1
  go_wp2_with fail
  refine call_bel (w := w) (by repeat' (first | (with_reducible exact Below.refl _ _) | (with_reducible assumption) | (with_reducible refine bdn ?_) | (with_reducible refine Below.alloc ?_ ?_ _) | (with_reducible refine Below.drew ?_) | (with_reducible refine Below.setCell ?_ ?_ _) | omega | (simp <;> omega))) (fun HB => fmake_any ea n d _ hn hd (gkeep HB hBound rfl) (gkeep HB hZero rfl)) ?_
  intro w2 hb2 hz2 c2 d2 hW2
  have t2 := hb2.size
  try simp only [World.size_alloc] at hz2 c2 d2
  try simp only [World.size_drew] at hz2 c2 d2
  try simp only [World.size_setCell] at hz2 c2 d2
  try simp only [World.heap_drewN] at hz2 c2 d2
  try simp only [World.size_alloc] at hz2 c2 d2
  try simp only [World.size_drew] at hz2 c2 d2
  try simp only [World.size_setCell] at hz2 c2 d2
  have s2_0 : w.heap.size < w2.heap.size := by omega
  have o2_0 := fun j => c2 (w.heap.size) j (by omega)
  have f2_0 := fun j => d2 (w.heap.size) j (by omega)
  have s2_1 : w.heap.size + 1 < w2.heap.size := by omega
  have o2_1 := fun j => c2 (w.heap.size + 1) j (by omega)
  have f2_1 := fun j => d2 (w.heap.size + 1) j (by omega)
  clear c2 d2 hz2 hW2
  rw [frV_z, H_hq.out, H_hr.out]
  go_wp2_with fail
  refine call_bel (w := w) (by repeat' (first | (with_reducible exact Below.refl _ _) | (with_reducible assumption) | (with_reducible refine bdn ?_) | (with_reducible refine Below.alloc ?_ ?_ _) | (with_reducible refine Below.drew ?_) | (with_reducible refine Below.setCell ?_ ?_ _) | omega | (simp <;> omega))) (fun HB => rfracmake_any n d _) ?_
  intro w3 hb3 hz3 c3 d3 hW3
  have t3 := hb3.size
  have e3_2 : Below w2.heap.size w2 w3 := below_via (by repeat' (first | (with_reducible exact Below.refl _ _) | (with_reducible assumption) | (with_reducible refine bdn ?_) | (with_reducible refine Below.alloc ?_ ?_ _) | (with_reducible refine Below.drew ?_) | (with_reducible refine Below.setCell ?_ ?_ _) | omega | (simp <;> omega))) hW3
  have te3_2 := e3_2.size
  try simp only [World.size_alloc] at hz3 c3 d3
  try simp only [World.size_drew] at hz3 c3 d3
  try simp only [World.size_setCell] at hz3 c3 d3
  try simp only [World.heap_drewN] at hz3 c3 d3
  try simp only [World.size_alloc] at hz3 c3 d3
  try simp only [World.size_drew] at hz3 c3 d3
  try simp only [World.size_setCell] at hz3 c3 d3
  have s3_0 : w.heap.size < w3.heap.size := by omega
  have o3_0 := fun j => c3 (w.heap.size) j (by omega)
  have f3_0 := fun j => d3 (w.heap.size) j (by omega)
  have s3_1 : w.heap.size + 1 < w3.heap.size := by omega
  have o3_1 := fun j => c3 (w.heap.size + 1) j (by omega)
  have f3_1 := fun j => d3 (w.heap.size + 1) j (by omega)
  have s3_2 : w2.heap.size < w3.heap.size := by omega
  have o3_2 := fun j => c3 (w2.heap.size) j (by omega)
  have f3_2 := fun j => d3 (w2.heap.size) j (by omega)
  clear c3 d3 hz3 hW3
  rw [frN, H_hq.out, H_hr.out]
  have p2 : ∀ j, w3.cell? ⟨w2.heap.size, j, none⟩ = #[Value.int .i64 q, Value.int .i64 r][j]? := fun j => by rw [o3_2]; exact World.cell?_alloc_new _ _ _ _
  have p0 : ∀ j, w3.cell? ⟨w.heap.size, j, none⟩ = #[Value.int .i64 a.n, Value.int .i64 a.d][j]? := fun j => by rw [o3_0, World.cell?_alloc_lt _ _ _ (by simp; omega), o2_0, o1_0, World.cell?_alloc_lt _ _ _ (by simp)]; exact World.cell?_alloc_new _ _ _ _
  have p1 : ∀ j, w3.cell? ⟨w.heap.size + 1, j, none⟩ = #[Value.int .i64 b.n, Value.int .i64 b.d][j]? := fun j => by rw [o3_1, World.cell?_alloc_lt _ _ _ (by simp; omega), o2_1, o1_1]; have hj := World.cell?_alloc_new (w.alloc (.cells #[.int .i64 a.n, .int .i64 a.d] 90)) #[.int .i64 b.n, .int .i64 b.d] 90 j; rw [World.size_alloc] at hj; exact hj
  have SK : ∀ W, Below (w3.heap.size + 1) (w3.alloc (.cells #[.int .i64 q, .int .i64 r] 90)) W → Below (w3.heap.size + 1) (w3.alloc (.cells #[.int .i64 q, .int .i64 r] 90)) W ∧ (∀ j, W.cell? ⟨w.heap.size, j, none⟩ = #[Value.int .i64 a.n, Value.int .i64 a.d][j]?) ∧ (∀ j, W.cell? ⟨w2.heap.size, j, none⟩ = #[Value.int .i64 q, Value.int .i64 r][j]?) ∧ (∀ j, W.cell? ⟨w3.heap.size, j, none⟩ = #[Value.int .i64 q, Value.int .i64 r][j]?) := by
    intro W h
    refine ⟨h, fun j => ?_, fun j => ?_, fun j => ?_⟩
    · rw [h.cell (by simp; omega), World.cell?_alloc_lt _ _ _ (by simp; omega)]; exact p0 j
    · rw [h.cell (by simp; omega), World.cell?_alloc_lt _ _ _ (by simp; omega)]; exact p2 j
    · rw [h.cell (by simp)]; exact World.cell?_alloc_new _ _ _ _
  have KB : ∀ W, Below (w3.heap.size + 1) (w3.alloc (.cells #[.int .i64 q, .int .i64 r] 90)) W → Below w3.heap.size w3 W := fun W h => ((Below.refl _ _).alloc (Nat.le_refl _) _).trans (h.mono (by omega))
  have HK : ∀ W, Below (w3.heap.size + 1) (w3.alloc (.cells #[.int .i64 q, .int .i64 r] 90)) W ∧ (∀ j, W.cell? ⟨w.heap.size, j, none⟩ = #[Value.int .i64 a.n, Value.int .i64 a.d][j]?) ∧ (∀ j, W.cell? ⟨w2.heap.size, j, none⟩ = #[Value.int .i64 q, Value.int .i64 r][j]?) ∧ (∀ j, W.cell? ⟨w3.heap.size, j, none⟩ = #[Value.int .i64 q, Value.int .i64 r][j]?) → W.cell? ⟨5, 0, none⟩ = some (.iface 312 (.pointer (some (ea 3)))) ∧ W.cell? ⟨1, 0, none⟩ = some (.iface 312 (.pointer (some (ea 2)))) ∧ Sents ea W := by
    intro W h
    have k' := hb3.trans ((KB W h.1).mono t3)
    exact ⟨gkeep k' hShape rfl, gkeep k' hBound rfl, H_hS.out.keep k' rfl⟩
  have pf2 := f3_2
  have H_SK := Lib.hid SK
  clear SK
  have H_KB := Lib.hid KB
  clear KB
  have H_HK := Lib.hid HK
  clear HK
  go_wp2_with fail
  clear o1_0 f1_0 o1_1 f1_1 o2_0 f2_0 o2_1 f2_1 o3_0 f3_0 o3_1 f3_1 o3_2 f3_2
  go_region_held3 (fun W => Below (w3.heap.size + 1) (w3.alloc (.cells #[.int .i64 q, .int .i64 r] 90)) W ∧ (∀ j, W.cell? ⟨w.heap.size, j, none⟩ = #[Value.int .i64 a.n, Value.int .i64 a.d][j]?) ∧ (∀ j, W.cell? ⟨w2.heap.size, j, none⟩ = #[Value.int .i64 q, Value.int .i64 r][j]?) ∧ (∀ j, W.cell? ⟨w3.heap.size, j, none⟩ = #[Value.int .i64 q, Value.int .i64 r][j]?)) (first | exact H_SK.out _ (Below.refl _ _).drew | exact H_SK.out _ (held_step (by simp) (by assumption) (by assumption)))
    (first | (go_at_call 45; (with_reducible refine (fcheck_any ea a.n a.d _ ia1 ia2 (H_HK.out _ (by assumption)).1 (H_HK.out _ (by assumption)).2.1).mono ?_); rintro e w' ⟨rfl, hbb⟩) | (go_at_call 46; (with_reducible refine (rfracerror_any a.n a.d _ ia1 ia2).mono ?_); rintro e w' ⟨rfl, hbb⟩) | (go_at_call 29; (with_reducible refine (coded1_t ea (mkC n d) _ (mkC_le n d) (H_HK.out _ (by assumption)).2.2).mono ?_); rintro e w' ⟨rfl, hbb⟩) | (go_at_call 29; (with_reducible refine (coded1_t ea (chk a.n a.d) _ (chk_le11 a.n a.d) (H_HK.out _ (by assumption)).2.2).mono ?_); rintro e w' ⟨rfl, hbb⟩))
  rename_i hh
  have hS1 := hh.1
  have o30_0 := hh.2.1
  have o30_2 := hh.2.2.1
  have o30_3 := hh.2.2.2
  clear hh
  generalize hW : w' = w30 at *
  clear hW hbb
  have e30_3 : Below w3.heap.size w3 w30 := H_KB.out _ hS1
  have hb30 : Below w.heap.size w w30 := hb3.trans (e30_3.mono t3)
  have e30_2 : Below w2.heap.size w2 w30 := e3_2.trans (e30_3.mono te3_2)
  have o30_1 : ∀ j, w30.cell? ⟨w.heap.size + 1, j, none⟩ = #[Value.int .i64 b.n, Value.int .i64 b.d][j]? := fun j => by rw [e30_3.cell (by simp; omega)]; exact p1 j
  have t30 : w3.heap.size + 1 ≤ w30.heap.size := by have := hS1.size; simpa using this
  have f30_2 : ∀ j, w30.frozen? ⟨w2.heap.size, j, none⟩ = (w2.alloc (.cells #[.int .i64 q, .int .i64 r] 90)).frozen? ⟨w2.heap.size, j, none⟩ := fun j => by rw [e30_3.frozen (by simp; omega)]; exact pf2 j
  have f30_3 : ∀ j, w30.frozen? ⟨w3.heap.size, j, none⟩ = (w3.alloc (.cells #[.int .i64 q, .int .i64 r] 90)).frozen? ⟨w3.heap.size, j, none⟩ := fun j => hS1.frozen (by simp)
  have s30_0 : w.heap.size < w30.heap.size := by omega
  have s30_1 : w.heap.size + 1 < w30.heap.size := by omega
  have s30_2 : w2.heap.size < w30.heap.size := by omega
  have s30_3 : w3.heap.size < w30.heap.size := by omega
  have SK8 : ∀ W, Below w30.heap.size w30 W → Below w30.heap.size w30 W ∧ (∀ j, W.cell? ⟨w.heap.size, j, none⟩ = #[Value.int .i64 a.n, Value.int .i64 a.d][j]?) := by
    intro W h
    refine ⟨h, fun j => ?_⟩
    rw [h.cell s30_0]; exact o30_0 j
  have HT8 : ∀ W, Below w30.heap.size w30 W ∧ (∀ j, W.cell? ⟨w.heap.size, j, none⟩ = #[Value.int .i64 a.n, Value.int .i64 a.d][j]?) → Lib.TabIs Tryd.prog W "internal/strconv.uint64pow10" .u64 Lib.pow10Tab := fun W h => tab_keep H_htab.out (hb30.trans (h.1.mono (by omega))) rfl
  have H_SK8 := Lib.hid SK8
  clear SK8
  have H_HT8 := Lib.hid HT8
  clear HT8
  go_wp2_with fail
  go_region_held3 (fun W => Below w30.heap.size w30 W ∧ (∀ j, W.cell? ⟨w.heap.size, j, none⟩ = #[Value.int .i64 a.n, Value.int .i64 a.d][j]?)) (first | exact H_SK8.out _ (Below.refl _ _).drew | exact H_SK8.out _ (Below.refl _ _) | exact H_SK8.out _ (held_step (by simp) (by assumption) (by assumption)))
    (first | (go_at_call 46; (with_reducible refine (rfracerror_0 a.n a.d _ H_hA.out ia1 ia2).mono ?_); rintro e w' ⟨rfl, hbb⟩) | (go_at_call 47; (with_reducible refine (ftext_any a.n a.d _ ia1 ia2 (H_HT8.out _ (by assumption))).mono ?_); rintro e w' ⟨rfl, hbb⟩) | (go_at_call 48; (with_reducible refine (rfractext_any a.n a.d _ ia1 ia2).mono ?_); rintro e w' ⟨rfl, hbb⟩))
  rename_i hh
  have hS8 := hh.1
  clear hh
  generalize hW : w' = w31 at *
  clear hW hbb
  have hb31 : Below w.heap.size w w31 := hb30.trans (hS8.mono (by omega))
  have t31 := hS8.size
  have o31_0 : ∀ j, w31.cell? ⟨w.heap.size, j, none⟩ = #[Value.int .i64 a.n, Value.int .i64 a.d][j]? := fun j => by rw [hS8.cell s30_0]; exact o30_0 j
  have o31_1 : ∀ j, w31.cell? ⟨w.heap.size + 1, j, none⟩ = #[Value.int .i64 b.n, Value.int .i64 b.d][j]? := fun j => by rw [hS8.cell s30_1]; exact o30_1 j
  have o31_2 : ∀ j, w31.cell? ⟨w2.heap.size, j, none⟩ = #[Value.int .i64 q, Value.int .i64 r][j]? := fun j => by rw [hS8.cell s30_2]; exact o30_2 j
  have o31_3 : ∀ j, w31.cell? ⟨w3.heap.size, j, none⟩ = #[Value.int .i64 q, Value.int .i64 r][j]? := fun j => by rw [hS8.cell s30_3]; exact o30_3 j
  have f31_2 : ∀ j, w31.frozen? ⟨w2.heap.size, j, none⟩ = (w2.alloc (.cells #[.int .i64 q, .int .i64 r] 90)).frozen? ⟨w2.heap.size, j, none⟩ := fun j => by rw [hS8.frozen s30_2]; exact f30_2 j
  have f31_3 : ∀ j, w31.frozen? ⟨w3.heap.size, j, none⟩ = (w3.alloc (.cells #[.int .i64 q, .int .i64 r] 90)).frozen? ⟨w3.heap.size, j, none⟩ := fun j => by rw [hS8.frozen s30_3]; exact f30_3 j
  have s31_0 : w.heap.size < w31.heap.size := by omega
  have s31_1 : w.heap.size + 1 < w31.heap.size := by omega
  have s31_2 : w2.heap.size < w31.heap.size := by omega
  have s31_3 : w3.heap.size < w31.heap.size := by omega
  clear hS8 o30_0 o30_1 o30_2 o30_3 f30_2 f30_3
  go_wp2_with fail
  refine call_bel (w := w) (by repeat' (first | (with_reducible exact Below.refl _ _) | (with_reducible assumption) | (with_reducible refine bdn ?_) | (with_reducible refine Below.alloc ?_ ?_ _) | (with_reducible refine Below.drew ?_) | (with_reducible refine Below.setCell ?_ ?_ _) | omega | (simp <;> omega))) (fun HB => fread_any ea s _ (by omega) (H_hL.out.keep HB rfl) (gkeep HB hText rfl) (gkeep HB hShape rfl) (gkeep HB hBound rfl)) ?_
  intro w4 hb4 hz4 c4 d4 hW4
  have t4 := hb4.size
  try simp only [World.size_alloc] at hz4 c4 d4
  try simp only [World.size_drew] at hz4 c4 d4
  try simp only [World.size_setCell] at hz4 c4 d4
  try simp only [World.heap_drewN] at hz4 c4 d4
  try simp only [World.size_alloc] at hz4 c4 d4
  try simp only [World.size_drew] at hz4 c4 d4
  try simp only [World.size_setCell] at hz4 c4 d4
  have s4_0 : w.heap.size < w4.heap.size := by omega
  have o4_0 := fun j => c4 (w.heap.size) j (by omega)
  have f4_0 := fun j => d4 (w.heap.size) j (by omega)
  have s4_1 : w.heap.size + 1 < w4.heap.size := by omega
  have o4_1 := fun j => c4 (w.heap.size + 1) j (by omega)
  have f4_1 := fun j => d4 (w.heap.size + 1) j (by omega)
  have s4_2 : w2.heap.size < w4.heap.size := by omega
  have o4_2 := fun j => c4 (w2.heap.size) j (by omega)
  have f4_2 := fun j => d4 (w2.heap.size) j (by omega)
  have s4_3 : w3.heap.size < w4.heap.size := by omega
  have o4_3 := fun j => c4 (w3.heap.size) j (by omega)
  have f4_3 := fun j => d4 (w3.heap.size) j (by omega)
  clear c4 d4 hz4 hW4
  rw [frV_z, H_hq2.out, H_hr2.out]
  go_wp2_with fail
  refine call_bel (w := w) (by repeat' (first | (with_reducible exact Below.refl _ _) | (with_reducible assumption) | (with_reducible refine bdn ?_) | (with_reducible refine Below.alloc ?_ ?_ _) | (with_reducible refine Below.drew ?_) | (with_reducible refine Below.setCell ?_ ?_ _) | omega | (simp <;> omega))) (fun HB => rfracof_any s _ (by omega)) ?_
  intro w5 hb5 hz5 c5 d5 hW5
  have t5 := hb5.size
  try simp only [World.size_alloc] at hz5 c5 d5
  try simp only [World.size_drew] at hz5 c5 d5
  try simp only [World.size_setCell] at hz5 c5 d5
  try simp only [World.heap_drewN] at hz5 c5 d5
  try simp only [World.size_alloc] at hz5 c5 d5
  try simp only [World.size_drew] at hz5 c5 d5
  try simp only [World.size_setCell] at hz5 c5 d5
  have s5_0 : w.heap.size < w5.heap.size := by omega
  have o5_0 := fun j => c5 (w.heap.size) j (by omega)
  have f5_0 := fun j => d5 (w.heap.size) j (by omega)
  have s5_1 : w.heap.size + 1 < w5.heap.size := by omega
  have o5_1 := fun j => c5 (w.heap.size + 1) j (by omega)
  have f5_1 := fun j => d5 (w.heap.size + 1) j (by omega)
  have s5_2 : w2.heap.size < w5.heap.size := by omega
  have o5_2 := fun j => c5 (w2.heap.size) j (by omega)
  have f5_2 := fun j => d5 (w2.heap.size) j (by omega)
  have s5_3 : w3.heap.size < w5.heap.size := by omega
  have o5_3 := fun j => c5 (w3.heap.size) j (by omega)
  have f5_3 := fun j => d5 (w3.heap.size) j (by omega)
  clear c5 d5 hz5 hW5
  rw [frN, H_hq2.out, H_hr2.out]
  go_wp2_with fail
  refine call_bel (w := w) (by repeat' (first | (with_reducible exact Below.refl _ _) | (with_reducible assumption) | (with_reducible refine bdn ?_) | (with_reducible refine Below.alloc ?_ ?_ _) | (with_reducible refine Below.drew ?_) | (with_reducible refine Below.setCell ?_ ?_ _) | omega | (simp <;> omega))) (fun HB => coded1_t ea (rdC s.data.toList) _ (rdC_le _) (H_hS.out.keep HB rfl)) ?_
  intro w6 hb6 hz6 c6 d6 hW6
  have t6 := hb6.size
  try simp only [World.size_alloc] at hz6 c6 d6
  try simp only [World.size_drew] at hz6 c6 d6
  try simp only [World.size_setCell] at hz6 c6 d6
  try simp only [World.heap_drewN] at hz6 c6 d6
  try simp only [World.size_alloc] at hz6 c6 d6
  try simp only [World.size_drew] at hz6 c6 d6
  try simp only [World.size_setCell] at hz6 c6 d6
  have s6_0 : w.heap.size < w6.heap.size := by omega
  have o6_0 := fun j => c6 (w.heap.size) j (by omega)
  have f6_0 := fun j => d6 (w.heap.size) j (by omega)
  have s6_1 : w.heap.size + 1 < w6.heap.size := by omega
  have o6_1 := fun j => c6 (w.heap.size + 1) j (by omega)
  have f6_1 := fun j => d6 (w.heap.size + 1) j (by omega)
  have s6_2 : w2.heap.size < w6.heap.size := by omega
  have o6_2 := fun j => c6 (w2.heap.size) j (by omega)
  have f6_2 := fun j => d6 (w2.heap.size) j (by omega)
  have s6_3 : w3.heap.size < w6.heap.size := by omega
  have o6_3 := fun j => c6 (w3.heap.size) j (by omega)
  have f6_3 := fun j => d6 (w3.heap.size) j (by omega)
  clear c6 d6 hz6 hW6
  go_wp2_with fail
  refine call_bel (w := w) (by repeat' (first | (with_reducible exact Below.refl _ _) | (with_reducible assumption) | (with_reducible refine bdn ?_) | (with_reducible refine Below.alloc ?_ ?_ _) | (with_reducible refine Below.drew ?_) | (with_reducible refine Below.setCell ?_ ?_ _) | omega | (simp <;> omega))) (fun HB => cmp_c ea a.n a.d b.n b.d (chk b.n b.d) _ ia1 ia2 ib1 ib2 (gkeep HB hShape rfl) (gkeep HB hBound rfl) H_hC.out H_hB.out) ?_
  intro w8 hb8 hz8 c8 d8 hW8
  have t8 := hb8.size
  try simp only [World.size_alloc] at hz8 c8 d8
  try simp only [World.size_drew] at hz8 c8 d8
  try simp only [World.size_setCell] at hz8 c8 d8
  try simp only [World.heap_drewN] at hz8 c8 d8
  try simp only [World.size_alloc] at hz8 c8 d8
  try simp only [World.size_drew] at hz8 c8 d8
  try simp only [World.size_setCell] at hz8 c8 d8
  have s8_0 : w.heap.size < w8.heap.size := by omega
  have o8_0 := fun j => c8 (w.heap.size) j (by omega)
  have f8_0 := fun j => d8 (w.heap.size) j (by omega)
  have s8_1 : w.heap.size + 1 < w8.heap.size := by omega
  have o8_1 := fun j => c8 (w.heap.size + 1) j (by omega)
  have f8_1 := fun j => d8 (w.heap.size + 1) j (by omega)
  have s8_2 : w2.heap.size < w8.heap.size := by omega
  have o8_2 := fun j => c8 (w2.heap.size) j (by omega)
  have f8_2 := fun j => d8 (w2.heap.size) j (by omega)
  have s8_3 : w3.heap.size < w8.heap.size := by omega
  have o8_3 := fun j => c8 (w3.heap.size) j (by omega)
  have f8_3 := fun j => d8 (w3.heap.size) j (by omega)
  clear c8 d8 hz8 hW8
  go_wp2_with fail
  refine call_bel (w := w) (by repeat' (first | (with_reducible exact Below.refl _ _) | (with_reducible assumption) | (with_reducible refine bdn ?_) | (with_reducible refine Below.alloc ?_ ?_ _) | (with_reducible refine Below.drew ?_) | (with_reducible refine Below.setCell ?_ ?_ _) | omega | (simp <;> omega))) (fun HB => rfracerror_0 a.n a.d _ H_hA.out ia1 ia2) ?_
  intro w9 hb9 hz9 c9 d9 hW9
  have t9 := hb9.size
  try simp only [World.size_alloc] at hz9 c9 d9
  try simp only [World.size_drew] at hz9 c9 d9
  try simp only [World.size_setCell] at hz9 c9 d9
  try simp only [World.heap_drewN] at hz9 c9 d9
  try simp only [World.size_alloc] at hz9 c9 d9
  try simp only [World.size_drew] at hz9 c9 d9
  try simp only [World.size_setCell] at hz9 c9 d9
  have s9_0 : w.heap.size < w9.heap.size := by omega
  have o9_0 := fun j => c9 (w.heap.size) j (by omega)
  have f9_0 := fun j => d9 (w.heap.size) j (by omega)
  have s9_1 : w.heap.size + 1 < w9.heap.size := by omega
  have o9_1 := fun j => c9 (w.heap.size + 1) j (by omega)
  have f9_1 := fun j => d9 (w.heap.size + 1) j (by omega)
  have s9_2 : w2.heap.size < w9.heap.size := by omega
  have o9_2 := fun j => c9 (w2.heap.size) j (by omega)
  have f9_2 := fun j => d9 (w2.heap.size) j (by omega)
  have s9_3 : w3.heap.size < w9.heap.size := by omega
  have o9_3 := fun j => c9 (w3.heap.size) j (by omega)
  have f9_3 := fun j => d9 (w3.heap.size) j (by omega)
  clear c9 d9 hz9 hW9
  go_wp2_with fail
  refine call_bel (w := w) (by repeat' (first | (with_reducible exact Below.refl _ _) | (with_reducible assumption) | (with_reducible refine bdn ?_) | (with_reducible refine Below.alloc ?_ ?_ _) | (with_reducible refine Below.drew ?_) | (with_reducible refine Below.setCell ?_ ?_ _) | omega | (simp <;> omega))) (fun HB => rfracerror_any b.n b.d _ ib1 ib2) ?_
  intro w10 hb10 hz10 c10 d10 hW10
  have t10 := hb10.size
  try simp only [World.size_alloc] at hz10 c10 d10
  try simp only [World.size_drew] at hz10 c10 d10
  try simp only [World.size_setCell] at hz10 c10 d10
  try simp only [World.heap_drewN] at hz10 c10 d10
  try simp only [World.size_alloc] at hz10 c10 d10
  try simp only [World.size_drew] at hz10 c10 d10
  try simp only [World.size_setCell] at hz10 c10 d10
  have s10_0 : w.heap.size < w10.heap.size := by omega
  have o10_0 := fun j => c10 (w.heap.size) j (by omega)
  have f10_0 := fun j => d10 (w.heap.size) j (by omega)
  have s10_1 : w.heap.size + 1 < w10.heap.size := by omega
  have o10_1 := fun j => c10 (w.heap.size + 1) j (by omega)
  have f10_1 := fun j => d10 (w.heap.size + 1) j (by omega)
  have s10_2 : w2.heap.size < w10.heap.size := by omega
  have o10_2 := fun j => c10 (w2.heap.size) j (by omega)
  have f10_2 := fun j => d10 (w2.heap.size) j (by omega)
  have s10_3 : w3.heap.size < w10.heap.size := by omega
  have o10_3 := fun j => c10 (w3.heap.size) j (by omega)
  have f10_3 := fun j => d10 (w3.heap.size) j (by omega)
  clear c10 d10 hz10 hW10
  go_wp2_with fail
  refine call_bel (w := w) (by repeat' (first | (with_reducible exact Below.refl _ _) | (with_reducible assumption) | (with_reducible refine bdn ?_) | (with_reducible refine Below.alloc ?_ ?_ _) | (with_reducible refine Below.drew ?_) | (with_reducible refine Below.setCell ?_ ?_ _) | omega | (simp <;> omega))) (fun HB => coded1_t ea (chk b.n b.d) _ (chk_le11 _ _) (H_hS.out.keep HB rfl)) ?_
  intro w11 hb11 hz11 c11 d11 hW11
  have t11 := hb11.size
  try simp only [World.size_alloc] at hz11 c11 d11
  try simp only [World.size_drew] at hz11 c11 d11
  try simp only [World.size_setCell] at hz11 c11 d11
  try simp only [World.heap_drewN] at hz11 c11 d11
  try simp only [World.size_alloc] at hz11 c11 d11
  try simp only [World.size_drew] at hz11 c11 d11
  try simp only [World.size_setCell] at hz11 c11 d11
  have s11_0 : w.heap.size < w11.heap.size := by omega
  have o11_0 := fun j => c11 (w.heap.size) j (by omega)
  have f11_0 := fun j => d11 (w.heap.size) j (by omega)
  have s11_1 : w.heap.size + 1 < w11.heap.size := by omega
  have o11_1 := fun j => c11 (w.heap.size + 1) j (by omega)
  have f11_1 := fun j => d11 (w.heap.size + 1) j (by omega)
  have s11_2 : w2.heap.size < w11.heap.size := by omega
  have o11_2 := fun j => c11 (w2.heap.size) j (by omega)
  have f11_2 := fun j => d11 (w2.heap.size) j (by omega)
  have s11_3 : w3.heap.size < w11.heap.size := by omega
  have o11_3 := fun j => c11 (w3.heap.size) j (by omega)
  have f11_3 := fun j => d11 (w3.heap.size) j (by omega)
  clear c11 d11 hz11 hW11
  go_wp2_with fail
  go_returns
  exact ⟨rfl, by repeat' (first | (with_reducible exact Below.refl _ _) | (with_reducible assumption) | (with_reducible refine bdn ?_) | (with_reducible refine Below.alloc ?_ ?_ _) | (with_reducible refine Below.drew ?_) | (with_reducible refine Below.setCell ?_ ?_ _) | omega | (simp <;> omega))⟩

set_option maxHeartbeats 4000000 in
set_option maxRecDepth 100000 in
theorem mk_c0 (ea : Nat → Addr) (n d : Int) (a b : Fr) (s : ByteArray) (w : World) (hn : I64 n) (hd : I64 d) (ia : a.I) (ib : b.I) (hS : Sents ea w) (hL : Libs w) (h60 : s.size ≤ 60) (hA : chk a.n a.d = 0) (hB : chk b.n b.d = 0) (hR : rdC s.data.toList ≠ 0) :
    Calls Tryd.prog 8 #[.int .i64 n, .int .i64 d, .agg #[.int .i64 a.n, .int .i64 a.d], .agg #[.int .i64 b.n, .int .i64 b.d], .string s] w fun e w' => e = .returned (.bool true) ∧ Below w.heap.size w w' := by
  have hText := hS.c1
  have hBound := hS.c2
  have hShape := hS.c3
  have hZero := hS.c11
  have htab := hL.tab
  have zhShape := zlt hShape
  have xhShape := zlts hShape
  have yhShape := zne hShape
  have zhBound := zlt hBound
  have xhBound := zlts hBound
  have yhBound := zne hBound
  have zhZero := zlt hZero
  have xhZero := zlts hZero
  have yhZero := zne hZero
  have zhText := zlt hText
  have xhText := zlts hText
  have yhText := zne hText
  obtain ⟨ia1, ia2⟩ := ia
  obtain ⟨ib1, ib2⟩ := ib
  have g2 : decide (60 < (s.size : Int)) = false := by simp; omega
  obtain ⟨q, hq⟩ : ∃ q, z0 (mkC n d) (lowN n d) = q := ⟨_, rfl⟩
  obtain ⟨r, hr⟩ : ∃ q, z0 (mkC n d) (lowD n d) = q := ⟨_, rfl⟩
  obtain ⟨q2, hq2⟩ : ∃ q, z0 (rdC s.data.toList) (rdN s.data.toList) = q := ⟨_, rfl⟩
  obtain ⟨r2, hr2⟩ : ∃ q, z0 (rdC s.data.toList) (rdD s.data.toList) = q := ⟨_, rfl⟩
  have g4 := chk_n0 hR
  have g3 := chk_z0 hA
  have g5 := chk_q0 hB
  have hC : bothC a.n a.d b.n b.d = 0 := by unfold bothC; rw [if_pos hA]; exact hB
  have hRa := chk_0 hA
  have hRb := chk_0 hB
  obtain ⟨c, hcc⟩ : ∃ c, cmpI (a.n * b.d) (b.n * a.d) = c := ⟨_, rfl⟩
  have H_hA := Lib.hid hA
  clear hA
  have H_hB := Lib.hid hB
  clear hB
  have H_hC := Lib.hid hC
  clear hC
  have H_hRa := Lib.hid hRa
  clear hRa
  have H_hRb := Lib.hid hRb
  clear hRb
  have H_hcc := Lib.hid hcc
  clear hcc
  have H_hS := Lib.hid hS
  clear hS
  have H_htab := Lib.hid htab
  clear htab
  have H_hL := Lib.hid hL
  clear hL
  have H_hq := Lib.hid hq
  clear hq
  have H_hr := Lib.hid hr
  clear hr
  have H_hq2 := Lib.hid hq2
  clear hq2
  have H_hr2 := Lib.hid hr2
  clear hr2
  have H_hR := Lib.hid hR
  clear hR
  go_enter Tryd.func8, Tryd.ntmps8
  go_wp2_with fail
  refine call_bel (w := w) (by repeat' (first | (with_reducible exact Below.refl _ _) | (with_reducible assumption) | (with_reducible refine bdn ?_) | (with_reducible refine Below.alloc ?_ ?_ _) | (with_reducible refine Below.drew ?_) | (with_reducible refine Below.setCell ?_ ?_ _) | omega | (simp <;> omega))) (fun HB => halved_any ea _ (gkeep HB hBound rfl) (gkeep HB hZero rfl) (tab_keep H_htab.out HB rfl)) ?_
  intro w1 hb1 hz1 c1 d1 hW1
  have t1 := hb1.size
  try simp only [World.size_alloc] at hz1 c1 d1
  try simp only [World.size_drew] at hz1 c1 d1
  try simp only [World.size_setCell] at hz1 c1 d1
  try simp only [World.heap_drewN] at hz1 c1 d1
  try simp only [World.size_alloc] at hz1 c1 d1
  try simp only [World.size_drew] at hz1 c1 d1
  try simp only [World.size_setCell] at hz1 c1 d1
  have s1_0 : w.heap.size < w1.heap.size := by omega
  have o1_0 := fun j => c1 (w.heap.size) j (by omega)
  have f1_0 := fun j => d1 (w.heap.size) j (by omega)
  have s1_1 : w.heap.size + 1 < w1.heap.size := by omega
  have o1_1 := fun j => c1 (w.heap.size + 1) j (by omega)
  have f1_1 := fun j => d1 (w.heap.size + 1) j (by omega)
  clear c1 d1 hz1 hW1
  go_wp2_with fail
  refine call_bel (w := w) (by repeat' (first | (with_reducible exact Below.refl _ _) | (with_reducible assumption) | (with_reducible refine bdn ?_) | (with_reducible refine Below.alloc ?_ ?_ _) | (with_reducible refine Below.drew ?_) | (with_reducible refine Below.setCell ?_ ?_ _) | omega | (simp <;> omega))) (fun HB => fmake_any ea n d _ hn hd (gkeep HB hBound rfl) (gkeep HB hZero rfl)) ?_
  intro w2 hb2 hz2 c2 d2 hW2
  have t2 := hb2.size
  try simp only [World.size_alloc] at hz2 c2 d2
  try simp only [World.size_drew] at hz2 c2 d2
  try simp only [World.size_setCell] at hz2 c2 d2
  try simp only [World.heap_drewN] at hz2 c2 d2
  try simp only [World.size_alloc] at hz2 c2 d2
  try simp only [World.size_drew] at hz2 c2 d2
  try simp only [World.size_setCell] at hz2 c2 d2
  have s2_0 : w.heap.size < w2.heap.size := by omega
  have o2_0 := fun j => c2 (w.heap.size) j (by omega)
  have f2_0 := fun j => d2 (w.heap.size) j (by omega)
  have s2_1 : w.heap.size + 1 < w2.heap.size := by omega
  have o2_1 := fun j => c2 (w.heap.size + 1) j (by omega)
  have f2_1 := fun j => d2 (w.heap.size + 1) j (by omega)
  clear c2 d2 hz2 hW2
  rw [frV_z, H_hq.out, H_hr.out]
  go_wp2_with fail
  refine call_bel (w := w) (by repeat' (first | (with_reducible exact Below.refl _ _) | (with_reducible assumption) | (with_reducible refine bdn ?_) | (with_reducible refine Below.alloc ?_ ?_ _) | (with_reducible refine Below.drew ?_) | (with_reducible refine Below.setCell ?_ ?_ _) | omega | (simp <;> omega))) (fun HB => rfracmake_any n d _) ?_
  intro w3 hb3 hz3 c3 d3 hW3
  have t3 := hb3.size
  have e3_2 : Below w2.heap.size w2 w3 := below_via (by repeat' (first | (with_reducible exact Below.refl _ _) | (with_reducible assumption) | (with_reducible refine bdn ?_) | (with_reducible refine Below.alloc ?_ ?_ _) | (with_reducible refine Below.drew ?_) | (with_reducible refine Below.setCell ?_ ?_ _) | omega | (simp <;> omega))) hW3
  have te3_2 := e3_2.size
  try simp only [World.size_alloc] at hz3 c3 d3
  try simp only [World.size_drew] at hz3 c3 d3
  try simp only [World.size_setCell] at hz3 c3 d3
  try simp only [World.heap_drewN] at hz3 c3 d3
  try simp only [World.size_alloc] at hz3 c3 d3
  try simp only [World.size_drew] at hz3 c3 d3
  try simp only [World.size_setCell] at hz3 c3 d3
  have s3_0 : w.heap.size < w3.heap.size := by omega
  have o3_0 := fun j => c3 (w.heap.size) j (by omega)
  have f3_0 := fun j => d3 (w.heap.size) j (by omega)
  have s3_1 : w.heap.size + 1 < w3.heap.size := by omega
  have o3_1 := fun j => c3 (w.heap.size + 1) j (by omega)
  have f3_1 := fun j => d3 (w.heap.size + 1) j (by omega)
  have s3_2 : w2.heap.size < w3.heap.size := by omega
  have o3_2 := fun j => c3 (w2.heap.size) j (by omega)
  have f3_2 := fun j => d3 (w2.heap.size) j (by omega)
  clear c3 d3 hz3 hW3
  rw [frN, H_hq.out, H_hr.out]
  have p2 : ∀ j, w3.cell? ⟨w2.heap.size, j, none⟩ = #[Value.int .i64 q, Value.int .i64 r][j]? := fun j => by rw [o3_2]; exact World.cell?_alloc_new _ _ _ _
  have p0 : ∀ j, w3.cell? ⟨w.heap.size, j, none⟩ = #[Value.int .i64 a.n, Value.int .i64 a.d][j]? := fun j => by rw [o3_0, World.cell?_alloc_lt _ _ _ (by simp; omega), o2_0, o1_0, World.cell?_alloc_lt _ _ _ (by simp)]; exact World.cell?_alloc_new _ _ _ _
  have p1 : ∀ j, w3.cell? ⟨w.heap.size + 1, j, none⟩ = #[Value.int .i64 b.n, Value.int .i64 b.d][j]? := fun j => by rw [o3_1, World.cell?_alloc_lt _ _ _ (by simp; omega), o2_1, o1_1]; have hj := World.cell?_alloc_new (w.alloc (.cells #[.int .i64 a.n, .int .i64 a.d] 90)) #[.int .i64 b.n, .int .i64 b.d] 90 j; rw [World.size_alloc] at hj; exact hj
  have SK : ∀ W, Below (w3.heap.size + 1) (w3.alloc (.cells #[.int .i64 q, .int .i64 r] 90)) W → Below (w3.heap.size + 1) (w3.alloc (.cells #[.int .i64 q, .int .i64 r] 90)) W ∧ (∀ j, W.cell? ⟨w.heap.size, j, none⟩ = #[Value.int .i64 a.n, Value.int .i64 a.d][j]?) ∧ (∀ j, W.cell? ⟨w2.heap.size, j, none⟩ = #[Value.int .i64 q, Value.int .i64 r][j]?) ∧ (∀ j, W.cell? ⟨w3.heap.size, j, none⟩ = #[Value.int .i64 q, Value.int .i64 r][j]?) := by
    intro W h
    refine ⟨h, fun j => ?_, fun j => ?_, fun j => ?_⟩
    · rw [h.cell (by simp; omega), World.cell?_alloc_lt _ _ _ (by simp; omega)]; exact p0 j
    · rw [h.cell (by simp; omega), World.cell?_alloc_lt _ _ _ (by simp; omega)]; exact p2 j
    · rw [h.cell (by simp)]; exact World.cell?_alloc_new _ _ _ _
  have KB : ∀ W, Below (w3.heap.size + 1) (w3.alloc (.cells #[.int .i64 q, .int .i64 r] 90)) W → Below w3.heap.size w3 W := fun W h => ((Below.refl _ _).alloc (Nat.le_refl _) _).trans (h.mono (by omega))
  have HK : ∀ W, Below (w3.heap.size + 1) (w3.alloc (.cells #[.int .i64 q, .int .i64 r] 90)) W ∧ (∀ j, W.cell? ⟨w.heap.size, j, none⟩ = #[Value.int .i64 a.n, Value.int .i64 a.d][j]?) ∧ (∀ j, W.cell? ⟨w2.heap.size, j, none⟩ = #[Value.int .i64 q, Value.int .i64 r][j]?) ∧ (∀ j, W.cell? ⟨w3.heap.size, j, none⟩ = #[Value.int .i64 q, Value.int .i64 r][j]?) → W.cell? ⟨5, 0, none⟩ = some (.iface 312 (.pointer (some (ea 3)))) ∧ W.cell? ⟨1, 0, none⟩ = some (.iface 312 (.pointer (some (ea 2)))) ∧ Sents ea W := by
    intro W h
    have k' := hb3.trans ((KB W h.1).mono t3)
    exact ⟨gkeep k' hShape rfl, gkeep k' hBound rfl, H_hS.out.keep k' rfl⟩
  have pf2 := f3_2
  have H_SK := Lib.hid SK
  clear SK
  have H_KB := Lib.hid KB
  clear KB
  have H_HK := Lib.hid HK
  clear HK
  go_wp2_with fail
  clear o1_0 f1_0 o1_1 f1_1 o2_0 f2_0 o2_1 f2_1 o3_0 f3_0 o3_1 f3_1 o3_2 f3_2
  go_region_held3 (fun W => Below (w3.heap.size + 1) (w3.alloc (.cells #[.int .i64 q, .int .i64 r] 90)) W ∧ (∀ j, W.cell? ⟨w.heap.size, j, none⟩ = #[Value.int .i64 a.n, Value.int .i64 a.d][j]?) ∧ (∀ j, W.cell? ⟨w2.heap.size, j, none⟩ = #[Value.int .i64 q, Value.int .i64 r][j]?) ∧ (∀ j, W.cell? ⟨w3.heap.size, j, none⟩ = #[Value.int .i64 q, Value.int .i64 r][j]?)) (first | exact H_SK.out _ (Below.refl _ _).drew | exact H_SK.out _ (held_step (by simp) (by assumption) (by assumption)))
    (first | (go_at_call 45; (with_reducible refine (fcheck_any ea a.n a.d _ ia1 ia2 (H_HK.out _ (by assumption)).1 (H_HK.out _ (by assumption)).2.1).mono ?_); rintro e w' ⟨rfl, hbb⟩) | (go_at_call 46; (with_reducible refine (rfracerror_any a.n a.d _ ia1 ia2).mono ?_); rintro e w' ⟨rfl, hbb⟩) | (go_at_call 29; (with_reducible refine (coded1_t ea (mkC n d) _ (mkC_le n d) (H_HK.out _ (by assumption)).2.2).mono ?_); rintro e w' ⟨rfl, hbb⟩) | (go_at_call 29; (with_reducible refine (coded1_t ea (chk a.n a.d) _ (chk_le11 a.n a.d) (H_HK.out _ (by assumption)).2.2).mono ?_); rintro e w' ⟨rfl, hbb⟩))
  rename_i hh
  have hS1 := hh.1
  have o30_0 := hh.2.1
  have o30_2 := hh.2.2.1
  have o30_3 := hh.2.2.2
  clear hh
  generalize hW : w' = w30 at *
  clear hW hbb
  have e30_3 : Below w3.heap.size w3 w30 := H_KB.out _ hS1
  have hb30 : Below w.heap.size w w30 := hb3.trans (e30_3.mono t3)
  have e30_2 : Below w2.heap.size w2 w30 := e3_2.trans (e30_3.mono te3_2)
  have o30_1 : ∀ j, w30.cell? ⟨w.heap.size + 1, j, none⟩ = #[Value.int .i64 b.n, Value.int .i64 b.d][j]? := fun j => by rw [e30_3.cell (by simp; omega)]; exact p1 j
  have t30 : w3.heap.size + 1 ≤ w30.heap.size := by have := hS1.size; simpa using this
  have f30_2 : ∀ j, w30.frozen? ⟨w2.heap.size, j, none⟩ = (w2.alloc (.cells #[.int .i64 q, .int .i64 r] 90)).frozen? ⟨w2.heap.size, j, none⟩ := fun j => by rw [e30_3.frozen (by simp; omega)]; exact pf2 j
  have f30_3 : ∀ j, w30.frozen? ⟨w3.heap.size, j, none⟩ = (w3.alloc (.cells #[.int .i64 q, .int .i64 r] 90)).frozen? ⟨w3.heap.size, j, none⟩ := fun j => hS1.frozen (by simp)
  have s30_0 : w.heap.size < w30.heap.size := by omega
  have s30_1 : w.heap.size + 1 < w30.heap.size := by omega
  have s30_2 : w2.heap.size < w30.heap.size := by omega
  have s30_3 : w3.heap.size < w30.heap.size := by omega
  have SK8 : ∀ W, Below w30.heap.size w30 W → Below w30.heap.size w30 W ∧ (∀ j, W.cell? ⟨w.heap.size, j, none⟩ = #[Value.int .i64 a.n, Value.int .i64 a.d][j]?) := by
    intro W h
    refine ⟨h, fun j => ?_⟩
    rw [h.cell s30_0]; exact o30_0 j
  have HT8 : ∀ W, Below w30.heap.size w30 W ∧ (∀ j, W.cell? ⟨w.heap.size, j, none⟩ = #[Value.int .i64 a.n, Value.int .i64 a.d][j]?) → Lib.TabIs Tryd.prog W "internal/strconv.uint64pow10" .u64 Lib.pow10Tab := fun W h => tab_keep H_htab.out (hb30.trans (h.1.mono (by omega))) rfl
  have H_SK8 := Lib.hid SK8
  clear SK8
  have H_HT8 := Lib.hid HT8
  clear HT8
  go_wp2_with fail
  go_region_held3 (fun W => Below w30.heap.size w30 W ∧ (∀ j, W.cell? ⟨w.heap.size, j, none⟩ = #[Value.int .i64 a.n, Value.int .i64 a.d][j]?)) (first | exact H_SK8.out _ (Below.refl _ _).drew | exact H_SK8.out _ (Below.refl _ _) | exact H_SK8.out _ (held_step (by simp) (by assumption) (by assumption)))
    (first | (go_at_call 46; (with_reducible refine (rfracerror_0 a.n a.d _ H_hA.out ia1 ia2).mono ?_); rintro e w' ⟨rfl, hbb⟩) | (go_at_call 47; (with_reducible refine (ftext_any a.n a.d _ ia1 ia2 (H_HT8.out _ (by assumption))).mono ?_); rintro e w' ⟨rfl, hbb⟩) | (go_at_call 48; (with_reducible refine (rfractext_any a.n a.d _ ia1 ia2).mono ?_); rintro e w' ⟨rfl, hbb⟩))
  rename_i hh
  have hS8 := hh.1
  clear hh
  generalize hW : w' = w31 at *
  clear hW hbb
  have hb31 : Below w.heap.size w w31 := hb30.trans (hS8.mono (by omega))
  have t31 := hS8.size
  have o31_0 : ∀ j, w31.cell? ⟨w.heap.size, j, none⟩ = #[Value.int .i64 a.n, Value.int .i64 a.d][j]? := fun j => by rw [hS8.cell s30_0]; exact o30_0 j
  have o31_1 : ∀ j, w31.cell? ⟨w.heap.size + 1, j, none⟩ = #[Value.int .i64 b.n, Value.int .i64 b.d][j]? := fun j => by rw [hS8.cell s30_1]; exact o30_1 j
  have o31_2 : ∀ j, w31.cell? ⟨w2.heap.size, j, none⟩ = #[Value.int .i64 q, Value.int .i64 r][j]? := fun j => by rw [hS8.cell s30_2]; exact o30_2 j
  have o31_3 : ∀ j, w31.cell? ⟨w3.heap.size, j, none⟩ = #[Value.int .i64 q, Value.int .i64 r][j]? := fun j => by rw [hS8.cell s30_3]; exact o30_3 j
  have f31_2 : ∀ j, w31.frozen? ⟨w2.heap.size, j, none⟩ = (w2.alloc (.cells #[.int .i64 q, .int .i64 r] 90)).frozen? ⟨w2.heap.size, j, none⟩ := fun j => by rw [hS8.frozen s30_2]; exact f30_2 j
  have f31_3 : ∀ j, w31.frozen? ⟨w3.heap.size, j, none⟩ = (w3.alloc (.cells #[.int .i64 q, .int .i64 r] 90)).frozen? ⟨w3.heap.size, j, none⟩ := fun j => by rw [hS8.frozen s30_3]; exact f30_3 j
  have s31_0 : w.heap.size < w31.heap.size := by omega
  have s31_1 : w.heap.size + 1 < w31.heap.size := by omega
  have s31_2 : w2.heap.size < w31.heap.size := by omega
  have s31_3 : w3.heap.size < w31.heap.size := by omega
  clear hS8 o30_0 o30_1 o30_2 o30_3 f30_2 f30_3
  go_wp2_with fail
  refine call_bel (w := w) (by repeat' (first | (with_reducible exact Below.refl _ _) | (with_reducible assumption) | (with_reducible refine bdn ?_) | (with_reducible refine Below.alloc ?_ ?_ _) | (with_reducible refine Below.drew ?_) | (with_reducible refine Below.setCell ?_ ?_ _) | omega | (simp <;> omega))) (fun HB => fread_any ea s _ (by omega) (H_hL.out.keep HB rfl) (gkeep HB hText rfl) (gkeep HB hShape rfl) (gkeep HB hBound rfl)) ?_
  intro w4 hb4 hz4 c4 d4 hW4
  have t4 := hb4.size
  try simp only [World.size_alloc] at hz4 c4 d4
  try simp only [World.size_drew] at hz4 c4 d4
  try simp only [World.size_setCell] at hz4 c4 d4
  try simp only [World.heap_drewN] at hz4 c4 d4
  try simp only [World.size_alloc] at hz4 c4 d4
  try simp only [World.size_drew] at hz4 c4 d4
  try simp only [World.size_setCell] at hz4 c4 d4
  have s4_0 : w.heap.size < w4.heap.size := by omega
  have o4_0 := fun j => c4 (w.heap.size) j (by omega)
  have f4_0 := fun j => d4 (w.heap.size) j (by omega)
  have s4_1 : w.heap.size + 1 < w4.heap.size := by omega
  have o4_1 := fun j => c4 (w.heap.size + 1) j (by omega)
  have f4_1 := fun j => d4 (w.heap.size + 1) j (by omega)
  have s4_2 : w2.heap.size < w4.heap.size := by omega
  have o4_2 := fun j => c4 (w2.heap.size) j (by omega)
  have f4_2 := fun j => d4 (w2.heap.size) j (by omega)
  have s4_3 : w3.heap.size < w4.heap.size := by omega
  have o4_3 := fun j => c4 (w3.heap.size) j (by omega)
  have f4_3 := fun j => d4 (w3.heap.size) j (by omega)
  clear c4 d4 hz4 hW4
  rw [frV_z, H_hq2.out, H_hr2.out]
  go_wp2_with fail
  refine call_bel (w := w) (by repeat' (first | (with_reducible exact Below.refl _ _) | (with_reducible assumption) | (with_reducible refine bdn ?_) | (with_reducible refine Below.alloc ?_ ?_ _) | (with_reducible refine Below.drew ?_) | (with_reducible refine Below.setCell ?_ ?_ _) | omega | (simp <;> omega))) (fun HB => rfracof_any s _ (by omega)) ?_
  intro w5 hb5 hz5 c5 d5 hW5
  have t5 := hb5.size
  try simp only [World.size_alloc] at hz5 c5 d5
  try simp only [World.size_drew] at hz5 c5 d5
  try simp only [World.size_setCell] at hz5 c5 d5
  try simp only [World.heap_drewN] at hz5 c5 d5
  try simp only [World.size_alloc] at hz5 c5 d5
  try simp only [World.size_drew] at hz5 c5 d5
  try simp only [World.size_setCell] at hz5 c5 d5
  have s5_0 : w.heap.size < w5.heap.size := by omega
  have o5_0 := fun j => c5 (w.heap.size) j (by omega)
  have f5_0 := fun j => d5 (w.heap.size) j (by omega)
  have s5_1 : w.heap.size + 1 < w5.heap.size := by omega
  have o5_1 := fun j => c5 (w.heap.size + 1) j (by omega)
  have f5_1 := fun j => d5 (w.heap.size + 1) j (by omega)
  have s5_2 : w2.heap.size < w5.heap.size := by omega
  have o5_2 := fun j => c5 (w2.heap.size) j (by omega)
  have f5_2 := fun j => d5 (w2.heap.size) j (by omega)
  have s5_3 : w3.heap.size < w5.heap.size := by omega
  have o5_3 := fun j => c5 (w3.heap.size) j (by omega)
  have f5_3 := fun j => d5 (w3.heap.size) j (by omega)
  clear c5 d5 hz5 hW5
  rw [frN, H_hq2.out, H_hr2.out]
  go_wp2_with fail
  refine call_bel (w := w) (by repeat' (first | (with_reducible exact Below.refl _ _) | (with_reducible assumption) | (with_reducible refine bdn ?_) | (with_reducible refine Below.alloc ?_ ?_ _) | (with_reducible refine Below.drew ?_) | (with_reducible refine Below.setCell ?_ ?_ _) | omega | (simp <;> omega))) (fun HB => coded1_t ea (rdC s.data.toList) _ (rdC_le _) (H_hS.out.keep HB rfl)) ?_
  intro w6 hb6 hz6 c6 d6 hW6
  have t6 := hb6.size
  try simp only [World.size_alloc] at hz6 c6 d6
  try simp only [World.size_drew] at hz6 c6 d6
  try simp only [World.size_setCell] at hz6 c6 d6
  try simp only [World.heap_drewN] at hz6 c6 d6
  try simp only [World.size_alloc] at hz6 c6 d6
  try simp only [World.size_drew] at hz6 c6 d6
  try simp only [World.size_setCell] at hz6 c6 d6
  have s6_0 : w.heap.size < w6.heap.size := by omega
  have o6_0 := fun j => c6 (w.heap.size) j (by omega)
  have f6_0 := fun j => d6 (w.heap.size) j (by omega)
  have s6_1 : w.heap.size + 1 < w6.heap.size := by omega
  have o6_1 := fun j => c6 (w.heap.size + 1) j (by omega)
  have f6_1 := fun j => d6 (w.heap.size + 1) j (by omega)
  have s6_2 : w2.heap.size < w6.heap.size := by omega
  have o6_2 := fun j => c6 (w2.heap.size) j (by omega)
  have f6_2 := fun j => d6 (w2.heap.size) j (by omega)
  have s6_3 : w3.heap.size < w6.heap.size := by omega
  have o6_3 := fun j => c6 (w3.heap.size) j (by omega)
  have f6_3 := fun j => d6 (w3.heap.size) j (by omega)
  clear c6 d6 hz6 hW6
  go_wp2_with fail
  refine call_bel (w := w) (by repeat' (first | (with_reducible exact Below.refl _ _) | (with_reducible assumption) | (with_reducible refine bdn ?_) | (with_reducible refine Below.alloc ?_ ?_ _) | (with_reducible refine Below.drew ?_) | (with_reducible refine Below.setCell ?_ ?_ _) | omega | (simp <;> omega))) (fun HB => fcmp_0 ea a.n a.d b.n b.d c _ ia1 ia2 ib1 ib2 (gkeep HB hShape rfl) (gkeep HB hBound rfl) H_hC.out H_hcc.out) ?_
  intro w8 hb8 hz8 c8 d8 hW8
  have t8 := hb8.size
  try simp only [World.size_alloc] at hz8 c8 d8
  try simp only [World.size_drew] at hz8 c8 d8
  try simp only [World.size_setCell] at hz8 c8 d8
  try simp only [World.heap_drewN] at hz8 c8 d8
  try simp only [World.size_alloc] at hz8 c8 d8
  try simp only [World.size_drew] at hz8 c8 d8
  try simp only [World.size_setCell] at hz8 c8 d8
  have s8_0 : w.heap.size < w8.heap.size := by omega
  have o8_0 := fun j => c8 (w.heap.size) j (by omega)
  have f8_0 := fun j => d8 (w.heap.size) j (by omega)
  have s8_1 : w.heap.size + 1 < w8.heap.size := by omega
  have o8_1 := fun j => c8 (w.heap.size + 1) j (by omega)
  have f8_1 := fun j => d8 (w.heap.size + 1) j (by omega)
  have s8_2 : w2.heap.size < w8.heap.size := by omega
  have o8_2 := fun j => c8 (w2.heap.size) j (by omega)
  have f8_2 := fun j => d8 (w2.heap.size) j (by omega)
  have s8_3 : w3.heap.size < w8.heap.size := by omega
  have o8_3 := fun j => c8 (w3.heap.size) j (by omega)
  have f8_3 := fun j => d8 (w3.heap.size) j (by omega)
  clear c8 d8 hz8 hW8
  go_wp2_with fail
  refine call_bel (w := w) (by repeat' (first | (with_reducible exact Below.refl _ _) | (with_reducible assumption) | (with_reducible refine bdn ?_) | (with_reducible refine Below.alloc ?_ ?_ _) | (with_reducible refine Below.drew ?_) | (with_reducible refine Below.setCell ?_ ?_ _) | omega | (simp <;> omega))) (fun HB => rfracerror_0 a.n a.d _ H_hA.out ia1 ia2) ?_
  intro w9 hb9 hz9 c9 d9 hW9
  have t9 := hb9.size
  try simp only [World.size_alloc] at hz9 c9 d9
  try simp only [World.size_drew] at hz9 c9 d9
  try simp only [World.size_setCell] at hz9 c9 d9
  try simp only [World.heap_drewN] at hz9 c9 d9
  try simp only [World.size_alloc] at hz9 c9 d9
  try simp only [World.size_drew] at hz9 c9 d9
  try simp only [World.size_setCell] at hz9 c9 d9
  have s9_0 : w.heap.size < w9.heap.size := by omega
  have o9_0 := fun j => c9 (w.heap.size) j (by omega)
  have f9_0 := fun j => d9 (w.heap.size) j (by omega)
  have s9_1 : w.heap.size + 1 < w9.heap.size := by omega
  have o9_1 := fun j => c9 (w.heap.size + 1) j (by omega)
  have f9_1 := fun j => d9 (w.heap.size + 1) j (by omega)
  have s9_2 : w2.heap.size < w9.heap.size := by omega
  have o9_2 := fun j => c9 (w2.heap.size) j (by omega)
  have f9_2 := fun j => d9 (w2.heap.size) j (by omega)
  have s9_3 : w3.heap.size < w9.heap.size := by omega
  have o9_3 := fun j => c9 (w3.heap.size) j (by omega)
  have f9_3 := fun j => d9 (w3.heap.size) j (by omega)
  clear c9 d9 hz9 hW9
  go_wp2_with fail
  refine call_bel (w := w) (by repeat' (first | (with_reducible exact Below.refl _ _) | (with_reducible assumption) | (with_reducible refine bdn ?_) | (with_reducible refine Below.alloc ?_ ?_ _) | (with_reducible refine Below.drew ?_) | (with_reducible refine Below.setCell ?_ ?_ _) | omega | (simp <;> omega))) (fun HB => rfracerror_0 b.n b.d _ H_hB.out ib1 ib2) ?_
  intro w10 hb10 hz10 c10 d10 hW10
  have t10 := hb10.size
  try simp only [World.size_alloc] at hz10 c10 d10
  try simp only [World.size_drew] at hz10 c10 d10
  try simp only [World.size_setCell] at hz10 c10 d10
  try simp only [World.heap_drewN] at hz10 c10 d10
  try simp only [World.size_alloc] at hz10 c10 d10
  try simp only [World.size_drew] at hz10 c10 d10
  try simp only [World.size_setCell] at hz10 c10 d10
  have s10_0 : w.heap.size < w10.heap.size := by omega
  have o10_0 := fun j => c10 (w.heap.size) j (by omega)
  have f10_0 := fun j => d10 (w.heap.size) j (by omega)
  have s10_1 : w.heap.size + 1 < w10.heap.size := by omega
  have o10_1 := fun j => c10 (w.heap.size + 1) j (by omega)
  have f10_1 := fun j => d10 (w.heap.size + 1) j (by omega)
  have s10_2 : w2.heap.size < w10.heap.size := by omega
  have o10_2 := fun j => c10 (w2.heap.size) j (by omega)
  have f10_2 := fun j => d10 (w2.heap.size) j (by omega)
  have s10_3 : w3.heap.size < w10.heap.size := by omega
  have o10_3 := fun j => c10 (w3.heap.size) j (by omega)
  have f10_3 := fun j => d10 (w3.heap.size) j (by omega)
  clear c10 d10 hz10 hW10
  go_wp2_with fail
  refine call_bel (w := w) (by repeat' (first | (with_reducible exact Below.refl _ _) | (with_reducible assumption) | (with_reducible refine bdn ?_) | (with_reducible refine Below.alloc ?_ ?_ _) | (with_reducible refine Below.drew ?_) | (with_reducible refine Below.setCell ?_ ?_ _) | omega | (simp <;> omega))) (fun HB => fcmpr_c a.n a.d b.n b.d c _ H_hRa.out H_hRb.out H_hcc.out) ?_
  intro w11 hb11 hz11 c11 d11 hW11
  have t11 := hb11.size
  try simp only [World.size_alloc] at hz11 c11 d11
  try simp only [World.size_drew] at hz11 c11 d11
  try simp only [World.size_setCell] at hz11 c11 d11
  try simp only [World.heap_drewN] at hz11 c11 d11
  try simp only [World.size_alloc] at hz11 c11 d11
  try simp only [World.size_drew] at hz11 c11 d11
  try simp only [World.size_setCell] at hz11 c11 d11
  have s11_0 : w.heap.size < w11.heap.size := by omega
  have o11_0 := fun j => c11 (w.heap.size) j (by omega)
  have f11_0 := fun j => d11 (w.heap.size) j (by omega)
  have s11_1 : w.heap.size + 1 < w11.heap.size := by omega
  have o11_1 := fun j => c11 (w.heap.size + 1) j (by omega)
  have f11_1 := fun j => d11 (w.heap.size + 1) j (by omega)
  have s11_2 : w2.heap.size < w11.heap.size := by omega
  have o11_2 := fun j => c11 (w2.heap.size) j (by omega)
  have f11_2 := fun j => d11 (w2.heap.size) j (by omega)
  have s11_3 : w3.heap.size < w11.heap.size := by omega
  have o11_3 := fun j => c11 (w3.heap.size) j (by omega)
  have f11_3 := fun j => d11 (w3.heap.size) j (by omega)
  clear c11 d11 hz11 hW11
  go_wp2_with fail
  go_returns
  exact ⟨rfl, by repeat' (first | (with_reducible exact Below.refl _ _) | (with_reducible assumption) | (with_reducible refine bdn ?_) | (with_reducible refine Below.alloc ?_ ?_ _) | (with_reducible refine Below.drew ?_) | (with_reducible refine Below.setCell ?_ ?_ _) | omega | (simp <;> omega))⟩

set_option maxHeartbeats 4000000 in
set_option maxRecDepth 100000 in
theorem mk_a1_2 (ea : Nat → Addr) (n d : Int) (a b : Fr) (s : ByteArray) (w : World) (hn : I64 n) (hd : I64 d) (ia : a.I) (ib : b.I) (hS : Sents ea w) (hL : Libs w) (h60 : s.size ≤ 60) (hA' : chk a.n a.d = 2)  (hR : rdC s.data.toList = 0) :
    Calls Tryd.prog 8 #[.int .i64 n, .int .i64 d, .agg #[.int .i64 a.n, .int .i64 a.d], .agg #[.int .i64 b.n, .int .i64 b.d], .string s] w fun e w' => e = .returned (.bool true) ∧ Below w.heap.size w w' := by
  have hText := hS.c1
  have hBound := hS.c2
  have hShape := hS.c3
  have hZero := hS.c11
  have htab := hL.tab
  have zhShape := zlt hShape
  have xhShape := zlts hShape
  have yhShape := zne hShape
  have zhBound := zlt hBound
  have xhBound := zlts hBound
  have yhBound := zne hBound
  have zhZero := zlt hZero
  have xhZero := zlts hZero
  have yhZero := zne hZero
  have zhText := zlt hText
  have xhText := zlts hText
  have yhText := zne hText
  obtain ⟨ia1, ia2⟩ := ia
  obtain ⟨ib1, ib2⟩ := ib
  have g2 : decide (60 < (s.size : Int)) = false := by simp; omega
  obtain ⟨q, hq⟩ : ∃ q, z0 (mkC n d) (lowN n d) = q := ⟨_, rfl⟩
  obtain ⟨r, hr⟩ : ∃ q, z0 (mkC n d) (lowD n d) = q := ⟨_, rfl⟩
  obtain ⟨q2, hq2⟩ : ∃ q, z0 (rdC s.data.toList) (rdN s.data.toList) = q := ⟨_, rfl⟩
  obtain ⟨r2, hr2⟩ : ∃ q, z0 (rdC s.data.toList) (rdD s.data.toList) = q := ⟨_, rfl⟩
  have g4 := chk_z0 hR
  have hT := rd_text2 hR hq2 hr2
  have H_hT := Lib.hid hT
  clear hT
  have hA : chk a.n a.d ≠ 0 := by omega
  have hAi : (chk a.n a.d : Int) = 2 := by omega
  have H_hAi := Lib.hid hAi
  clear hAi
  have g3 := chk_n0 hA
  have g5 := chk_p0 hA
  have g6 : decide (0 < chk a.n a.d) = true := by simp; omega
  have hC : bothC a.n a.d b.n b.d = chk a.n a.d := by unfold bothC; rw [if_neg hA]
  have H_hA := Lib.hid hA
  clear hA
  have H_hA' := Lib.hid hA'
  clear hA'
  have H_hC := Lib.hid hC
  clear hC
  have H_hS := Lib.hid hS
  clear hS
  have H_htab := Lib.hid htab
  clear htab
  have H_hL := Lib.hid hL
  clear hL
  have H_hq := Lib.hid hq
  clear hq
  have H_hr := Lib.hid hr
  clear hr
  have H_hq2 := Lib.hid hq2
  clear hq2
  have H_hr2 := Lib.hid hr2
  clear hr2
  have H_hR := Lib.hid hR
  clear hR
  go_enter Tryd.func8, Tryd.ntmps8
  go_wp2_with fail
  refine call_bel (w := w) (by repeat' (first | (with_reducible exact Below.refl _ _) | (with_reducible assumption) | (with_reducible refine bdn ?_) | (with_reducible refine Below.alloc ?_ ?_ _) | (with_reducible refine Below.drew ?_) | (with_reducible refine Below.setCell ?_ ?_ _) | omega | (simp <;> omega))) (fun HB => halved_any ea _ (gkeep HB hBound rfl) (gkeep HB hZero rfl) (tab_keep H_htab.out HB rfl)) ?_
  intro w1 hb1 hz1 c1 d1 hW1
  have t1 := hb1.size
  try simp only [World.size_alloc] at hz1 c1 d1
  try simp only [World.size_drew] at hz1 c1 d1
  try simp only [World.size_setCell] at hz1 c1 d1
  try simp only [World.heap_drewN] at hz1 c1 d1
  try simp only [World.size_alloc] at hz1 c1 d1
  try simp only [World.size_drew] at hz1 c1 d1
  try simp only [World.size_setCell] at hz1 c1 d1
  have s1_0 : w.heap.size < w1.heap.size := by omega
  have o1_0 := fun j => c1 (w.heap.size) j (by omega)
  have f1_0 := fun j => d1 (w.heap.size) j (by omega)
  have s1_1 : w.heap.size + 1 < w1.heap.size := by omega
  have o1_1 := fun j => c1 (w.heap.size + 1) j (by omega)
  have f1_1 := fun j => d1 (w.heap.size + 1) j (by omega)
  clear c1 d1 hz1 hW1
  go_wp2_with fail
  refine call_bel (w := w) (by repeat' (first | (with_reducible exact Below.refl _ _) | (with_reducible assumption) | (with_reducible refine bdn ?_) | (with_reducible refine Below.alloc ?_ ?_ _) | (with_reducible refine Below.drew ?_) | (with_reducible refine Below.setCell ?_ ?_ _) | omega | (simp <;> omega))) (fun HB => fmake_any ea n d _ hn hd (gkeep HB hBound rfl) (gkeep HB hZero rfl)) ?_
  intro w2 hb2 hz2 c2 d2 hW2
  have t2 := hb2.size
  try simp only [World.size_alloc] at hz2 c2 d2
  try simp only [World.size_drew] at hz2 c2 d2
  try simp only [World.size_setCell] at hz2 c2 d2
  try simp only [World.heap_drewN] at hz2 c2 d2
  try simp only [World.size_alloc] at hz2 c2 d2
  try simp only [World.size_drew] at hz2 c2 d2
  try simp only [World.size_setCell] at hz2 c2 d2
  have s2_0 : w.heap.size < w2.heap.size := by omega
  have o2_0 := fun j => c2 (w.heap.size) j (by omega)
  have f2_0 := fun j => d2 (w.heap.size) j (by omega)
  have s2_1 : w.heap.size + 1 < w2.heap.size := by omega
  have o2_1 := fun j => c2 (w.heap.size + 1) j (by omega)
  have f2_1 := fun j => d2 (w.heap.size + 1) j (by omega)
  clear c2 d2 hz2 hW2
  rw [frV_z, H_hq.out, H_hr.out]
  go_wp2_with fail
  refine call_bel (w := w) (by repeat' (first | (with_reducible exact Below.refl _ _) | (with_reducible assumption) | (with_reducible refine bdn ?_) | (with_reducible refine Below.alloc ?_ ?_ _) | (with_reducible refine Below.drew ?_) | (with_reducible refine Below.setCell ?_ ?_ _) | omega | (simp <;> omega))) (fun HB => rfracmake_any n d _) ?_
  intro w3 hb3 hz3 c3 d3 hW3
  have t3 := hb3.size
  have e3_2 : Below w2.heap.size w2 w3 := below_via (by repeat' (first | (with_reducible exact Below.refl _ _) | (with_reducible assumption) | (with_reducible refine bdn ?_) | (with_reducible refine Below.alloc ?_ ?_ _) | (with_reducible refine Below.drew ?_) | (with_reducible refine Below.setCell ?_ ?_ _) | omega | (simp <;> omega))) hW3
  have te3_2 := e3_2.size
  try simp only [World.size_alloc] at hz3 c3 d3
  try simp only [World.size_drew] at hz3 c3 d3
  try simp only [World.size_setCell] at hz3 c3 d3
  try simp only [World.heap_drewN] at hz3 c3 d3
  try simp only [World.size_alloc] at hz3 c3 d3
  try simp only [World.size_drew] at hz3 c3 d3
  try simp only [World.size_setCell] at hz3 c3 d3
  have s3_0 : w.heap.size < w3.heap.size := by omega
  have o3_0 := fun j => c3 (w.heap.size) j (by omega)
  have f3_0 := fun j => d3 (w.heap.size) j (by omega)
  have s3_1 : w.heap.size + 1 < w3.heap.size := by omega
  have o3_1 := fun j => c3 (w.heap.size + 1) j (by omega)
  have f3_1 := fun j => d3 (w.heap.size + 1) j (by omega)
  have s3_2 : w2.heap.size < w3.heap.size := by omega
  have o3_2 := fun j => c3 (w2.heap.size) j (by omega)
  have f3_2 := fun j => d3 (w2.heap.size) j (by omega)
  clear c3 d3 hz3 hW3
  rw [frN, H_hq.out, H_hr.out]
  have p2 : ∀ j, w3.cell? ⟨w2.heap.size, j, none⟩ = #[Value.int .i64 q, Value.int .i64 r][j]? := fun j => by rw [o3_2]; exact World.cell?_alloc_new _ _ _ _
  have p0 : ∀ j, w3.cell? ⟨w.heap.size, j, none⟩ = #[Value.int .i64 a.n, Value.int .i64 a.d][j]? := fun j => by rw [o3_0, World.cell?_alloc_lt _ _ _ (by simp; omega), o2_0, o1_0, World.cell?_alloc_lt _ _ _ (by simp)]; exact World.cell?_alloc_new _ _ _ _
  have p1 : ∀ j, w3.cell? ⟨w.heap.size + 1, j, none⟩ = #[Value.int .i64 b.n, Value.int .i64 b.d][j]? := fun j => by rw [o3_1, World.cell?_alloc_lt _ _ _ (by simp; omega), o2_1, o1_1]; have hj := World.cell?_alloc_new (w.alloc (.cells #[.int .i64 a.n, .int .i64 a.d] 90)) #[.int .i64 b.n, .int .i64 b.d] 90 j; rw [World.size_alloc] at hj; exact hj
  have SK : ∀ W, Below (w3.heap.size + 1) (w3.alloc (.cells #[.int .i64 q, .int .i64 r] 90)) W → Below (w3.heap.size + 1) (w3.alloc (.cells #[.int .i64 q, .int .i64 r] 90)) W ∧ (∀ j, W.cell? ⟨w.heap.size, j, none⟩ = #[Value.int .i64 a.n, Value.int .i64 a.d][j]?) ∧ (∀ j, W.cell? ⟨w2.heap.size, j, none⟩ = #[Value.int .i64 q, Value.int .i64 r][j]?) ∧ (∀ j, W.cell? ⟨w3.heap.size, j, none⟩ = #[Value.int .i64 q, Value.int .i64 r][j]?) := by
    intro W h
    refine ⟨h, fun j => ?_, fun j => ?_, fun j => ?_⟩
    · rw [h.cell (by simp; omega), World.cell?_alloc_lt _ _ _ (by simp; omega)]; exact p0 j
    · rw [h.cell (by simp; omega), World.cell?_alloc_lt _ _ _ (by simp; omega)]; exact p2 j
    · rw [h.cell (by simp)]; exact World.cell?_alloc_new _ _ _ _
  have KB : ∀ W, Below (w3.heap.size + 1) (w3.alloc (.cells #[.int .i64 q, .int .i64 r] 90)) W → Below w3.heap.size w3 W := fun W h => ((Below.refl _ _).alloc (Nat.le_refl _) _).trans (h.mono (by omega))
  have HK : ∀ W, Below (w3.heap.size + 1) (w3.alloc (.cells #[.int .i64 q, .int .i64 r] 90)) W ∧ (∀ j, W.cell? ⟨w.heap.size, j, none⟩ = #[Value.int .i64 a.n, Value.int .i64 a.d][j]?) ∧ (∀ j, W.cell? ⟨w2.heap.size, j, none⟩ = #[Value.int .i64 q, Value.int .i64 r][j]?) ∧ (∀ j, W.cell? ⟨w3.heap.size, j, none⟩ = #[Value.int .i64 q, Value.int .i64 r][j]?) → W.cell? ⟨5, 0, none⟩ = some (.iface 312 (.pointer (some (ea 3)))) ∧ W.cell? ⟨1, 0, none⟩ = some (.iface 312 (.pointer (some (ea 2)))) ∧ Sents ea W := by
    intro W h
    have k' := hb3.trans ((KB W h.1).mono t3)
    exact ⟨gkeep k' hShape rfl, gkeep k' hBound rfl, H_hS.out.keep k' rfl⟩
  have pf2 := f3_2
  have H_SK := Lib.hid SK
  clear SK
  have H_KB := Lib.hid KB
  clear KB
  have H_HK := Lib.hid HK
  clear HK
  go_wp2_with fail
  clear o1_0 f1_0 o1_1 f1_1 o2_0 f2_0 o2_1 f2_1 o3_0 f3_0 o3_1 f3_1 o3_2 f3_2
  go_region_held3 (fun W => Below (w3.heap.size + 1) (w3.alloc (.cells #[.int .i64 q, .int .i64 r] 90)) W ∧ (∀ j, W.cell? ⟨w.heap.size, j, none⟩ = #[Value.int .i64 a.n, Value.int .i64 a.d][j]?) ∧ (∀ j, W.cell? ⟨w2.heap.size, j, none⟩ = #[Value.int .i64 q, Value.int .i64 r][j]?) ∧ (∀ j, W.cell? ⟨w3.heap.size, j, none⟩ = #[Value.int .i64 q, Value.int .i64 r][j]?)) (first | exact H_SK.out _ (Below.refl _ _).drew | exact H_SK.out _ (held_step (by simp) (by assumption) (by assumption)))
    (first | (go_at_call 45; (with_reducible refine (fcheck_any ea a.n a.d _ ia1 ia2 (H_HK.out _ (by assumption)).1 (H_HK.out _ (by assumption)).2.1).mono ?_); rintro e w' ⟨rfl, hbb⟩) | (go_at_call 46; (with_reducible refine (rfracerror_any a.n a.d _ ia1 ia2).mono ?_); rintro e w' ⟨rfl, hbb⟩) | (go_at_call 29; (with_reducible refine (coded1_t ea (mkC n d) _ (mkC_le n d) (H_HK.out _ (by assumption)).2.2).mono ?_); rintro e w' ⟨rfl, hbb⟩) | (go_at_call 29; (with_reducible refine (coded1_t ea (chk a.n a.d) _ (chk_le11 a.n a.d) (H_HK.out _ (by assumption)).2.2).mono ?_); rintro e w' ⟨rfl, hbb⟩))
  rename_i hh
  have hS1 := hh.1
  have o30_0 := hh.2.1
  have o30_2 := hh.2.2.1
  have o30_3 := hh.2.2.2
  clear hh
  generalize hW : w' = w30 at *
  clear hW hbb
  have e30_3 : Below w3.heap.size w3 w30 := H_KB.out _ hS1
  have hb30 : Below w.heap.size w w30 := hb3.trans (e30_3.mono t3)
  have e30_2 : Below w2.heap.size w2 w30 := e3_2.trans (e30_3.mono te3_2)
  have o30_1 : ∀ j, w30.cell? ⟨w.heap.size + 1, j, none⟩ = #[Value.int .i64 b.n, Value.int .i64 b.d][j]? := fun j => by rw [e30_3.cell (by simp; omega)]; exact p1 j
  have t30 : w3.heap.size + 1 ≤ w30.heap.size := by have := hS1.size; simpa using this
  have f30_2 : ∀ j, w30.frozen? ⟨w2.heap.size, j, none⟩ = (w2.alloc (.cells #[.int .i64 q, .int .i64 r] 90)).frozen? ⟨w2.heap.size, j, none⟩ := fun j => by rw [e30_3.frozen (by simp; omega)]; exact pf2 j
  have f30_3 : ∀ j, w30.frozen? ⟨w3.heap.size, j, none⟩ = (w3.alloc (.cells #[.int .i64 q, .int .i64 r] 90)).frozen? ⟨w3.heap.size, j, none⟩ := fun j => hS1.frozen (by simp)
  have s30_0 : w.heap.size < w30.heap.size := by omega
  have s30_1 : w.heap.size + 1 < w30.heap.size := by omega
  have s30_2 : w2.heap.size < w30.heap.size := by omega
  have s30_3 : w3.heap.size < w30.heap.size := by omega
  have SK8 : ∀ W, Below w30.heap.size w30 W → Below w30.heap.size w30 W ∧ (∀ j, W.cell? ⟨w.heap.size, j, none⟩ = #[Value.int .i64 a.n, Value.int .i64 a.d][j]?) := by
    intro W h
    refine ⟨h, fun j => ?_⟩
    rw [h.cell s30_0]; exact o30_0 j
  have HT8 : ∀ W, Below w30.heap.size w30 W ∧ (∀ j, W.cell? ⟨w.heap.size, j, none⟩ = #[Value.int .i64 a.n, Value.int .i64 a.d][j]?) → Lib.TabIs Tryd.prog W "internal/strconv.uint64pow10" .u64 Lib.pow10Tab := fun W h => tab_keep H_htab.out (hb30.trans (h.1.mono (by omega))) rfl
  have H_SK8 := Lib.hid SK8
  clear SK8
  have H_HT8 := Lib.hid HT8
  clear HT8
  go_wp2_with fail
  go_region_with (go_at_call 46; (with_reducible refine (rfracerror_c a.n a.d 2 _ H_hAi.out ia1 ia2).mono ?_); rintro e w' ⟨rfl, hbb⟩)
  all_goals
    have hS8 : Below w30.heap.size w30 w' := by first | exact hbb | exact (Below.refl _ _).drew.trans (hbb.mono (by simp)) | exact (Below.refl _ _).trans (hbb.mono (by simp))
    generalize hW : w' = w31 at *
    clear hW hbb
    have hb31 : Below w.heap.size w w31 := hb30.trans (hS8.mono (by omega))
    have t31 := hS8.size
    have o31_0 : ∀ j, w31.cell? ⟨w.heap.size, j, none⟩ = #[Value.int .i64 a.n, Value.int .i64 a.d][j]? := fun j => by rw [hS8.cell s30_0]; exact o30_0 j
    have o31_1 : ∀ j, w31.cell? ⟨w.heap.size + 1, j, none⟩ = #[Value.int .i64 b.n, Value.int .i64 b.d][j]? := fun j => by rw [hS8.cell s30_1]; exact o30_1 j
    have o31_2 : ∀ j, w31.cell? ⟨w2.heap.size, j, none⟩ = #[Value.int .i64 q, Value.int .i64 r][j]? := fun j => by rw [hS8.cell s30_2]; exact o30_2 j
    have o31_3 : ∀ j, w31.cell? ⟨w3.heap.size, j, none⟩ = #[Value.int .i64 q, Value.int .i64 r][j]? := fun j => by rw [hS8.cell s30_3]; exact o30_3 j
    have f31_2 : ∀ j, w31.frozen? ⟨w2.heap.size, j, none⟩ = (w2.alloc (.cells #[.int .i64 q, .int .i64 r] 90)).frozen? ⟨w2.heap.size, j, none⟩ := fun j => by rw [hS8.frozen s30_2]; exact f30_2 j
    have f31_3 : ∀ j, w31.frozen? ⟨w3.heap.size, j, none⟩ = (w3.alloc (.cells #[.int .i64 q, .int .i64 r] 90)).frozen? ⟨w3.heap.size, j, none⟩ := fun j => by rw [hS8.frozen s30_3]; exact f30_3 j
    have s31_0 : w.heap.size < w31.heap.size := by omega
    have s31_1 : w.heap.size + 1 < w31.heap.size := by omega
    have s31_2 : w2.heap.size < w31.heap.size := by omega
    have s31_3 : w3.heap.size < w31.heap.size := by omega
    clear hS8 o30_0 o30_1 o30_2 o30_3 f30_2 f30_3
    go_wp2_with fail
    refine call_bel (w := w) (by repeat' (first | (with_reducible exact Below.refl _ _) | (with_reducible assumption) | (with_reducible refine bdn ?_) | (with_reducible refine Below.alloc ?_ ?_ _) | (with_reducible refine Below.drew ?_) | (with_reducible refine Below.setCell ?_ ?_ _) | omega | (simp <;> omega))) (fun HB => fread_any ea s _ (by omega) (H_hL.out.keep HB rfl) (gkeep HB hText rfl) (gkeep HB hShape rfl) (gkeep HB hBound rfl)) ?_
    intro w4 hb4 hz4 c4 d4 hW4
    have t4 := hb4.size
    try simp only [World.size_alloc] at hz4 c4 d4
    try simp only [World.size_drew] at hz4 c4 d4
    try simp only [World.size_setCell] at hz4 c4 d4
    try simp only [World.heap_drewN] at hz4 c4 d4
    try simp only [World.size_alloc] at hz4 c4 d4
    try simp only [World.size_drew] at hz4 c4 d4
    try simp only [World.size_setCell] at hz4 c4 d4
    have s4_0 : w.heap.size < w4.heap.size := by omega
    have o4_0 := fun j => c4 (w.heap.size) j (by omega)
    have f4_0 := fun j => d4 (w.heap.size) j (by omega)
    have s4_1 : w.heap.size + 1 < w4.heap.size := by omega
    have o4_1 := fun j => c4 (w.heap.size + 1) j (by omega)
    have f4_1 := fun j => d4 (w.heap.size + 1) j (by omega)
    have s4_2 : w2.heap.size < w4.heap.size := by omega
    have o4_2 := fun j => c4 (w2.heap.size) j (by omega)
    have f4_2 := fun j => d4 (w2.heap.size) j (by omega)
    have s4_3 : w3.heap.size < w4.heap.size := by omega
    have o4_3 := fun j => c4 (w3.heap.size) j (by omega)
    have f4_3 := fun j => d4 (w3.heap.size) j (by omega)
    clear c4 d4 hz4 hW4
    rw [frV_z, H_hq2.out, H_hr2.out]
    go_wp2_with fail
    refine call_bel (w := w) (by repeat' (first | (with_reducible exact Below.refl _ _) | (with_reducible assumption) | (with_reducible refine bdn ?_) | (with_reducible refine Below.alloc ?_ ?_ _) | (with_reducible refine Below.drew ?_) | (with_reducible refine Below.setCell ?_ ?_ _) | omega | (simp <;> omega))) (fun HB => rfracof_any s _ (by omega)) ?_
    intro w5 hb5 hz5 c5 d5 hW5
    have t5 := hb5.size
    try simp only [World.size_alloc] at hz5 c5 d5
    try simp only [World.size_drew] at hz5 c5 d5
    try simp only [World.size_setCell] at hz5 c5 d5
    try simp only [World.heap_drewN] at hz5 c5 d5
    try simp only [World.size_alloc] at hz5 c5 d5
    try simp only [World.size_drew] at hz5 c5 d5
    try simp only [World.size_setCell] at hz5 c5 d5
    have s5_0 : w.heap.size < w5.heap.size := by omega
    have o5_0 := fun j => c5 (w.heap.size) j (by omega)
    have f5_0 := fun j => d5 (w.heap.size) j (by omega)
    have s5_1 : w.heap.size + 1 < w5.heap.size := by omega
    have o5_1 := fun j => c5 (w.heap.size + 1) j (by omega)
    have f5_1 := fun j => d5 (w.heap.size + 1) j (by omega)
    have s5_2 : w2.heap.size < w5.heap.size := by omega
    have o5_2 := fun j => c5 (w2.heap.size) j (by omega)
    have f5_2 := fun j => d5 (w2.heap.size) j (by omega)
    have s5_3 : w3.heap.size < w5.heap.size := by omega
    have o5_3 := fun j => c5 (w3.heap.size) j (by omega)
    have f5_3 := fun j => d5 (w3.heap.size) j (by omega)
    clear c5 d5 hz5 hW5
    rw [frN, H_hq2.out, H_hr2.out]
    go_wp2_with fail
    refine call_bel (w := w) (by repeat' (first | (with_reducible exact Below.refl _ _) | (with_reducible assumption) | (with_reducible refine bdn ?_) | (with_reducible refine Below.alloc ?_ ?_ _) | (with_reducible refine Below.drew ?_) | (with_reducible refine Below.setCell ?_ ?_ _) | omega | (simp <;> omega))) (fun HB => coded1_t ea (rdC s.data.toList) _ (rdC_le _) (H_hS.out.keep HB rfl)) ?_
    intro w6 hb6 hz6 c6 d6 hW6
    have t6 := hb6.size
    try simp only [World.size_alloc] at hz6 c6 d6
    try simp only [World.size_drew] at hz6 c6 d6
    try simp only [World.size_setCell] at hz6 c6 d6
    try simp only [World.heap_drewN] at hz6 c6 d6
    try simp only [World.size_alloc] at hz6 c6 d6
    try simp only [World.size_drew] at hz6 c6 d6
    try simp only [World.size_setCell] at hz6 c6 d6
    have s6_0 : w.heap.size < w6.heap.size := by omega
    have o6_0 := fun j => c6 (w.heap.size) j (by omega)
    have f6_0 := fun j => d6 (w.heap.size) j (by omega)
    have s6_1 : w.heap.size + 1 < w6.heap.size := by omega
    have o6_1 := fun j => c6 (w.heap.size + 1) j (by omega)
    have f6_1 := fun j => d6 (w.heap.size + 1) j (by omega)
    have s6_2 : w2.heap.size < w6.heap.size := by omega
    have o6_2 := fun j => c6 (w2.heap.size) j (by omega)
    have f6_2 := fun j => d6 (w2.heap.size) j (by omega)
    have s6_3 : w3.heap.size < w6.heap.size := by omega
    have o6_3 := fun j => c6 (w3.heap.size) j (by omega)
    have f6_3 := fun j => d6 (w3.heap.size) j (by omega)
    clear c6 d6 hz6 hW6
    go_wp2_with fail
    refine call_bel (w := w) (by repeat' (first | (with_reducible exact Below.refl _ _) | (with_reducible assumption) | (with_reducible refine bdn ?_) | (with_reducible refine Below.alloc ?_ ?_ _) | (with_reducible refine Below.drew ?_) | (with_reducible refine Below.setCell ?_ ?_ _) | omega | (simp <;> omega))) (fun HB => ftext_s q2 r2 s _ H_hT.out (tab_keep H_htab.out HB rfl)) ?_
    intro w7 hb7 hz7 c7 d7 hW7
    have t7 := hb7.size
    try simp only [World.size_alloc] at hz7 c7 d7
    try simp only [World.size_drew] at hz7 c7 d7
    try simp only [World.size_setCell] at hz7 c7 d7
    try simp only [World.heap_drewN] at hz7 c7 d7
    try simp only [World.size_alloc] at hz7 c7 d7
    try simp only [World.size_drew] at hz7 c7 d7
    try simp only [World.size_setCell] at hz7 c7 d7
    have s7_0 : w.heap.size < w7.heap.size := by omega
    have o7_0 := fun j => c7 (w.heap.size) j (by omega)
    have f7_0 := fun j => d7 (w.heap.size) j (by omega)
    have s7_1 : w.heap.size + 1 < w7.heap.size := by omega
    have o7_1 := fun j => c7 (w.heap.size + 1) j (by omega)
    have f7_1 := fun j => d7 (w.heap.size + 1) j (by omega)
    have s7_2 : w2.heap.size < w7.heap.size := by omega
    have o7_2 := fun j => c7 (w2.heap.size) j (by omega)
    have f7_2 := fun j => d7 (w2.heap.size) j (by omega)
    have s7_3 : w3.heap.size < w7.heap.size := by omega
    have o7_3 := fun j => c7 (w3.heap.size) j (by omega)
    have f7_3 := fun j => d7 (w3.heap.size) j (by omega)
    clear c7 d7 hz7 hW7
    go_wp2_with fail
    refine call_bel (w := w) (by repeat' (first | (with_reducible exact Below.refl _ _) | (with_reducible assumption) | (with_reducible refine bdn ?_) | (with_reducible refine Below.alloc ?_ ?_ _) | (with_reducible refine Below.drew ?_) | (with_reducible refine Below.setCell ?_ ?_ _) | omega | (simp <;> omega))) (fun HB => cmp_c ea a.n a.d b.n b.d (chk a.n a.d) _ ia1 ia2 ib1 ib2 (gkeep HB hShape rfl) (gkeep HB hBound rfl) H_hC.out H_hA.out) ?_
    intro w8 hb8 hz8 c8 d8 hW8
    have t8 := hb8.size
    try simp only [World.size_alloc] at hz8 c8 d8
    try simp only [World.size_drew] at hz8 c8 d8
    try simp only [World.size_setCell] at hz8 c8 d8
    try simp only [World.heap_drewN] at hz8 c8 d8
    try simp only [World.size_alloc] at hz8 c8 d8
    try simp only [World.size_drew] at hz8 c8 d8
    try simp only [World.size_setCell] at hz8 c8 d8
    have s8_0 : w.heap.size < w8.heap.size := by omega
    have o8_0 := fun j => c8 (w.heap.size) j (by omega)
    have f8_0 := fun j => d8 (w.heap.size) j (by omega)
    have s8_1 : w.heap.size + 1 < w8.heap.size := by omega
    have o8_1 := fun j => c8 (w.heap.size + 1) j (by omega)
    have f8_1 := fun j => d8 (w.heap.size + 1) j (by omega)
    have s8_2 : w2.heap.size < w8.heap.size := by omega
    have o8_2 := fun j => c8 (w2.heap.size) j (by omega)
    have f8_2 := fun j => d8 (w2.heap.size) j (by omega)
    have s8_3 : w3.heap.size < w8.heap.size := by omega
    have o8_3 := fun j => c8 (w3.heap.size) j (by omega)
    have f8_3 := fun j => d8 (w3.heap.size) j (by omega)
    clear c8 d8 hz8 hW8
    go_wp2_with fail
    refine call_bel (w := w) (by repeat' (first | (with_reducible exact Below.refl _ _) | (with_reducible assumption) | (with_reducible refine bdn ?_) | (with_reducible refine Below.alloc ?_ ?_ _) | (with_reducible refine Below.drew ?_) | (with_reducible refine Below.setCell ?_ ?_ _) | omega | (simp <;> omega))) (fun HB => rfracerror_any a.n a.d _ ia1 ia2) ?_
    intro w9 hb9 hz9 c9 d9 hW9
    have t9 := hb9.size
    try simp only [World.size_alloc] at hz9 c9 d9
    try simp only [World.size_drew] at hz9 c9 d9
    try simp only [World.size_setCell] at hz9 c9 d9
    try simp only [World.heap_drewN] at hz9 c9 d9
    try simp only [World.size_alloc] at hz9 c9 d9
    try simp only [World.size_drew] at hz9 c9 d9
    try simp only [World.size_setCell] at hz9 c9 d9
    have s9_0 : w.heap.size < w9.heap.size := by omega
    have o9_0 := fun j => c9 (w.heap.size) j (by omega)
    have f9_0 := fun j => d9 (w.heap.size) j (by omega)
    have s9_1 : w.heap.size + 1 < w9.heap.size := by omega
    have o9_1 := fun j => c9 (w.heap.size + 1) j (by omega)
    have f9_1 := fun j => d9 (w.heap.size + 1) j (by omega)
    have s9_2 : w2.heap.size < w9.heap.size := by omega
    have o9_2 := fun j => c9 (w2.heap.size) j (by omega)
    have f9_2 := fun j => d9 (w2.heap.size) j (by omega)
    have s9_3 : w3.heap.size < w9.heap.size := by omega
    have o9_3 := fun j => c9 (w3.heap.size) j (by omega)
    have f9_3 := fun j => d9 (w3.heap.size) j (by omega)
    clear c9 d9 hz9 hW9
    go_wp2_with fail
    refine call_bel (w := w) (by repeat' (first | (with_reducible exact Below.refl _ _) | (with_reducible assumption) | (with_reducible refine bdn ?_) | (with_reducible refine Below.alloc ?_ ?_ _) | (with_reducible refine Below.drew ?_) | (with_reducible refine Below.setCell ?_ ?_ _) | omega | (simp <;> omega))) (fun HB => coded1_t ea (chk a.n a.d) _ (chk_le11 _ _) (H_hS.out.keep HB rfl)) ?_
    intro w10 hb10 hz10 c10 d10 hW10
    have t10 := hb10.size
    try simp only [World.size_alloc] at hz10 c10 d10
    try simp only [World.size_drew] at hz10 c10 d10
    try simp only [World.size_setCell] at hz10 c10 d10
    try simp only [World.heap_drewN] at hz10 c10 d10
    try simp only [World.size_alloc] at hz10 c10 d10
    try simp only [World.size_drew] at hz10 c10 d10
    try simp only [World.size_setCell] at hz10 c10 d10
    have s10_0 : w.heap.size < w10.heap.size := by omega
    have o10_0 := fun j => c10 (w.heap.size) j (by omega)
    have f10_0 := fun j => d10 (w.heap.size) j (by omega)
    have s10_1 : w.heap.size + 1 < w10.heap.size := by omega
    have o10_1 := fun j => c10 (w.heap.size + 1) j (by omega)
    have f10_1 := fun j => d10 (w.heap.size + 1) j (by omega)
    have s10_2 : w2.heap.size < w10.heap.size := by omega
    have o10_2 := fun j => c10 (w2.heap.size) j (by omega)
    have f10_2 := fun j => d10 (w2.heap.size) j (by omega)
    have s10_3 : w3.heap.size < w10.heap.size := by omega
    have o10_3 := fun j => c10 (w3.heap.size) j (by omega)
    have f10_3 := fun j => d10 (w3.heap.size) j (by omega)
    clear c10 d10 hz10 hW10
    go_wp2_with fail
    go_returns
    exact ⟨rfl, by repeat' (first | (with_reducible exact Below.refl _ _) | (with_reducible assumption) | (with_reducible refine bdn ?_) | (with_reducible refine Below.alloc ?_ ?_ _) | (with_reducible refine Below.drew ?_) | (with_reducible refine Below.setCell ?_ ?_ _) | omega | (simp <;> omega))⟩

set_option maxHeartbeats 4000000 in
set_option maxRecDepth 100000 in
theorem mk_a1_3 (ea : Nat → Addr) (n d : Int) (a b : Fr) (s : ByteArray) (w : World) (hn : I64 n) (hd : I64 d) (ia : a.I) (ib : b.I) (hS : Sents ea w) (hL : Libs w) (h60 : s.size ≤ 60) (hA' : chk a.n a.d = 3)  (hR : rdC s.data.toList = 0) :
    Calls Tryd.prog 8 #[.int .i64 n, .int .i64 d, .agg #[.int .i64 a.n, .int .i64 a.d], .agg #[.int .i64 b.n, .int .i64 b.d], .string s] w fun e w' => e = .returned (.bool true) ∧ Below w.heap.size w w' := by
  have hText := hS.c1
  have hBound := hS.c2
  have hShape := hS.c3
  have hZero := hS.c11
  have htab := hL.tab
  have zhShape := zlt hShape
  have xhShape := zlts hShape
  have yhShape := zne hShape
  have zhBound := zlt hBound
  have xhBound := zlts hBound
  have yhBound := zne hBound
  have zhZero := zlt hZero
  have xhZero := zlts hZero
  have yhZero := zne hZero
  have zhText := zlt hText
  have xhText := zlts hText
  have yhText := zne hText
  obtain ⟨ia1, ia2⟩ := ia
  obtain ⟨ib1, ib2⟩ := ib
  have g2 : decide (60 < (s.size : Int)) = false := by simp; omega
  obtain ⟨q, hq⟩ : ∃ q, z0 (mkC n d) (lowN n d) = q := ⟨_, rfl⟩
  obtain ⟨r, hr⟩ : ∃ q, z0 (mkC n d) (lowD n d) = q := ⟨_, rfl⟩
  obtain ⟨q2, hq2⟩ : ∃ q, z0 (rdC s.data.toList) (rdN s.data.toList) = q := ⟨_, rfl⟩
  obtain ⟨r2, hr2⟩ : ∃ q, z0 (rdC s.data.toList) (rdD s.data.toList) = q := ⟨_, rfl⟩
  have g4 := chk_z0 hR
  have hT := rd_text2 hR hq2 hr2
  have H_hT := Lib.hid hT
  clear hT
  have hA : chk a.n a.d ≠ 0 := by omega
  have hAi : (chk a.n a.d : Int) = 3 := by omega
  have H_hAi := Lib.hid hAi
  clear hAi
  have g3 := chk_n0 hA
  have g5 := chk_p0 hA
  have g6 : decide (0 < chk a.n a.d) = true := by simp; omega
  have hC : bothC a.n a.d b.n b.d = chk a.n a.d := by unfold bothC; rw [if_neg hA]
  have H_hA := Lib.hid hA
  clear hA
  have H_hA' := Lib.hid hA'
  clear hA'
  have H_hC := Lib.hid hC
  clear hC
  have H_hS := Lib.hid hS
  clear hS
  have H_htab := Lib.hid htab
  clear htab
  have H_hL := Lib.hid hL
  clear hL
  have H_hq := Lib.hid hq
  clear hq
  have H_hr := Lib.hid hr
  clear hr
  have H_hq2 := Lib.hid hq2
  clear hq2
  have H_hr2 := Lib.hid hr2
  clear hr2
  have H_hR := Lib.hid hR
  clear hR
  go_enter Tryd.func8, Tryd.ntmps8
  go_wp2_with fail
  refine call_bel (w := w) (by repeat' (first | (with_reducible exact Below.refl _ _) | (with_reducible assumption) | (with_reducible refine bdn ?_) | (with_reducible refine Below.alloc ?_ ?_ _) | (with_reducible refine Below.drew ?_) | (with_reducible refine Below.setCell ?_ ?_ _) | omega | (simp <;> omega))) (fun HB => halved_any ea _ (gkeep HB hBound rfl) (gkeep HB hZero rfl) (tab_keep H_htab.out HB rfl)) ?_
  intro w1 hb1 hz1 c1 d1 hW1
  have t1 := hb1.size
  try simp only [World.size_alloc] at hz1 c1 d1
  try simp only [World.size_drew] at hz1 c1 d1
  try simp only [World.size_setCell] at hz1 c1 d1
  try simp only [World.heap_drewN] at hz1 c1 d1
  try simp only [World.size_alloc] at hz1 c1 d1
  try simp only [World.size_drew] at hz1 c1 d1
  try simp only [World.size_setCell] at hz1 c1 d1
  have s1_0 : w.heap.size < w1.heap.size := by omega
  have o1_0 := fun j => c1 (w.heap.size) j (by omega)
  have f1_0 := fun j => d1 (w.heap.size) j (by omega)
  have s1_1 : w.heap.size + 1 < w1.heap.size := by omega
  have o1_1 := fun j => c1 (w.heap.size + 1) j (by omega)
  have f1_1 := fun j => d1 (w.heap.size + 1) j (by omega)
  clear c1 d1 hz1 hW1
  go_wp2_with fail
  refine call_bel (w := w) (by repeat' (first | (with_reducible exact Below.refl _ _) | (with_reducible assumption) | (with_reducible refine bdn ?_) | (with_reducible refine Below.alloc ?_ ?_ _) | (with_reducible refine Below.drew ?_) | (with_reducible refine Below.setCell ?_ ?_ _) | omega | (simp <;> omega))) (fun HB => fmake_any ea n d _ hn hd (gkeep HB hBound rfl) (gkeep HB hZero rfl)) ?_
  intro w2 hb2 hz2 c2 d2 hW2
  have t2 := hb2.size
  try simp only [World.size_alloc] at hz2 c2 d2
  try simp only [World.size_drew] at hz2 c2 d2
  try simp only [World.size_setCell] at hz2 c2 d2
  try simp only [World.heap_drewN] at hz2 c2 d2
  try simp only [World.size_alloc] at hz2 c2 d2
  try simp only [World.size_drew] at hz2 c2 d2
  try simp only [World.size_setCell] at hz2 c2 d2
  have s2_0 : w.heap.size < w2.heap.size := by omega
  have o2_0 := fun j => c2 (w.heap.size) j (by omega)
  have f2_0 := fun j => d2 (w.heap.size) j (by omega)
  have s2_1 : w.heap.size + 1 < w2.heap.size := by omega
  have o2_1 := fun j => c2 (w.heap.size + 1) j (by omega)
  have f2_1 := fun j => d2 (w.heap.size + 1) j (by omega)
  clear c2 d2 hz2 hW2
  rw [frV_z, H_hq.out, H_hr.out]
  go_wp2_with fail
  refine call_bel (w := w) (by repeat' (first | (with_reducible exact Below.refl _ _) | (with_reducible assumption) | (with_reducible refine bdn ?_) | (with_reducible refine Below.alloc ?_ ?_ _) | (with_reducible refine Below.drew ?_) | (with_reducible refine Below.setCell ?_ ?_ _) | omega | (simp <;> omega))) (fun HB => rfracmake_any n d _) ?_
  intro w3 hb3 hz3 c3 d3 hW3
  have t3 := hb3.size
  have e3_2 : Below w2.heap.size w2 w3 := below_via (by repeat' (first | (with_reducible exact Below.refl _ _) | (with_reducible assumption) | (with_reducible refine bdn ?_) | (with_reducible refine Below.alloc ?_ ?_ _) | (with_reducible refine Below.drew ?_) | (with_reducible refine Below.setCell ?_ ?_ _) | omega | (simp <;> omega))) hW3
  have te3_2 := e3_2.size
  try simp only [World.size_alloc] at hz3 c3 d3
  try simp only [World.size_drew] at hz3 c3 d3
  try simp only [World.size_setCell] at hz3 c3 d3
  try simp only [World.heap_drewN] at hz3 c3 d3
  try simp only [World.size_alloc] at hz3 c3 d3
  try simp only [World.size_drew] at hz3 c3 d3
  try simp only [World.size_setCell] at hz3 c3 d3
  have s3_0 : w.heap.size < w3.heap.size := by omega
  have o3_0 := fun j => c3 (w.heap.size) j (by omega)
  have f3_0 := fun j => d3 (w.heap.size) j (by omega)
  have s3_1 : w.heap.size + 1 < w3.heap.size := by omega
  have o3_1 := fun j => c3 (w.heap.size + 1) j (by omega)
  have f3_1 := fun j => d3 (w.heap.size + 1) j (by omega)
  have s3_2 : w2.heap.size < w3.heap.size := by omega
  have o3_2 := fun j => c3 (w2.heap.size) j (by omega)
  have f3_2 := fun j => d3 (w2.heap.size) j (by omega)
  clear c3 d3 hz3 hW3
  rw [frN, H_hq.out, H_hr.out]
  have p2 : ∀ j, w3.cell? ⟨w2.heap.size, j, none⟩ = #[Value.int .i64 q, Value.int .i64 r][j]? := fun j => by rw [o3_2]; exact World.cell?_alloc_new _ _ _ _
  have p0 : ∀ j, w3.cell? ⟨w.heap.size, j, none⟩ = #[Value.int .i64 a.n, Value.int .i64 a.d][j]? := fun j => by rw [o3_0, World.cell?_alloc_lt _ _ _ (by simp; omega), o2_0, o1_0, World.cell?_alloc_lt _ _ _ (by simp)]; exact World.cell?_alloc_new _ _ _ _
  have p1 : ∀ j, w3.cell? ⟨w.heap.size + 1, j, none⟩ = #[Value.int .i64 b.n, Value.int .i64 b.d][j]? := fun j => by rw [o3_1, World.cell?_alloc_lt _ _ _ (by simp; omega), o2_1, o1_1]; have hj := World.cell?_alloc_new (w.alloc (.cells #[.int .i64 a.n, .int .i64 a.d] 90)) #[.int .i64 b.n, .int .i64 b.d] 90 j; rw [World.size_alloc] at hj; exact hj
  have SK : ∀ W, Below (w3.heap.size + 1) (w3.alloc (.cells #[.int .i64 q, .int .i64 r] 90)) W → Below (w3.heap.size + 1) (w3.alloc (.cells #[.int .i64 q, .int .i64 r] 90)) W ∧ (∀ j, W.cell? ⟨w.heap.size, j, none⟩ = #[Value.int .i64 a.n, Value.int .i64 a.d][j]?) ∧ (∀ j, W.cell? ⟨w2.heap.size, j, none⟩ = #[Value.int .i64 q, Value.int .i64 r][j]?) ∧ (∀ j, W.cell? ⟨w3.heap.size, j, none⟩ = #[Value.int .i64 q, Value.int .i64 r][j]?) := by
    intro W h
    refine ⟨h, fun j => ?_, fun j => ?_, fun j => ?_⟩
    · rw [h.cell (by simp; omega), World.cell?_alloc_lt _ _ _ (by simp; omega)]; exact p0 j
    · rw [h.cell (by simp; omega), World.cell?_alloc_lt _ _ _ (by simp; omega)]; exact p2 j
    · rw [h.cell (by simp)]; exact World.cell?_alloc_new _ _ _ _
  have KB : ∀ W, Below (w3.heap.size + 1) (w3.alloc (.cells #[.int .i64 q, .int .i64 r] 90)) W → Below w3.heap.size w3 W := fun W h => ((Below.refl _ _).alloc (Nat.le_refl _) _).trans (h.mono (by omega))
  have HK : ∀ W, Below (w3.heap.size + 1) (w3.alloc (.cells #[.int .i64 q, .int .i64 r] 90)) W ∧ (∀ j, W.cell? ⟨w.heap.size, j, none⟩ = #[Value.int .i64 a.n, Value.int .i64 a.d][j]?) ∧ (∀ j, W.cell? ⟨w2.heap.size, j, none⟩ = #[Value.int .i64 q, Value.int .i64 r][j]?) ∧ (∀ j, W.cell? ⟨w3.heap.size, j, none⟩ = #[Value.int .i64 q, Value.int .i64 r][j]?) → W.cell? ⟨5, 0, none⟩ = some (.iface 312 (.pointer (some (ea 3)))) ∧ W.cell? ⟨1, 0, none⟩ = some (.iface 312 (.pointer (some (ea 2)))) ∧ Sents ea W := by
    intro W h
    have k' := hb3.trans ((KB W h.1).mono t3)
    exact ⟨gkeep k' hShape rfl, gkeep k' hBound rfl, H_hS.out.keep k' rfl⟩
  have pf2 := f3_2
  have H_SK := Lib.hid SK
  clear SK
  have H_KB := Lib.hid KB
  clear KB
  have H_HK := Lib.hid HK
  clear HK
  go_wp2_with fail
  clear o1_0 f1_0 o1_1 f1_1 o2_0 f2_0 o2_1 f2_1 o3_0 f3_0 o3_1 f3_1 o3_2 f3_2
  go_region_held3 (fun W => Below (w3.heap.size + 1) (w3.alloc (.cells #[.int .i64 q, .int .i64 r] 90)) W ∧ (∀ j, W.cell? ⟨w.heap.size, j, none⟩ = #[Value.int .i64 a.n, Value.int .i64 a.d][j]?) ∧ (∀ j, W.cell? ⟨w2.heap.size, j, none⟩ = #[Value.int .i64 q, Value.int .i64 r][j]?) ∧ (∀ j, W.cell? ⟨w3.heap.size, j, none⟩ = #[Value.int .i64 q, Value.int .i64 r][j]?)) (first | exact H_SK.out _ (Below.refl _ _).drew | exact H_SK.out _ (held_step (by simp) (by assumption) (by assumption)))
    (first | (go_at_call 45; (with_reducible refine (fcheck_any ea a.n a.d _ ia1 ia2 (H_HK.out _ (by assumption)).1 (H_HK.out _ (by assumption)).2.1).mono ?_); rintro e w' ⟨rfl, hbb⟩) | (go_at_call 46; (with_reducible refine (rfracerror_any a.n a.d _ ia1 ia2).mono ?_); rintro e w' ⟨rfl, hbb⟩) | (go_at_call 29; (with_reducible refine (coded1_t ea (mkC n d) _ (mkC_le n d) (H_HK.out _ (by assumption)).2.2).mono ?_); rintro e w' ⟨rfl, hbb⟩) | (go_at_call 29; (with_reducible refine (coded1_t ea (chk a.n a.d) _ (chk_le11 a.n a.d) (H_HK.out _ (by assumption)).2.2).mono ?_); rintro e w' ⟨rfl, hbb⟩))
  rename_i hh
  have hS1 := hh.1
  have o30_0 := hh.2.1
  have o30_2 := hh.2.2.1
  have o30_3 := hh.2.2.2
  clear hh
  generalize hW : w' = w30 at *
  clear hW hbb
  have e30_3 : Below w3.heap.size w3 w30 := H_KB.out _ hS1
  have hb30 : Below w.heap.size w w30 := hb3.trans (e30_3.mono t3)
  have e30_2 : Below w2.heap.size w2 w30 := e3_2.trans (e30_3.mono te3_2)
  have o30_1 : ∀ j, w30.cell? ⟨w.heap.size + 1, j, none⟩ = #[Value.int .i64 b.n, Value.int .i64 b.d][j]? := fun j => by rw [e30_3.cell (by simp; omega)]; exact p1 j
  have t30 : w3.heap.size + 1 ≤ w30.heap.size := by have := hS1.size; simpa using this
  have f30_2 : ∀ j, w30.frozen? ⟨w2.heap.size, j, none⟩ = (w2.alloc (.cells #[.int .i64 q, .int .i64 r] 90)).frozen? ⟨w2.heap.size, j, none⟩ := fun j => by rw [e30_3.frozen (by simp; omega)]; exact pf2 j
  have f30_3 : ∀ j, w30.frozen? ⟨w3.heap.size, j, none⟩ = (w3.alloc (.cells #[.int .i64 q, .int .i64 r] 90)).frozen? ⟨w3.heap.size, j, none⟩ := fun j => hS1.frozen (by simp)
  have s30_0 : w.heap.size < w30.heap.size := by omega
  have s30_1 : w.heap.size + 1 < w30.heap.size := by omega
  have s30_2 : w2.heap.size < w30.heap.size := by omega
  have s30_3 : w3.heap.size < w30.heap.size := by omega
  have SK8 : ∀ W, Below w30.heap.size w30 W → Below w30.heap.size w30 W ∧ (∀ j, W.cell? ⟨w.heap.size, j, none⟩ = #[Value.int .i64 a.n, Value.int .i64 a.d][j]?) := by
    intro W h
    refine ⟨h, fun j => ?_⟩
    rw [h.cell s30_0]; exact o30_0 j
  have HT8 : ∀ W, Below w30.heap.size w30 W ∧ (∀ j, W.cell? ⟨w.heap.size, j, none⟩ = #[Value.int .i64 a.n, Value.int .i64 a.d][j]?) → Lib.TabIs Tryd.prog W "internal/strconv.uint64pow10" .u64 Lib.pow10Tab := fun W h => tab_keep H_htab.out (hb30.trans (h.1.mono (by omega))) rfl
  have H_SK8 := Lib.hid SK8
  clear SK8
  have H_HT8 := Lib.hid HT8
  clear HT8
  go_wp2_with fail
  go_region_with (go_at_call 46; (with_reducible refine (rfracerror_c a.n a.d 3 _ H_hAi.out ia1 ia2).mono ?_); rintro e w' ⟨rfl, hbb⟩)
  all_goals
    have hS8 : Below w30.heap.size w30 w' := by first | exact hbb | exact (Below.refl _ _).drew.trans (hbb.mono (by simp)) | exact (Below.refl _ _).trans (hbb.mono (by simp))
    generalize hW : w' = w31 at *
    clear hW hbb
    have hb31 : Below w.heap.size w w31 := hb30.trans (hS8.mono (by omega))
    have t31 := hS8.size
    have o31_0 : ∀ j, w31.cell? ⟨w.heap.size, j, none⟩ = #[Value.int .i64 a.n, Value.int .i64 a.d][j]? := fun j => by rw [hS8.cell s30_0]; exact o30_0 j
    have o31_1 : ∀ j, w31.cell? ⟨w.heap.size + 1, j, none⟩ = #[Value.int .i64 b.n, Value.int .i64 b.d][j]? := fun j => by rw [hS8.cell s30_1]; exact o30_1 j
    have o31_2 : ∀ j, w31.cell? ⟨w2.heap.size, j, none⟩ = #[Value.int .i64 q, Value.int .i64 r][j]? := fun j => by rw [hS8.cell s30_2]; exact o30_2 j
    have o31_3 : ∀ j, w31.cell? ⟨w3.heap.size, j, none⟩ = #[Value.int .i64 q, Value.int .i64 r][j]? := fun j => by rw [hS8.cell s30_3]; exact o30_3 j
    have f31_2 : ∀ j, w31.frozen? ⟨w2.heap.size, j, none⟩ = (w2.alloc (.cells #[.int .i64 q, .int .i64 r] 90)).frozen? ⟨w2.heap.size, j, none⟩ := fun j => by rw [hS8.frozen s30_2]; exact f30_2 j
    have f31_3 : ∀ j, w31.frozen? ⟨w3.heap.size, j, none⟩ = (w3.alloc (.cells #[.int .i64 q, .int .i64 r] 90)).frozen? ⟨w3.heap.size, j, none⟩ := fun j => by rw [hS8.frozen s30_3]; exact f30_3 j
    have s31_0 : w.heap.size < w31.heap.size := by omega
    have s31_1 : w.heap.size + 1 < w31.heap.size := by omega
    have s31_2 : w2.heap.size < w31.heap.size := by omega
    have s31_3 : w3.heap.size < w31.heap.size := by omega
    clear hS8 o30_0 o30_1 o30_2 o30_3 f30_2 f30_3
    go_wp2_with fail
    refine call_bel (w := w) (by repeat' (first | (with_reducible exact Below.refl _ _) | (with_reducible assumption) | (with_reducible refine bdn ?_) | (with_reducible refine Below.alloc ?_ ?_ _) | (with_reducible refine Below.drew ?_) | (with_reducible refine Below.setCell ?_ ?_ _) | omega | (simp <;> omega))) (fun HB => fread_any ea s _ (by omega) (H_hL.out.keep HB rfl) (gkeep HB hText rfl) (gkeep HB hShape rfl) (gkeep HB hBound rfl)) ?_
    intro w4 hb4 hz4 c4 d4 hW4
    have t4 := hb4.size
    try simp only [World.size_alloc] at hz4 c4 d4
    try simp only [World.size_drew] at hz4 c4 d4
    try simp only [World.size_setCell] at hz4 c4 d4
    try simp only [World.heap_drewN] at hz4 c4 d4
    try simp only [World.size_alloc] at hz4 c4 d4
    try simp only [World.size_drew] at hz4 c4 d4
    try simp only [World.size_setCell] at hz4 c4 d4
    have s4_0 : w.heap.size < w4.heap.size := by omega
    have o4_0 := fun j => c4 (w.heap.size) j (by omega)
    have f4_0 := fun j => d4 (w.heap.size) j (by omega)
    have s4_1 : w.heap.size + 1 < w4.heap.size := by omega
    have o4_1 := fun j => c4 (w.heap.size + 1) j (by omega)
    have f4_1 := fun j => d4 (w.heap.size + 1) j (by omega)
    have s4_2 : w2.heap.size < w4.heap.size := by omega
    have o4_2 := fun j => c4 (w2.heap.size) j (by omega)
    have f4_2 := fun j => d4 (w2.heap.size) j (by omega)
    have s4_3 : w3.heap.size < w4.heap.size := by omega
    have o4_3 := fun j => c4 (w3.heap.size) j (by omega)
    have f4_3 := fun j => d4 (w3.heap.size) j (by omega)
    clear c4 d4 hz4 hW4
    rw [frV_z, H_hq2.out, H_hr2.out]
    go_wp2_with fail
    refine call_bel (w := w) (by repeat' (first | (with_reducible exact Below.refl _ _) | (with_reducible assumption) | (with_reducible refine bdn ?_) | (with_reducible refine Below.alloc ?_ ?_ _) | (with_reducible refine Below.drew ?_) | (with_reducible refine Below.setCell ?_ ?_ _) | omega | (simp <;> omega))) (fun HB => rfracof_any s _ (by omega)) ?_
    intro w5 hb5 hz5 c5 d5 hW5
    have t5 := hb5.size
    try simp only [World.size_alloc] at hz5 c5 d5
    try simp only [World.size_drew] at hz5 c5 d5
    try simp only [World.size_setCell] at hz5 c5 d5
    try simp only [World.heap_drewN] at hz5 c5 d5
    try simp only [World.size_alloc] at hz5 c5 d5
    try simp only [World.size_drew] at hz5 c5 d5
    try simp only [World.size_setCell] at hz5 c5 d5
    have s5_0 : w.heap.size < w5.heap.size := by omega
    have o5_0 := fun j => c5 (w.heap.size) j (by omega)
    have f5_0 := fun j => d5 (w.heap.size) j (by omega)
    have s5_1 : w.heap.size + 1 < w5.heap.size := by omega
    have o5_1 := fun j => c5 (w.heap.size + 1) j (by omega)
    have f5_1 := fun j => d5 (w.heap.size + 1) j (by omega)
    have s5_2 : w2.heap.size < w5.heap.size := by omega
    have o5_2 := fun j => c5 (w2.heap.size) j (by omega)
    have f5_2 := fun j => d5 (w2.heap.size) j (by omega)
    have s5_3 : w3.heap.size < w5.heap.size := by omega
    have o5_3 := fun j => c5 (w3.heap.size) j (by omega)
    have f5_3 := fun j => d5 (w3.heap.size) j (by omega)
    clear c5 d5 hz5 hW5
    rw [frN, H_hq2.out, H_hr2.out]
    go_wp2_with fail
    refine call_bel (w := w) (by repeat' (first | (with_reducible exact Below.refl _ _) | (with_reducible assumption) | (with_reducible refine bdn ?_) | (with_reducible refine Below.alloc ?_ ?_ _) | (with_reducible refine Below.drew ?_) | (with_reducible refine Below.setCell ?_ ?_ _) | omega | (simp <;> omega))) (fun HB => coded1_t ea (rdC s.data.toList) _ (rdC_le _) (H_hS.out.keep HB rfl)) ?_
    intro w6 hb6 hz6 c6 d6 hW6
    have t6 := hb6.size
    try simp only [World.size_alloc] at hz6 c6 d6
    try simp only [World.size_drew] at hz6 c6 d6
    try simp only [World.size_setCell] at hz6 c6 d6
    try simp only [World.heap_drewN] at hz6 c6 d6
    try simp only [World.size_alloc] at hz6 c6 d6
    try simp only [World.size_drew] at hz6 c6 d6
    try simp only [World.size_setCell] at hz6 c6 d6
    have s6_0 : w.heap.size < w6.heap.size := by omega
    have o6_0 := fun j => c6 (w.heap.size) j (by omega)
    have f6_0 := fun j => d6 (w.heap.size) j (by omega)
    have s6_1 : w.heap.size + 1 < w6.heap.size := by omega
    have o6_1 := fun j => c6 (w.heap.size + 1) j (by omega)
    have f6_1 := fun j => d6 (w.heap.size + 1) j (by omega)
    have s6_2 : w2.heap.size < w6.heap.size := by omega
    have o6_2 := fun j => c6 (w2.heap.size) j (by omega)
    have f6_2 := fun j => d6 (w2.heap.size) j (by omega)
    have s6_3 : w3.heap.size < w6.heap.size := by omega
    have o6_3 := fun j => c6 (w3.heap.size) j (by omega)
    have f6_3 := fun j => d6 (w3.heap.size) j (by omega)
    clear c6 d6 hz6 hW6
    go_wp2_with fail
    refine call_bel (w := w) (by repeat' (first | (with_reducible exact Below.refl _ _) | (with_reducible assumption) | (with_reducible refine bdn ?_) | (with_reducible refine Below.alloc ?_ ?_ _) | (with_reducible refine Below.drew ?_) | (with_reducible refine Below.setCell ?_ ?_ _) | omega | (simp <;> omega))) (fun HB => ftext_s q2 r2 s _ H_hT.out (tab_keep H_htab.out HB rfl)) ?_
    intro w7 hb7 hz7 c7 d7 hW7
    have t7 := hb7.size
    try simp only [World.size_alloc] at hz7 c7 d7
    try simp only [World.size_drew] at hz7 c7 d7
    try simp only [World.size_setCell] at hz7 c7 d7
    try simp only [World.heap_drewN] at hz7 c7 d7
    try simp only [World.size_alloc] at hz7 c7 d7
    try simp only [World.size_drew] at hz7 c7 d7
    try simp only [World.size_setCell] at hz7 c7 d7
    have s7_0 : w.heap.size < w7.heap.size := by omega
    have o7_0 := fun j => c7 (w.heap.size) j (by omega)
    have f7_0 := fun j => d7 (w.heap.size) j (by omega)
    have s7_1 : w.heap.size + 1 < w7.heap.size := by omega
    have o7_1 := fun j => c7 (w.heap.size + 1) j (by omega)
    have f7_1 := fun j => d7 (w.heap.size + 1) j (by omega)
    have s7_2 : w2.heap.size < w7.heap.size := by omega
    have o7_2 := fun j => c7 (w2.heap.size) j (by omega)
    have f7_2 := fun j => d7 (w2.heap.size) j (by omega)
    have s7_3 : w3.heap.size < w7.heap.size := by omega
    have o7_3 := fun j => c7 (w3.heap.size) j (by omega)
    have f7_3 := fun j => d7 (w3.heap.size) j (by omega)
    clear c7 d7 hz7 hW7
    go_wp2_with fail
    refine call_bel (w := w) (by repeat' (first | (with_reducible exact Below.refl _ _) | (with_reducible assumption) | (with_reducible refine bdn ?_) | (with_reducible refine Below.alloc ?_ ?_ _) | (with_reducible refine Below.drew ?_) | (with_reducible refine Below.setCell ?_ ?_ _) | omega | (simp <;> omega))) (fun HB => cmp_c ea a.n a.d b.n b.d (chk a.n a.d) _ ia1 ia2 ib1 ib2 (gkeep HB hShape rfl) (gkeep HB hBound rfl) H_hC.out H_hA.out) ?_
    intro w8 hb8 hz8 c8 d8 hW8
    have t8 := hb8.size
    try simp only [World.size_alloc] at hz8 c8 d8
    try simp only [World.size_drew] at hz8 c8 d8
    try simp only [World.size_setCell] at hz8 c8 d8
    try simp only [World.heap_drewN] at hz8 c8 d8
    try simp only [World.size_alloc] at hz8 c8 d8
    try simp only [World.size_drew] at hz8 c8 d8
    try simp only [World.size_setCell] at hz8 c8 d8
    have s8_0 : w.heap.size < w8.heap.size := by omega
    have o8_0 := fun j => c8 (w.heap.size) j (by omega)
    have f8_0 := fun j => d8 (w.heap.size) j (by omega)
    have s8_1 : w.heap.size + 1 < w8.heap.size := by omega
    have o8_1 := fun j => c8 (w.heap.size + 1) j (by omega)
    have f8_1 := fun j => d8 (w.heap.size + 1) j (by omega)
    have s8_2 : w2.heap.size < w8.heap.size := by omega
    have o8_2 := fun j => c8 (w2.heap.size) j (by omega)
    have f8_2 := fun j => d8 (w2.heap.size) j (by omega)
    have s8_3 : w3.heap.size < w8.heap.size := by omega
    have o8_3 := fun j => c8 (w3.heap.size) j (by omega)
    have f8_3 := fun j => d8 (w3.heap.size) j (by omega)
    clear c8 d8 hz8 hW8
    go_wp2_with fail
    refine call_bel (w := w) (by repeat' (first | (with_reducible exact Below.refl _ _) | (with_reducible assumption) | (with_reducible refine bdn ?_) | (with_reducible refine Below.alloc ?_ ?_ _) | (with_reducible refine Below.drew ?_) | (with_reducible refine Below.setCell ?_ ?_ _) | omega | (simp <;> omega))) (fun HB => rfracerror_any a.n a.d _ ia1 ia2) ?_
    intro w9 hb9 hz9 c9 d9 hW9
    have t9 := hb9.size
    try simp only [World.size_alloc] at hz9 c9 d9
    try simp only [World.size_drew] at hz9 c9 d9
    try simp only [World.size_setCell] at hz9 c9 d9
    try simp only [World.heap_drewN] at hz9 c9 d9
    try simp only [World.size_alloc] at hz9 c9 d9
    try simp only [World.size_drew] at hz9 c9 d9
    try simp only [World.size_setCell] at hz9 c9 d9
    have s9_0 : w.heap.size < w9.heap.size := by omega
    have o9_0 := fun j => c9 (w.heap.size) j (by omega)
    have f9_0 := fun j => d9 (w.heap.size) j (by omega)
    have s9_1 : w.heap.size + 1 < w9.heap.size := by omega
    have o9_1 := fun j => c9 (w.heap.size + 1) j (by omega)
    have f9_1 := fun j => d9 (w.heap.size + 1) j (by omega)
    have s9_2 : w2.heap.size < w9.heap.size := by omega
    have o9_2 := fun j => c9 (w2.heap.size) j (by omega)
    have f9_2 := fun j => d9 (w2.heap.size) j (by omega)
    have s9_3 : w3.heap.size < w9.heap.size := by omega
    have o9_3 := fun j => c9 (w3.heap.size) j (by omega)
    have f9_3 := fun j => d9 (w3.heap.size) j (by omega)
    clear c9 d9 hz9 hW9
    go_wp2_with fail
    refine call_bel (w := w) (by repeat' (first | (with_reducible exact Below.refl _ _) | (with_reducible assumption) | (with_reducible refine bdn ?_) | (with_reducible refine Below.alloc ?_ ?_ _) | (with_reducible refine Below.drew ?_) | (with_reducible refine Below.setCell ?_ ?_ _) | omega | (simp <;> omega))) (fun HB => coded1_t ea (chk a.n a.d) _ (chk_le11 _ _) (H_hS.out.keep HB rfl)) ?_
    intro w10 hb10 hz10 c10 d10 hW10
    have t10 := hb10.size
    try simp only [World.size_alloc] at hz10 c10 d10
    try simp only [World.size_drew] at hz10 c10 d10
    try simp only [World.size_setCell] at hz10 c10 d10
    try simp only [World.heap_drewN] at hz10 c10 d10
    try simp only [World.size_alloc] at hz10 c10 d10
    try simp only [World.size_drew] at hz10 c10 d10
    try simp only [World.size_setCell] at hz10 c10 d10
    have s10_0 : w.heap.size < w10.heap.size := by omega
    have o10_0 := fun j => c10 (w.heap.size) j (by omega)
    have f10_0 := fun j => d10 (w.heap.size) j (by omega)
    have s10_1 : w.heap.size + 1 < w10.heap.size := by omega
    have o10_1 := fun j => c10 (w.heap.size + 1) j (by omega)
    have f10_1 := fun j => d10 (w.heap.size + 1) j (by omega)
    have s10_2 : w2.heap.size < w10.heap.size := by omega
    have o10_2 := fun j => c10 (w2.heap.size) j (by omega)
    have f10_2 := fun j => d10 (w2.heap.size) j (by omega)
    have s10_3 : w3.heap.size < w10.heap.size := by omega
    have o10_3 := fun j => c10 (w3.heap.size) j (by omega)
    have f10_3 := fun j => d10 (w3.heap.size) j (by omega)
    clear c10 d10 hz10 hW10
    go_wp2_with fail
    go_returns
    exact ⟨rfl, by repeat' (first | (with_reducible exact Below.refl _ _) | (with_reducible assumption) | (with_reducible refine bdn ?_) | (with_reducible refine Below.alloc ?_ ?_ _) | (with_reducible refine Below.drew ?_) | (with_reducible refine Below.setCell ?_ ?_ _) | omega | (simp <;> omega))⟩

set_option maxHeartbeats 4000000 in
set_option maxRecDepth 100000 in
theorem mk_b1 (ea : Nat → Addr) (n d : Int) (a b : Fr) (s : ByteArray) (w : World) (hn : I64 n) (hd : I64 d) (ia : a.I) (ib : b.I) (hS : Sents ea w) (hL : Libs w) (h60 : s.size ≤ 60) (hA : chk a.n a.d = 0) (hB : chk b.n b.d ≠ 0) (hR : rdC s.data.toList = 0) :
    Calls Tryd.prog 8 #[.int .i64 n, .int .i64 d, .agg #[.int .i64 a.n, .int .i64 a.d], .agg #[.int .i64 b.n, .int .i64 b.d], .string s] w fun e w' => e = .returned (.bool true) ∧ Below w.heap.size w w' := by
  have hText := hS.c1
  have hBound := hS.c2
  have hShape := hS.c3
  have hZero := hS.c11
  have htab := hL.tab
  have zhShape := zlt hShape
  have xhShape := zlts hShape
  have yhShape := zne hShape
  have zhBound := zlt hBound
  have xhBound := zlts hBound
  have yhBound := zne hBound
  have zhZero := zlt hZero
  have xhZero := zlts hZero
  have yhZero := zne hZero
  have zhText := zlt hText
  have xhText := zlts hText
  have yhText := zne hText
  obtain ⟨ia1, ia2⟩ := ia
  obtain ⟨ib1, ib2⟩ := ib
  have g2 : decide (60 < (s.size : Int)) = false := by simp; omega
  obtain ⟨q, hq⟩ : ∃ q, z0 (mkC n d) (lowN n d) = q := ⟨_, rfl⟩
  obtain ⟨r, hr⟩ : ∃ q, z0 (mkC n d) (lowD n d) = q := ⟨_, rfl⟩
  obtain ⟨q2, hq2⟩ : ∃ q, z0 (rdC s.data.toList) (rdN s.data.toList) = q := ⟨_, rfl⟩
  obtain ⟨r2, hr2⟩ : ∃ q, z0 (rdC s.data.toList) (rdD s.data.toList) = q := ⟨_, rfl⟩
  have g4 := chk_z0 hR
  have hT := rd_text2 hR hq2 hr2
  have H_hT := Lib.hid hT
  clear hT
  have g3 := chk_z0 hA
  have g5 := chk_p0 hB
  have g6 : decide (0 < chk b.n b.d) = true := by simp; omega
  have hC : bothC a.n a.d b.n b.d = chk b.n b.d := by unfold bothC; rw [if_pos hA]
  have H_hA := Lib.hid hA
  clear hA
  have H_hB := Lib.hid hB
  clear hB
  have H_hC := Lib.hid hC
  clear hC
  have H_hS := Lib.hid hS
  clear hS
  have H_htab := Lib.hid htab
  clear htab
  have H_hL := Lib.hid hL
  clear hL
  have H_hq := Lib.hid hq
  clear hq
  have H_hr := Lib.hid hr
  clear hr
  have H_hq2 := Lib.hid hq2
  clear hq2
  have H_hr2 := Lib.hid hr2
  clear hr2
  have H_hR := Lib.hid hR
  clear hR
  go_enter Tryd.func8, Tryd.ntmps8
  go_wp2_with fail
  refine call_bel (w := w) (by repeat' (first | (with_reducible exact Below.refl _ _) | (with_reducible assumption) | (with_reducible refine bdn ?_) | (with_reducible refine Below.alloc ?_ ?_ _) | (with_reducible refine Below.drew ?_) | (with_reducible refine Below.setCell ?_ ?_ _) | omega | (simp <;> omega))) (fun HB => halved_any ea _ (gkeep HB hBound rfl) (gkeep HB hZero rfl) (tab_keep H_htab.out HB rfl)) ?_
  intro w1 hb1 hz1 c1 d1 hW1
  have t1 := hb1.size
  try simp only [World.size_alloc] at hz1 c1 d1
  try simp only [World.size_drew] at hz1 c1 d1
  try simp only [World.size_setCell] at hz1 c1 d1
  try simp only [World.heap_drewN] at hz1 c1 d1
  try simp only [World.size_alloc] at hz1 c1 d1
  try simp only [World.size_drew] at hz1 c1 d1
  try simp only [World.size_setCell] at hz1 c1 d1
  have s1_0 : w.heap.size < w1.heap.size := by omega
  have o1_0 := fun j => c1 (w.heap.size) j (by omega)
  have f1_0 := fun j => d1 (w.heap.size) j (by omega)
  have s1_1 : w.heap.size + 1 < w1.heap.size := by omega
  have o1_1 := fun j => c1 (w.heap.size + 1) j (by omega)
  have f1_1 := fun j => d1 (w.heap.size + 1) j (by omega)
  clear c1 d1 hz1 hW1
  go_wp2_with fail
  refine call_bel (w := w) (by repeat' (first | (with_reducible exact Below.refl _ _) | (with_reducible assumption) | (with_reducible refine bdn ?_) | (with_reducible refine Below.alloc ?_ ?_ _) | (with_reducible refine Below.drew ?_) | (with_reducible refine Below.setCell ?_ ?_ _) | omega | (simp <;> omega))) (fun HB => fmake_any ea n d _ hn hd (gkeep HB hBound rfl) (gkeep HB hZero rfl)) ?_
  intro w2 hb2 hz2 c2 d2 hW2
  have t2 := hb2.size
  try simp only [World.size_alloc] at hz2 c2 d2
  try simp only [World.size_drew] at hz2 c2 d2
  try simp only [World.size_setCell] at hz2 c2 d2
  try simp only [World.heap_drewN] at hz2 c2 d2
  try simp only [World.size_alloc] at hz2 c2 d2
  try simp only [World.size_drew] at hz2 c2 d2
  try simp only [World.size_setCell] at hz2 c2 d2
  have s2_0 : w.heap.size < w2.heap.size := by omega
  have o2_0 := fun j => c2 (w.heap.size) j (by omega)
  have f2_0 := fun j => d2 (w.heap.size) j (by omega)
  have s2_1 : w.heap.size + 1 < w2.heap.size := by omega
  have o2_1 := fun j => c2 (w.heap.size + 1) j (by omega)
  have f2_1 := fun j => d2 (w.heap.size + 1) j (by omega)
  clear c2 d2 hz2 hW2
  rw [frV_z, H_hq.out, H_hr.out]
  go_wp2_with fail
  refine call_bel (w := w) (by repeat' (first | (with_reducible exact Below.refl _ _) | (with_reducible assumption) | (with_reducible refine bdn ?_) | (with_reducible refine Below.alloc ?_ ?_ _) | (with_reducible refine Below.drew ?_) | (with_reducible refine Below.setCell ?_ ?_ _) | omega | (simp <;> omega))) (fun HB => rfracmake_any n d _) ?_
  intro w3 hb3 hz3 c3 d3 hW3
  have t3 := hb3.size
  have e3_2 : Below w2.heap.size w2 w3 := below_via (by repeat' (first | (with_reducible exact Below.refl _ _) | (with_reducible assumption) | (with_reducible refine bdn ?_) | (with_reducible refine Below.alloc ?_ ?_ _) | (with_reducible refine Below.drew ?_) | (with_reducible refine Below.setCell ?_ ?_ _) | omega | (simp <;> omega))) hW3
  have te3_2 := e3_2.size
  try simp only [World.size_alloc] at hz3 c3 d3
  try simp only [World.size_drew] at hz3 c3 d3
  try simp only [World.size_setCell] at hz3 c3 d3
  try simp only [World.heap_drewN] at hz3 c3 d3
  try simp only [World.size_alloc] at hz3 c3 d3
  try simp only [World.size_drew] at hz3 c3 d3
  try simp only [World.size_setCell] at hz3 c3 d3
  have s3_0 : w.heap.size < w3.heap.size := by omega
  have o3_0 := fun j => c3 (w.heap.size) j (by omega)
  have f3_0 := fun j => d3 (w.heap.size) j (by omega)
  have s3_1 : w.heap.size + 1 < w3.heap.size := by omega
  have o3_1 := fun j => c3 (w.heap.size + 1) j (by omega)
  have f3_1 := fun j => d3 (w.heap.size + 1) j (by omega)
  have s3_2 : w2.heap.size < w3.heap.size := by omega
  have o3_2 := fun j => c3 (w2.heap.size) j (by omega)
  have f3_2 := fun j => d3 (w2.heap.size) j (by omega)
  clear c3 d3 hz3 hW3
  rw [frN, H_hq.out, H_hr.out]
  have p2 : ∀ j, w3.cell? ⟨w2.heap.size, j, none⟩ = #[Value.int .i64 q, Value.int .i64 r][j]? := fun j => by rw [o3_2]; exact World.cell?_alloc_new _ _ _ _
  have p0 : ∀ j, w3.cell? ⟨w.heap.size, j, none⟩ = #[Value.int .i64 a.n, Value.int .i64 a.d][j]? := fun j => by rw [o3_0, World.cell?_alloc_lt _ _ _ (by simp; omega), o2_0, o1_0, World.cell?_alloc_lt _ _ _ (by simp)]; exact World.cell?_alloc_new _ _ _ _
  have p1 : ∀ j, w3.cell? ⟨w.heap.size + 1, j, none⟩ = #[Value.int .i64 b.n, Value.int .i64 b.d][j]? := fun j => by rw [o3_1, World.cell?_alloc_lt _ _ _ (by simp; omega), o2_1, o1_1]; have hj := World.cell?_alloc_new (w.alloc (.cells #[.int .i64 a.n, .int .i64 a.d] 90)) #[.int .i64 b.n, .int .i64 b.d] 90 j; rw [World.size_alloc] at hj; exact hj
  have SK : ∀ W, Below (w3.heap.size + 1) (w3.alloc (.cells #[.int .i64 q, .int .i64 r] 90)) W → Below (w3.heap.size + 1) (w3.alloc (.cells #[.int .i64 q, .int .i64 r] 90)) W ∧ (∀ j, W.cell? ⟨w.heap.size, j, none⟩ = #[Value.int .i64 a.n, Value.int .i64 a.d][j]?) ∧ (∀ j, W.cell? ⟨w2.heap.size, j, none⟩ = #[Value.int .i64 q, Value.int .i64 r][j]?) ∧ (∀ j, W.cell? ⟨w3.heap.size, j, none⟩ = #[Value.int .i64 q, Value.int .i64 r][j]?) := by
    intro W h
    refine ⟨h, fun j => ?_, fun j => ?_, fun j => ?_⟩
    · rw [h.cell (by simp; omega), World.cell?_alloc_lt _ _ _ (by simp; omega)]; exact p0 j
    · rw [h.cell (by simp; omega), World.cell?_alloc_lt _ _ _ (by simp; omega)]; exact p2 j
    · rw [h.cell (by simp)]; exact World.cell?_alloc_new _ _ _ _
  have KB : ∀ W, Below (w3.heap.size + 1) (w3.alloc (.cells #[.int .i64 q, .int .i64 r] 90)) W → Below w3.heap.size w3 W := fun W h => ((Below.refl _ _).alloc (Nat.le_refl _) _).trans (h.mono (by omega))
  have HK : ∀ W, Below (w3.heap.size + 1) (w3.alloc (.cells #[.int .i64 q, .int .i64 r] 90)) W ∧ (∀ j, W.cell? ⟨w.heap.size, j, none⟩ = #[Value.int .i64 a.n, Value.int .i64 a.d][j]?) ∧ (∀ j, W.cell? ⟨w2.heap.size, j, none⟩ = #[Value.int .i64 q, Value.int .i64 r][j]?) ∧ (∀ j, W.cell? ⟨w3.heap.size, j, none⟩ = #[Value.int .i64 q, Value.int .i64 r][j]?) → W.cell? ⟨5, 0, none⟩ = some (.iface 312 (.pointer (some (ea 3)))) ∧ W.cell? ⟨1, 0, none⟩ = some (.iface 312 (.pointer (some (ea 2)))) ∧ Sents ea W := by
    intro W h
    have k' := hb3.trans ((KB W h.1).mono t3)
    exact ⟨gkeep k' hShape rfl, gkeep k' hBound rfl, H_hS.out.keep k' rfl⟩
  have pf2 := f3_2
  have H_SK := Lib.hid SK
  clear SK
  have H_KB := Lib.hid KB
  clear KB
  have H_HK := Lib.hid HK
  clear HK
  go_wp2_with fail
  clear o1_0 f1_0 o1_1 f1_1 o2_0 f2_0 o2_1 f2_1 o3_0 f3_0 o3_1 f3_1 o3_2 f3_2
  go_region_held3 (fun W => Below (w3.heap.size + 1) (w3.alloc (.cells #[.int .i64 q, .int .i64 r] 90)) W ∧ (∀ j, W.cell? ⟨w.heap.size, j, none⟩ = #[Value.int .i64 a.n, Value.int .i64 a.d][j]?) ∧ (∀ j, W.cell? ⟨w2.heap.size, j, none⟩ = #[Value.int .i64 q, Value.int .i64 r][j]?) ∧ (∀ j, W.cell? ⟨w3.heap.size, j, none⟩ = #[Value.int .i64 q, Value.int .i64 r][j]?)) (first | exact H_SK.out _ (Below.refl _ _).drew | exact H_SK.out _ (held_step (by simp) (by assumption) (by assumption)))
    (first | (go_at_call 45; (with_reducible refine (fcheck_any ea a.n a.d _ ia1 ia2 (H_HK.out _ (by assumption)).1 (H_HK.out _ (by assumption)).2.1).mono ?_); rintro e w' ⟨rfl, hbb⟩) | (go_at_call 46; (with_reducible refine (rfracerror_any a.n a.d _ ia1 ia2).mono ?_); rintro e w' ⟨rfl, hbb⟩) | (go_at_call 29; (with_reducible refine (coded1_t ea (mkC n d) _ (mkC_le n d) (H_HK.out _ (by assumption)).2.2).mono ?_); rintro e w' ⟨rfl, hbb⟩) | (go_at_call 29; (with_reducible refine (coded1_t ea (chk a.n a.d) _ (chk_le11 a.n a.d) (H_HK.out _ (by assumption)).2.2).mono ?_); rintro e w' ⟨rfl, hbb⟩))
  rename_i hh
  have hS1 := hh.1
  have o30_0 := hh.2.1
  have o30_2 := hh.2.2.1
  have o30_3 := hh.2.2.2
  clear hh
  generalize hW : w' = w30 at *
  clear hW hbb
  have e30_3 : Below w3.heap.size w3 w30 := H_KB.out _ hS1
  have hb30 : Below w.heap.size w w30 := hb3.trans (e30_3.mono t3)
  have e30_2 : Below w2.heap.size w2 w30 := e3_2.trans (e30_3.mono te3_2)
  have o30_1 : ∀ j, w30.cell? ⟨w.heap.size + 1, j, none⟩ = #[Value.int .i64 b.n, Value.int .i64 b.d][j]? := fun j => by rw [e30_3.cell (by simp; omega)]; exact p1 j
  have t30 : w3.heap.size + 1 ≤ w30.heap.size := by have := hS1.size; simpa using this
  have f30_2 : ∀ j, w30.frozen? ⟨w2.heap.size, j, none⟩ = (w2.alloc (.cells #[.int .i64 q, .int .i64 r] 90)).frozen? ⟨w2.heap.size, j, none⟩ := fun j => by rw [e30_3.frozen (by simp; omega)]; exact pf2 j
  have f30_3 : ∀ j, w30.frozen? ⟨w3.heap.size, j, none⟩ = (w3.alloc (.cells #[.int .i64 q, .int .i64 r] 90)).frozen? ⟨w3.heap.size, j, none⟩ := fun j => hS1.frozen (by simp)
  have s30_0 : w.heap.size < w30.heap.size := by omega
  have s30_1 : w.heap.size + 1 < w30.heap.size := by omega
  have s30_2 : w2.heap.size < w30.heap.size := by omega
  have s30_3 : w3.heap.size < w30.heap.size := by omega
  have SK8 : ∀ W, Below w30.heap.size w30 W → Below w30.heap.size w30 W ∧ (∀ j, W.cell? ⟨w.heap.size, j, none⟩ = #[Value.int .i64 a.n, Value.int .i64 a.d][j]?) := by
    intro W h
    refine ⟨h, fun j => ?_⟩
    rw [h.cell s30_0]; exact o30_0 j
  have HT8 : ∀ W, Below w30.heap.size w30 W ∧ (∀ j, W.cell? ⟨w.heap.size, j, none⟩ = #[Value.int .i64 a.n, Value.int .i64 a.d][j]?) → Lib.TabIs Tryd.prog W "internal/strconv.uint64pow10" .u64 Lib.pow10Tab := fun W h => tab_keep H_htab.out (hb30.trans (h.1.mono (by omega))) rfl
  have H_SK8 := Lib.hid SK8
  clear SK8
  have H_HT8 := Lib.hid HT8
  clear HT8
  go_wp2_with fail
  go_region_held3 (fun W => Below w30.heap.size w30 W ∧ (∀ j, W.cell? ⟨w.heap.size, j, none⟩ = #[Value.int .i64 a.n, Value.int .i64 a.d][j]?)) (first | exact H_SK8.out _ (Below.refl _ _).drew | exact H_SK8.out _ (Below.refl _ _) | exact H_SK8.out _ (held_step (by simp) (by assumption) (by assumption)))
    (first | (go_at_call 46; (with_reducible refine (rfracerror_0 a.n a.d _ H_hA.out ia1 ia2).mono ?_); rintro e w' ⟨rfl, hbb⟩) | (go_at_call 47; (with_reducible refine (ftext_any a.n a.d _ ia1 ia2 (H_HT8.out _ (by assumption))).mono ?_); rintro e w' ⟨rfl, hbb⟩) | (go_at_call 48; (with_reducible refine (rfractext_any a.n a.d _ ia1 ia2).mono ?_); rintro e w' ⟨rfl, hbb⟩))
  rename_i hh
  have hS8 := hh.1
  clear hh
  generalize hW : w' = w31 at *
  clear hW hbb
  have hb31 : Below w.heap.size w w31 := hb30.trans (hS8.mono (by omega))
  have t31 := hS8.size
  have o31_0 : ∀ j, w31.cell? ⟨w.heap.size, j, none⟩ = #[Value.int .i64 a.n, Value.int .i64 a.d][j]? := fun j => by rw [hS8.cell s30_0]; exact o30_0 j
  have o31_1 : ∀ j, w31.cell? ⟨w.heap.size + 1, j, none⟩ = #[Value.int .i64 b.n, Value.int .i64 b.d][j]? := fun j => by rw [hS8.cell s30_1]; exact o30_1 j
  have o31_2 : ∀ j, w31.cell? ⟨w2.heap.size, j, none⟩ = #[Value.int .i64 q, Value.int .i64 r][j]? := fun j => by rw [hS8.cell s30_2]; exact o30_2 j
  have o31_3 : ∀ j, w31.cell? ⟨w3.heap.size, j, none⟩ = #[Value.int .i64 q, Value.int .i64 r][j]? := fun j => by rw [hS8.cell s30_3]; exact o30_3 j
  have f31_2 : ∀ j, w31.frozen? ⟨w2.heap.size, j, none⟩ = (w2.alloc (.cells #[.int .i64 q, .int .i64 r] 90)).frozen? ⟨w2.heap.size, j, none⟩ := fun j => by rw [hS8.frozen s30_2]; exact f30_2 j
  have f31_3 : ∀ j, w31.frozen? ⟨w3.heap.size, j, none⟩ = (w3.alloc (.cells #[.int .i64 q, .int .i64 r] 90)).frozen? ⟨w3.heap.size, j, none⟩ := fun j => by rw [hS8.frozen s30_3]; exact f30_3 j
  have s31_0 : w.heap.size < w31.heap.size := by omega
  have s31_1 : w.heap.size + 1 < w31.heap.size := by omega
  have s31_2 : w2.heap.size < w31.heap.size := by omega
  have s31_3 : w3.heap.size < w31.heap.size := by omega
  clear hS8 o30_0 o30_1 o30_2 o30_3 f30_2 f30_3
  go_wp2_with fail
  refine call_bel (w := w) (by repeat' (first | (with_reducible exact Below.refl _ _) | (with_reducible assumption) | (with_reducible refine bdn ?_) | (with_reducible refine Below.alloc ?_ ?_ _) | (with_reducible refine Below.drew ?_) | (with_reducible refine Below.setCell ?_ ?_ _) | omega | (simp <;> omega))) (fun HB => fread_any ea s _ (by omega) (H_hL.out.keep HB rfl) (gkeep HB hText rfl) (gkeep HB hShape rfl) (gkeep HB hBound rfl)) ?_
  intro w4 hb4 hz4 c4 d4 hW4
  have t4 := hb4.size
  try simp only [World.size_alloc] at hz4 c4 d4
  try simp only [World.size_drew] at hz4 c4 d4
  try simp only [World.size_setCell] at hz4 c4 d4
  try simp only [World.heap_drewN] at hz4 c4 d4
  try simp only [World.size_alloc] at hz4 c4 d4
  try simp only [World.size_drew] at hz4 c4 d4
  try simp only [World.size_setCell] at hz4 c4 d4
  have s4_0 : w.heap.size < w4.heap.size := by omega
  have o4_0 := fun j => c4 (w.heap.size) j (by omega)
  have f4_0 := fun j => d4 (w.heap.size) j (by omega)
  have s4_1 : w.heap.size + 1 < w4.heap.size := by omega
  have o4_1 := fun j => c4 (w.heap.size + 1) j (by omega)
  have f4_1 := fun j => d4 (w.heap.size + 1) j (by omega)
  have s4_2 : w2.heap.size < w4.heap.size := by omega
  have o4_2 := fun j => c4 (w2.heap.size) j (by omega)
  have f4_2 := fun j => d4 (w2.heap.size) j (by omega)
  have s4_3 : w3.heap.size < w4.heap.size := by omega
  have o4_3 := fun j => c4 (w3.heap.size) j (by omega)
  have f4_3 := fun j => d4 (w3.heap.size) j (by omega)
  clear c4 d4 hz4 hW4
  rw [frV_z, H_hq2.out, H_hr2.out]
  go_wp2_with fail
  refine call_bel (w := w) (by repeat' (first | (with_reducible exact Below.refl _ _) | (with_reducible assumption) | (with_reducible refine bdn ?_) | (with_reducible refine Below.alloc ?_ ?_ _) | (with_reducible refine Below.drew ?_) | (with_reducible refine Below.setCell ?_ ?_ _) | omega | (simp <;> omega))) (fun HB => rfracof_any s _ (by omega)) ?_
  intro w5 hb5 hz5 c5 d5 hW5
  have t5 := hb5.size
  try simp only [World.size_alloc] at hz5 c5 d5
  try simp only [World.size_drew] at hz5 c5 d5
  try simp only [World.size_setCell] at hz5 c5 d5
  try simp only [World.heap_drewN] at hz5 c5 d5
  try simp only [World.size_alloc] at hz5 c5 d5
  try simp only [World.size_drew] at hz5 c5 d5
  try simp only [World.size_setCell] at hz5 c5 d5
  have s5_0 : w.heap.size < w5.heap.size := by omega
  have o5_0 := fun j => c5 (w.heap.size) j (by omega)
  have f5_0 := fun j => d5 (w.heap.size) j (by omega)
  have s5_1 : w.heap.size + 1 < w5.heap.size := by omega
  have o5_1 := fun j => c5 (w.heap.size + 1) j (by omega)
  have f5_1 := fun j => d5 (w.heap.size + 1) j (by omega)
  have s5_2 : w2.heap.size < w5.heap.size := by omega
  have o5_2 := fun j => c5 (w2.heap.size) j (by omega)
  have f5_2 := fun j => d5 (w2.heap.size) j (by omega)
  have s5_3 : w3.heap.size < w5.heap.size := by omega
  have o5_3 := fun j => c5 (w3.heap.size) j (by omega)
  have f5_3 := fun j => d5 (w3.heap.size) j (by omega)
  clear c5 d5 hz5 hW5
  rw [frN, H_hq2.out, H_hr2.out]
  go_wp2_with fail
  refine call_bel (w := w) (by repeat' (first | (with_reducible exact Below.refl _ _) | (with_reducible assumption) | (with_reducible refine bdn ?_) | (with_reducible refine Below.alloc ?_ ?_ _) | (with_reducible refine Below.drew ?_) | (with_reducible refine Below.setCell ?_ ?_ _) | omega | (simp <;> omega))) (fun HB => coded1_t ea (rdC s.data.toList) _ (rdC_le _) (H_hS.out.keep HB rfl)) ?_
  intro w6 hb6 hz6 c6 d6 hW6
  have t6 := hb6.size
  try simp only [World.size_alloc] at hz6 c6 d6
  try simp only [World.size_drew] at hz6 c6 d6
  try simp only [World.size_setCell] at hz6 c6 d6
  try simp only [World.heap_drewN] at hz6 c6 d6
  try simp only [World.size_alloc] at hz6 c6 d6
  try simp only [World.size_drew] at hz6 c6 d6
  try simp only [World.size_setCell] at hz6 c6 d6
  have s6_0 : w.heap.size < w6.heap.size := by omega
  have o6_0 := fun j => c6 (w.heap.size) j (by omega)
  have f6_0 := fun j => d6 (w.heap.size) j (by omega)
  have s6_1 : w.heap.size + 1 < w6.heap.size := by omega
  have o6_1 := fun j => c6 (w.heap.size + 1) j (by omega)
  have f6_1 := fun j => d6 (w.heap.size + 1) j (by omega)
  have s6_2 : w2.heap.size < w6.heap.size := by omega
  have o6_2 := fun j => c6 (w2.heap.size) j (by omega)
  have f6_2 := fun j => d6 (w2.heap.size) j (by omega)
  have s6_3 : w3.heap.size < w6.heap.size := by omega
  have o6_3 := fun j => c6 (w3.heap.size) j (by omega)
  have f6_3 := fun j => d6 (w3.heap.size) j (by omega)
  clear c6 d6 hz6 hW6
  go_wp2_with fail
  refine call_bel (w := w) (by repeat' (first | (with_reducible exact Below.refl _ _) | (with_reducible assumption) | (with_reducible refine bdn ?_) | (with_reducible refine Below.alloc ?_ ?_ _) | (with_reducible refine Below.drew ?_) | (with_reducible refine Below.setCell ?_ ?_ _) | omega | (simp <;> omega))) (fun HB => ftext_s q2 r2 s _ H_hT.out (tab_keep H_htab.out HB rfl)) ?_
  intro w7 hb7 hz7 c7 d7 hW7
  have t7 := hb7.size
  try simp only [World.size_alloc] at hz7 c7 d7
  try simp only [World.size_drew] at hz7 c7 d7
  try simp only [World.size_setCell] at hz7 c7 d7
  try simp only [World.heap_drewN] at hz7 c7 d7
  try simp only [World.size_alloc] at hz7 c7 d7
  try simp only [World.size_drew] at hz7 c7 d7
  try simp only [World.size_setCell] at hz7 c7 d7
  have s7_0 : w.heap.size < w7.heap.size := by omega
  have o7_0 := fun j => c7 (w.heap.size) j (by omega)
  have f7_0 := fun j => d7 (w.heap.size) j (by omega)
  have s7_1 : w.heap.size + 1 < w7.heap.size := by omega
  have o7_1 := fun j => c7 (w.heap.size + 1) j (by omega)
  have f7_1 := fun j => d7 (w.heap.size + 1) j (by omega)
  have s7_2 : w2.heap.size < w7.heap.size := by omega
  have o7_2 := fun j => c7 (w2.heap.size) j (by omega)
  have f7_2 := fun j => d7 (w2.heap.size) j (by omega)
  have s7_3 : w3.heap.size < w7.heap.size := by omega
  have o7_3 := fun j => c7 (w3.heap.size) j (by omega)
  have f7_3 := fun j => d7 (w3.heap.size) j (by omega)
  clear c7 d7 hz7 hW7
  go_wp2_with fail
  refine call_bel (w := w) (by repeat' (first | (with_reducible exact Below.refl _ _) | (with_reducible assumption) | (with_reducible refine bdn ?_) | (with_reducible refine Below.alloc ?_ ?_ _) | (with_reducible refine Below.drew ?_) | (with_reducible refine Below.setCell ?_ ?_ _) | omega | (simp <;> omega))) (fun HB => cmp_c ea a.n a.d b.n b.d (chk b.n b.d) _ ia1 ia2 ib1 ib2 (gkeep HB hShape rfl) (gkeep HB hBound rfl) H_hC.out H_hB.out) ?_
  intro w8 hb8 hz8 c8 d8 hW8
  have t8 := hb8.size
  try simp only [World.size_alloc] at hz8 c8 d8
  try simp only [World.size_drew] at hz8 c8 d8
  try simp only [World.size_setCell] at hz8 c8 d8
  try simp only [World.heap_drewN] at hz8 c8 d8
  try simp only [World.size_alloc] at hz8 c8 d8
  try simp only [World.size_drew] at hz8 c8 d8
  try simp only [World.size_setCell] at hz8 c8 d8
  have s8_0 : w.heap.size < w8.heap.size := by omega
  have o8_0 := fun j => c8 (w.heap.size) j (by omega)
  have f8_0 := fun j => d8 (w.heap.size) j (by omega)
  have s8_1 : w.heap.size + 1 < w8.heap.size := by omega
  have o8_1 := fun j => c8 (w.heap.size + 1) j (by omega)
  have f8_1 := fun j => d8 (w.heap.size + 1) j (by omega)
  have s8_2 : w2.heap.size < w8.heap.size := by omega
  have o8_2 := fun j => c8 (w2.heap.size) j (by omega)
  have f8_2 := fun j => d8 (w2.heap.size) j (by omega)
  have s8_3 : w3.heap.size < w8.heap.size := by omega
  have o8_3 := fun j => c8 (w3.heap.size) j (by omega)
  have f8_3 := fun j => d8 (w3.heap.size) j (by omega)
  clear c8 d8 hz8 hW8
  go_wp2_with fail
  refine call_bel (w := w) (by repeat' (first | (with_reducible exact Below.refl _ _) | (with_reducible assumption) | (with_reducible refine bdn ?_) | (with_reducible refine Below.alloc ?_ ?_ _) | (with_reducible refine Below.drew ?_) | (with_reducible refine Below.setCell ?_ ?_ _) | omega | (simp <;> omega))) (fun HB => rfracerror_0 a.n a.d _ H_hA.out ia1 ia2) ?_
  intro w9 hb9 hz9 c9 d9 hW9
  have t9 := hb9.size
  try simp only [World.size_alloc] at hz9 c9 d9
  try simp only [World.size_drew] at hz9 c9 d9
  try simp only [World.size_setCell] at hz9 c9 d9
  try simp only [World.heap_drewN] at hz9 c9 d9
  try simp only [World.size_alloc] at hz9 c9 d9
  try simp only [World.size_drew] at hz9 c9 d9
  try simp only [World.size_setCell] at hz9 c9 d9
  have s9_0 : w.heap.size < w9.heap.size := by omega
  have o9_0 := fun j => c9 (w.heap.size) j (by omega)
  have f9_0 := fun j => d9 (w.heap.size) j (by omega)
  have s9_1 : w.heap.size + 1 < w9.heap.size := by omega
  have o9_1 := fun j => c9 (w.heap.size + 1) j (by omega)
  have f9_1 := fun j => d9 (w.heap.size + 1) j (by omega)
  have s9_2 : w2.heap.size < w9.heap.size := by omega
  have o9_2 := fun j => c9 (w2.heap.size) j (by omega)
  have f9_2 := fun j => d9 (w2.heap.size) j (by omega)
  have s9_3 : w3.heap.size < w9.heap.size := by omega
  have o9_3 := fun j => c9 (w3.heap.size) j (by omega)
  have f9_3 := fun j => d9 (w3.heap.size) j (by omega)
  clear c9 d9 hz9 hW9
  go_wp2_with fail
  refine call_bel (w := w) (by repeat' (first | (with_reducible exact Below.refl _ _) | (with_reducible assumption) | (with_reducible refine bdn ?_) | (with_reducible refine Below.alloc ?_ ?_ _) | (with_reducible refine Below.drew ?_) | (with_reducible refine Below.setCell ?_ ?_ _) | omega | (simp <;> omega))) (fun HB => rfracerror_any b.n b.d _ ib1 ib2) ?_
  intro w10 hb10 hz10 c10 d10 hW10
  have t10 := hb10.size
  try simp only [World.size_alloc] at hz10 c10 d10
  try simp only [World.size_drew] at hz10 c10 d10
  try simp only [World.size_setCell] at hz10 c10 d10
  try simp only [World.heap_drewN] at hz10 c10 d10
  try simp only [World.size_alloc] at hz10 c10 d10
  try simp only [World.size_drew] at hz10 c10 d10
  try simp only [World.size_setCell] at hz10 c10 d10
  have s10_0 : w.heap.size < w10.heap.size := by omega
  have o10_0 := fun j => c10 (w.heap.size) j (by omega)
  have f10_0 := fun j => d10 (w.heap.size) j (by omega)
  have s10_1 : w.heap.size + 1 < w10.heap.size := by omega
  have o10_1 := fun j => c10 (w.heap.size + 1) j (by omega)
  have f10_1 := fun j => d10 (w.heap.size + 1) j (by omega)
  have s10_2 : w2.heap.size < w10.heap.size := by omega
  have o10_2 := fun j => c10 (w2.heap.size) j (by omega)
  have f10_2 := fun j => d10 (w2.heap.size) j (by omega)
  have s10_3 : w3.heap.size < w10.heap.size := by omega
  have o10_3 := fun j => c10 (w3.heap.size) j (by omega)
  have f10_3 := fun j => d10 (w3.heap.size) j (by omega)
  clear c10 d10 hz10 hW10
  go_wp2_with fail
  refine call_bel (w := w) (by repeat' (first | (with_reducible exact Below.refl _ _) | (with_reducible assumption) | (with_reducible refine bdn ?_) | (with_reducible refine Below.alloc ?_ ?_ _) | (with_reducible refine Below.drew ?_) | (with_reducible refine Below.setCell ?_ ?_ _) | omega | (simp <;> omega))) (fun HB => coded1_t ea (chk b.n b.d) _ (chk_le11 _ _) (H_hS.out.keep HB rfl)) ?_
  intro w11 hb11 hz11 c11 d11 hW11
  have t11 := hb11.size
  try simp only [World.size_alloc] at hz11 c11 d11
  try simp only [World.size_drew] at hz11 c11 d11
  try simp only [World.size_setCell] at hz11 c11 d11
  try simp only [World.heap_drewN] at hz11 c11 d11
  try simp only [World.size_alloc] at hz11 c11 d11
  try simp only [World.size_drew] at hz11 c11 d11
  try simp only [World.size_setCell] at hz11 c11 d11
  have s11_0 : w.heap.size < w11.heap.size := by omega
  have o11_0 := fun j => c11 (w.heap.size) j (by omega)
  have f11_0 := fun j => d11 (w.heap.size) j (by omega)
  have s11_1 : w.heap.size + 1 < w11.heap.size := by omega
  have o11_1 := fun j => c11 (w.heap.size + 1) j (by omega)
  have f11_1 := fun j => d11 (w.heap.size + 1) j (by omega)
  have s11_2 : w2.heap.size < w11.heap.size := by omega
  have o11_2 := fun j => c11 (w2.heap.size) j (by omega)
  have f11_2 := fun j => d11 (w2.heap.size) j (by omega)
  have s11_3 : w3.heap.size < w11.heap.size := by omega
  have o11_3 := fun j => c11 (w3.heap.size) j (by omega)
  have f11_3 := fun j => d11 (w3.heap.size) j (by omega)
  clear c11 d11 hz11 hW11
  go_wp2_with fail
  go_returns
  exact ⟨rfl, by repeat' (first | (with_reducible exact Below.refl _ _) | (with_reducible assumption) | (with_reducible refine bdn ?_) | (with_reducible refine Below.alloc ?_ ?_ _) | (with_reducible refine Below.drew ?_) | (with_reducible refine Below.setCell ?_ ?_ _) | omega | (simp <;> omega))⟩

set_option maxHeartbeats 4000000 in
set_option maxRecDepth 100000 in
theorem mk_c1 (ea : Nat → Addr) (n d : Int) (a b : Fr) (s : ByteArray) (w : World) (hn : I64 n) (hd : I64 d) (ia : a.I) (ib : b.I) (hS : Sents ea w) (hL : Libs w) (h60 : s.size ≤ 60) (hA : chk a.n a.d = 0) (hB : chk b.n b.d = 0) (hR : rdC s.data.toList = 0) :
    Calls Tryd.prog 8 #[.int .i64 n, .int .i64 d, .agg #[.int .i64 a.n, .int .i64 a.d], .agg #[.int .i64 b.n, .int .i64 b.d], .string s] w fun e w' => e = .returned (.bool true) ∧ Below w.heap.size w w' := by
  have hText := hS.c1
  have hBound := hS.c2
  have hShape := hS.c3
  have hZero := hS.c11
  have htab := hL.tab
  have zhShape := zlt hShape
  have xhShape := zlts hShape
  have yhShape := zne hShape
  have zhBound := zlt hBound
  have xhBound := zlts hBound
  have yhBound := zne hBound
  have zhZero := zlt hZero
  have xhZero := zlts hZero
  have yhZero := zne hZero
  have zhText := zlt hText
  have xhText := zlts hText
  have yhText := zne hText
  obtain ⟨ia1, ia2⟩ := ia
  obtain ⟨ib1, ib2⟩ := ib
  have g2 : decide (60 < (s.size : Int)) = false := by simp; omega
  obtain ⟨q, hq⟩ : ∃ q, z0 (mkC n d) (lowN n d) = q := ⟨_, rfl⟩
  obtain ⟨r, hr⟩ : ∃ q, z0 (mkC n d) (lowD n d) = q := ⟨_, rfl⟩
  obtain ⟨q2, hq2⟩ : ∃ q, z0 (rdC s.data.toList) (rdN s.data.toList) = q := ⟨_, rfl⟩
  obtain ⟨r2, hr2⟩ : ∃ q, z0 (rdC s.data.toList) (rdD s.data.toList) = q := ⟨_, rfl⟩
  have g4 := chk_z0 hR
  have hT := rd_text2 hR hq2 hr2
  have H_hT := Lib.hid hT
  clear hT
  have g3 := chk_z0 hA
  have g5 := chk_q0 hB
  have hC : bothC a.n a.d b.n b.d = 0 := by unfold bothC; rw [if_pos hA]; exact hB
  have hRa := chk_0 hA
  have hRb := chk_0 hB
  obtain ⟨c, hcc⟩ : ∃ c, cmpI (a.n * b.d) (b.n * a.d) = c := ⟨_, rfl⟩
  have H_hA := Lib.hid hA
  clear hA
  have H_hB := Lib.hid hB
  clear hB
  have H_hC := Lib.hid hC
  clear hC
  have H_hRa := Lib.hid hRa
  clear hRa
  have H_hRb := Lib.hid hRb
  clear hRb
  have H_hcc := Lib.hid hcc
  clear hcc
  have H_hS := Lib.hid hS
  clear hS
  have H_htab := Lib.hid htab
  clear htab
  have H_hL := Lib.hid hL
  clear hL
  have H_hq := Lib.hid hq
  clear hq
  have H_hr := Lib.hid hr
  clear hr
  have H_hq2 := Lib.hid hq2
  clear hq2
  have H_hr2 := Lib.hid hr2
  clear hr2
  have H_hR := Lib.hid hR
  clear hR
  go_enter Tryd.func8, Tryd.ntmps8
  go_wp2_with fail
  refine call_bel (w := w) (by repeat' (first | (with_reducible exact Below.refl _ _) | (with_reducible assumption) | (with_reducible refine bdn ?_) | (with_reducible refine Below.alloc ?_ ?_ _) | (with_reducible refine Below.drew ?_) | (with_reducible refine Below.setCell ?_ ?_ _) | omega | (simp <;> omega))) (fun HB => halved_any ea _ (gkeep HB hBound rfl) (gkeep HB hZero rfl) (tab_keep H_htab.out HB rfl)) ?_
  intro w1 hb1 hz1 c1 d1 hW1
  have t1 := hb1.size
  try simp only [World.size_alloc] at hz1 c1 d1
  try simp only [World.size_drew] at hz1 c1 d1
  try simp only [World.size_setCell] at hz1 c1 d1
  try simp only [World.heap_drewN] at hz1 c1 d1
  try simp only [World.size_alloc] at hz1 c1 d1
  try simp only [World.size_drew] at hz1 c1 d1
  try simp only [World.size_setCell] at hz1 c1 d1
  have s1_0 : w.heap.size < w1.heap.size := by omega
  have o1_0 := fun j => c1 (w.heap.size) j (by omega)
  have f1_0 := fun j => d1 (w.heap.size) j (by omega)
  have s1_1 : w.heap.size + 1 < w1.heap.size := by omega
  have o1_1 := fun j => c1 (w.heap.size + 1) j (by omega)
  have f1_1 := fun j => d1 (w.heap.size + 1) j (by omega)
  clear c1 d1 hz1 hW1
  go_wp2_with fail
  refine call_bel (w := w) (by repeat' (first | (with_reducible exact Below.refl _ _) | (with_reducible assumption) | (with_reducible refine bdn ?_) | (with_reducible refine Below.alloc ?_ ?_ _) | (with_reducible refine Below.drew ?_) | (with_reducible refine Below.setCell ?_ ?_ _) | omega | (simp <;> omega))) (fun HB => fmake_any ea n d _ hn hd (gkeep HB hBound rfl) (gkeep HB hZero rfl)) ?_
  intro w2 hb2 hz2 c2 d2 hW2
  have t2 := hb2.size
  try simp only [World.size_alloc] at hz2 c2 d2
  try simp only [World.size_drew] at hz2 c2 d2
  try simp only [World.size_setCell] at hz2 c2 d2
  try simp only [World.heap_drewN] at hz2 c2 d2
  try simp only [World.size_alloc] at hz2 c2 d2
  try simp only [World.size_drew] at hz2 c2 d2
  try simp only [World.size_setCell] at hz2 c2 d2
  have s2_0 : w.heap.size < w2.heap.size := by omega
  have o2_0 := fun j => c2 (w.heap.size) j (by omega)
  have f2_0 := fun j => d2 (w.heap.size) j (by omega)
  have s2_1 : w.heap.size + 1 < w2.heap.size := by omega
  have o2_1 := fun j => c2 (w.heap.size + 1) j (by omega)
  have f2_1 := fun j => d2 (w.heap.size + 1) j (by omega)
  clear c2 d2 hz2 hW2
  rw [frV_z, H_hq.out, H_hr.out]
  go_wp2_with fail
  refine call_bel (w := w) (by repeat' (first | (with_reducible exact Below.refl _ _) | (with_reducible assumption) | (with_reducible refine bdn ?_) | (with_reducible refine Below.alloc ?_ ?_ _) | (with_reducible refine Below.drew ?_) | (with_reducible refine Below.setCell ?_ ?_ _) | omega | (simp <;> omega))) (fun HB => rfracmake_any n d _) ?_
  intro w3 hb3 hz3 c3 d3 hW3
  have t3 := hb3.size
  have e3_2 : Below w2.heap.size w2 w3 := below_via (by repeat' (first | (with_reducible exact Below.refl _ _) | (with_reducible assumption) | (with_reducible refine bdn ?_) | (with_reducible refine Below.alloc ?_ ?_ _) | (with_reducible refine Below.drew ?_) | (with_reducible refine Below.setCell ?_ ?_ _) | omega | (simp <;> omega))) hW3
  have te3_2 := e3_2.size
  try simp only [World.size_alloc] at hz3 c3 d3
  try simp only [World.size_drew] at hz3 c3 d3
  try simp only [World.size_setCell] at hz3 c3 d3
  try simp only [World.heap_drewN] at hz3 c3 d3
  try simp only [World.size_alloc] at hz3 c3 d3
  try simp only [World.size_drew] at hz3 c3 d3
  try simp only [World.size_setCell] at hz3 c3 d3
  have s3_0 : w.heap.size < w3.heap.size := by omega
  have o3_0 := fun j => c3 (w.heap.size) j (by omega)
  have f3_0 := fun j => d3 (w.heap.size) j (by omega)
  have s3_1 : w.heap.size + 1 < w3.heap.size := by omega
  have o3_1 := fun j => c3 (w.heap.size + 1) j (by omega)
  have f3_1 := fun j => d3 (w.heap.size + 1) j (by omega)
  have s3_2 : w2.heap.size < w3.heap.size := by omega
  have o3_2 := fun j => c3 (w2.heap.size) j (by omega)
  have f3_2 := fun j => d3 (w2.heap.size) j (by omega)
  clear c3 d3 hz3 hW3
  rw [frN, H_hq.out, H_hr.out]
  have p2 : ∀ j, w3.cell? ⟨w2.heap.size, j, none⟩ = #[Value.int .i64 q, Value.int .i64 r][j]? := fun j => by rw [o3_2]; exact World.cell?_alloc_new _ _ _ _
  have p0 : ∀ j, w3.cell? ⟨w.heap.size, j, none⟩ = #[Value.int .i64 a.n, Value.int .i64 a.d][j]? := fun j => by rw [o3_0, World.cell?_alloc_lt _ _ _ (by simp; omega), o2_0, o1_0, World.cell?_alloc_lt _ _ _ (by simp)]; exact World.cell?_alloc_new _ _ _ _
  have p1 : ∀ j, w3.cell? ⟨w.heap.size + 1, j, none⟩ = #[Value.int .i64 b.n, Value.int .i64 b.d][j]? := fun j => by rw [o3_1, World.cell?_alloc_lt _ _ _ (by simp; omega), o2_1, o1_1]; have hj := World.cell?_alloc_new (w.alloc (.cells #[.int .i64 a.n, .int .i64 a.d] 90)) #[.int .i64 b.n, .int .i64 b.d] 90 j; rw [World.size_alloc] at hj; exact hj
  have SK : ∀ W, Below (w3.heap.size + 1) (w3.alloc (.cells #[.int .i64 q, .int .i64 r] 90)) W → Below (w3.heap.size + 1) (w3.alloc (.cells #[.int .i64 q, .int .i64 r] 90)) W ∧ (∀ j, W.cell? ⟨w.heap.size, j, none⟩ = #[Value.int .i64 a.n, Value.int .i64 a.d][j]?) ∧ (∀ j, W.cell? ⟨w2.heap.size, j, none⟩ = #[Value.int .i64 q, Value.int .i64 r][j]?) ∧ (∀ j, W.cell? ⟨w3.heap.size, j, none⟩ = #[Value.int .i64 q, Value.int .i64 r][j]?) := by
    intro W h
    refine ⟨h, fun j => ?_, fun j => ?_, fun j => ?_⟩
    · rw [h.cell (by simp; omega), World.cell?_alloc_lt _ _ _ (by simp; omega)]; exact p0 j
    · rw [h.cell (by simp; omega), World.cell?_alloc_lt _ _ _ (by simp; omega)]; exact p2 j
    · rw [h.cell (by simp)]; exact World.cell?_alloc_new _ _ _ _
  have KB : ∀ W, Below (w3.heap.size + 1) (w3.alloc (.cells #[.int .i64 q, .int .i64 r] 90)) W → Below w3.heap.size w3 W := fun W h => ((Below.refl _ _).alloc (Nat.le_refl _) _).trans (h.mono (by omega))
  have HK : ∀ W, Below (w3.heap.size + 1) (w3.alloc (.cells #[.int .i64 q, .int .i64 r] 90)) W ∧ (∀ j, W.cell? ⟨w.heap.size, j, none⟩ = #[Value.int .i64 a.n, Value.int .i64 a.d][j]?) ∧ (∀ j, W.cell? ⟨w2.heap.size, j, none⟩ = #[Value.int .i64 q, Value.int .i64 r][j]?) ∧ (∀ j, W.cell? ⟨w3.heap.size, j, none⟩ = #[Value.int .i64 q, Value.int .i64 r][j]?) → W.cell? ⟨5, 0, none⟩ = some (.iface 312 (.pointer (some (ea 3)))) ∧ W.cell? ⟨1, 0, none⟩ = some (.iface 312 (.pointer (some (ea 2)))) ∧ Sents ea W := by
    intro W h
    have k' := hb3.trans ((KB W h.1).mono t3)
    exact ⟨gkeep k' hShape rfl, gkeep k' hBound rfl, H_hS.out.keep k' rfl⟩
  have pf2 := f3_2
  have H_SK := Lib.hid SK
  clear SK
  have H_KB := Lib.hid KB
  clear KB
  have H_HK := Lib.hid HK
  clear HK
  go_wp2_with fail
  clear o1_0 f1_0 o1_1 f1_1 o2_0 f2_0 o2_1 f2_1 o3_0 f3_0 o3_1 f3_1 o3_2 f3_2
  go_region_held3 (fun W => Below (w3.heap.size + 1) (w3.alloc (.cells #[.int .i64 q, .int .i64 r] 90)) W ∧ (∀ j, W.cell? ⟨w.heap.size, j, none⟩ = #[Value.int .i64 a.n, Value.int .i64 a.d][j]?) ∧ (∀ j, W.cell? ⟨w2.heap.size, j, none⟩ = #[Value.int .i64 q, Value.int .i64 r][j]?) ∧ (∀ j, W.cell? ⟨w3.heap.size, j, none⟩ = #[Value.int .i64 q, Value.int .i64 r][j]?)) (first | exact H_SK.out _ (Below.refl _ _).drew | exact H_SK.out _ (held_step (by simp) (by assumption) (by assumption)))
    (first | (go_at_call 45; (with_reducible refine (fcheck_any ea a.n a.d _ ia1 ia2 (H_HK.out _ (by assumption)).1 (H_HK.out _ (by assumption)).2.1).mono ?_); rintro e w' ⟨rfl, hbb⟩) | (go_at_call 46; (with_reducible refine (rfracerror_any a.n a.d _ ia1 ia2).mono ?_); rintro e w' ⟨rfl, hbb⟩) | (go_at_call 29; (with_reducible refine (coded1_t ea (mkC n d) _ (mkC_le n d) (H_HK.out _ (by assumption)).2.2).mono ?_); rintro e w' ⟨rfl, hbb⟩) | (go_at_call 29; (with_reducible refine (coded1_t ea (chk a.n a.d) _ (chk_le11 a.n a.d) (H_HK.out _ (by assumption)).2.2).mono ?_); rintro e w' ⟨rfl, hbb⟩))
  rename_i hh
  have hS1 := hh.1
  have o30_0 := hh.2.1
  have o30_2 := hh.2.2.1
  have o30_3 := hh.2.2.2
  clear hh
  generalize hW : w' = w30 at *
  clear hW hbb
  have e30_3 : Below w3.heap.size w3 w30 := H_KB.out _ hS1
  have hb30 : Below w.heap.size w w30 := hb3.trans (e30_3.mono t3)
  have e30_2 : Below w2.heap.size w2 w30 := e3_2.trans (e30_3.mono te3_2)
  have o30_1 : ∀ j, w30.cell? ⟨w.heap.size + 1, j, none⟩ = #[Value.int .i64 b.n, Value.int .i64 b.d][j]? := fun j => by rw [e30_3.cell (by simp; omega)]; exact p1 j
  have t30 : w3.heap.size + 1 ≤ w30.heap.size := by have := hS1.size; simpa using this
  have f30_2 : ∀ j, w30.frozen? ⟨w2.heap.size, j, none⟩ = (w2.alloc (.cells #[.int .i64 q, .int .i64 r] 90)).frozen? ⟨w2.heap.size, j, none⟩ := fun j => by rw [e30_3.frozen (by simp; omega)]; exact pf2 j
  have f30_3 : ∀ j, w30.frozen? ⟨w3.heap.size, j, none⟩ = (w3.alloc (.cells #[.int .i64 q, .int .i64 r] 90)).frozen? ⟨w3.heap.size, j, none⟩ := fun j => hS1.frozen (by simp)
  have s30_0 : w.heap.size < w30.heap.size := by omega
  have s30_1 : w.heap.size + 1 < w30.heap.size := by omega
  have s30_2 : w2.heap.size < w30.heap.size := by omega
  have s30_3 : w3.heap.size < w30.heap.size := by omega
  have SK8 : ∀ W, Below w30.heap.size w30 W → Below w30.heap.size w30 W ∧ (∀ j, W.cell? ⟨w.heap.size, j, none⟩ = #[Value.int .i64 a.n, Value.int .i64 a.d][j]?) := by
    intro W h
    refine ⟨h, fun j => ?_⟩
    rw [h.cell s30_0]; exact o30_0 j
  have HT8 : ∀ W, Below w30.heap.size w30 W ∧ (∀ j, W.cell? ⟨w.heap.size, j, none⟩ = #[Value.int .i64 a.n, Value.int .i64 a.d][j]?) → Lib.TabIs Tryd.prog W "internal/strconv.uint64pow10" .u64 Lib.pow10Tab := fun W h => tab_keep H_htab.out (hb30.trans (h.1.mono (by omega))) rfl
  have H_SK8 := Lib.hid SK8
  clear SK8
  have H_HT8 := Lib.hid HT8
  clear HT8
  go_wp2_with fail
  go_region_held3 (fun W => Below w30.heap.size w30 W ∧ (∀ j, W.cell? ⟨w.heap.size, j, none⟩ = #[Value.int .i64 a.n, Value.int .i64 a.d][j]?)) (first | exact H_SK8.out _ (Below.refl _ _).drew | exact H_SK8.out _ (Below.refl _ _) | exact H_SK8.out _ (held_step (by simp) (by assumption) (by assumption)))
    (first | (go_at_call 46; (with_reducible refine (rfracerror_0 a.n a.d _ H_hA.out ia1 ia2).mono ?_); rintro e w' ⟨rfl, hbb⟩) | (go_at_call 47; (with_reducible refine (ftext_any a.n a.d _ ia1 ia2 (H_HT8.out _ (by assumption))).mono ?_); rintro e w' ⟨rfl, hbb⟩) | (go_at_call 48; (with_reducible refine (rfractext_any a.n a.d _ ia1 ia2).mono ?_); rintro e w' ⟨rfl, hbb⟩))
  rename_i hh
  have hS8 := hh.1
  clear hh
  generalize hW : w' = w31 at *
  clear hW hbb
  have hb31 : Below w.heap.size w w31 := hb30.trans (hS8.mono (by omega))
  have t31 := hS8.size
  have o31_0 : ∀ j, w31.cell? ⟨w.heap.size, j, none⟩ = #[Value.int .i64 a.n, Value.int .i64 a.d][j]? := fun j => by rw [hS8.cell s30_0]; exact o30_0 j
  have o31_1 : ∀ j, w31.cell? ⟨w.heap.size + 1, j, none⟩ = #[Value.int .i64 b.n, Value.int .i64 b.d][j]? := fun j => by rw [hS8.cell s30_1]; exact o30_1 j
  have o31_2 : ∀ j, w31.cell? ⟨w2.heap.size, j, none⟩ = #[Value.int .i64 q, Value.int .i64 r][j]? := fun j => by rw [hS8.cell s30_2]; exact o30_2 j
  have o31_3 : ∀ j, w31.cell? ⟨w3.heap.size, j, none⟩ = #[Value.int .i64 q, Value.int .i64 r][j]? := fun j => by rw [hS8.cell s30_3]; exact o30_3 j
  have f31_2 : ∀ j, w31.frozen? ⟨w2.heap.size, j, none⟩ = (w2.alloc (.cells #[.int .i64 q, .int .i64 r] 90)).frozen? ⟨w2.heap.size, j, none⟩ := fun j => by rw [hS8.frozen s30_2]; exact f30_2 j
  have f31_3 : ∀ j, w31.frozen? ⟨w3.heap.size, j, none⟩ = (w3.alloc (.cells #[.int .i64 q, .int .i64 r] 90)).frozen? ⟨w3.heap.size, j, none⟩ := fun j => by rw [hS8.frozen s30_3]; exact f30_3 j
  have s31_0 : w.heap.size < w31.heap.size := by omega
  have s31_1 : w.heap.size + 1 < w31.heap.size := by omega
  have s31_2 : w2.heap.size < w31.heap.size := by omega
  have s31_3 : w3.heap.size < w31.heap.size := by omega
  clear hS8 o30_0 o30_1 o30_2 o30_3 f30_2 f30_3
  go_wp2_with fail
  refine call_bel (w := w) (by repeat' (first | (with_reducible exact Below.refl _ _) | (with_reducible assumption) | (with_reducible refine bdn ?_) | (with_reducible refine Below.alloc ?_ ?_ _) | (with_reducible refine Below.drew ?_) | (with_reducible refine Below.setCell ?_ ?_ _) | omega | (simp <;> omega))) (fun HB => fread_any ea s _ (by omega) (H_hL.out.keep HB rfl) (gkeep HB hText rfl) (gkeep HB hShape rfl) (gkeep HB hBound rfl)) ?_
  intro w4 hb4 hz4 c4 d4 hW4
  have t4 := hb4.size
  try simp only [World.size_alloc] at hz4 c4 d4
  try simp only [World.size_drew] at hz4 c4 d4
  try simp only [World.size_setCell] at hz4 c4 d4
  try simp only [World.heap_drewN] at hz4 c4 d4
  try simp only [World.size_alloc] at hz4 c4 d4
  try simp only [World.size_drew] at hz4 c4 d4
  try simp only [World.size_setCell] at hz4 c4 d4
  have s4_0 : w.heap.size < w4.heap.size := by omega
  have o4_0 := fun j => c4 (w.heap.size) j (by omega)
  have f4_0 := fun j => d4 (w.heap.size) j (by omega)
  have s4_1 : w.heap.size + 1 < w4.heap.size := by omega
  have o4_1 := fun j => c4 (w.heap.size + 1) j (by omega)
  have f4_1 := fun j => d4 (w.heap.size + 1) j (by omega)
  have s4_2 : w2.heap.size < w4.heap.size := by omega
  have o4_2 := fun j => c4 (w2.heap.size) j (by omega)
  have f4_2 := fun j => d4 (w2.heap.size) j (by omega)
  have s4_3 : w3.heap.size < w4.heap.size := by omega
  have o4_3 := fun j => c4 (w3.heap.size) j (by omega)
  have f4_3 := fun j => d4 (w3.heap.size) j (by omega)
  clear c4 d4 hz4 hW4
  rw [frV_z, H_hq2.out, H_hr2.out]
  go_wp2_with fail
  refine call_bel (w := w) (by repeat' (first | (with_reducible exact Below.refl _ _) | (with_reducible assumption) | (with_reducible refine bdn ?_) | (with_reducible refine Below.alloc ?_ ?_ _) | (with_reducible refine Below.drew ?_) | (with_reducible refine Below.setCell ?_ ?_ _) | omega | (simp <;> omega))) (fun HB => rfracof_any s _ (by omega)) ?_
  intro w5 hb5 hz5 c5 d5 hW5
  have t5 := hb5.size
  try simp only [World.size_alloc] at hz5 c5 d5
  try simp only [World.size_drew] at hz5 c5 d5
  try simp only [World.size_setCell] at hz5 c5 d5
  try simp only [World.heap_drewN] at hz5 c5 d5
  try simp only [World.size_alloc] at hz5 c5 d5
  try simp only [World.size_drew] at hz5 c5 d5
  try simp only [World.size_setCell] at hz5 c5 d5
  have s5_0 : w.heap.size < w5.heap.size := by omega
  have o5_0 := fun j => c5 (w.heap.size) j (by omega)
  have f5_0 := fun j => d5 (w.heap.size) j (by omega)
  have s5_1 : w.heap.size + 1 < w5.heap.size := by omega
  have o5_1 := fun j => c5 (w.heap.size + 1) j (by omega)
  have f5_1 := fun j => d5 (w.heap.size + 1) j (by omega)
  have s5_2 : w2.heap.size < w5.heap.size := by omega
  have o5_2 := fun j => c5 (w2.heap.size) j (by omega)
  have f5_2 := fun j => d5 (w2.heap.size) j (by omega)
  have s5_3 : w3.heap.size < w5.heap.size := by omega
  have o5_3 := fun j => c5 (w3.heap.size) j (by omega)
  have f5_3 := fun j => d5 (w3.heap.size) j (by omega)
  clear c5 d5 hz5 hW5
  rw [frN, H_hq2.out, H_hr2.out]
  go_wp2_with fail
  refine call_bel (w := w) (by repeat' (first | (with_reducible exact Below.refl _ _) | (with_reducible assumption) | (with_reducible refine bdn ?_) | (with_reducible refine Below.alloc ?_ ?_ _) | (with_reducible refine Below.drew ?_) | (with_reducible refine Below.setCell ?_ ?_ _) | omega | (simp <;> omega))) (fun HB => coded1_t ea (rdC s.data.toList) _ (rdC_le _) (H_hS.out.keep HB rfl)) ?_
  intro w6 hb6 hz6 c6 d6 hW6
  have t6 := hb6.size
  try simp only [World.size_alloc] at hz6 c6 d6
  try simp only [World.size_drew] at hz6 c6 d6
  try simp only [World.size_setCell] at hz6 c6 d6
  try simp only [World.heap_drewN] at hz6 c6 d6
  try simp only [World.size_alloc] at hz6 c6 d6
  try simp only [World.size_drew] at hz6 c6 d6
  try simp only [World.size_setCell] at hz6 c6 d6
  have s6_0 : w.heap.size < w6.heap.size := by omega
  have o6_0 := fun j => c6 (w.heap.size) j (by omega)
  have f6_0 := fun j => d6 (w.heap.size) j (by omega)
  have s6_1 : w.heap.size + 1 < w6.heap.size := by omega
  have o6_1 := fun j => c6 (w.heap.size + 1) j (by omega)
  have f6_1 := fun j => d6 (w.heap.size + 1) j (by omega)
  have s6_2 : w2.heap.size < w6.heap.size := by omega
  have o6_2 := fun j => c6 (w2.heap.size) j (by omega)
  have f6_2 := fun j => d6 (w2.heap.size) j (by omega)
  have s6_3 : w3.heap.size < w6.heap.size := by omega
  have o6_3 := fun j => c6 (w3.heap.size) j (by omega)
  have f6_3 := fun j => d6 (w3.heap.size) j (by omega)
  clear c6 d6 hz6 hW6
  go_wp2_with fail
  refine call_bel (w := w) (by repeat' (first | (with_reducible exact Below.refl _ _) | (with_reducible assumption) | (with_reducible refine bdn ?_) | (with_reducible refine Below.alloc ?_ ?_ _) | (with_reducible refine Below.drew ?_) | (with_reducible refine Below.setCell ?_ ?_ _) | omega | (simp <;> omega))) (fun HB => ftext_s q2 r2 s _ H_hT.out (tab_keep H_htab.out HB rfl)) ?_
  intro w7 hb7 hz7 c7 d7 hW7
  have t7 := hb7.size
  try simp only [World.size_alloc] at hz7 c7 d7
  try simp only [World.size_drew] at hz7 c7 d7
  try simp only [World.size_setCell] at hz7 c7 d7
  try simp only [World.heap_drewN] at hz7 c7 d7
  try simp only [World.size_alloc] at hz7 c7 d7
  try simp only [World.size_drew] at hz7 c7 d7
  try simp only [World.size_setCell] at hz7 c7 d7
  have s7_0 : w.heap.size < w7.heap.size := by omega
  have o7_0 := fun j => c7 (w.heap.size) j (by omega)
  have f7_0 := fun j => d7 (w.heap.size) j (by omega)
  have s7_1 : w.heap.size + 1 < w7.heap.size := by omega
  have o7_1 := fun j => c7 (w.heap.size + 1) j (by omega)
  have f7_1 := fun j => d7 (w.heap.size + 1) j (by omega)
  have s7_2 : w2.heap.size < w7.heap.size := by omega
  have o7_2 := fun j => c7 (w2.heap.size) j (by omega)
  have f7_2 := fun j => d7 (w2.heap.size) j (by omega)
  have s7_3 : w3.heap.size < w7.heap.size := by omega
  have o7_3 := fun j => c7 (w3.heap.size) j (by omega)
  have f7_3 := fun j => d7 (w3.heap.size) j (by omega)
  clear c7 d7 hz7 hW7
  go_wp2_with fail
  refine call_bel (w := w) (by repeat' (first | (with_reducible exact Below.refl _ _) | (with_reducible assumption) | (with_reducible refine bdn ?_) | (with_reducible refine Below.alloc ?_ ?_ _) | (with_reducible refine Below.drew ?_) | (with_reducible refine Below.setCell ?_ ?_ _) | omega | (simp <;> omega))) (fun HB => fcmp_0 ea a.n a.d b.n b.d c _ ia1 ia2 ib1 ib2 (gkeep HB hShape rfl) (gkeep HB hBound rfl) H_hC.out H_hcc.out) ?_
  intro w8 hb8 hz8 c8 d8 hW8
  have t8 := hb8.size
  try simp only [World.size_alloc] at hz8 c8 d8
  try simp only [World.size_drew] at hz8 c8 d8
  try simp only [World.size_setCell] at hz8 c8 d8
  try simp only [World.heap_drewN] at hz8 c8 d8
  try simp only [World.size_alloc] at hz8 c8 d8
  try simp only [World.size_drew] at hz8 c8 d8
  try simp only [World.size_setCell] at hz8 c8 d8
  have s8_0 : w.heap.size < w8.heap.size := by omega
  have o8_0 := fun j => c8 (w.heap.size) j (by omega)
  have f8_0 := fun j => d8 (w.heap.size) j (by omega)
  have s8_1 : w.heap.size + 1 < w8.heap.size := by omega
  have o8_1 := fun j => c8 (w.heap.size + 1) j (by omega)
  have f8_1 := fun j => d8 (w.heap.size + 1) j (by omega)
  have s8_2 : w2.heap.size < w8.heap.size := by omega
  have o8_2 := fun j => c8 (w2.heap.size) j (by omega)
  have f8_2 := fun j => d8 (w2.heap.size) j (by omega)
  have s8_3 : w3.heap.size < w8.heap.size := by omega
  have o8_3 := fun j => c8 (w3.heap.size) j (by omega)
  have f8_3 := fun j => d8 (w3.heap.size) j (by omega)
  clear c8 d8 hz8 hW8
  go_wp2_with fail
  refine call_bel (w := w) (by repeat' (first | (with_reducible exact Below.refl _ _) | (with_reducible assumption) | (with_reducible refine bdn ?_) | (with_reducible refine Below.alloc ?_ ?_ _) | (with_reducible refine Below.drew ?_) | (with_reducible refine Below.setCell ?_ ?_ _) | omega | (simp <;> omega))) (fun HB => rfracerror_0 a.n a.d _ H_hA.out ia1 ia2) ?_
  intro w9 hb9 hz9 c9 d9 hW9
  have t9 := hb9.size
  try simp only [World.size_alloc] at hz9 c9 d9
  try simp only [World.size_drew] at hz9 c9 d9
  try simp only [World.size_setCell] at hz9 c9 d9
  try simp only [World.heap_drewN] at hz9 c9 d9
  try simp only [World.size_alloc] at hz9 c9 d9
  try simp only [World.size_drew] at hz9 c9 d9
  try simp only [World.size_setCell] at hz9 c9 d9
  have s9_0 : w.heap.size < w9.heap.size := by omega
  have o9_0 := fun j => c9 (w.heap.size) j (by omega)
  have f9_0 := fun j => d9 (w.heap.size) j (by omega)
  have s9_1 : w.heap.size + 1 < w9.heap.size := by omega
  have o9_1 := fun j => c9 (w.heap.size + 1) j (by omega)
  have f9_1 := fun j => d9 (w.heap.size + 1) j (by omega)
  have s9_2 : w2.heap.size < w9.heap.size := by omega
  have o9_2 := fun j => c9 (w2.heap.size) j (by omega)
  have f9_2 := fun j => d9 (w2.heap.size) j (by omega)
  have s9_3 : w3.heap.size < w9.heap.size := by omega
  have o9_3 := fun j => c9 (w3.heap.size) j (by omega)
  have f9_3 := fun j => d9 (w3.heap.size) j (by omega)
  clear c9 d9 hz9 hW9
  go_wp2_with fail
  refine call_bel (w := w) (by repeat' (first | (with_reducible exact Below.refl _ _) | (with_reducible assumption) | (with_reducible refine bdn ?_) | (with_reducible refine Below.alloc ?_ ?_ _) | (with_reducible refine Below.drew ?_) | (with_reducible refine Below.setCell ?_ ?_ _) | omega | (simp <;> omega))) (fun HB => rfracerror_0 b.n b.d _ H_hB.out ib1 ib2) ?_
  intro w10 hb10 hz10 c10 d10 hW10
  have t10 := hb10.size
  try simp only [World.size_alloc] at hz10 c10 d10
  try simp only [World.size_drew] at hz10 c10 d10
  try simp only [World.size_setCell] at hz10 c10 d10
  try simp only [World.heap_drewN] at hz10 c10 d10
  try simp only [World.size_alloc] at hz10 c10 d10
  try simp only [World.size_drew] at hz10 c10 d10
  try simp only [World.size_setCell] at hz10 c10 d10
  have s10_0 : w.heap.size < w10.heap.size := by omega
  have o10_0 := fun j => c10 (w.heap.size) j (by omega)
  have f10_0 := fun j => d10 (w.heap.size) j (by omega)
  have s10_1 : w.heap.size + 1 < w10.heap.size := by omega
  have o10_1 := fun j => c10 (w.heap.size + 1) j (by omega)
  have f10_1 := fun j => d10 (w.heap.size + 1) j (by omega)
  have s10_2 : w2.heap.size < w10.heap.size := by omega
  have o10_2 := fun j => c10 (w2.heap.size) j (by omega)
  have f10_2 := fun j => d10 (w2.heap.size) j (by omega)
  have s10_3 : w3.heap.size < w10.heap.size := by omega
  have o10_3 := fun j => c10 (w3.heap.size) j (by omega)
  have f10_3 := fun j => d10 (w3.heap.size) j (by omega)
  clear c10 d10 hz10 hW10
  go_wp2_with fail
  refine call_bel (w := w) (by repeat' (first | (with_reducible exact Below.refl _ _) | (with_reducible assumption) | (with_reducible refine bdn ?_) | (with_reducible refine Below.alloc ?_ ?_ _) | (with_reducible refine Below.drew ?_) | (with_reducible refine Below.setCell ?_ ?_ _) | omega | (simp <;> omega))) (fun HB => fcmpr_c a.n a.d b.n b.d c _ H_hRa.out H_hRb.out H_hcc.out) ?_
  intro w11 hb11 hz11 c11 d11 hW11
  have t11 := hb11.size
  try simp only [World.size_alloc] at hz11 c11 d11
  try simp only [World.size_drew] at hz11 c11 d11
  try simp only [World.size_setCell] at hz11 c11 d11
  try simp only [World.heap_drewN] at hz11 c11 d11
  try simp only [World.size_alloc] at hz11 c11 d11
  try simp only [World.size_drew] at hz11 c11 d11
  try simp only [World.size_setCell] at hz11 c11 d11
  have s11_0 : w.heap.size < w11.heap.size := by omega
  have o11_0 := fun j => c11 (w.heap.size) j (by omega)
  have f11_0 := fun j => d11 (w.heap.size) j (by omega)
  have s11_1 : w.heap.size + 1 < w11.heap.size := by omega
  have o11_1 := fun j => c11 (w.heap.size + 1) j (by omega)
  have f11_1 := fun j => d11 (w.heap.size + 1) j (by omega)
  have s11_2 : w2.heap.size < w11.heap.size := by omega
  have o11_2 := fun j => c11 (w2.heap.size) j (by omega)
  have f11_2 := fun j => d11 (w2.heap.size) j (by omega)
  have s11_3 : w3.heap.size < w11.heap.size := by omega
  have o11_3 := fun j => c11 (w3.heap.size) j (by omega)
  have f11_3 := fun j => d11 (w3.heap.size) j (by omega)
  clear c11 d11 hz11 hW11
  go_wp2_with fail
  go_returns
  exact ⟨rfl, by repeat' (first | (with_reducible exact Below.refl _ _) | (with_reducible assumption) | (with_reducible refine bdn ?_) | (with_reducible refine Below.alloc ?_ ?_ _) | (with_reducible refine Below.drew ?_) | (with_reducible refine Below.setCell ?_ ?_ _) | omega | (simp <;> omega))⟩

end Go.Proofs.YthijgncjaophjaaDoor
