/-
  The walk over the statement MoveThens.
-/
import Derived.Test.YtogfphojfkdcgaaDoorMvd
namespace Lead
open Go Go.RowKit
theorem thenC_ne {m n : Mv} (h : ¬ thenC m n = (0, none)) : (thenC m n).1 ≠ 0 := by
  rcases thenC_cases m n with ⟨k, e⟩ | ⟨_, k, e⟩ | ⟨_, _, _, e⟩ | ⟨_, _, _, e⟩
  · rw [e]; exact k
  · rw [e]; exact k
  · rw [e]; decide
  · exact absurd e h
theorem atC_ne {m : Mv} {p : Pt} (h : ¬ atC m p = (0, none)) : (atC m p).1 ≠ 0 := by
  rcases at_cases m p with ⟨k, e⟩ | ⟨_, k, e⟩ | ⟨_, _, k, e⟩ | ⟨_, _, _, _, e⟩ | ⟨_, _, _, _, e⟩
  · rw [e]; exact k
  · rw [e]; exact k
  · rw [e]; exact k
  · rw [e]; decide
  · exact absurd e h
theorem thenV_z {m n : Mv} (h : ¬ thenC m n = (0, none)) : thenV m n = ⟨⟨0, 0⟩, ⟨0, 0⟩, ⟨0, 0⟩, ⟨0, 0⟩, ⟨0, 0⟩, ⟨0, 0⟩⟩ := if_neg h
theorem then_R {m n : Mv} (h : thenC m n = (0, none)) : (thenV m n).R := (then_is h).1
theorem at_R {m : Mv} {p : Pt} (h : atC m p = (0, none)) : (atV m p).R := by
  obtain ⟨h1, h2, h3, h4⟩ := at_ok h
  rw [h4]
  exact (mvPt_val h1 h2 h3).1
/-- A block of twelve cells, made ahead of a call or behind it: madeM_first behind two calls. -/
theorem madeM_ahead {w0 X Y W : World} {T : Nat} (h1 : Below w0.heap.size w0 X) (h2 : Below (X.alloc (.cells #[.int .i64 0, .int .i64 0, .int .i64 0, .int .i64 0, .int .i64 0, .int .i64 0, .int .i64 0, .int .i64 0, .int .i64 0, .int .i64 0, .int .i64 0, .int .i64 0] T)).heap.size (X.alloc (.cells #[.int .i64 0, .int .i64 0, .int .i64 0, .int .i64 0, .int .i64 0, .int .i64 0, .int .i64 0, .int .i64 0, .int .i64 0, .int .i64 0, .int .i64 0, .int .i64 0] T)) Y) (h3 : Below Y.heap.size Y W) (v0 v1 v2 v3 v4 v5 v6 v7 v8 v9 v10 v11 : Value) :
    MadeM w0 (#[v0, v1, v2, v3, v4, v5, v6, v7, v8, v9, v10, v11] : Array Value) (.pointer (some ⟨X.heap.size, 0, none⟩)) ((((((((((((W.setCell ⟨X.heap.size, 0, none⟩ v0).setCell ⟨X.heap.size, 1, none⟩ v1).setCell ⟨X.heap.size, 2, none⟩ v2).setCell ⟨X.heap.size, 3, none⟩ v3).setCell ⟨X.heap.size, 4, none⟩ v4).setCell ⟨X.heap.size, 5, none⟩ v5).setCell ⟨X.heap.size, 6, none⟩ v6).setCell ⟨X.heap.size, 7, none⟩ v7).setCell ⟨X.heap.size, 8, none⟩ v8).setCell ⟨X.heap.size, 9, none⟩ v9).setCell ⟨X.heap.size, 10, none⟩ v10).setCell ⟨X.heap.size, 11, none⟩ v11) :=
  madeM_first h1 (h2.trans (h3.mono h2.size)) v0 v1 v2 v3 v4 v5 v6 v7 v8 v9 v10 v11
end Lead
namespace Go.Proofs.YtogfphojfkdcgaaDoor
open Go.RowKit Lead
variable {gz : Bool}

theorem mthen_one (ea : Nat → Addr) (m : Mv) (w : World) (hR : m.R) (hG : Gs gz ea w) (hsz : 13 ≤ w.heap.size) :
    Calls Tryd.prog 17 #[.agg #[.int .i64 m.A.n, .int .i64 m.A.d, .int .i64 m.B.n, .int .i64 m.B.d, .int .i64 m.C.n, .int .i64 m.C.d, .int .i64 m.D.n, .int .i64 m.D.d, .int .i64 m.E.n, .int .i64 m.E.d, .int .i64 m.F.n, .int .i64 m.F.d], .agg #[.int .i64 1, .int .i64 1, .int .i64 0, .int .i64 1, .int .i64 0, .int .i64 1, .int .i64 1, .int .i64 1, .int .i64 0, .int .i64 1, .int .i64 0, .int .i64 1]] w fun e w' => e = .returned (.tuple #[.agg #[.int .i64 m.A.n, .int .i64 m.A.d, .int .i64 m.B.n, .int .i64 m.B.d, .int .i64 m.C.n, .int .i64 m.C.d, .int .i64 m.D.n, .int .i64 m.D.d, .int .i64 m.E.n, .int .i64 m.E.d, .int .i64 m.F.n, .int .i64 m.F.d], .nilIface]) ∧ Below w.heap.size w w' := by
  obtain ⟨h1, h2⟩ := then_one hR
  have h := mthen_any ea m oneM w hR.I oneM_R.I hG hsz
  rw [h1, h2] at h
  exact h.mono fun e w' ⟨x, he, hx, hb⟩ => by
    obtain rfl := hx.nil rfl
    exact ⟨he, hb⟩
theorem mone_then (ea : Nat → Addr) (m : Mv) (w : World) (hR : m.R) (hG : Gs gz ea w) (hsz : 13 ≤ w.heap.size) :
    Calls Tryd.prog 17 #[.agg #[.int .i64 1, .int .i64 1, .int .i64 0, .int .i64 1, .int .i64 0, .int .i64 1, .int .i64 1, .int .i64 1, .int .i64 0, .int .i64 1, .int .i64 0, .int .i64 1], .agg #[.int .i64 m.A.n, .int .i64 m.A.d, .int .i64 m.B.n, .int .i64 m.B.d, .int .i64 m.C.n, .int .i64 m.C.d, .int .i64 m.D.n, .int .i64 m.D.d, .int .i64 m.E.n, .int .i64 m.E.d, .int .i64 m.F.n, .int .i64 m.F.d]] w fun e w' => e = .returned (.tuple #[.agg #[.int .i64 m.A.n, .int .i64 m.A.d, .int .i64 m.B.n, .int .i64 m.B.d, .int .i64 m.C.n, .int .i64 m.C.d, .int .i64 m.D.n, .int .i64 m.D.d, .int .i64 m.E.n, .int .i64 m.E.d, .int .i64 m.F.n, .int .i64 m.F.d], .nilIface]) ∧ Below w.heap.size w w' := by
  obtain ⟨h1, h2⟩ := one_then hR
  have h := mthen_any ea oneM m w oneM_R.I hR.I hG hsz
  rw [h1, h2] at h
  exact h.mono fun e w' ⟨x, he, hx, hb⟩ => by
    obtain rfl := hx.nil rfl
    exact ⟨he, hb⟩
theorem res_as (tmps : Array Value) (w0 : World) (g : Nat) (v0 v1 v2 v3 v4 v5 v6 v7 v8 v9 v10 v11 : Value) (h2 : tmps[2]?.getD undef = .pointer (some ⟨g, 0, none⟩)) (hc : ∀ j, w0.cell? ⟨g, j, none⟩ = (#[v0, v1, v2, v3, v4, v5, v6, v7, v8, v9, v10, v11] : Array Value)[j]?) :
    (results Tryd.f16 tmps).run Tryd.prog w0 = .ok (.agg #[v0, v1, v2, v3, v4, v5, v6, v7, v8, v9, v10, v11]) w0 := by
  simp [results, Tryd.results16, go_sem, h2, hc]
set_option maxHeartbeats 1000000 in
set_option maxRecDepth 100000 in
theorem asmove_any (m : Mv) (w : World) : Calls Tryd.prog 16 #[.agg #[.int .i64 m.A.n, .int .i64 m.A.d, .int .i64 m.B.n, .int .i64 m.B.d, .int .i64 m.C.n, .int .i64 m.C.d, .int .i64 m.D.n, .int .i64 m.D.d, .int .i64 m.E.n, .int .i64 m.E.d, .int .i64 m.F.n, .int .i64 m.F.d]] w fun e w' => e = .returned (.agg #[.int .i64 m.A.n, .int .i64 m.A.d, .int .i64 m.B.n, .int .i64 m.B.d, .int .i64 m.C.n, .int .i64 m.C.d, .int .i64 m.D.n, .int .i64 m.D.d, .int .i64 m.E.n, .int .i64 m.E.d, .int .i64 m.F.n, .int .i64 m.F.d]) ∧ Below w.heap.size w w' := by
  go_enter Tryd.func16, Tryd.ntmps16
  ((try go_simp); (repeat go_step))
  refine bodyPost_ret (by simp [results, Tryd.results16, go_sem]; try rfl) rfl ?_
  exact ⟨rfl, by repeat' (first | (with_reducible exact Below.refl _ _) | (with_reducible assumption) | (with_reducible refine bdn ?_) | (with_reducible refine Below.alloc ?_ ?_ _) | (with_reducible refine Below.drew ?_) | (with_reducible refine Below.setCell ?_ ?_ _) | omega | (simp <;> omega))⟩

set_option maxHeartbeats 2000000 in
set_option maxRecDepth 100000 in
theorem th_err (ea : Nat → Addr) (a b c : Mv) (p : Pt) (w : World) (ia : a.I) (ib : b.I) (ic : c.I) (ip : p.I) (hL : Libs w) (hG : Gs gz ea w) (hng : 13 ≤ w.heap.size) (hText : w.cell? ⟨2, 0, none⟩ = some (.iface 147 (.pointer (some (ea 1))))) (h : ¬ thenC a b = (0, none)) :
    Calls Tryd.prog 4 #[.agg #[.int .i64 a.A.n, .int .i64 a.A.d, .int .i64 a.B.n, .int .i64 a.B.d, .int .i64 a.C.n, .int .i64 a.C.d, .int .i64 a.D.n, .int .i64 a.D.d, .int .i64 a.E.n, .int .i64 a.E.d, .int .i64 a.F.n, .int .i64 a.F.d], .agg #[.int .i64 b.A.n, .int .i64 b.A.d, .int .i64 b.B.n, .int .i64 b.B.d, .int .i64 b.C.n, .int .i64 b.C.d, .int .i64 b.D.n, .int .i64 b.D.d, .int .i64 b.E.n, .int .i64 b.E.d, .int .i64 b.F.n, .int .i64 b.F.d], .agg #[.int .i64 c.A.n, .int .i64 c.A.d, .int .i64 c.B.n, .int .i64 c.B.d, .int .i64 c.C.n, .int .i64 c.C.d, .int .i64 c.D.n, .int .i64 c.D.d, .int .i64 c.E.n, .int .i64 c.E.d, .int .i64 c.F.n, .int .i64 c.F.d], .agg #[.int .i64 p.xn, .int .i64 p.xd, .int .i64 p.yn, .int .i64 p.yd]] w fun e w' => e = .returned (.bool true) ∧ Below w.heap.size w w' := by
  have zhText := zlt hText
  have xhText := zlts hText
  have yhText := zne hText
  have hc1 := thenC_ne h
  have hv := thenV_z h
  obtain ⟨cc, hc⟩ : ∃ cc, thenC a b = cc := ⟨_, rfl⟩
  rw [hc] at hc1
  clear h
  have H_hL := Lib.hid hL
  clear hL
  have H_hG := Lib.hid hG
  clear hG
  have H_ia := Lib.hid ia
  clear ia
  have H_ib := Lib.hid ib
  clear ib
  have H_ic := Lib.hid ic
  clear ic
  have H_ip := Lib.hid ip
  clear ip
  have H_hc1 := Lib.hid hc1
  clear hc1
  have H_hv := Lib.hid hv
  clear hv
  have H_hc := Lib.hid hc
  clear hc
  go_enter Tryd.func4, Tryd.ntmps4
  ((try go_simp); (repeat go_step))
  refine call_bel (w := w) (by repeat' (first | (with_reducible exact Below.refl _ _) | (with_reducible assumption) | (with_reducible refine bdn ?_) | (with_reducible refine Below.alloc ?_ ?_ _) | (with_reducible refine Below.drew ?_) | (with_reducible refine Below.setCell ?_ ?_ _) | omega | (simp <;> omega))) (fun HB => moved_any ea _ (H_hL.out.keep HB rfl) (H_hG.out.keep HB rfl) (Nat.le_trans hng HB.size) (gkeep HB hText rfl)) ?_
  intro w1 hb1 hz1 c1 d1 hW1
  have t1 := hb1.size
  try simp only [World.size_alloc] at hz1 c1 d1
  try simp only [World.size_drew] at hz1 c1 d1
  try simp only [World.size_setCell] at hz1 c1 d1
  try simp only [World.heap_drewN] at hz1 c1 d1
  try simp only [World.size_alloc] at hz1 c1 d1
  try simp only [World.size_drew] at hz1 c1 d1
  try simp only [World.size_setCell] at hz1 c1 d1
  have s1_0 : w.heap.size < w1.heap.size := by omega
  have o1_0 := fun j => c1 (w.heap.size) j (by omega)
  have f1_0 := fun j => d1 (w.heap.size) j (by omega)
  have s1_1 : w.heap.size + 1 < w1.heap.size := by omega
  have o1_1 := fun j => c1 (w.heap.size + 1) j (by omega)
  have f1_1 := fun j => d1 (w.heap.size + 1) j (by omega)
  have s1_2 : w.heap.size + 1 + 1 < w1.heap.size := by omega
  have o1_2 := fun j => c1 (w.heap.size + 1 + 1) j (by omega)
  have f1_2 := fun j => d1 (w.heap.size + 1 + 1) j (by omega)
  have s1_3 : w.heap.size + 1 + 1 + 1 < w1.heap.size := by omega
  have o1_3 := fun j => c1 (w.heap.size + 1 + 1 + 1) j (by omega)
  have f1_3 := fun j => d1 (w.heap.size + 1 + 1 + 1) j (by omega)
  clear c1 d1 hz1 hW1
  ((try go_simp); (repeat go_step))
  refine call_bel (w := w) (by repeat' (first | (with_reducible exact Below.refl _ _) | (with_reducible assumption) | (with_reducible refine bdn ?_) | (with_reducible refine Below.alloc ?_ ?_ _) | (with_reducible refine Below.drew ?_) | (with_reducible refine Below.setCell ?_ ?_ _) | omega | (simp <;> omega))) (fun HB => asmove_any a _) ?_
  intro w2 hb2 hz2 c2 d2 hW2
  have t2 := hb2.size
  try simp only [World.size_alloc] at hz2 c2 d2
  try simp only [World.size_drew] at hz2 c2 d2
  try simp only [World.size_setCell] at hz2 c2 d2
  try simp only [World.heap_drewN] at hz2 c2 d2
  try simp only [World.size_alloc] at hz2 c2 d2
  try simp only [World.size_drew] at hz2 c2 d2
  try simp only [World.size_setCell] at hz2 c2 d2
  have s2_0 : w.heap.size < w2.heap.size := by omega
  have o2_0 := fun j => c2 (w.heap.size) j (by omega)
  have f2_0 := fun j => d2 (w.heap.size) j (by omega)
  have s2_1 : w.heap.size + 1 < w2.heap.size := by omega
  have o2_1 := fun j => c2 (w.heap.size + 1) j (by omega)
  have f2_1 := fun j => d2 (w.heap.size + 1) j (by omega)
  have s2_2 : w.heap.size + 1 + 1 < w2.heap.size := by omega
  have o2_2 := fun j => c2 (w.heap.size + 1 + 1) j (by omega)
  have f2_2 := fun j => d2 (w.heap.size + 1 + 1) j (by omega)
  have s2_3 : w.heap.size + 1 + 1 + 1 < w2.heap.size := by omega
  have o2_3 := fun j => c2 (w.heap.size + 1 + 1 + 1) j (by omega)
  have f2_3 := fun j => d2 (w.heap.size + 1 + 1 + 1) j (by omega)
  clear c2 d2 hz2 hW2
  ((try go_simp); (repeat go_step))
  refine call_bel (w := w) (by repeat' (first | (with_reducible exact Below.refl _ _) | (with_reducible assumption) | (with_reducible refine bdn ?_) | (with_reducible refine Below.alloc ?_ ?_ _) | (with_reducible refine Below.drew ?_) | (with_reducible refine Below.setCell ?_ ?_ _) | omega | (simp <;> omega))) (fun HB => asmove_any b _) ?_
  intro w3 hb3 hz3 c3 d3 hW3
  have t3 := hb3.size
  try simp only [World.size_alloc] at hz3 c3 d3
  try simp only [World.size_drew] at hz3 c3 d3
  try simp only [World.size_setCell] at hz3 c3 d3
  try simp only [World.heap_drewN] at hz3 c3 d3
  try simp only [World.size_alloc] at hz3 c3 d3
  try simp only [World.size_drew] at hz3 c3 d3
  try simp only [World.size_setCell] at hz3 c3 d3
  have s3_0 : w.heap.size + 1 < w3.heap.size := by omega
  have o3_0 := fun j => c3 (w.heap.size + 1) j (by omega)
  have f3_0 := fun j => d3 (w.heap.size + 1) j (by omega)
  have s3_1 : w.heap.size + 1 + 1 < w3.heap.size := by omega
  have o3_1 := fun j => c3 (w.heap.size + 1 + 1) j (by omega)
  have f3_1 := fun j => d3 (w.heap.size + 1 + 1) j (by omega)
  have s3_2 : w.heap.size + 1 + 1 + 1 < w3.heap.size := by omega
  have o3_2 := fun j => c3 (w.heap.size + 1 + 1 + 1) j (by omega)
  have f3_2 := fun j => d3 (w.heap.size + 1 + 1 + 1) j (by omega)
  have s3_3 : w2.heap.size < w3.heap.size := by omega
  have o3_3 := fun j => c3 (w2.heap.size) j (by omega)
  have f3_3 := fun j => d3 (w2.heap.size) j (by omega)
  clear c3 d3 hz3 hW3
  ((try go_simp); (repeat go_step))
  refine call_bel (w := w) (by repeat' (first | (with_reducible exact Below.refl _ _) | (with_reducible assumption) | (with_reducible refine bdn ?_) | (with_reducible refine Below.alloc ?_ ?_ _) | (with_reducible refine Below.drew ?_) | (with_reducible refine Below.setCell ?_ ?_ _) | omega | (simp <;> omega))) (fun HB => asmove_any c _) ?_
  intro w4 hb4 hz4 c4 d4 hW4
  have t4 := hb4.size
  try simp only [World.size_alloc] at hz4 c4 d4
  try simp only [World.size_drew] at hz4 c4 d4
  try simp only [World.size_setCell] at hz4 c4 d4
  try simp only [World.heap_drewN] at hz4 c4 d4
  try simp only [World.size_alloc] at hz4 c4 d4
  try simp only [World.size_drew] at hz4 c4 d4
  try simp only [World.size_setCell] at hz4 c4 d4
  have s4_0 : w.heap.size + 1 + 1 < w4.heap.size := by omega
  have o4_0 := fun j => c4 (w.heap.size + 1 + 1) j (by omega)
  have f4_0 := fun j => d4 (w.heap.size + 1 + 1) j (by omega)
  have s4_1 : w.heap.size + 1 + 1 + 1 < w4.heap.size := by omega
  have o4_1 := fun j => c4 (w.heap.size + 1 + 1 + 1) j (by omega)
  have f4_1 := fun j => d4 (w.heap.size + 1 + 1 + 1) j (by omega)
  have s4_2 : w2.heap.size < w4.heap.size := by omega
  have o4_2 := fun j => c4 (w2.heap.size) j (by omega)
  have f4_2 := fun j => d4 (w2.heap.size) j (by omega)
  have s4_3 : w3.heap.size < w4.heap.size := by omega
  have o4_3 := fun j => c4 (w3.heap.size) j (by omega)
  have f4_3 := fun j => d4 (w3.heap.size) j (by omega)
  clear c4 d4 hz4 hW4
  ((try go_simp); (repeat go_step))
  refine call_me (w := w) (by repeat' (first | (with_reducible exact Below.refl _ _) | (with_reducible assumption) | (with_reducible refine bdn ?_) | (with_reducible refine Below.alloc ?_ ?_ _) | (with_reducible refine Below.drew ?_) | (with_reducible refine Below.setCell ?_ ?_ _) | omega | (simp <;> omega))) (fun HB => mthen_any ea a b _ H_ia.out H_ib.out (H_hG.out.keep HB rfl) (Nat.le_trans hng HB.size)) ?_
  rw [H_hv.out, H_hc.out]
  intro x5 w5 hx5 hb5 hz5 c5 d5 hW5
  have t5 := hb5.size
  try simp only [World.size_alloc] at hz5 c5 d5
  try simp only [World.size_drew] at hz5 c5 d5
  try simp only [World.size_setCell] at hz5 c5 d5
  try simp only [World.heap_drewN] at hz5 c5 d5
  try simp only [World.size_alloc] at hz5 c5 d5
  try simp only [World.size_drew] at hz5 c5 d5
  try simp only [World.size_setCell] at hz5 c5 d5
  have s5_0 : w.heap.size + 1 + 1 + 1 < w5.heap.size := by omega
  have o5_0 := fun j => c5 (w.heap.size + 1 + 1 + 1) j (by omega)
  have f5_0 := fun j => d5 (w.heap.size + 1 + 1 + 1) j (by omega)
  have s5_1 : w2.heap.size < w5.heap.size := by omega
  have o5_1 := fun j => c5 (w2.heap.size) j (by omega)
  have f5_1 := fun j => d5 (w2.heap.size) j (by omega)
  have s5_2 : w3.heap.size < w5.heap.size := by omega
  have o5_2 := fun j => c5 (w3.heap.size) j (by omega)
  have f5_2 := fun j => d5 (w3.heap.size) j (by omega)
  have s5_3 : w4.heap.size < w5.heap.size := by omega
  have o5_3 := fun j => c5 (w4.heap.size) j (by omega)
  have f5_3 := fun j => d5 (w4.heap.size) j (by omega)
  clear c5 d5 hz5 hW5
  obtain ⟨tt, aa, rfl⟩ := hx5.some H_hc1.out
  clear hx5
  ((try go_simp); (repeat go_step))
  go_returns
  exact ⟨rfl, by repeat' (first | (with_reducible exact Below.refl _ _) | (with_reducible assumption) | (with_reducible refine bdn ?_) | (with_reducible refine Below.alloc ?_ ?_ _) | (with_reducible refine Below.drew ?_) | (with_reducible refine Below.setCell ?_ ?_ _) | omega | (simp <;> omega))⟩

set_option maxHeartbeats 8000000 in
set_option maxRecDepth 100000 in
theorem th_ok1 (ea : Nat → Addr) (a b c : Mv) (p : Pt) (w : World) (ia : a.I) (ib : b.I) (ic : c.I) (ip : p.I) (hL : Libs w) (hG : Gs gz ea w) (hng : 13 ≤ w.heap.size) (hText : w.cell? ⟨2, 0, none⟩ = some (.iface 147 (.pointer (some (ea 1))))) (h : thenC a b = (0, none)) (hat : ¬ atC a p = (0, none)) :
    Calls Tryd.prog 4 #[.agg #[.int .i64 a.A.n, .int .i64 a.A.d, .int .i64 a.B.n, .int .i64 a.B.d, .int .i64 a.C.n, .int .i64 a.C.d, .int .i64 a.D.n, .int .i64 a.D.d, .int .i64 a.E.n, .int .i64 a.E.d, .int .i64 a.F.n, .int .i64 a.F.d], .agg #[.int .i64 b.A.n, .int .i64 b.A.d, .int .i64 b.B.n, .int .i64 b.B.d, .int .i64 b.C.n, .int .i64 b.C.d, .int .i64 b.D.n, .int .i64 b.D.d, .int .i64 b.E.n, .int .i64 b.E.d, .int .i64 b.F.n, .int .i64 b.F.d], .agg #[.int .i64 c.A.n, .int .i64 c.A.d, .int .i64 c.B.n, .int .i64 c.B.d, .int .i64 c.C.n, .int .i64 c.C.d, .int .i64 c.D.n, .int .i64 c.D.d, .int .i64 c.E.n, .int .i64 c.E.d, .int .i64 c.F.n, .int .i64 c.F.d], .agg #[.int .i64 p.xn, .int .i64 p.xd, .int .i64 p.yn, .int .i64 p.yd]] w fun e w' => e = .returned (.bool true) ∧ Below w.heap.size w w' := by
  have zhText := zlt hText
  have xhText := zlts hText
  have yhText := zne hText
  have Rx := then_R h
  obtain ⟨x, hv⟩ : ∃ x, thenV a b = x := ⟨_, rfl⟩
  rw [hv] at Rx
  have ix := Rx.I
  have Ra := (Lead.then_ok h).1
  have hc := h
  have na := atC_ne hat
  have va := atV_n na
  obtain ⟨ca, hca⟩ : ∃ q, atC a p = q := ⟨_, rfl⟩
  rw [hca] at na
  clear hat
  have H_hL := Lib.hid hL
  clear hL
  have H_hG := Lib.hid hG
  clear hG
  have H_ia := Lib.hid ia
  clear ia
  have H_ib := Lib.hid ib
  clear ib
  have H_ic := Lib.hid ic
  clear ic
  have H_ip := Lib.hid ip
  clear ip
  have H_hv := Lib.hid hv
  clear hv
  have H_hc := Lib.hid hc
  clear hc
  have H_h := Lib.hid h
  clear h
  have H_Ra := Lib.hid Ra
  clear Ra
  have H_Rx := Lib.hid Rx
  clear Rx
  have H_ix := Lib.hid ix
  clear ix
  have H_na := Lib.hid na
  clear na
  have H_va := Lib.hid va
  clear va
  have H_hca := Lib.hid hca
  clear hca
  go_enter Tryd.func4, Tryd.ntmps4
  ((try go_simp); (repeat go_step))
  refine call_bel (w := w) (by repeat' (first | (with_reducible exact Below.refl _ _) | (with_reducible assumption) | (with_reducible refine bdn ?_) | (with_reducible refine Below.alloc ?_ ?_ _) | (with_reducible refine Below.drew ?_) | (with_reducible refine Below.setCell ?_ ?_ _) | omega | (simp <;> omega))) (fun HB => moved_any ea _ (H_hL.out.keep HB rfl) (H_hG.out.keep HB rfl) (Nat.le_trans hng HB.size) (gkeep HB hText rfl)) ?_
  intro w1 hb1 hz1 c1 d1 hW1
  have t1 := hb1.size
  try simp only [World.size_alloc] at hz1 c1 d1
  try simp only [World.size_drew] at hz1 c1 d1
  try simp only [World.size_setCell] at hz1 c1 d1
  try simp only [World.heap_drewN] at hz1 c1 d1
  try simp only [World.size_alloc] at hz1 c1 d1
  try simp only [World.size_drew] at hz1 c1 d1
  try simp only [World.size_setCell] at hz1 c1 d1
  have s1_0 : w.heap.size < w1.heap.size := by omega
  have o1_0 := fun j => c1 (w.heap.size) j (by omega)
  have f1_0 := fun j => d1 (w.heap.size) j (by omega)
  have s1_1 : w.heap.size + 1 < w1.heap.size := by omega
  have o1_1 := fun j => c1 (w.heap.size + 1) j (by omega)
  have f1_1 := fun j => d1 (w.heap.size + 1) j (by omega)
  have s1_2 : w.heap.size + 1 + 1 < w1.heap.size := by omega
  have o1_2 := fun j => c1 (w.heap.size + 1 + 1) j (by omega)
  have f1_2 := fun j => d1 (w.heap.size + 1 + 1) j (by omega)
  have s1_3 : w.heap.size + 1 + 1 + 1 < w1.heap.size := by omega
  have o1_3 := fun j => c1 (w.heap.size + 1 + 1 + 1) j (by omega)
  have f1_3 := fun j => d1 (w.heap.size + 1 + 1 + 1) j (by omega)
  clear c1 d1 hz1 hW1
  ((try go_simp); (repeat go_step))
  refine call_bel (w := w) (by repeat' (first | (with_reducible exact Below.refl _ _) | (with_reducible assumption) | (with_reducible refine bdn ?_) | (with_reducible refine Below.alloc ?_ ?_ _) | (with_reducible refine Below.drew ?_) | (with_reducible refine Below.setCell ?_ ?_ _) | omega | (simp <;> omega))) (fun HB => asmove_any a _) ?_
  intro w2 hb2 hz2 c2 d2 hW2
  have t2 := hb2.size
  try simp only [World.size_alloc] at hz2 c2 d2
  try simp only [World.size_drew] at hz2 c2 d2
  try simp only [World.size_setCell] at hz2 c2 d2
  try simp only [World.heap_drewN] at hz2 c2 d2
  try simp only [World.size_alloc] at hz2 c2 d2
  try simp only [World.size_drew] at hz2 c2 d2
  try simp only [World.size_setCell] at hz2 c2 d2
  have s2_0 : w.heap.size < w2.heap.size := by omega
  have o2_0 := fun j => c2 (w.heap.size) j (by omega)
  have f2_0 := fun j => d2 (w.heap.size) j (by omega)
  have s2_1 : w.heap.size + 1 < w2.heap.size := by omega
  have o2_1 := fun j => c2 (w.heap.size + 1) j (by omega)
  have f2_1 := fun j => d2 (w.heap.size + 1) j (by omega)
  have s2_2 : w.heap.size + 1 + 1 < w2.heap.size := by omega
  have o2_2 := fun j => c2 (w.heap.size + 1 + 1) j (by omega)
  have f2_2 := fun j => d2 (w.heap.size + 1 + 1) j (by omega)
  have s2_3 : w.heap.size + 1 + 1 + 1 < w2.heap.size := by omega
  have o2_3 := fun j => c2 (w.heap.size + 1 + 1 + 1) j (by omega)
  have f2_3 := fun j => d2 (w.heap.size + 1 + 1 + 1) j (by omega)
  clear c2 d2 hz2 hW2
  ((try go_simp); (repeat go_step))
  refine call_bel (w := w) (by repeat' (first | (with_reducible exact Below.refl _ _) | (with_reducible assumption) | (with_reducible refine bdn ?_) | (with_reducible refine Below.alloc ?_ ?_ _) | (with_reducible refine Below.drew ?_) | (with_reducible refine Below.setCell ?_ ?_ _) | omega | (simp <;> omega))) (fun HB => asmove_any b _) ?_
  intro w3 hb3 hz3 c3 d3 hW3
  have t3 := hb3.size
  try simp only [World.size_alloc] at hz3 c3 d3
  try simp only [World.size_drew] at hz3 c3 d3
  try simp only [World.size_setCell] at hz3 c3 d3
  try simp only [World.heap_drewN] at hz3 c3 d3
  try simp only [World.size_alloc] at hz3 c3 d3
  try simp only [World.size_drew] at hz3 c3 d3
  try simp only [World.size_setCell] at hz3 c3 d3
  have s3_0 : w.heap.size + 1 < w3.heap.size := by omega
  have o3_0 := fun j => c3 (w.heap.size + 1) j (by omega)
  have f3_0 := fun j => d3 (w.heap.size + 1) j (by omega)
  have s3_1 : w.heap.size + 1 + 1 < w3.heap.size := by omega
  have o3_1 := fun j => c3 (w.heap.size + 1 + 1) j (by omega)
  have f3_1 := fun j => d3 (w.heap.size + 1 + 1) j (by omega)
  have s3_2 : w.heap.size + 1 + 1 + 1 < w3.heap.size := by omega
  have o3_2 := fun j => c3 (w.heap.size + 1 + 1 + 1) j (by omega)
  have f3_2 := fun j => d3 (w.heap.size + 1 + 1 + 1) j (by omega)
  have s3_3 : w2.heap.size < w3.heap.size := by omega
  have o3_3 := fun j => c3 (w2.heap.size) j (by omega)
  have f3_3 := fun j => d3 (w2.heap.size) j (by omega)
  clear c3 d3 hz3 hW3
  ((try go_simp); (repeat go_step))
  refine call_bel (w := w) (by repeat' (first | (with_reducible exact Below.refl _ _) | (with_reducible assumption) | (with_reducible refine bdn ?_) | (with_reducible refine Below.alloc ?_ ?_ _) | (with_reducible refine Below.drew ?_) | (with_reducible refine Below.setCell ?_ ?_ _) | omega | (simp <;> omega))) (fun HB => asmove_any c _) ?_
  intro w4 hb4 hz4 c4 d4 hW4
  have t4 := hb4.size
  try simp only [World.size_alloc] at hz4 c4 d4
  try simp only [World.size_drew] at hz4 c4 d4
  try simp only [World.size_setCell] at hz4 c4 d4
  try simp only [World.heap_drewN] at hz4 c4 d4
  try simp only [World.size_alloc] at hz4 c4 d4
  try simp only [World.size_drew] at hz4 c4 d4
  try simp only [World.size_setCell] at hz4 c4 d4
  have s4_0 : w.heap.size + 1 + 1 < w4.heap.size := by omega
  have o4_0 := fun j => c4 (w.heap.size + 1 + 1) j (by omega)
  have f4_0 := fun j => d4 (w.heap.size + 1 + 1) j (by omega)
  have s4_1 : w.heap.size + 1 + 1 + 1 < w4.heap.size := by omega
  have o4_1 := fun j => c4 (w.heap.size + 1 + 1 + 1) j (by omega)
  have f4_1 := fun j => d4 (w.heap.size + 1 + 1 + 1) j (by omega)
  have s4_2 : w2.heap.size < w4.heap.size := by omega
  have o4_2 := fun j => c4 (w2.heap.size) j (by omega)
  have f4_2 := fun j => d4 (w2.heap.size) j (by omega)
  have s4_3 : w3.heap.size < w4.heap.size := by omega
  have o4_3 := fun j => c4 (w3.heap.size) j (by omega)
  have f4_3 := fun j => d4 (w3.heap.size) j (by omega)
  clear c4 d4 hz4 hW4
  ((try go_simp); (repeat go_step))
  refine call_me (w := w) (by repeat' (first | (with_reducible exact Below.refl _ _) | (with_reducible assumption) | (with_reducible refine bdn ?_) | (with_reducible refine Below.alloc ?_ ?_ _) | (with_reducible refine Below.drew ?_) | (with_reducible refine Below.setCell ?_ ?_ _) | omega | (simp <;> omega))) (fun HB => mthen_any ea a b _ H_ia.out H_ib.out (H_hG.out.keep HB rfl) (Nat.le_trans hng HB.size)) ?_
  rw [H_hv.out, H_hc.out]
  intro x5 w5 hx5 hb5 hz5 c5 d5 hW5
  have t5 := hb5.size
  try simp only [World.size_alloc] at hz5 c5 d5
  try simp only [World.size_drew] at hz5 c5 d5
  try simp only [World.size_setCell] at hz5 c5 d5
  try simp only [World.heap_drewN] at hz5 c5 d5
  try simp only [World.size_alloc] at hz5 c5 d5
  try simp only [World.size_drew] at hz5 c5 d5
  try simp only [World.size_setCell] at hz5 c5 d5
  have s5_0 : w.heap.size + 1 + 1 + 1 < w5.heap.size := by omega
  have o5_0 := fun j => c5 (w.heap.size + 1 + 1 + 1) j (by omega)
  have f5_0 := fun j => d5 (w.heap.size + 1 + 1 + 1) j (by omega)
  have s5_1 : w2.heap.size < w5.heap.size := by omega
  have o5_1 := fun j => c5 (w2.heap.size) j (by omega)
  have f5_1 := fun j => d5 (w2.heap.size) j (by omega)
  have s5_2 : w3.heap.size < w5.heap.size := by omega
  have o5_2 := fun j => c5 (w3.heap.size) j (by omega)
  have f5_2 := fun j => d5 (w3.heap.size) j (by omega)
  have s5_3 : w4.heap.size < w5.heap.size := by omega
  have o5_3 := fun j => c5 (w4.heap.size) j (by omega)
  have f5_3 := fun j => d5 (w4.heap.size) j (by omega)
  clear c5 d5 hz5 hW5
  obtain rfl := hx5.nil rfl
  clear hx5
  go_upto_region 10 with fail
  obtain ⟨wz, hwz⟩ : ∃ u, w5.alloc (.cells #[.int .i64 x.A.n, .int .i64 x.A.d, .int .i64 x.B.n, .int .i64 x.B.d, .int .i64 x.C.n, .int .i64 x.C.d, .int .i64 x.D.n, .int .i64 x.D.d, .int .i64 x.E.n, .int .i64 x.E.d, .int .i64 x.F.n, .int .i64 x.F.d] 36) = u := ⟨_, rfl⟩
  have hBz : Below w.heap.size w wz := by rw [← hwz]; exact hb5.alloc t5 _
  have kx : ∀ j, wz.cell? ⟨w5.heap.size, j, none⟩ = #[.int .i64 x.A.n, .int .i64 x.A.d, .int .i64 x.B.n, .int .i64 x.B.d, .int .i64 x.C.n, .int .i64 x.C.d, .int .i64 x.D.n, .int .i64 x.D.d, .int .i64 x.E.n, .int .i64 x.E.d, .int .i64 x.F.n, .int .i64 x.F.d][j]? := fun j => by rw [← hwz, World.cell?_alloc_new]
  have ka : ∀ j, wz.cell? ⟨w2.heap.size, j, none⟩ = #[.int .i64 a.A.n, .int .i64 a.A.d, .int .i64 a.B.n, .int .i64 a.B.d, .int .i64 a.C.n, .int .i64 a.C.d, .int .i64 a.D.n, .int .i64 a.D.d, .int .i64 a.E.n, .int .i64 a.E.d, .int .i64 a.F.n, .int .i64 a.F.d][j]? := fun j => by rw [← hwz, World.cell?_alloc_past _ _ _ s5_1, o5_1, World.cell?_alloc_past _ _ _ s4_2, o4_2, World.cell?_alloc_past _ _ _ s3_3, o3_3, World.cell?_alloc_new]
  have kb : ∀ j, wz.cell? ⟨w3.heap.size, j, none⟩ = #[.int .i64 b.A.n, .int .i64 b.A.d, .int .i64 b.B.n, .int .i64 b.B.d, .int .i64 b.C.n, .int .i64 b.C.d, .int .i64 b.D.n, .int .i64 b.D.d, .int .i64 b.E.n, .int .i64 b.E.d, .int .i64 b.F.n, .int .i64 b.F.d][j]? := fun j => by rw [← hwz, World.cell?_alloc_past _ _ _ s5_2, o5_2, World.cell?_alloc_past _ _ _ s4_3, o4_3, World.cell?_alloc_new]
  have kc : ∀ j, wz.cell? ⟨w4.heap.size, j, none⟩ = #[.int .i64 c.A.n, .int .i64 c.A.d, .int .i64 c.B.n, .int .i64 c.B.d, .int .i64 c.C.n, .int .i64 c.C.d, .int .i64 c.D.n, .int .i64 c.D.d, .int .i64 c.E.n, .int .i64 c.E.d, .int .i64 c.F.n, .int .i64 c.F.d][j]? := fun j => by rw [← hwz, World.cell?_alloc_past _ _ _ s5_3, o5_3, World.cell?_alloc_new]
  have kp : ∀ j, wz.cell? ⟨w.heap.size + 1 + 1 + 1, j, none⟩ = #[Value.int .i64 p.xn, .int .i64 p.xd, .int .i64 p.yn, .int .i64 p.yd][j]? := fun j => by rw [← hwz, World.cell?_alloc_past _ _ _ s5_0, o5_0, World.cell?_alloc_past _ _ _ s4_1, o4_1, World.cell?_alloc_past _ _ _ s3_2, o3_2, World.cell?_alloc_past _ _ _ s2_3, o2_3, o1_3, World.cell?_alloc_at _ _ _ _ (by simp)]
  have zz : wz.heap.size = w5.heap.size + 1 := by rw [← hwz]; simp
  have za : w2.heap.size < wz.heap.size := by omega
  have zb : w3.heap.size < wz.heap.size := by omega
  have zc : w4.heap.size < wz.heap.size := by omega
  have zx : w5.heap.size < wz.heap.size := by omega
  have zp : w.heap.size + 1 + 1 + 1 < wz.heap.size := by omega
  have hGz := H_hG.out.keep hBz rfl
  rw [hwz]
  clear o1_0 f1_0 o1_1 f1_1 o1_2 f1_2 o1_3 f1_3 o2_0 f2_0 o2_1 f2_1 o2_2 f2_2 o2_3 f2_3 o3_0 f3_0 o3_1 f3_1 o3_2 f3_2 o3_3 f3_3 o4_0 f4_0 o4_1 f4_1 o4_2 f4_2 o4_3 f4_3 o5_0 f5_0 o5_1 f5_1 o5_2 f5_2 o5_3 f5_3 hwz
  clear s1_0 s1_1 s1_2 s1_3 s2_0 s2_1 s2_2 s2_3 s3_0 s3_1 s3_2 s3_3 s4_0 s4_1 s4_2 s4_3 s5_0 s5_1 s5_2 s5_3 hb1 hb2 hb3 hb4 hb5
  have H_zz := Lib.hid zz
  clear zz
  have H_hGz := Lib.hid hGz
  clear hGz
  have SK : ∀ W, Below wz.heap.size wz W → Below wz.heap.size wz W ∧ ∀ j, W.cell? ⟨w2.heap.size, j, none⟩ = #[.int .i64 a.A.n, .int .i64 a.A.d, .int .i64 a.B.n, .int .i64 a.B.d, .int .i64 a.C.n, .int .i64 a.C.d, .int .i64 a.D.n, .int .i64 a.D.d, .int .i64 a.E.n, .int .i64 a.E.d, .int .i64 a.F.n, .int .i64 a.F.d][j]? := fun W h => ⟨h, fun j => by rw [h.cell (p := ⟨w2.heap.size, j, none⟩) za]; exact ka j⟩
  have H_SK := Lib.hid SK
  clear SK
  go_cut [15, 16] (fun s1 s2 wx => MadeM wz #[.int .i64 a.A.n, .int .i64 a.A.d, .int .i64 a.B.n, .int .i64 a.B.d, .int .i64 a.C.n, .int .i64 a.C.d, .int .i64 a.D.n, .int .i64 a.D.d, .int .i64 a.E.n, .int .i64 a.E.d, .int .i64 a.F.n, .int .i64 a.F.d] s1 wx ∧ s2 = .nilIface)
  case first =>
    go_region_held3 (fun W => Below wz.heap.size wz W ∧ ∀ j, W.cell? ⟨w2.heap.size, j, none⟩ = #[.int .i64 a.A.n, .int .i64 a.A.d, .int .i64 a.B.n, .int .i64 a.B.d, .int .i64 a.C.n, .int .i64 a.C.d, .int .i64 a.D.n, .int .i64 a.D.d, .int .i64 a.E.n, .int .i64 a.E.d, .int .i64 a.F.n, .int .i64 a.F.d][j]?) (exact H_SK.out _ (by repeat' (first | (with_reducible exact Below.refl _ _) | (with_reducible assumption) | (with_reducible refine bdn ?_) | (with_reducible refine Below.alloc ?_ ?_ _) | (with_reducible refine Below.drew ?_) | (with_reducible refine Below.setCell ?_ ?_ _) | omega | (simp <;> omega))))
      (first | (go_at_call 17; go_must ((with_reducible refine (mthen_one (gz := gz) ea a _ H_Ra.out ?qG ?qn).mono ?_); (case qG => exact H_hGz.out.keep (B := wz.heap.size) (by repeat' (first | (with_reducible exact Below.refl _ _) | (with_reducible assumption) | (with_reducible refine bdn ?_) | (with_reducible refine Below.alloc ?_ ?_ _) | (with_reducible refine Below.drew ?_) | (with_reducible refine Below.setCell ?_ ?_ _) | omega | (simp <;> omega))) rfl); (case qn => (have hq1 := (hBz).size; have hq2 := hbU.size; (try simp only [World.size_alloc, World.size_drew]); omega)); rintro en wV ⟨rfl, hV⟩; have hbV : Below wz.heap.size wz wV := below_via (by repeat' (first | (with_reducible exact Below.refl _ _) | (with_reducible assumption) | (with_reducible refine bdn ?_) | (with_reducible refine Below.alloc ?_ ?_ _) | (with_reducible refine Below.drew ?_) | (with_reducible refine Below.setCell ?_ ?_ _) | omega | (simp <;> omega))) hV; have tV := hbV.size; (try have zV0 : wz.heap.size < wV.heap.size := Nat.lt_of_lt_of_le zU0 hV.size); (try have oV0 := fun j => hV.cell (p := ⟨wz.heap.size, j, none⟩) zU0); (try have fV0 := fun j => hV.frozen (p := ⟨wz.heap.size, j, none⟩) zU0); (try have zV1 : wU.heap.size < wV.heap.size := Nat.lt_of_lt_of_le (by simp only [World.size_alloc, World.size_drew]; exact Nat.lt_succ_self _) hV.size); (try have oV1 := fun j => hV.cell (p := ⟨wU.heap.size, j, none⟩) (by simp only [World.size_alloc, World.size_drew]; exact Nat.lt_succ_self _)); (try have fV1 := fun j => hV.frozen (p := ⟨wU.heap.size, j, none⟩) (by simp only [World.size_alloc, World.size_drew]; exact Nat.lt_succ_self _)))) | ((with_reducible refine (mone_any _).mono ?_); rintro en wU ⟨rfl, hU⟩; have hbU : Below wz.heap.size wz wU := below_via (by repeat' (first | (with_reducible exact Below.refl _ _) | (with_reducible assumption) | (with_reducible refine bdn ?_) | (with_reducible refine Below.alloc ?_ ?_ _) | (with_reducible refine Below.drew ?_) | (with_reducible refine Below.setCell ?_ ?_ _) | omega | (simp <;> omega))) hU; have tU := hbU.size; (try have zU0 : wz.heap.size < wU.heap.size := Nat.lt_of_lt_of_le (by simp only [World.size_alloc, World.size_drew]; exact Nat.lt_succ_self _) hU.size); (try have oU0 := fun j => hU.cell (p := ⟨wz.heap.size, j, none⟩) (by simp only [World.size_alloc, World.size_drew]; exact Nat.lt_succ_self _)); (try have fU0 := fun j => hU.frozen (p := ⟨wz.heap.size, j, none⟩) (by simp only [World.size_alloc, World.size_drew]; exact Nat.lt_succ_self _))))
    all_goals
      ((try go_simp); (repeat go_step))
      go_meet
      refine ⟨?_, rfl⟩
      first | with_reducible exact madeM_last hbV _ | with_reducible exact madeM_first hbU hV _ _ _ _ _ _ _ _ _ _ _ _ | with_reducible exact madeM_ahead (Below.refl _ _) hU hV _ _ _ _ _ _ _ _ _ _ _ _ | with_reducible exact madeM_ahead (Below.refl _ _).drew hU hV _ _ _ _ _ _ _ _ _ _ _ _ | with_reducible exact madeM_ahead (Below.refl _ _) (Below.undrew hU) hV _ _ _ _ _ _ _ _ _ _ _ _ | trace_state
  case rest =>
    obtain ⟨⟨g1, rfl, kg1, hg1, lg1, hBy⟩, rfl⟩ := hcut
    rename World => wy
    have tBy := hBy.size
    have hBy' := below_via hBz hBy
    have kx' := fun j => (hBy.cell (p := ⟨w5.heap.size, j, none⟩) zx).trans (kx j)
    have ka' := fun j => (hBy.cell (p := ⟨w2.heap.size, j, none⟩) za).trans (ka j)
    have kb' := fun j => (hBy.cell (p := ⟨w3.heap.size, j, none⟩) zb).trans (kb j)
    have kc' := fun j => (hBy.cell (p := ⟨w4.heap.size, j, none⟩) zc).trans (kc j)
    have kp' := fun j => (hBy.cell (p := ⟨w.heap.size + 1 + 1 + 1, j, none⟩) zp).trans (kp j)
    have za' : w2.heap.size < wy.heap.size := by omega
    have zb' : w3.heap.size < wy.heap.size := by omega
    have zc' : w4.heap.size < wy.heap.size := by omega
    have zx' : w5.heap.size < wy.heap.size := by omega
    have zp' : w.heap.size + 1 + 1 + 1 < wy.heap.size := by omega
    have hGy := H_hG.out.keep hBy' rfl
    clear kx ka kb kc kp za zb zc zx zp H_hGz H_SK hBz hBy hg1 tBy H_zz
    clear wz
    have H_hGy := Lib.hid hGy
    clear hGy
    go_upto_region 11 with fail
    have SK : ∀ W, Below wy.heap.size wy W → Below wy.heap.size wy W ∧ ∀ j, W.cell? ⟨w2.heap.size, j, none⟩ = #[.int .i64 a.A.n, .int .i64 a.A.d, .int .i64 a.B.n, .int .i64 a.B.d, .int .i64 a.C.n, .int .i64 a.C.d, .int .i64 a.D.n, .int .i64 a.D.d, .int .i64 a.E.n, .int .i64 a.E.d, .int .i64 a.F.n, .int .i64 a.F.d][j]? := fun W h => ⟨h, fun j => by rw [h.cell (p := ⟨w2.heap.size, j, none⟩) za']; exact ka' j⟩
    have H_SK := Lib.hid SK
    clear SK
    go_cut [17, 18] (fun s1 s2 wx => MadeM wy #[.int .i64 a.A.n, .int .i64 a.A.d, .int .i64 a.B.n, .int .i64 a.B.d, .int .i64 a.C.n, .int .i64 a.C.d, .int .i64 a.D.n, .int .i64 a.D.d, .int .i64 a.E.n, .int .i64 a.E.d, .int .i64 a.F.n, .int .i64 a.F.d] s1 wx ∧ s2 = .nilIface)
    case first =>
      go_region_held3 (fun W => Below wy.heap.size wy W ∧ ∀ j, W.cell? ⟨w2.heap.size, j, none⟩ = #[.int .i64 a.A.n, .int .i64 a.A.d, .int .i64 a.B.n, .int .i64 a.B.d, .int .i64 a.C.n, .int .i64 a.C.d, .int .i64 a.D.n, .int .i64 a.D.d, .int .i64 a.E.n, .int .i64 a.E.d, .int .i64 a.F.n, .int .i64 a.F.d][j]?) (exact H_SK.out _ (by repeat' (first | (with_reducible exact Below.refl _ _) | (with_reducible assumption) | (with_reducible refine bdn ?_) | (with_reducible refine Below.alloc ?_ ?_ _) | (with_reducible refine Below.drew ?_) | (with_reducible refine Below.setCell ?_ ?_ _) | omega | (simp <;> omega))))
        (first | (go_at_call 17; go_must ((with_reducible refine (mone_then (gz := gz) ea a _ H_Ra.out ?qG ?qn).mono ?_); (case qG => exact H_hGy.out.keep (B := wy.heap.size) (by repeat' (first | (with_reducible exact Below.refl _ _) | (with_reducible assumption) | (with_reducible refine bdn ?_) | (with_reducible refine Below.alloc ?_ ?_ _) | (with_reducible refine Below.drew ?_) | (with_reducible refine Below.setCell ?_ ?_ _) | omega | (simp <;> omega))) rfl); (case qn => (have hq1 := (hBy').size; have hq2 := hbU.size; (try simp only [World.size_alloc, World.size_drew]); omega)); rintro en wV ⟨rfl, hV⟩; have hbV : Below wy.heap.size wy wV := below_via (by repeat' (first | (with_reducible exact Below.refl _ _) | (with_reducible assumption) | (with_reducible refine bdn ?_) | (with_reducible refine Below.alloc ?_ ?_ _) | (with_reducible refine Below.drew ?_) | (with_reducible refine Below.setCell ?_ ?_ _) | omega | (simp <;> omega))) hV; have tV := hbV.size; (try have zV0 : wy.heap.size < wV.heap.size := Nat.lt_of_lt_of_le zU0 hV.size); (try have oV0 := fun j => hV.cell (p := ⟨wy.heap.size, j, none⟩) zU0); (try have fV0 := fun j => hV.frozen (p := ⟨wy.heap.size, j, none⟩) zU0); (try have zV1 : wU.heap.size < wV.heap.size := Nat.lt_of_lt_of_le (by simp only [World.size_alloc, World.size_drew]; exact Nat.lt_succ_self _) hV.size); (try have oV1 := fun j => hV.cell (p := ⟨wU.heap.size, j, none⟩) (by simp only [World.size_alloc, World.size_drew]; exact Nat.lt_succ_self _)); (try have fV1 := fun j => hV.frozen (p := ⟨wU.heap.size, j, none⟩) (by simp only [World.size_alloc, World.size_drew]; exact Nat.lt_succ_self _)))) | ((with_reducible refine (mone_any _).mono ?_); rintro en wU ⟨rfl, hU⟩; have hbU : Below wy.heap.size wy wU := below_via (by repeat' (first | (with_reducible exact Below.refl _ _) | (with_reducible assumption) | (with_reducible refine bdn ?_) | (with_reducible refine Below.alloc ?_ ?_ _) | (with_reducible refine Below.drew ?_) | (with_reducible refine Below.setCell ?_ ?_ _) | omega | (simp <;> omega))) hU; have tU := hbU.size; (try have zU0 : wy.heap.size < wU.heap.size := Nat.lt_of_lt_of_le (by simp only [World.size_alloc, World.size_drew]; exact Nat.lt_succ_self _) hU.size); (try have oU0 := fun j => hU.cell (p := ⟨wy.heap.size, j, none⟩) (by simp only [World.size_alloc, World.size_drew]; exact Nat.lt_succ_self _)); (try have fU0 := fun j => hU.frozen (p := ⟨wy.heap.size, j, none⟩) (by simp only [World.size_alloc, World.size_drew]; exact Nat.lt_succ_self _))))
      all_goals
        ((try go_simp); (repeat go_step))
        go_meet
        refine ⟨?_, rfl⟩
        first | with_reducible exact madeM_last hbV _ | with_reducible exact madeM_first hbU hV _ _ _ _ _ _ _ _ _ _ _ _ | with_reducible exact madeM_ahead (Below.refl _ _) hU hV _ _ _ _ _ _ _ _ _ _ _ _ | with_reducible exact madeM_ahead (Below.refl _ _).drew hU hV _ _ _ _ _ _ _ _ _ _ _ _ | with_reducible exact madeM_ahead (Below.refl _ _) (Below.undrew hU) hV _ _ _ _ _ _ _ _ _ _ _ _ | trace_state
    case rest =>
      obtain ⟨⟨g2, rfl, kg2, hg2, lg2, hBq⟩, rfl⟩ := hcut
      rename World => wq
      have tBq := hBq.size
      have hBq' := below_via hBy' hBq
      have kx := fun j => (hBq.cell (p := ⟨w5.heap.size, j, none⟩) zx').trans (kx' j)
      have ka := fun j => (hBq.cell (p := ⟨w2.heap.size, j, none⟩) za').trans (ka' j)
      have kb := fun j => (hBq.cell (p := ⟨w3.heap.size, j, none⟩) zb').trans (kb' j)
      have kc := fun j => (hBq.cell (p := ⟨w4.heap.size, j, none⟩) zc').trans (kc' j)
      have kp := fun j => (hBq.cell (p := ⟨w.heap.size + 1 + 1 + 1, j, none⟩) zp').trans (kp' j)
      have kg := fun j => (hBq.cell (p := ⟨g1, j, none⟩) lg1).trans (kg1 j)
      have za : w2.heap.size < wq.heap.size := by omega
      have zb : w3.heap.size < wq.heap.size := by omega
      have zc : w4.heap.size < wq.heap.size := by omega
      have zx : w5.heap.size < wq.heap.size := by omega
      have zp : w.heap.size + 1 + 1 + 1 < wq.heap.size := by omega
      have zg : g1 < wq.heap.size := by omega
      clear kx' ka' kb' kc' kp' kg1 za' zb' zc' zx' zp' H_hGy H_SK hBy' hBq hg2 lg1 tBq
      clear wy
      ((try go_simp); (repeat go_step))
      go_wp2_with fail
      refine call_qe (w := w) (by repeat' (first | (with_reducible exact Below.refl _ _) | (with_reducible assumption) | (with_reducible refine bdn ?_) | (with_reducible refine Below.alloc ?_ ?_ _) | (with_reducible refine Below.drew ?_) | (with_reducible refine Below.setCell ?_ ?_ _) | omega | (simp <;> omega))) (fun HB => mat_any ea a p _ H_ia.out H_ip.out (H_hG.out.keep HB rfl) (Nat.le_trans hng HB.size)) ?_
      rw [H_va.out, H_hca.out]
      intro x6 w6 hx6 hb6 hz6 c6 d6 hW6
      have t6 := hb6.size
      try simp only [World.size_alloc] at hz6 c6 d6
      try simp only [World.size_drew] at hz6 c6 d6
      try simp only [World.size_setCell] at hz6 c6 d6
      try simp only [World.heap_drewN] at hz6 c6 d6
      try simp only [World.size_alloc] at hz6 c6 d6
      try simp only [World.size_drew] at hz6 c6 d6
      try simp only [World.size_setCell] at hz6 c6 d6
      have s6_0 : w2.heap.size < w6.heap.size := by omega
      have o6_0 := fun j => c6 (w2.heap.size) j (by omega)
      have f6_0 := fun j => d6 (w2.heap.size) j (by omega)
      have s6_1 : w3.heap.size < w6.heap.size := by omega
      have o6_1 := fun j => c6 (w3.heap.size) j (by omega)
      have f6_1 := fun j => d6 (w3.heap.size) j (by omega)
      have s6_2 : w4.heap.size < w6.heap.size := by omega
      have o6_2 := fun j => c6 (w4.heap.size) j (by omega)
      have f6_2 := fun j => d6 (w4.heap.size) j (by omega)
      have s6_3 : w5.heap.size < w6.heap.size := by omega
      have o6_3 := fun j => c6 (w5.heap.size) j (by omega)
      have f6_3 := fun j => d6 (w5.heap.size) j (by omega)
      clear c6 d6 hz6 hW6
      obtain ⟨t6, a6, rfl⟩ := hx6.some H_na.out
      clear hx6
      go_upto_region 20 with fail
      by_cases k1 : thenC x c = (0, none)
      · obtain ⟨y, hy⟩ : ∃ y, thenV x c = y := ⟨_, rfl⟩
        by_cases k2 : thenC b c = (0, none)
        · have Rz := then_R k2
          have h3 := fun k3 => then_three H_h.out (by rw [H_hv.out]; exact k1) k2 k3
          obtain ⟨z, hz⟩ : ∃ z, thenV b c = z := ⟨_, rfl⟩
          rw [hz] at Rz h3
          rw [H_hv.out, hy] at h3
          have iz := Rz.I
          by_cases k3 : thenC a z = (0, none)
          · have e3 := h3 k3
            clear h3
            have H_k1 := Lib.hid k1
            clear k1
            have H_hy := Lib.hid hy
            clear hy
            have H_k2 := Lib.hid k2
            clear k2
            have H_Rz := Lib.hid Rz
            clear Rz
            have H_hz := Lib.hid hz
            clear hz
            have H_iz := Lib.hid iz
            clear iz
            have H_k3 := Lib.hid k3
            clear k3
            have H_e3 := Lib.hid e3
            clear e3
            go_wp2_with fail
            refine call_me (w := w) (by repeat' (first | (with_reducible exact Below.refl _ _) | (with_reducible assumption) | (with_reducible refine bdn ?_) | (with_reducible refine Below.alloc ?_ ?_ _) | (with_reducible refine Below.drew ?_) | (with_reducible refine Below.setCell ?_ ?_ _) | omega | (simp <;> omega))) (fun HB => mthen_any ea x c _ H_ix.out H_ic.out (H_hG.out.keep HB rfl) (Nat.le_trans hng HB.size)) ?_
            rw [H_hy.out, H_k1.out]
            intro x9 w9 hx9 hb9 hz9 c9 d9 hW9
            have t9 := hb9.size
            try simp only [World.size_alloc] at hz9 c9 d9
            try simp only [World.size_drew] at hz9 c9 d9
            try simp only [World.size_setCell] at hz9 c9 d9
            try simp only [World.heap_drewN] at hz9 c9 d9
            try simp only [World.size_alloc] at hz9 c9 d9
            try simp only [World.size_drew] at hz9 c9 d9
            try simp only [World.size_setCell] at hz9 c9 d9
            have s9_0 : w2.heap.size < w9.heap.size := by omega
            have o9_0 := fun j => c9 (w2.heap.size) j (by omega)
            have f9_0 := fun j => d9 (w2.heap.size) j (by omega)
            have s9_1 : w3.heap.size < w9.heap.size := by omega
            have o9_1 := fun j => c9 (w3.heap.size) j (by omega)
            have f9_1 := fun j => d9 (w3.heap.size) j (by omega)
            have s9_2 : w4.heap.size < w9.heap.size := by omega
            have o9_2 := fun j => c9 (w4.heap.size) j (by omega)
            have f9_2 := fun j => d9 (w4.heap.size) j (by omega)
            clear c9 d9 hz9 hW9
            obtain rfl := hx9.nil rfl
            go_wp2_with fail
            refine call_me (w := w) (by repeat' (first | (with_reducible exact Below.refl _ _) | (with_reducible assumption) | (with_reducible refine bdn ?_) | (with_reducible refine Below.alloc ?_ ?_ _) | (with_reducible refine Below.drew ?_) | (with_reducible refine Below.setCell ?_ ?_ _) | omega | (simp <;> omega))) (fun HB => mthen_any ea b c _ H_ib.out H_ic.out (H_hG.out.keep HB rfl) (Nat.le_trans hng HB.size)) ?_
            rw [H_hz.out, H_k2.out]
            intro x10 w10 hx10 hb10 hz10 c10 d10 hW10
            have t10 := hb10.size
            try simp only [World.size_alloc] at hz10 c10 d10
            try simp only [World.size_drew] at hz10 c10 d10
            try simp only [World.size_setCell] at hz10 c10 d10
            try simp only [World.heap_drewN] at hz10 c10 d10
            try simp only [World.size_alloc] at hz10 c10 d10
            try simp only [World.size_drew] at hz10 c10 d10
            try simp only [World.size_setCell] at hz10 c10 d10
            have s10_0 : w2.heap.size < w10.heap.size := by omega
            have o10_0 := fun j => c10 (w2.heap.size) j (by omega)
            have f10_0 := fun j => d10 (w2.heap.size) j (by omega)
            have s10_1 : w9.heap.size < w10.heap.size := by omega
            have o10_1 := fun j => c10 (w9.heap.size) j (by omega)
            have f10_1 := fun j => d10 (w9.heap.size) j (by omega)
            clear c10 d10 hz10 hW10
            obtain rfl := hx10.nil rfl
            go_wp2_with fail
            refine call_me (w := w) (by repeat' (first | (with_reducible exact Below.refl _ _) | (with_reducible assumption) | (with_reducible refine bdn ?_) | (with_reducible refine Below.alloc ?_ ?_ _) | (with_reducible refine Below.drew ?_) | (with_reducible refine Below.setCell ?_ ?_ _) | omega | (simp <;> omega))) (fun HB => mthen_any ea a z _ H_ia.out H_iz.out (H_hG.out.keep HB rfl) (Nat.le_trans hng HB.size)) ?_
            rw [H_e3.out, H_k3.out]
            intro x11 w11 hx11 hb11 hz11 c11 d11 hW11
            have t11 := hb11.size
            try simp only [World.size_alloc] at hz11 c11 d11
            try simp only [World.size_drew] at hz11 c11 d11
            try simp only [World.size_setCell] at hz11 c11 d11
            try simp only [World.heap_drewN] at hz11 c11 d11
            try simp only [World.size_alloc] at hz11 c11 d11
            try simp only [World.size_drew] at hz11 c11 d11
            try simp only [World.size_setCell] at hz11 c11 d11
            have s11_0 : w9.heap.size < w11.heap.size := by omega
            have o11_0 := fun j => c11 (w9.heap.size) j (by omega)
            have f11_0 := fun j => d11 (w9.heap.size) j (by omega)
            clear c11 d11 hz11 hW11
            obtain rfl := hx11.nil rfl
            ((try go_simp); (repeat go_step))
            go_returns
            exact ⟨rfl, by repeat' (first | (with_reducible exact Below.refl _ _) | (with_reducible assumption) | (with_reducible refine bdn ?_) | (with_reducible refine Below.alloc ?_ ?_ _) | (with_reducible refine Below.drew ?_) | (with_reducible refine Below.setCell ?_ ?_ _) | omega | (simp <;> omega))⟩
          · have n3 := thenC_ne k3
            have v3 := thenV_z k3
            obtain ⟨c3, hc3⟩ : ∃ q, thenC a z = q := ⟨_, rfl⟩
            rw [hc3] at n3
            clear h3 k3
            have H_k1 := Lib.hid k1
            clear k1
            have H_hy := Lib.hid hy
            clear hy
            have H_k2 := Lib.hid k2
            clear k2
            have H_Rz := Lib.hid Rz
            clear Rz
            have H_hz := Lib.hid hz
            clear hz
            have H_iz := Lib.hid iz
            clear iz
            have H_n3 := Lib.hid n3
            clear n3
            have H_v3 := Lib.hid v3
            clear v3
            have H_hc3 := Lib.hid hc3
            clear hc3
            go_wp2_with fail
            refine call_me (w := w) (by repeat' (first | (with_reducible exact Below.refl _ _) | (with_reducible assumption) | (with_reducible refine bdn ?_) | (with_reducible refine Below.alloc ?_ ?_ _) | (with_reducible refine Below.drew ?_) | (with_reducible refine Below.setCell ?_ ?_ _) | omega | (simp <;> omega))) (fun HB => mthen_any ea x c _ H_ix.out H_ic.out (H_hG.out.keep HB rfl) (Nat.le_trans hng HB.size)) ?_
            rw [H_hy.out, H_k1.out]
            intro x9 w9 hx9 hb9 hz9 c9 d9 hW9
            have t9 := hb9.size
            try simp only [World.size_alloc] at hz9 c9 d9
            try simp only [World.size_drew] at hz9 c9 d9
            try simp only [World.size_setCell] at hz9 c9 d9
            try simp only [World.heap_drewN] at hz9 c9 d9
            try simp only [World.size_alloc] at hz9 c9 d9
            try simp only [World.size_drew] at hz9 c9 d9
            try simp only [World.size_setCell] at hz9 c9 d9
            have s9_0 : w2.heap.size < w9.heap.size := by omega
            have o9_0 := fun j => c9 (w2.heap.size) j (by omega)
            have f9_0 := fun j => d9 (w2.heap.size) j (by omega)
            have s9_1 : w3.heap.size < w9.heap.size := by omega
            have o9_1 := fun j => c9 (w3.heap.size) j (by omega)
            have f9_1 := fun j => d9 (w3.heap.size) j (by omega)
            have s9_2 : w4.heap.size < w9.heap.size := by omega
            have o9_2 := fun j => c9 (w4.heap.size) j (by omega)
            have f9_2 := fun j => d9 (w4.heap.size) j (by omega)
            clear c9 d9 hz9 hW9
            obtain rfl := hx9.nil rfl
            go_wp2_with fail
            refine call_me (w := w) (by repeat' (first | (with_reducible exact Below.refl _ _) | (with_reducible assumption) | (with_reducible refine bdn ?_) | (with_reducible refine Below.alloc ?_ ?_ _) | (with_reducible refine Below.drew ?_) | (with_reducible refine Below.setCell ?_ ?_ _) | omega | (simp <;> omega))) (fun HB => mthen_any ea b c _ H_ib.out H_ic.out (H_hG.out.keep HB rfl) (Nat.le_trans hng HB.size)) ?_
            rw [H_hz.out, H_k2.out]
            intro x10 w10 hx10 hb10 hz10 c10 d10 hW10
            have t10 := hb10.size
            try simp only [World.size_alloc] at hz10 c10 d10
            try simp only [World.size_drew] at hz10 c10 d10
            try simp only [World.size_setCell] at hz10 c10 d10
            try simp only [World.heap_drewN] at hz10 c10 d10
            try simp only [World.size_alloc] at hz10 c10 d10
            try simp only [World.size_drew] at hz10 c10 d10
            try simp only [World.size_setCell] at hz10 c10 d10
            have s10_0 : w2.heap.size < w10.heap.size := by omega
            have o10_0 := fun j => c10 (w2.heap.size) j (by omega)
            have f10_0 := fun j => d10 (w2.heap.size) j (by omega)
            have s10_1 : w9.heap.size < w10.heap.size := by omega
            have o10_1 := fun j => c10 (w9.heap.size) j (by omega)
            have f10_1 := fun j => d10 (w9.heap.size) j (by omega)
            clear c10 d10 hz10 hW10
            obtain rfl := hx10.nil rfl
            go_wp2_with fail
            refine call_me (w := w) (by repeat' (first | (with_reducible exact Below.refl _ _) | (with_reducible assumption) | (with_reducible refine bdn ?_) | (with_reducible refine Below.alloc ?_ ?_ _) | (with_reducible refine Below.drew ?_) | (with_reducible refine Below.setCell ?_ ?_ _) | omega | (simp <;> omega))) (fun HB => mthen_any ea a z _ H_ia.out H_iz.out (H_hG.out.keep HB rfl) (Nat.le_trans hng HB.size)) ?_
            rw [H_v3.out, H_hc3.out]
            intro x11 w11 hx11 hb11 hz11 c11 d11 hW11
            have t11 := hb11.size
            try simp only [World.size_alloc] at hz11 c11 d11
            try simp only [World.size_drew] at hz11 c11 d11
            try simp only [World.size_setCell] at hz11 c11 d11
            try simp only [World.heap_drewN] at hz11 c11 d11
            try simp only [World.size_alloc] at hz11 c11 d11
            try simp only [World.size_drew] at hz11 c11 d11
            try simp only [World.size_setCell] at hz11 c11 d11
            have s11_0 : w9.heap.size < w11.heap.size := by omega
            have o11_0 := fun j => c11 (w9.heap.size) j (by omega)
            have f11_0 := fun j => d11 (w9.heap.size) j (by omega)
            clear c11 d11 hz11 hW11
            obtain ⟨t11, a11, rfl⟩ := hx11.some H_n3.out
            clear hx11
            ((try go_simp); (repeat go_step))
            go_returns
            exact ⟨rfl, by repeat' (first | (with_reducible exact Below.refl _ _) | (with_reducible assumption) | (with_reducible refine bdn ?_) | (with_reducible refine Below.alloc ?_ ?_ _) | (with_reducible refine Below.drew ?_) | (with_reducible refine Below.setCell ?_ ?_ _) | omega | (simp <;> omega))⟩
        · have n2 := thenC_ne k2
          have v2 := thenV_z k2
          obtain ⟨c2, hc2⟩ : ∃ q, thenC b c = q := ⟨_, rfl⟩
          rw [hc2] at n2
          clear k2
          have H_k1 := Lib.hid k1
          clear k1
          have H_hy := Lib.hid hy
          clear hy
          have H_n2 := Lib.hid n2
          clear n2
          have H_v2 := Lib.hid v2
          clear v2
          have H_hc2 := Lib.hid hc2
          clear hc2
          go_wp2_with fail
          refine call_me (w := w) (by repeat' (first | (with_reducible exact Below.refl _ _) | (with_reducible assumption) | (with_reducible refine bdn ?_) | (with_reducible refine Below.alloc ?_ ?_ _) | (with_reducible refine Below.drew ?_) | (with_reducible refine Below.setCell ?_ ?_ _) | omega | (simp <;> omega))) (fun HB => mthen_any ea x c _ H_ix.out H_ic.out (H_hG.out.keep HB rfl) (Nat.le_trans hng HB.size)) ?_
          rw [H_hy.out, H_k1.out]
          intro x9 w9 hx9 hb9 hz9 c9 d9 hW9
          have t9 := hb9.size
          try simp only [World.size_alloc] at hz9 c9 d9
          try simp only [World.size_drew] at hz9 c9 d9
          try simp only [World.size_setCell] at hz9 c9 d9
          try simp only [World.heap_drewN] at hz9 c9 d9
          try simp only [World.size_alloc] at hz9 c9 d9
          try simp only [World.size_drew] at hz9 c9 d9
          try simp only [World.size_setCell] at hz9 c9 d9
          have s9_0 : w2.heap.size < w9.heap.size := by omega
          have o9_0 := fun j => c9 (w2.heap.size) j (by omega)
          have f9_0 := fun j => d9 (w2.heap.size) j (by omega)
          have s9_1 : w3.heap.size < w9.heap.size := by omega
          have o9_1 := fun j => c9 (w3.heap.size) j (by omega)
          have f9_1 := fun j => d9 (w3.heap.size) j (by omega)
          have s9_2 : w4.heap.size < w9.heap.size := by omega
          have o9_2 := fun j => c9 (w4.heap.size) j (by omega)
          have f9_2 := fun j => d9 (w4.heap.size) j (by omega)
          clear c9 d9 hz9 hW9
          obtain rfl := hx9.nil rfl
          go_wp2_with fail
          refine call_me (w := w) (by repeat' (first | (with_reducible exact Below.refl _ _) | (with_reducible assumption) | (with_reducible refine bdn ?_) | (with_reducible refine Below.alloc ?_ ?_ _) | (with_reducible refine Below.drew ?_) | (with_reducible refine Below.setCell ?_ ?_ _) | omega | (simp <;> omega))) (fun HB => mthen_any ea b c _ H_ib.out H_ic.out (H_hG.out.keep HB rfl) (Nat.le_trans hng HB.size)) ?_
          rw [H_v2.out, H_hc2.out]
          intro x10 w10 hx10 hb10 hz10 c10 d10 hW10
          have t10 := hb10.size
          try simp only [World.size_alloc] at hz10 c10 d10
          try simp only [World.size_drew] at hz10 c10 d10
          try simp only [World.size_setCell] at hz10 c10 d10
          try simp only [World.heap_drewN] at hz10 c10 d10
          try simp only [World.size_alloc] at hz10 c10 d10
          try simp only [World.size_drew] at hz10 c10 d10
          try simp only [World.size_setCell] at hz10 c10 d10
          have s10_0 : w2.heap.size < w10.heap.size := by omega
          have o10_0 := fun j => c10 (w2.heap.size) j (by omega)
          have f10_0 := fun j => d10 (w2.heap.size) j (by omega)
          have s10_1 : w9.heap.size < w10.heap.size := by omega
          have o10_1 := fun j => c10 (w9.heap.size) j (by omega)
          have f10_1 := fun j => d10 (w9.heap.size) j (by omega)
          clear c10 d10 hz10 hW10
          obtain ⟨t10, a10, rfl⟩ := hx10.some H_n2.out
          clear hx10
          ((try go_simp); (repeat go_step))
          go_returns
          exact ⟨rfl, by repeat' (first | (with_reducible exact Below.refl _ _) | (with_reducible assumption) | (with_reducible refine bdn ?_) | (with_reducible refine Below.alloc ?_ ?_ _) | (with_reducible refine Below.drew ?_) | (with_reducible refine Below.setCell ?_ ?_ _) | omega | (simp <;> omega))⟩
      · have n1 := thenC_ne k1
        have v1 := thenV_z k1
        obtain ⟨c1, hc1⟩ : ∃ q, thenC x c = q := ⟨_, rfl⟩
        obtain ⟨z, hz⟩ : ∃ z, thenV b c = z := ⟨_, rfl⟩
        rw [hc1] at n1
        clear k1
        have H_n1 := Lib.hid n1
        clear n1
        have H_v1 := Lib.hid v1
        clear v1
        have H_hc1 := Lib.hid hc1
        clear hc1
        have H_hz := Lib.hid hz
        clear hz
        go_wp2_with fail
        refine call_me (w := w) (by repeat' (first | (with_reducible exact Below.refl _ _) | (with_reducible assumption) | (with_reducible refine bdn ?_) | (with_reducible refine Below.alloc ?_ ?_ _) | (with_reducible refine Below.drew ?_) | (with_reducible refine Below.setCell ?_ ?_ _) | omega | (simp <;> omega))) (fun HB => mthen_any ea x c _ H_ix.out H_ic.out (H_hG.out.keep HB rfl) (Nat.le_trans hng HB.size)) ?_
        rw [H_v1.out, H_hc1.out]
        intro x9 w9 hx9 hb9 hz9 c9 d9 hW9
        have t9 := hb9.size
        try simp only [World.size_alloc] at hz9 c9 d9
        try simp only [World.size_drew] at hz9 c9 d9
        try simp only [World.size_setCell] at hz9 c9 d9
        try simp only [World.heap_drewN] at hz9 c9 d9
        try simp only [World.size_alloc] at hz9 c9 d9
        try simp only [World.size_drew] at hz9 c9 d9
        try simp only [World.size_setCell] at hz9 c9 d9
        have s9_0 : w2.heap.size < w9.heap.size := by omega
        have o9_0 := fun j => c9 (w2.heap.size) j (by omega)
        have f9_0 := fun j => d9 (w2.heap.size) j (by omega)
        have s9_1 : w3.heap.size < w9.heap.size := by omega
        have o9_1 := fun j => c9 (w3.heap.size) j (by omega)
        have f9_1 := fun j => d9 (w3.heap.size) j (by omega)
        have s9_2 : w4.heap.size < w9.heap.size := by omega
        have o9_2 := fun j => c9 (w4.heap.size) j (by omega)
        have f9_2 := fun j => d9 (w4.heap.size) j (by omega)
        clear c9 d9 hz9 hW9
        obtain ⟨t9, a9, rfl⟩ := hx9.some H_n1.out
        clear hx9
        go_wp2_with fail
        refine call_me (w := w) (by repeat' (first | (with_reducible exact Below.refl _ _) | (with_reducible assumption) | (with_reducible refine bdn ?_) | (with_reducible refine Below.alloc ?_ ?_ _) | (with_reducible refine Below.drew ?_) | (with_reducible refine Below.setCell ?_ ?_ _) | omega | (simp <;> omega))) (fun HB => mthen_any ea b c _ H_ib.out H_ic.out (H_hG.out.keep HB rfl) (Nat.le_trans hng HB.size)) ?_
        rw [H_hz.out]
        intro x10 w10 hx10 hb10 hz10 c10 d10 hW10
        have t10 := hb10.size
        try simp only [World.size_alloc] at hz10 c10 d10
        try simp only [World.size_drew] at hz10 c10 d10
        try simp only [World.size_setCell] at hz10 c10 d10
        try simp only [World.heap_drewN] at hz10 c10 d10
        try simp only [World.size_alloc] at hz10 c10 d10
        try simp only [World.size_drew] at hz10 c10 d10
        try simp only [World.size_setCell] at hz10 c10 d10
        have s10_0 : w2.heap.size < w10.heap.size := by omega
        have o10_0 := fun j => c10 (w2.heap.size) j (by omega)
        have f10_0 := fun j => d10 (w2.heap.size) j (by omega)
        have s10_1 : w9.heap.size < w10.heap.size := by omega
        have o10_1 := fun j => c10 (w9.heap.size) j (by omega)
        have f10_1 := fun j => d10 (w9.heap.size) j (by omega)
        clear c10 d10 hz10 hW10
        clear hx10
        ((try go_simp); (repeat go_step))
        go_returns
        exact ⟨rfl, by repeat' (first | (with_reducible exact Below.refl _ _) | (with_reducible assumption) | (with_reducible refine bdn ?_) | (with_reducible refine Below.alloc ?_ ?_ _) | (with_reducible refine Below.drew ?_) | (with_reducible refine Below.setCell ?_ ?_ _) | omega | (simp <;> omega))⟩
end Go.Proofs.YtogfphojfkdcgaaDoor
