/-
  Walks over package move: Back. (The drawn regions' text is written by a program, wip/mkbk2.py.)
-/
import Derived.Test.YtbekidefgdijkaaGreatDoorBk1
import Derived.Test.YtbekidefgdijkaaGreatDoorMe
import Derived.Deep.DeepCutAuto
namespace Lead
open Go Go.RowKit
theorem ge2 {w : World} {g : Nat} {a0 a1 a2 a3 a4 a5 a6 a7 : Value} (h : ∀ j, w.cell? ⟨g, j, none⟩ = (#[a0, a1, a2, a3, a4, a5, a6, a7, .int .i64 0, .int .i64 0, .int .i64 0, .int .i64 0] : Array Value)[j]?) (x y : Value) :
    ∀ j, ((w.setCell ⟨g, 8, none⟩ x).setCell ⟨g, 9, none⟩ y).cell? ⟨g, j, none⟩ = (#[a0, a1, a2, a3, a4, a5, a6, a7, x, y, .int .i64 0, .int .i64 0] : Array Value)[j]? :=
  set1 (set1 h x (by simp)) y (by simp)
theorem gf2 {w : World} {g : Nat} {a0 a1 a2 a3 a4 a5 a6 a7 a8 a9 b0 b1 : Value} (h : ∀ j, w.cell? ⟨g, j, none⟩ = (#[a0, a1, a2, a3, a4, a5, a6, a7, a8, a9, b0, b1] : Array Value)[j]?) (x y : Value) :
    ∀ j, ((w.setCell ⟨g, 10, none⟩ x).setCell ⟨g, 11, none⟩ y).cell? ⟨g, j, none⟩ = (#[a0, a1, a2, a3, a4, a5, a6, a7, a8, a9, x, y] : Array Value)[j]? :=
  set1 (set1 h x (by simp)) y (by simp)
end Lead
namespace Go.Proofs.YtbekidefgdijkaaGreatDoor
open Go.RowKit Lead

theorem res_back (tmps : Array Value) (w0 : World) (g : Nat) (v0 v1 v2 v3 v4 v5 v6 v7 v8 v9 v10 v11 : Value) (h2 : tmps[2]?.getD undef = .pointer (some ⟨g, 0, none⟩)) (hc : ∀ j, w0.cell? ⟨g, j, none⟩ = (#[v0, v1, v2, v3, v4, v5, v6, v7, v8, v9, v10, v11] : Array Value)[j]?) :
    (results Tryz.f31 tmps).run Tryz.prog w0 = .ok (.tuple #[.agg #[v0, v1, v2, v3, v4, v5, v6, v7, v8, v9, v10, v11], tmps[3]?.getD undef]) w0 := by
  simp [results, Tryz.results31, go_sem, h2, hc]

set_option maxHeartbeats 80000000 in
set_option maxRecDepth 100000 in
theorem mback_kb (ea : Nat → Addr) (m : Mv) (w : World) (im : m.I) (hG : Gs true ea w) (hsz : 20 ≤ w.heap.size) (h1 : m.c = (0, none)) (h3 : bk3 m = 0) (h4 : (bkd m).n ≠ 0) :
    Calls Tryz.prog 31 #[.agg #[.int .i64 m.A.n, .int .i64 m.A.d, .int .i64 m.B.n, .int .i64 m.B.d, .int .i64 m.C.n, .int .i64 m.C.d, .int .i64 m.D.n, .int .i64 m.D.d, .int .i64 m.E.n, .int .i64 m.E.d, .int .i64 m.F.n, .int .i64 m.F.d]] w (RetME 218 95 ea (backC m) (backV m) w) := by
  have hbc : backC m = if bk9 m ≠ 0 then (2, none) else (0, none) := by unfold backC; rw [if_pos h1, if_neg (fun k => k h3), if_neg h4]
  have hBound := hG.c2
  have hShape := hG.c3
  have zhShape := zlt hShape
  have xhShape := zlts hShape
  have yhShape := zne hShape
  have zhBound := zlt hBound
  have xhBound := zlts hBound
  have yhBound := zne hBound
  have imA := im.A
  have imB := im.B
  have imC := im.C
  have imD := im.D
  have imE := im.E
  have imF := im.F
  obtain ⟨e1, he1⟩ : ∃ z, bk1 m = z := ⟨_, rfl⟩
  obtain ⟨e2, he2⟩ : ∃ z, bk2 m = z := ⟨_, rfl⟩
  obtain ⟨e3, he3⟩ : ∃ z, bk3 m = z := ⟨_, rfl⟩
  obtain ⟨x, hx⟩ : ∃ z, bkx m = z := ⟨_, rfl⟩
  obtain ⟨y, hy⟩ : ∃ z, bky m = z := ⟨_, rfl⟩
  obtain ⟨d, hd⟩ : ∃ z, bkd m = z := ⟨_, rfl⟩
  have ix : x.I := by rw [← hx]; exact dV_I mulK_R
  have iy : y.I := by rw [← hy]; exact dV_I mulK_R
  have id : d.I := by rw [← hd]; exact dV_I subK_R
  have hx' : dV 0 (m.A.mulK m.D) (m.A.mul m.D) = x := hx
  have hy' : dV e1 (m.B.mulK m.C) (m.B.mul m.C) = y := by rw [← he1]; exact hy
  have hd' : dV e2 (x.subK y) (x.sub y) = d := by rw [← he2, ← hx, ← hy]; exact hd
  have he1' : dE 0 (m.A.mulK m.D) = e1 := he1
  have he2' : dE e1 (m.B.mulK m.C) = e2 := by rw [← he1]; exact he2
  have he3' : dE e2 (x.subK y) = e3 := by rw [← he2, ← hx, ← hy]; exact he3
  rw [he3] at h3
  rw [hd] at h4
  have h4' : (d.n == 0) = false := by simp [h4]
  have hR := Mv.c_0 h1
  have RmB := hR.B
  have RmC := hR.C
  have imBneg := (neg_R hR.B).i
  have imCneg := (neg_R hR.C).i
  obtain ⟨v1, hvA⟩ : ∃ z, bkA m = z := ⟨_, rfl⟩
  obtain ⟨v2, hvB⟩ : ∃ z, bkB m = z := ⟨_, rfl⟩
  obtain ⟨v3, hvC⟩ : ∃ z, bkC m = z := ⟨_, rfl⟩
  obtain ⟨v4, hvD⟩ : ∃ z, bkD m = z := ⟨_, rfl⟩
  obtain ⟨vE, hvE⟩ : ∃ z, bkE m = z := ⟨_, rfl⟩
  obtain ⟨vF, hvF⟩ : ∃ z, bkF m = z := ⟨_, rfl⟩
  obtain ⟨e4, heA⟩ : ∃ z, bk4 m = z := ⟨_, rfl⟩
  obtain ⟨e5, heB⟩ : ∃ z, bk5 m = z := ⟨_, rfl⟩
  obtain ⟨e6, heC⟩ : ∃ z, bk6 m = z := ⟨_, rfl⟩
  obtain ⟨e7, heD⟩ : ∃ z, bk7 m = z := ⟨_, rfl⟩
  obtain ⟨e8, heE⟩ : ∃ z, bk8 m = z := ⟨_, rfl⟩
  obtain ⟨e9, heF⟩ : ∃ z, bk9 m = z := ⟨_, rfl⟩
  have hv4 : dV e3 (m.D.divK d) (m.D.div d) = v1 := by rw [h3, ← hd]; exact hvA
  have he4 : dE e3 (m.D.divK d) = e4 := by rw [h3, ← hd]; exact heA
  have hv5 : dV e4 (m.B.neg.divK d) (m.B.neg.div d) = v2 := by rw [← heA, ← hd]; exact hvB
  have he5 : dE e4 (m.B.neg.divK d) = e5 := by rw [← heA, ← hd]; exact heB
  have hv6 : dV e5 (m.C.neg.divK d) (m.C.neg.div d) = v3 := by rw [← heB, ← hd]; exact hvC
  have he6 : dE e5 (m.C.neg.divK d) = e6 := by rw [← heB, ← hd]; exact heC
  have hv7 : dV e6 (m.A.divK d) (m.A.div d) = v4 := by rw [← heC, ← hd]; exact hvD
  have he7 : dE e6 (m.A.divK d) = e7 := by rw [← heC, ← hd]; exact heD
  have hv8 : ofV e7 v1 m.E v3 m.F = vE := by rw [← heD, ← hvA, ← hvC]; exact hvE
  have he8 : ofE e7 v1 m.E v3 m.F = e8 := by rw [← heD, ← hvA, ← hvC]; exact heE
  have hv9 : ofV e8 v2 m.E v4 m.F = vF := by rw [← heE, ← hvB, ← hvD]; exact hvF
  have he9 : ofE e8 v2 m.E v4 m.F = e9 := by rw [← heE, ← hvB, ← hvD]; exact heF
  have iv1 : v1.I := by rw [← hv4]; exact dV_I divK_R
  have iv2 : v2.I := by rw [← hv5]; exact dV_I divK_R
  have iv3 : v3.I := by rw [← hv6]; exact dV_I divK_R
  have iv4 : v4.I := by rw [← hv7]; exact dV_I divK_R
  have hN : e9 ≠ 0 → backC m = (2, none) ∧ backV m = ⟨⟨0, 0⟩, ⟨0, 0⟩, ⟨0, 0⟩, ⟨0, 0⟩, ⟨0, 0⟩, ⟨0, 0⟩⟩ := fun k => by
    have hc : backC m = (2, none) := hbc.trans (if_pos (by rw [heF]; exact k))
    exact ⟨hc, if_neg (by rw [hc]; decide)⟩
  have hO : e9 = 0 → backC m = (0, none) ∧ backV m = ⟨v1, v2, v3, v4, vE.neg, vF.neg⟩ ∧ vE.R ∧ vF.R := fun k => by
    have hc : backC m = (0, none) := hbc.trans (if_neg (fun k' => k' (by rw [heF]; exact k)))
    have hv : backV m = ⟨v1, v2, v3, v4, vE.neg, vF.neg⟩ := by unfold backV; rw [if_pos hc, hvA, hvB, hvC, hvD, hvE, hvF]
    obtain ⟨_, _, _, _, hIs⟩ := back_is hc
    have hr := hIs.r
    rw [hv] at hr
    exact ⟨hc, hv, by have := neg_R hr.E; simpa [Fr.neg] using this, by have := neg_R hr.F; simpa [Fr.neg] using this⟩
  have H_h1 := Lib.hid h1
  clear h1
  have H_im := Lib.hid im
  clear im
  have H_hG := Lib.hid hG
  clear hG
  have H_hR := Lib.hid hR
  clear hR
  have H_RmB := Lib.hid RmB
  clear RmB
  have H_RmC := Lib.hid RmC
  clear RmC
  have H_imBneg := Lib.hid imBneg
  clear imBneg
  have H_imCneg := Lib.hid imCneg
  clear imCneg
  have H_hvA := Lib.hid hvA
  clear hvA
  have H_hvB := Lib.hid hvB
  clear hvB
  have H_hvC := Lib.hid hvC
  clear hvC
  have H_hvD := Lib.hid hvD
  clear hvD
  have H_hvE := Lib.hid hvE
  clear hvE
  have H_hvF := Lib.hid hvF
  clear hvF
  have H_heA := Lib.hid heA
  clear heA
  have H_heB := Lib.hid heB
  clear heB
  have H_heC := Lib.hid heC
  clear heC
  have H_heD := Lib.hid heD
  clear heD
  have H_heE := Lib.hid heE
  clear heE
  have H_heF := Lib.hid heF
  clear heF
  have H_hv4 := Lib.hid hv4
  clear hv4
  have H_he4 := Lib.hid he4
  clear he4
  have H_hv5 := Lib.hid hv5
  clear hv5
  have H_he5 := Lib.hid he5
  clear he5
  have H_hv6 := Lib.hid hv6
  clear hv6
  have H_he6 := Lib.hid he6
  clear he6
  have H_hv7 := Lib.hid hv7
  clear hv7
  have H_he7 := Lib.hid he7
  clear he7
  have H_hv8 := Lib.hid hv8
  clear hv8
  have H_he8 := Lib.hid he8
  clear he8
  have H_hv9 := Lib.hid hv9
  clear hv9
  have H_he9 := Lib.hid he9
  clear he9
  have H_iv1 := Lib.hid iv1
  clear iv1
  have H_iv2 := Lib.hid iv2
  clear iv2
  have H_iv3 := Lib.hid iv3
  clear iv3
  have H_iv4 := Lib.hid iv4
  clear iv4
  have H_hx := Lib.hid hx
  clear hx
  have H_hy := Lib.hid hy
  clear hy
  have H_hd := Lib.hid hd
  clear hd
  have H_he1 := Lib.hid he1
  clear he1
  have H_he2 := Lib.hid he2
  clear he2
  have H_he3 := Lib.hid he3
  clear he3
  have H_hx' := Lib.hid hx'
  clear hx'
  have H_hy' := Lib.hid hy'
  clear hy'
  have H_hd' := Lib.hid hd'
  clear hd'
  have H_he1' := Lib.hid he1'
  clear he1'
  have H_he2' := Lib.hid he2'
  clear he2'
  have H_he3' := Lib.hid he3'
  clear he3'
  have H_ix := Lib.hid ix
  clear ix
  have H_iy := Lib.hid iy
  clear iy
  have H_id := Lib.hid id
  clear id
  have H_imA := Lib.hid imA
  clear imA
  have H_imB := Lib.hid imB
  clear imB
  have H_imC := Lib.hid imC
  clear imC
  have H_imD := Lib.hid imD
  clear imD
  have H_imE := Lib.hid imE
  clear imE
  have H_imF := Lib.hid imF
  clear imF
  have H_h3 := Lib.hid h3
  clear h3
  have H_h4 := Lib.hid h4
  clear h4
  have H_hbc := Lib.hid hbc
  clear hbc
  have H_hN := Lib.hid hN
  clear hN
  have H_hO := Lib.hid hO
  clear hO
  go_enter Tryz.func31, Tryz.ntmps31
  go_wp2_with fail
  refine call_ew (w := w) (by repeat' (first | (with_reducible exact Below.refl _ _) | (with_reducible assumption) | (with_reducible refine bdn ?_) | (with_reducible refine Below.alloc ?_ ?_ _) | (with_reducible refine Below.drew ?_) | (with_reducible refine Below.setCell ?_ ?_ _) | omega | (simp <;> omega))) (fun HB => mcheck_any ea m _ H_im.out (gkeep HB hShape rfl) (gkeep HB hBound rfl)) ?_
  intro x1 w1 hx1 hb1 hz1 c1 d1 hW1
  have t1 := hb1.size
  try simp only [World.size_alloc] at hz1 c1 d1
  try simp only [World.size_drew] at hz1 c1 d1
  try simp only [World.size_setCell] at hz1 c1 d1
  try simp only [World.heap_drewN] at hz1 c1 d1
  try simp only [World.size_alloc] at hz1 c1 d1
  try simp only [World.size_drew] at hz1 c1 d1
  try simp only [World.size_setCell] at hz1 c1 d1
  have s1_0 : w.heap.size < w1.heap.size := by omega
  have o1_0 := fun j => c1 (w.heap.size) j (by omega)
  have f1_0 := fun j => d1 (w.heap.size) j (by omega)
  have s1_1 : w.heap.size + 1 < w1.heap.size := by omega
  have o1_1 := fun j => c1 (w.heap.size + 1) j (by omega)
  have f1_1 := fun j => d1 (w.heap.size + 1) j (by omega)
  clear c1 d1 hz1 hW1
  obtain rfl := hx1.nil H_h1.out
  go_upto_region 5 with fail
  obtain ⟨w0, hw0⟩ : ∃ u, ((w1.alloc (.cells #[.nilIface] 105)).alloc (.cells #[.pointer (some ⟨w1.heap.size, 0, none⟩)] 103)) = u := ⟨_, rfl⟩
  obtain ⟨s, hs⟩ : ∃ u, w1.heap.size = u := ⟨_, rfl⟩
  have hat0 : w0.heap[s]? = some (.cells #[evl 218 ea 0] 105 (0, 0)) := by
    rw [← hw0, ← hs, Below.heap_alloc _ _ _ (by simp), evl_0 rfl]; exact heap_alloc_new _ _
  have hB0 : Below w.heap.size w w0 := by rw [← hw0]; exact by repeat' (first | (with_reducible exact Below.refl _ _) | (with_reducible assumption) | (with_reducible refine bdn ?_) | (with_reducible refine Below.alloc ?_ ?_ _) | (with_reducible refine Below.drew ?_) | (with_reducible refine Below.setCell ?_ ?_ _) | omega | (simp <;> omega))
  have zs : w.heap.size + 1 < s := by rw [← hs]; exact s1_1
  have ls0 : w0.heap.size = s + 1 + 1 := by rw [← hw0, ← hs]; simp
  have o0 : ∀ j, w0.cell? ⟨w.heap.size, j, none⟩ = #[.int .i64 m.A.n, .int .i64 m.A.d, .int .i64 m.B.n, .int .i64 m.B.d, .int .i64 m.C.n, .int .i64 m.C.d, .int .i64 m.D.n, .int .i64 m.D.d, .int .i64 m.E.n, .int .i64 m.E.d, .int .i64 m.F.n, .int .i64 m.F.d][j]? := fun j => by rw [← hw0, World.cell?_alloc_past _ _ _ (by simp; omega), World.cell?_alloc_past _ _ _ s1_0, o1_0, World.cell?_alloc_past _ _ _ (by simp), World.cell?_alloc_at _ _ _ _ rfl]
  have o1 : ∀ j, w0.cell? ⟨w.heap.size + 1, j, none⟩ = (#[.int .i64 0, .int .i64 0, .int .i64 0, .int .i64 0, .int .i64 0, .int .i64 0, .int .i64 0, .int .i64 0, .int .i64 0, .int .i64 0, .int .i64 0, .int .i64 0] : Array Value)[j]? := fun j => by rw [← hw0, World.cell?_alloc_past _ _ _ (by simp; omega), World.cell?_alloc_past _ _ _ s1_1, o1_1, World.cell?_alloc_at _ _ _ _ (by simp)]
  have f1 : ∀ j, w0.frozen? ⟨w.heap.size + 1, j, none⟩ = false := fun j => by rw [← hw0, World.frozen?_alloc_past _ _ _ (by simp; omega), World.frozen?_alloc_past _ _ _ s1_1, f1_1, World.frozen?_alloc_at _ _ _ _ (by simp)]
  have ob : w0.cell? ⟨s + 1, 0, none⟩ = some (.pointer (some ⟨s, 0, none⟩)) := by rw [← hw0, ← hs, World.cell?_alloc_at _ _ _ _ (by simp)]; rfl
  rw [hw0, hs]
  clear o1_0 f1_0 o1_1 f1_1 s1_0 s1_1 t1 hw0 hs hx1 hb1
  clear w1
  have hsg : 20 ≤ s := by omega
  have KG := H_hG.out.keep hB0 rfl
  have hc := cell_of_one hat0
  have hf := free_of_one hat0
  have l0 : s < w0.heap.size := by omega
  have q0 : w.heap.size < w0.heap.size := by omega
  have q1 : w.heap.size + 1 < w0.heap.size := by omega
  have q2 : s + 1 < w0.heap.size := by omega
  have hb0 := But.refl hat0
  have H_KG := Lib.hid KG
  clear KG
  have H_hat0 := Lib.hid hat0
  clear hat0
  go_wp2_with fail
  refine call_s2 (w := w0) (s := s) (t := 105) (by repeat' (first | (with_reducible assumption) | (with_reducible exact But.refl (by assumption)) | (with_reducible refine But.drewN ?_) | (with_reducible refine But.alloc ?_ _) | (with_reducible refine But.drew ?_) | (with_reducible refine But.setCell ?_ ?_ _) | omega | (simp <;> omega))) (fun HB => sdo_mul ea 0 (m.A.mulK m.D) e1 s m.A m.D (m.A.mul m.D) x _ H_hx'.out H_he1'.out (fmulF ea m.A m.D H_imA.out H_imD.out) HB.at' hsg (H_KG.out.but HB hsg)) ?_
  intro w2 hb2 hz2 c2 d2 hW2
  have t2 := hb2.size
  have hs2 := hb2.here
  have hf2 := hb2.free
  have ha2 := hb2.at'
  have hl2 : s < w2.heap.size := Nat.lt_of_lt_of_le hb2.lt t2
  have hnw2_0 : ¬ w2.heap.size = s := by omega
  have hmw2_0 : ¬ s = w2.heap.size := by omega
  have hnw2_1 : ¬ w2.heap.size + 1 = s := by omega
  have hmw2_1 : ¬ s = w2.heap.size + 1 := by omega
  have hlw2_1 : s < w2.heap.size + 1 := by omega
  have hnw2_2 : ¬ w2.heap.size + 1 + 1 = s := by omega
  have hmw2_2 : ¬ s = w2.heap.size + 1 + 1 := by omega
  have hlw2_2 : s < w2.heap.size + 1 + 1 := by omega
  try simp only [World.size_alloc] at hz2 c2 d2
  try simp only [World.size_drew] at hz2 c2 d2
  try simp only [World.size_setCell] at hz2 c2 d2
  try simp only [World.heap_drewN] at hz2 c2 d2
  try simp only [World.size_alloc] at hz2 c2 d2
  try simp only [World.size_drew] at hz2 c2 d2
  try simp only [World.size_setCell] at hz2 c2 d2
  have s2_0 : w.heap.size < w2.heap.size := by omega
  have o2_0 := fun j => c2 (w.heap.size) j (by omega) (by omega)
  have f2_0 := fun j => d2 (w.heap.size) j (by omega) (by omega)
  have s2_1 : w.heap.size + 1 < w2.heap.size := by omega
  have o2_1 := fun j => c2 (w.heap.size + 1) j (by omega) (by omega)
  have f2_1 := fun j => d2 (w.heap.size + 1) j (by omega) (by omega)
  have s2_2 : s + 1 < w2.heap.size := by omega
  have o2_2 := fun j => c2 (s + 1) j (by omega) (by omega)
  have f2_2 := fun j => d2 (s + 1) j (by omega) (by omega)
  clear c2 d2 hz2
  go_wp2_with fail
  refine call_s2 (w := w0) (s := s) (t := 105) (by repeat' (first | (with_reducible assumption) | (with_reducible exact But.refl (by assumption)) | (with_reducible refine But.drewN ?_) | (with_reducible refine But.alloc ?_ _) | (with_reducible refine But.drew ?_) | (with_reducible refine But.setCell ?_ ?_ _) | omega | (simp <;> omega))) (fun HB => sdo_mul ea e1 (m.B.mulK m.C) e2 s m.B m.C (m.B.mul m.C) y _ H_hy'.out H_he2'.out (fmulF ea m.B m.C H_imB.out H_imC.out) HB.at' hsg (H_KG.out.but HB hsg)) ?_
  intro w3 hb3 hz3 c3 d3 hW3
  have t3 := hb3.size
  have hs3 := hb3.here
  have hf3 := hb3.free
  have ha3 := hb3.at'
  have hl3 : s < w3.heap.size := Nat.lt_of_lt_of_le hb3.lt t3
  have hnw3_0 : ¬ w3.heap.size = s := by omega
  have hmw3_0 : ¬ s = w3.heap.size := by omega
  have hnw3_1 : ¬ w3.heap.size + 1 = s := by omega
  have hmw3_1 : ¬ s = w3.heap.size + 1 := by omega
  have hlw3_1 : s < w3.heap.size + 1 := by omega
  have hnw3_2 : ¬ w3.heap.size + 1 + 1 = s := by omega
  have hmw3_2 : ¬ s = w3.heap.size + 1 + 1 := by omega
  have hlw3_2 : s < w3.heap.size + 1 + 1 := by omega
  try simp only [World.size_alloc] at hz3 c3 d3
  try simp only [World.size_drew] at hz3 c3 d3
  try simp only [World.size_setCell] at hz3 c3 d3
  try simp only [World.heap_drewN] at hz3 c3 d3
  try simp only [World.size_alloc] at hz3 c3 d3
  try simp only [World.size_drew] at hz3 c3 d3
  try simp only [World.size_setCell] at hz3 c3 d3
  have s3_0 : w.heap.size < w3.heap.size := by omega
  have o3_0 := fun j => c3 (w.heap.size) j (by omega) (by omega)
  have f3_0 := fun j => d3 (w.heap.size) j (by omega) (by omega)
  have s3_1 : w.heap.size + 1 < w3.heap.size := by omega
  have o3_1 := fun j => c3 (w.heap.size + 1) j (by omega) (by omega)
  have f3_1 := fun j => d3 (w.heap.size + 1) j (by omega) (by omega)
  have s3_2 : s + 1 < w3.heap.size := by omega
  have o3_2 := fun j => c3 (s + 1) j (by omega) (by omega)
  have f3_2 := fun j => d3 (s + 1) j (by omega) (by omega)
  have s3_3 : w2.heap.size < w3.heap.size := by omega
  have o3_3 := fun j => c3 (w2.heap.size) j (by omega) (by omega)
  have f3_3 := fun j => d3 (w2.heap.size) j (by omega) (by omega)
  clear c3 d3 hz3
  go_wp2_with fail
  refine call_s2 (w := w0) (s := s) (t := 105) (by repeat' (first | (with_reducible assumption) | (with_reducible exact But.refl (by assumption)) | (with_reducible refine But.drewN ?_) | (with_reducible refine But.alloc ?_ _) | (with_reducible refine But.drew ?_) | (with_reducible refine But.setCell ?_ ?_ _) | omega | (simp <;> omega))) (fun HB => sdo_sub ea e2 (x.subK y) e3 s x y (x.sub y) d _ H_hd'.out H_he3'.out (fsubF ea x y H_ix.out H_iy.out) HB.at' hsg (H_KG.out.but HB hsg)) ?_
  intro w4 hb4 hz4 c4 d4 hW4
  have t4 := hb4.size
  have hs4 := hb4.here
  have hf4 := hb4.free
  have ha4 := hb4.at'
  have hl4 : s < w4.heap.size := Nat.lt_of_lt_of_le hb4.lt t4
  have hnw4_0 : ¬ w4.heap.size = s := by omega
  have hmw4_0 : ¬ s = w4.heap.size := by omega
  have hnw4_1 : ¬ w4.heap.size + 1 = s := by omega
  have hmw4_1 : ¬ s = w4.heap.size + 1 := by omega
  have hlw4_1 : s < w4.heap.size + 1 := by omega
  have hnw4_2 : ¬ w4.heap.size + 1 + 1 = s := by omega
  have hmw4_2 : ¬ s = w4.heap.size + 1 + 1 := by omega
  have hlw4_2 : s < w4.heap.size + 1 + 1 := by omega
  try simp only [World.size_alloc] at hz4 c4 d4
  try simp only [World.size_drew] at hz4 c4 d4
  try simp only [World.size_setCell] at hz4 c4 d4
  try simp only [World.heap_drewN] at hz4 c4 d4
  try simp only [World.size_alloc] at hz4 c4 d4
  try simp only [World.size_drew] at hz4 c4 d4
  try simp only [World.size_setCell] at hz4 c4 d4
  have s4_0 : w.heap.size < w4.heap.size := by omega
  have o4_0 := fun j => c4 (w.heap.size) j (by omega) (by omega)
  have f4_0 := fun j => d4 (w.heap.size) j (by omega) (by omega)
  have s4_1 : w.heap.size + 1 < w4.heap.size := by omega
  have o4_1 := fun j => c4 (w.heap.size + 1) j (by omega) (by omega)
  have f4_1 := fun j => d4 (w.heap.size + 1) j (by omega) (by omega)
  have s4_2 : s + 1 < w4.heap.size := by omega
  have o4_2 := fun j => c4 (s + 1) j (by omega) (by omega)
  have f4_2 := fun j => d4 (s + 1) j (by omega) (by omega)
  have s4_3 : w2.heap.size < w4.heap.size := by omega
  have o4_3 := fun j => c4 (w2.heap.size) j (by omega) (by omega)
  have f4_3 := fun j => d4 (w2.heap.size) j (by omega) (by omega)
  have s4_4 : w3.heap.size < w4.heap.size := by omega
  have o4_4 := fun j => c4 (w3.heap.size) j (by omega) (by omega)
  have f4_4 := fun j => d4 (w3.heap.size) j (by omega) (by omega)
  clear c4 d4 hz4
  rw [evl_0 H_h3.out] at hs4
  go_upto_region 8 with fail
  obtain ⟨wp, hwp⟩ : ∃ u, w4.alloc (.cells #[.int .i64 d.n, .int .i64 d.d] 23) = u := ⟨_, rfl⟩
  obtain ⟨bd, hbd⟩ : ∃ u, w4.heap.size = u := ⟨_, rfl⟩
  have hbp : But s 105 (evl 218 ea e3) w0 wp := by rw [← hwp]; exact hb4.alloc _
  have hatp := hbp.at'
  have o0p : ∀ j, wp.cell? ⟨w.heap.size, j, none⟩ = #[.int .i64 m.A.n, .int .i64 m.A.d, .int .i64 m.B.n, .int .i64 m.B.d, .int .i64 m.C.n, .int .i64 m.C.d, .int .i64 m.D.n, .int .i64 m.D.d, .int .i64 m.E.n, .int .i64 m.E.d, .int .i64 m.F.n, .int .i64 m.F.d][j]? := fun j => (hbp.cell _ j (by omega) (by omega)).trans (o0 j)
  have o1p : ∀ j, wp.cell? ⟨w.heap.size + 1, j, none⟩ = (#[.int .i64 0, .int .i64 0, .int .i64 0, .int .i64 0, .int .i64 0, .int .i64 0, .int .i64 0, .int .i64 0, .int .i64 0, .int .i64 0, .int .i64 0, .int .i64 0] : Array Value)[j]? := fun j => (hbp.cell _ j (by omega) (by omega)).trans (o1 j)
  have f1p : ∀ j, wp.frozen? ⟨w.heap.size + 1, j, none⟩ = false := fun j => (hbp.frozen _ j (by omega) (by omega)).trans (f1 j)
  have obp : wp.cell? ⟨s + 1, 0, none⟩ = some (.pointer (some ⟨s, 0, none⟩)) := (hbp.cell _ 0 (by omega) (by omega)).trans ob
  have od0 : wp.cell? ⟨bd, 0, none⟩ = some (.int .i64 d.n) := by rw [← hwp, ← hbd, World.cell?_alloc_new]; rfl
  have od1 : wp.cell? ⟨bd, 1, none⟩ = some (.int .i64 d.d) := by rw [← hwp, ← hbd, World.cell?_alloc_new]; rfl
  have osp : wp.cell? ⟨s, 0, none⟩ = some .nilIface := by rw [← hwp, World.cell?_alloc_past _ _ _ hl4]; exact hs4
  have lbd : w0.heap.size ≤ bd := by rw [← hbd]; exact t4
  have lbp : bd < wp.heap.size := by rw [← hwp, ← hbd]; simp
  have nbd : bd ≠ s := by omega
  have tp := hbp.size
  have hBp : Below w.heap.size w wp := hB0.trans (hbp.toBelow (by omega) (by omega))
  have KP := H_KG.out.but hbp hsg
  obtain ⟨bx, hbx⟩ : ∃ u, w2.heap.size = u := ⟨_, rfl⟩
  obtain ⟨by', hby⟩ : ∃ u, w3.heap.size = u := ⟨_, rfl⟩
  rw [hwp, hbd, hbx, hby]
  have H_KP := Lib.hid KP
  clear KP
  clear hwp hbd hbx hby
  clear hb4 hW4 t4 hs4 hf4 ha4 hl4 hnw4_0 hmw4_0 hnw4_1 hmw4_1 hlw4_1 hnw4_2 hmw4_2 hlw4_2 s4_0 o4_0 f4_0 s4_1 o4_1 f4_1 s4_2 o4_2 f4_2 s4_3 o4_3 f4_3 s4_4 o4_4 f4_4
  clear w4
  clear hb3 hW3 t3 hs3 hf3 ha3 hl3 hnw3_0 hmw3_0 hnw3_1 hmw3_1 hlw3_1 hnw3_2 hmw3_2 hlw3_2 s3_0 o3_0 f3_0 s3_1 o3_1 f3_1 s3_2 o3_2 f3_2 s3_3 o3_3 f3_3
  clear w3
  clear hb2 hW2 t2 hs2 hf2 ha2 hl2 hnw2_0 hmw2_0 hnw2_1 hmw2_1 hlw2_1 hnw2_2 hmw2_2 hlw2_2 s2_0 o2_0 f2_0 s2_1 o2_1 f2_1 s2_2 o2_2 f2_2
  clear w2
  clear o0 o1 f1 ob hc hf hb0
  go_upto_region 14 with fail
  clear osp
  have hc := cell_of_one hatp
  have hf := free_of_one hatp
  have KB0 : But s 105 (evl 218 ea e3) wp wp := But.refl hatp
  have l0p : s < wp.heap.size := by omega
  have N0 : wp.heap.size ≠ s := by omega
  have z0p : w.heap.size < wp.heap.size := by omega
  have z1p : w.heap.size + 1 < wp.heap.size := by omega
  have z2p : s + 1 < wp.heap.size := by omega
  have SK : ∀ W, (∃ v, But s 105 v wp W) → (∃ v, But s 105 v wp W) ∧ (∀ j, W.cell? ⟨w.heap.size, j, none⟩ = #[.int .i64 m.A.n, .int .i64 m.A.d, .int .i64 m.B.n, .int .i64 m.B.d, .int .i64 m.C.n, .int .i64 m.C.d, .int .i64 m.D.n, .int .i64 m.D.d, .int .i64 m.E.n, .int .i64 m.E.d, .int .i64 m.F.n, .int .i64 m.F.d][j]?) ∧ W.cell? ⟨s + 1, 0, none⟩ = some (.pointer (some ⟨s, 0, none⟩)) ∧ W.cell? ⟨bd, 0, none⟩ = some (.int .i64 d.n) ∧ W.cell? ⟨bd, 1, none⟩ = some (.int .i64 d.d) := by
    intro W h
    obtain ⟨v, h⟩ := h
    exact ⟨⟨v, h⟩, fun j => by rw [h.cell _ _ (by omega) (by omega)]; exact o0p j, (h.cell _ _ (by omega) (by omega)).trans obp, (h.cell _ _ (by omega) (by omega)).trans od0, (h.cell _ _ (by omega) (by omega)).trans od1⟩
  have KD : ∀ W, (∃ v, But s 105 v wp W) ∧ (∀ j, W.cell? ⟨w.heap.size, j, none⟩ = #[.int .i64 m.A.n, .int .i64 m.A.d, .int .i64 m.B.n, .int .i64 m.B.d, .int .i64 m.C.n, .int .i64 m.C.d, .int .i64 m.D.n, .int .i64 m.D.d, .int .i64 m.E.n, .int .i64 m.E.d, .int .i64 m.F.n, .int .i64 m.F.d][j]?) ∧ W.cell? ⟨s + 1, 0, none⟩ = some (.pointer (some ⟨s, 0, none⟩)) ∧ W.cell? ⟨bd, 0, none⟩ = some (.int .i64 d.n) ∧ W.cell? ⟨bd, 1, none⟩ = some (.int .i64 d.d) → W.cell? ⟨s + 1, 0, none⟩ = some (.pointer (some ⟨s, 0, none⟩)) ∧ W.cell? ⟨bd, 0, none⟩ = some (.int .i64 d.n) ∧ W.cell? ⟨bd, 1, none⟩ = some (.int .i64 d.d) := fun W h => ⟨h.2.2.1, h.2.2.2.1, h.2.2.2.2⟩
  have H_SK := Lib.hid SK
  clear SK
  have H_KD := Lib.hid KD
  clear KD
  have H_N0 := Lib.hid N0
  clear N0
  have H_hatp := Lib.hid hatp
  clear hatp
  go_cut [11] (fun s11 wx => Made s 105 (evl 218 ea e7) wp #[Value.int .i64 v1.n, .int .i64 v1.d, .int .i64 v2.n, .int .i64 v2.d, .int .i64 v3.n, .int .i64 v3.d, .int .i64 v4.n, .int .i64 v4.d, .int .i64 0, .int .i64 0, .int .i64 0, .int .i64 0] s11 wx)
  case first =>
    go_region_held3 (fun W => (∃ v, But s 105 v wp W) ∧ (∀ j, W.cell? ⟨w.heap.size, j, none⟩ = #[.int .i64 m.A.n, .int .i64 m.A.d, .int .i64 m.B.n, .int .i64 m.B.d, .int .i64 m.C.n, .int .i64 m.C.d, .int .i64 m.D.n, .int .i64 m.D.d, .int .i64 m.E.n, .int .i64 m.E.d, .int .i64 m.F.n, .int .i64 m.F.d][j]?) ∧ W.cell? ⟨s + 1, 0, none⟩ = some (.pointer (some ⟨s, 0, none⟩)) ∧ W.cell? ⟨bd, 0, none⟩ = some (.int .i64 d.n) ∧ W.cell? ⟨bd, 1, none⟩ = some (.int .i64 d.d))
      (first | ((with_reducible refine H_SK.out _ ⟨(evl 218 ea e7), ?_⟩); (repeat' (first | (with_reducible assumption) | (with_reducible exact Nat.le_refl _) | (with_reducible refine But.drewN ?_) | (with_reducible refine But.drew ?_) | (with_reducible refine But.alloc ?_ _) | (with_reducible refine But.setCell ?_ ?_ _))); done) | ((with_reducible refine H_SK.out _ ⟨(evl 218 ea e6), ?_⟩); (repeat' (first | (with_reducible assumption) | (with_reducible exact Nat.le_refl _) | (with_reducible refine But.drewN ?_) | (with_reducible refine But.drew ?_) | (with_reducible refine But.alloc ?_ _) | (with_reducible refine But.setCell ?_ ?_ _))); done) | ((with_reducible refine H_SK.out _ ⟨(evl 218 ea e5), ?_⟩); (repeat' (first | (with_reducible assumption) | (with_reducible exact Nat.le_refl _) | (with_reducible refine But.drewN ?_) | (with_reducible refine But.drew ?_) | (with_reducible refine But.alloc ?_ _) | (with_reducible refine But.setCell ?_ ?_ _))); done) | ((with_reducible refine H_SK.out _ ⟨(evl 218 ea e4), ?_⟩); (repeat' (first | (with_reducible assumption) | (with_reducible exact Nat.le_refl _) | (with_reducible refine But.drewN ?_) | (with_reducible refine But.drew ?_) | (with_reducible refine But.alloc ?_ _) | (with_reducible refine But.setCell ?_ ?_ _))); done) | ((with_reducible refine H_SK.out _ ⟨(evl 218 ea e3), ?_⟩); (repeat' (first | (with_reducible assumption) | (with_reducible exact Nat.le_refl _) | (with_reducible refine But.drewN ?_) | (with_reducible refine But.drew ?_) | (with_reducible refine But.alloc ?_ _) | (with_reducible refine But.setCell ?_ ?_ _))); done))
      (first | (have hchk := hbC.lt; clear hchk; (with_reducible refine (mby_any ea e6 e7 s (s + 1) bd m.A d v4 _ H_hv7.out H_he7.out H_imA.out H_id.out ?qa hsg ?qb ?qc ?qd ?qe).mono ?_); (case qa => exact (But.at' (v := (evl 218 ea e6)) (w := wp) (by repeat' (first | (with_reducible assumption) | (with_reducible exact Nat.le_refl _) | (with_reducible refine But.drewN ?_) | (with_reducible refine But.drew ?_) | (with_reducible refine But.alloc ?_ _) | (with_reducible refine But.setCell ?_ ?_ _))))); (case qb => exact (H_KP.out.but (v := (evl 218 ea e6)) (t := 105) (by repeat' (first | (with_reducible assumption) | (with_reducible exact Nat.le_refl _) | (with_reducible refine But.drewN ?_) | (with_reducible refine But.drew ?_) | (with_reducible refine But.alloc ?_ _) | (with_reducible refine But.setCell ?_ ?_ _))) hsg)); (case qc => exact (H_KD.out _ (by with_reducible assumption)).1); (case qd => exact (H_KD.out _ (by with_reducible assumption)).2.1); (case qe => exact (H_KD.out _ (by with_reducible assumption)).2.2); rintro en wD ⟨rfl, hqD⟩; have hbD := But.trans (v := (evl 218 ea e6)) (w := wp) (by repeat' (first | (with_reducible assumption) | (with_reducible exact Nat.le_refl _) | (with_reducible refine But.drewN ?_) | (with_reducible refine But.drew ?_) | (with_reducible refine But.alloc ?_ _) | (with_reducible refine But.setCell ?_ ?_ _))) hqD; have tD := hqD.size; (try simp only [World.size_alloc] at tD); (try simp only [World.size_drew] at tD); (try simp only [World.size_setCell] at tD); have uD : wp.heap.size ≤ wD.heap.size := hbD.size; have hsD := hqD.here; have hfD := hqD.free; have lD : s < wD.heap.size := Nat.lt_of_lt_of_le hbD.lt hbD.size; have nD : Hid (wD.heap.size ≠ s) := Lib.hid (Nat.ne_of_gt lD); (try have zDwp : wp.heap.size < wD.heap.size := Nat.lt_of_lt_of_le zCwp hqD.size); (try have oDwp := fun j => hqD.cell wp.heap.size j zCwp H_N0.out); (try have fDwp := fun j => hqD.frozen wp.heap.size j zCwp H_N0.out); (try have zDwA : wA.heap.size < wD.heap.size := Nat.lt_of_lt_of_le zCwA hqD.size); (try have oDwA := fun j => hqD.cell wA.heap.size j zCwA nA.out); (try have fDwA := fun j => hqD.frozen wA.heap.size j zCwA nA.out); (try have zDwM : wM.heap.size < wD.heap.size := Nat.lt_of_lt_of_le zCwM hqD.size); (try have oDwM := fun j => hqD.cell wM.heap.size j zCwM nM.out); (try have fDwM := fun j => hqD.frozen wM.heap.size j zCwM nM.out); (try have zDwB : wB.heap.size < wD.heap.size := Nat.lt_of_lt_of_le zCwB hqD.size); (try have oDwB := fun j => hqD.cell wB.heap.size j zCwB nB.out); (try have fDwB := fun j => hqD.frozen wB.heap.size j zCwB nB.out); (try have zDwN : wN.heap.size < wD.heap.size := Nat.lt_of_lt_of_le zCwN hqD.size); (try have oDwN := fun j => hqD.cell wN.heap.size j zCwN nN.out); (try have fDwN := fun j => hqD.frozen wN.heap.size j zCwN nN.out); (try have zDwC : wC.heap.size < wD.heap.size := Nat.lt_of_lt_of_le (by simp only [World.size_alloc, World.size_drew]; exact Nat.lt_succ_self _) hqD.size); (try have oDwC := fun j => hqD.cell wC.heap.size j (by simp only [World.size_alloc, World.size_drew]; exact Nat.lt_succ_self _) nC.out); (try have fDwC := fun j => hqD.frozen wC.heap.size j (by simp only [World.size_alloc, World.size_drew]; exact Nat.lt_succ_self _) nC.out)) | (have hchk := hbN.lt; clear hchk; (with_reducible refine (mby_any ea e5 e6 s (s + 1) bd m.C.neg d v3 _ H_hv6.out H_he6.out H_imCneg.out H_id.out ?qa hsg ?qb ?qc ?qd ?qe).mono ?_); (case qa => exact (But.at' (v := (evl 218 ea e5)) (w := wp) (by repeat' (first | (with_reducible assumption) | (with_reducible exact Nat.le_refl _) | (with_reducible refine But.drewN ?_) | (with_reducible refine But.drew ?_) | (with_reducible refine But.alloc ?_ _) | (with_reducible refine But.setCell ?_ ?_ _))))); (case qb => exact (H_KP.out.but (v := (evl 218 ea e5)) (t := 105) (by repeat' (first | (with_reducible assumption) | (with_reducible exact Nat.le_refl _) | (with_reducible refine But.drewN ?_) | (with_reducible refine But.drew ?_) | (with_reducible refine But.alloc ?_ _) | (with_reducible refine But.setCell ?_ ?_ _))) hsg)); (case qc => exact (H_KD.out _ (by with_reducible assumption)).1); (case qd => exact (H_KD.out _ (by with_reducible assumption)).2.1); (case qe => exact (H_KD.out _ (by with_reducible assumption)).2.2); rintro en wC ⟨rfl, hqC⟩; have hbC := But.trans (v := (evl 218 ea e5)) (w := wp) (by repeat' (first | (with_reducible assumption) | (with_reducible exact Nat.le_refl _) | (with_reducible refine But.drewN ?_) | (with_reducible refine But.drew ?_) | (with_reducible refine But.alloc ?_ _) | (with_reducible refine But.setCell ?_ ?_ _))) hqC; have tC := hqC.size; (try simp only [World.size_alloc] at tC); (try simp only [World.size_drew] at tC); (try simp only [World.size_setCell] at tC); have uC : wp.heap.size ≤ wC.heap.size := hbC.size; have hsC := hqC.here; have hfC := hqC.free; have lC : s < wC.heap.size := Nat.lt_of_lt_of_le hbC.lt hbC.size; have nC : Hid (wC.heap.size ≠ s) := Lib.hid (Nat.ne_of_gt lC); (try have zCwp : wp.heap.size < wC.heap.size := Nat.lt_of_lt_of_le zNwp hqC.size); (try have oCwp := fun j => hqC.cell wp.heap.size j zNwp H_N0.out); (try have fCwp := fun j => hqC.frozen wp.heap.size j zNwp H_N0.out); (try have zCwA : wA.heap.size < wC.heap.size := Nat.lt_of_lt_of_le zNwA hqC.size); (try have oCwA := fun j => hqC.cell wA.heap.size j zNwA nA.out); (try have fCwA := fun j => hqC.frozen wA.heap.size j zNwA nA.out); (try have zCwM : wM.heap.size < wC.heap.size := Nat.lt_of_lt_of_le zNwM hqC.size); (try have oCwM := fun j => hqC.cell wM.heap.size j zNwM nM.out); (try have fCwM := fun j => hqC.frozen wM.heap.size j zNwM nM.out); (try have zCwB : wB.heap.size < wC.heap.size := Nat.lt_of_lt_of_le zNwB hqC.size); (try have oCwB := fun j => hqC.cell wB.heap.size j zNwB nB.out); (try have fCwB := fun j => hqC.frozen wB.heap.size j zNwB nB.out); (try have zCwN : wN.heap.size < wC.heap.size := Nat.lt_of_lt_of_le (by simp only [World.size_alloc, World.size_drew]; exact Nat.lt_succ_self _) hqC.size); (try have oCwN := fun j => hqC.cell wN.heap.size j (by simp only [World.size_alloc, World.size_drew]; exact Nat.lt_succ_self _) nN.out); (try have fCwN := fun j => hqC.frozen wN.heap.size j (by simp only [World.size_alloc, World.size_drew]; exact Nat.lt_succ_self _) nN.out)) | (have hchk := hbB.lt; clear hchk; (with_reducible refine (mminus_any m.C _ H_RmC.out).mono ?_); rintro en wN ⟨rfl, hmN⟩; have hqN := but_of_below (s := s) (t := 105) hmN (v := (evl 218 ea e5)) (w := wp) (by repeat' (first | (with_reducible assumption) | (with_reducible exact Nat.le_refl _) | (with_reducible refine But.drewN ?_) | (with_reducible refine But.drew ?_) | (with_reducible refine But.alloc ?_ _) | (with_reducible refine But.setCell ?_ ?_ _))); have hbN := But.trans (v := (evl 218 ea e5)) (w := wp) (by repeat' (first | (with_reducible assumption) | (with_reducible exact Nat.le_refl _) | (with_reducible refine But.drewN ?_) | (with_reducible refine But.drew ?_) | (with_reducible refine But.alloc ?_ _) | (with_reducible refine But.setCell ?_ ?_ _))) hqN; have tN := hqN.size; (try simp only [World.size_alloc] at tN); (try simp only [World.size_drew] at tN); (try simp only [World.size_setCell] at tN); have uN : wp.heap.size ≤ wN.heap.size := hbN.size; have hsN := hqN.here; have hfN := hqN.free; have lN : s < wN.heap.size := Nat.lt_of_lt_of_le hbN.lt hbN.size; have nN : Hid (wN.heap.size ≠ s) := Lib.hid (Nat.ne_of_gt lN); (try have zNwp : wp.heap.size < wN.heap.size := Nat.lt_of_lt_of_le zBwp hqN.size); (try have oNwp := fun j => hqN.cell wp.heap.size j zBwp H_N0.out); (try have fNwp := fun j => hqN.frozen wp.heap.size j zBwp H_N0.out); (try have zNwA : wA.heap.size < wN.heap.size := Nat.lt_of_lt_of_le zBwA hqN.size); (try have oNwA := fun j => hqN.cell wA.heap.size j zBwA nA.out); (try have fNwA := fun j => hqN.frozen wA.heap.size j zBwA nA.out); (try have zNwM : wM.heap.size < wN.heap.size := Nat.lt_of_lt_of_le zBwM hqN.size); (try have oNwM := fun j => hqN.cell wM.heap.size j zBwM nM.out); (try have fNwM := fun j => hqN.frozen wM.heap.size j zBwM nM.out); (try have zNwB : wB.heap.size < wN.heap.size := Nat.lt_of_lt_of_le (by simp only [World.size_alloc, World.size_drew]; exact Nat.lt_succ_self _) hqN.size); (try have oNwB := fun j => hqN.cell wB.heap.size j (by simp only [World.size_alloc, World.size_drew]; exact Nat.lt_succ_self _) nB.out); (try have fNwB := fun j => hqN.frozen wB.heap.size j (by simp only [World.size_alloc, World.size_drew]; exact Nat.lt_succ_self _) nB.out)) | (have hchk := hbM.lt; clear hchk; (with_reducible refine (mby_any ea e4 e5 s (s + 1) bd m.B.neg d v2 _ H_hv5.out H_he5.out H_imBneg.out H_id.out ?qa hsg ?qb ?qc ?qd ?qe).mono ?_); (case qa => exact (But.at' (v := (evl 218 ea e4)) (w := wp) (by repeat' (first | (with_reducible assumption) | (with_reducible exact Nat.le_refl _) | (with_reducible refine But.drewN ?_) | (with_reducible refine But.drew ?_) | (with_reducible refine But.alloc ?_ _) | (with_reducible refine But.setCell ?_ ?_ _))))); (case qb => exact (H_KP.out.but (v := (evl 218 ea e4)) (t := 105) (by repeat' (first | (with_reducible assumption) | (with_reducible exact Nat.le_refl _) | (with_reducible refine But.drewN ?_) | (with_reducible refine But.drew ?_) | (with_reducible refine But.alloc ?_ _) | (with_reducible refine But.setCell ?_ ?_ _))) hsg)); (case qc => exact (H_KD.out _ (by with_reducible assumption)).1); (case qd => exact (H_KD.out _ (by with_reducible assumption)).2.1); (case qe => exact (H_KD.out _ (by with_reducible assumption)).2.2); rintro en wB ⟨rfl, hqB⟩; have hbB := But.trans (v := (evl 218 ea e4)) (w := wp) (by repeat' (first | (with_reducible assumption) | (with_reducible exact Nat.le_refl _) | (with_reducible refine But.drewN ?_) | (with_reducible refine But.drew ?_) | (with_reducible refine But.alloc ?_ _) | (with_reducible refine But.setCell ?_ ?_ _))) hqB; have tB := hqB.size; (try simp only [World.size_alloc] at tB); (try simp only [World.size_drew] at tB); (try simp only [World.size_setCell] at tB); have uB : wp.heap.size ≤ wB.heap.size := hbB.size; have hsB := hqB.here; have hfB := hqB.free; have lB : s < wB.heap.size := Nat.lt_of_lt_of_le hbB.lt hbB.size; have nB : Hid (wB.heap.size ≠ s) := Lib.hid (Nat.ne_of_gt lB); (try have zBwp : wp.heap.size < wB.heap.size := Nat.lt_of_lt_of_le zMwp hqB.size); (try have oBwp := fun j => hqB.cell wp.heap.size j zMwp H_N0.out); (try have fBwp := fun j => hqB.frozen wp.heap.size j zMwp H_N0.out); (try have zBwA : wA.heap.size < wB.heap.size := Nat.lt_of_lt_of_le zMwA hqB.size); (try have oBwA := fun j => hqB.cell wA.heap.size j zMwA nA.out); (try have fBwA := fun j => hqB.frozen wA.heap.size j zMwA nA.out); (try have zBwM : wM.heap.size < wB.heap.size := Nat.lt_of_lt_of_le (by simp only [World.size_alloc, World.size_drew]; exact Nat.lt_succ_self _) hqB.size); (try have oBwM := fun j => hqB.cell wM.heap.size j (by simp only [World.size_alloc, World.size_drew]; exact Nat.lt_succ_self _) nM.out); (try have fBwM := fun j => hqB.frozen wM.heap.size j (by simp only [World.size_alloc, World.size_drew]; exact Nat.lt_succ_self _) nM.out)) | (have hchk := hbA.lt; clear hchk; (with_reducible refine (mminus_any m.B _ H_RmB.out).mono ?_); rintro en wM ⟨rfl, hmM⟩; have hqM := but_of_below (s := s) (t := 105) hmM (v := (evl 218 ea e4)) (w := wp) (by repeat' (first | (with_reducible assumption) | (with_reducible exact Nat.le_refl _) | (with_reducible refine But.drewN ?_) | (with_reducible refine But.drew ?_) | (with_reducible refine But.alloc ?_ _) | (with_reducible refine But.setCell ?_ ?_ _))); have hbM := But.trans (v := (evl 218 ea e4)) (w := wp) (by repeat' (first | (with_reducible assumption) | (with_reducible exact Nat.le_refl _) | (with_reducible refine But.drewN ?_) | (with_reducible refine But.drew ?_) | (with_reducible refine But.alloc ?_ _) | (with_reducible refine But.setCell ?_ ?_ _))) hqM; have tM := hqM.size; (try simp only [World.size_alloc] at tM); (try simp only [World.size_drew] at tM); (try simp only [World.size_setCell] at tM); have uM : wp.heap.size ≤ wM.heap.size := hbM.size; have hsM := hqM.here; have hfM := hqM.free; have lM : s < wM.heap.size := Nat.lt_of_lt_of_le hbM.lt hbM.size; have nM : Hid (wM.heap.size ≠ s) := Lib.hid (Nat.ne_of_gt lM); (try have zMwp : wp.heap.size < wM.heap.size := Nat.lt_of_lt_of_le zAwp hqM.size); (try have oMwp := fun j => hqM.cell wp.heap.size j zAwp H_N0.out); (try have fMwp := fun j => hqM.frozen wp.heap.size j zAwp H_N0.out); (try have zMwA : wA.heap.size < wM.heap.size := Nat.lt_of_lt_of_le (by simp only [World.size_alloc, World.size_drew]; exact Nat.lt_succ_self _) hqM.size); (try have oMwA := fun j => hqM.cell wA.heap.size j (by simp only [World.size_alloc, World.size_drew]; exact Nat.lt_succ_self _) nA.out); (try have fMwA := fun j => hqM.frozen wA.heap.size j (by simp only [World.size_alloc, World.size_drew]; exact Nat.lt_succ_self _) nA.out)) | ((with_reducible refine (mby_any ea e3 e4 s (s + 1) bd m.D d v1 _ H_hv4.out H_he4.out H_imD.out H_id.out ?qa hsg ?qb ?qc ?qd ?qe).mono ?_); (case qa => exact (But.at' (v := (evl 218 ea e3)) (w := wp) (by repeat' (first | (with_reducible assumption) | (with_reducible exact Nat.le_refl _) | (with_reducible refine But.drewN ?_) | (with_reducible refine But.drew ?_) | (with_reducible refine But.alloc ?_ _) | (with_reducible refine But.setCell ?_ ?_ _))))); (case qb => exact (H_KP.out.but (v := (evl 218 ea e3)) (t := 105) (by repeat' (first | (with_reducible assumption) | (with_reducible exact Nat.le_refl _) | (with_reducible refine But.drewN ?_) | (with_reducible refine But.drew ?_) | (with_reducible refine But.alloc ?_ _) | (with_reducible refine But.setCell ?_ ?_ _))) hsg)); (case qc => exact (H_KD.out _ (by with_reducible assumption)).1); (case qd => exact (H_KD.out _ (by with_reducible assumption)).2.1); (case qe => exact (H_KD.out _ (by with_reducible assumption)).2.2); rintro en wA ⟨rfl, hqA⟩; have hbA := But.trans (v := (evl 218 ea e3)) (w := wp) (by repeat' (first | (with_reducible assumption) | (with_reducible exact Nat.le_refl _) | (with_reducible refine But.drewN ?_) | (with_reducible refine But.drew ?_) | (with_reducible refine But.alloc ?_ _) | (with_reducible refine But.setCell ?_ ?_ _))) hqA; have tA := hqA.size; (try simp only [World.size_alloc] at tA); (try simp only [World.size_drew] at tA); (try simp only [World.size_setCell] at tA); have uA : wp.heap.size ≤ wA.heap.size := hbA.size; have hsA := hqA.here; have hfA := hqA.free; have lA : s < wA.heap.size := Nat.lt_of_lt_of_le hbA.lt hbA.size; have nA : Hid (wA.heap.size ≠ s) := Lib.hid (Nat.ne_of_gt lA); (try have zAwp : wp.heap.size < wA.heap.size := Nat.lt_of_lt_of_le (by simp only [World.size_alloc, World.size_drew]; exact Nat.lt_succ_self _) hqA.size); (try have oAwp := fun j => hqA.cell wp.heap.size j (by simp only [World.size_alloc, World.size_drew]; exact Nat.lt_succ_self _) H_N0.out); (try have fAwp := fun j => hqA.frozen wp.heap.size j (by simp only [World.size_alloc, World.size_drew]; exact Nat.lt_succ_self _) H_N0.out)))
    all_goals
      go_wp2_with fail
      go_meet
      first | with_reducible exact made_last hbD _ | with_reducible exact made_ahead hbC hqD _ _ _ _ _ _ _ _ _ _ _ _ | with_reducible exact made_ahead hbN (hqC.trans hqD) _ _ _ _ _ _ _ _ _ _ _ _ | with_reducible exact made_ahead hbB ((hqN.trans hqC).trans hqD) _ _ _ _ _ _ _ _ _ _ _ _ | with_reducible exact made_ahead hbM (((hqB.trans hqN).trans hqC).trans hqD) _ _ _ _ _ _ _ _ _ _ _ _ | with_reducible exact made_ahead hbA ((((hqM.trans hqB).trans hqN).trans hqC).trans hqD) _ _ _ _ _ _ _ _ _ _ _ _ | with_reducible exact made_ahead (But.refl H_hatp.out) (((((hqA.trans hqM).trans hqB).trans hqN).trans hqC).trans hqD) _ _ _ _ _ _ _ _ _ _ _ _ | with_reducible exact made_ahead (But.refl H_hatp.out) (But.undrew (((((hqA.trans hqM).trans hqB).trans hqN).trans hqC).trans hqD)) _ _ _ _ _ _ _ _ _ _ _ _
  case rest =>
    obtain ⟨g, rfl, og, fg, hg0, hg1, hbq⟩ := hcut
    rename World => wq
    clear hc hf KB0
    have gs : g ≠ s := by omega
    have gz1 : w.heap.size + 1 < g := by omega
    have gz2 : s < g := by omega
    have hatq := hbq.at'
    have hc := cell_of_one hatq
    have hf := free_of_one hatq
    have tq := hbq.size
    have KB0 : But s 105 (evl 218 ea e7) wq wq := But.refl hatq
    have o0q : ∀ j, wq.cell? ⟨w.heap.size, j, none⟩ = #[.int .i64 m.A.n, .int .i64 m.A.d, .int .i64 m.B.n, .int .i64 m.B.d, .int .i64 m.C.n, .int .i64 m.C.d, .int .i64 m.D.n, .int .i64 m.D.d, .int .i64 m.E.n, .int .i64 m.E.d, .int .i64 m.F.n, .int .i64 m.F.d][j]? := fun j => (hbq.cell w.heap.size j z0p (by omega)).trans (o0p j)
    have o1q : ∀ j, wq.cell? ⟨w.heap.size + 1, j, none⟩ = (#[.int .i64 0, .int .i64 0, .int .i64 0, .int .i64 0, .int .i64 0, .int .i64 0, .int .i64 0, .int .i64 0, .int .i64 0, .int .i64 0, .int .i64 0, .int .i64 0] : Array Value)[j]? := fun j => (hbq.cell (w.heap.size + 1) j z1p (by omega)).trans (o1p j)
    have f1q : ∀ j, wq.frozen? ⟨w.heap.size + 1, j, none⟩ = false := fun j => (hbq.frozen (w.heap.size + 1) j z1p (by omega)).trans (f1p j)
    have obq : wq.cell? ⟨s + 1, 0, none⟩ = some (.pointer (some ⟨s, 0, none⟩)) := (hbq.cell (s + 1) 0 z2p (by omega)).trans obp
    have hBq : Below w.heap.size w wq := hBp.trans (hbq.toBelow (by omega) (by omega))
    have KQ := H_KP.out.but hbq hsg
    have l0q : s < wq.heap.size := by omega
    have N0 : wq.heap.size ≠ s := by omega
    have N1 : wq.heap.size + 1 ≠ s := by omega
    have z0q : w.heap.size < wq.heap.size := by omega
    have uq1 : wq.heap.size ≤ wq.heap.size + 1 := Nat.le_succ _
    have z1q : w.heap.size + 1 < wq.heap.size := by omega
    have z2q : s + 1 < wq.heap.size := by omega
    have SC : ∀ W, (∃ v, But s 105 v wq W) → (∃ v, But s 105 v wq W) ∧ (∀ j, W.cell? ⟨w.heap.size, j, none⟩ = #[.int .i64 m.A.n, .int .i64 m.A.d, .int .i64 m.B.n, .int .i64 m.B.d, .int .i64 m.C.n, .int .i64 m.C.d, .int .i64 m.D.n, .int .i64 m.D.d, .int .i64 m.E.n, .int .i64 m.E.d, .int .i64 m.F.n, .int .i64 m.F.d][j]?) ∧ (∀ j, W.cell? ⟨g, j, none⟩ = #[Value.int .i64 v1.n, .int .i64 v1.d, .int .i64 v2.n, .int .i64 v2.d, .int .i64 v3.n, .int .i64 v3.d, .int .i64 v4.n, .int .i64 v4.d, .int .i64 0, .int .i64 0, .int .i64 0, .int .i64 0][j]?) ∧ W.cell? ⟨s + 1, 0, none⟩ = some (.pointer (some ⟨s, 0, none⟩)) := by
      intro W h
      obtain ⟨v, h⟩ := h
      exact ⟨⟨v, h⟩, fun j => by rw [h.cell _ _ (by omega) (by omega)]; exact o0q j, fun j => by rw [h.cell _ _ (by omega) (by omega)]; exact og j, (h.cell _ _ (by omega) (by omega)).trans obq⟩
    have H_gs := Lib.hid gs
    clear o0p o1p f1p obp od0 od1 hBp l0p z0p z1p z2p H_SK H_KD H_N0 H_hatp hbp hbq lbd lbp nbd tp H_KP gs hg0 tq
    clear wp
    have H_SC := Lib.hid SC
    clear SC
    have H_KQ := Lib.hid KQ
    clear KQ
    have H_N0 := Lib.hid N0
    clear N0
    have H_N1 := Lib.hid N1
    clear N1
    have H_hatq := Lib.hid hatq
    clear hatq
    go_upto_region 15 with fail
    go_cut [12, 13] (fun s12 s13 wx => ∃ g1 g2 : Nat, s12 = .pointer (some ⟨g1, 0, none⟩) ∧ s13 = .pointer (some ⟨g2, 0, none⟩) ∧ wx.cell? ⟨g1, 0, none⟩ = some (.int .i64 vE.n) ∧ wx.cell? ⟨g1, 1, none⟩ = some (.int .i64 vE.d) ∧ wx.cell? ⟨g2, 0, none⟩ = some (.int .i64 vF.n) ∧ wx.cell? ⟨g2, 1, none⟩ = some (.int .i64 vF.d) ∧ wq.heap.size ≤ g1 ∧ wq.heap.size ≤ g2 ∧ But s 105 (evl 218 ea e9) wq wx)
    case first =>
      go_region_held3 (fun W => (∃ v, But s 105 v wq W) ∧ (∀ j, W.cell? ⟨w.heap.size, j, none⟩ = #[.int .i64 m.A.n, .int .i64 m.A.d, .int .i64 m.B.n, .int .i64 m.B.d, .int .i64 m.C.n, .int .i64 m.C.d, .int .i64 m.D.n, .int .i64 m.D.d, .int .i64 m.E.n, .int .i64 m.E.d, .int .i64 m.F.n, .int .i64 m.F.d][j]?) ∧ (∀ j, W.cell? ⟨g, j, none⟩ = #[Value.int .i64 v1.n, .int .i64 v1.d, .int .i64 v2.n, .int .i64 v2.d, .int .i64 v3.n, .int .i64 v3.d, .int .i64 v4.n, .int .i64 v4.d, .int .i64 0, .int .i64 0, .int .i64 0, .int .i64 0][j]?) ∧ W.cell? ⟨s + 1, 0, none⟩ = some (.pointer (some ⟨s, 0, none⟩)))
        (first | ((with_reducible refine H_SC.out _ ⟨(evl 218 ea e9), ?_⟩); (repeat' (first | (with_reducible assumption) | (with_reducible exact Nat.le_refl _) | omega | (with_reducible refine But.drewN ?_) | (with_reducible refine But.drew ?_) | (with_reducible refine But.alloc ?_ _) | (with_reducible refine But.setCell ?_ ?_ _))); done) | ((with_reducible refine H_SC.out _ ⟨(evl 218 ea e8), ?_⟩); (repeat' (first | (with_reducible assumption) | (with_reducible exact Nat.le_refl _) | omega | (with_reducible refine But.drewN ?_) | (with_reducible refine But.drew ?_) | (with_reducible refine But.alloc ?_ _) | (with_reducible refine But.setCell ?_ ?_ _))); done) | ((with_reducible refine H_SC.out _ ⟨(evl 218 ea e7), ?_⟩); (repeat' (first | (with_reducible assumption) | (with_reducible exact Nat.le_refl _) | omega | (with_reducible refine But.drewN ?_) | (with_reducible refine But.drew ?_) | (with_reducible refine But.alloc ?_ _) | (with_reducible refine But.setCell ?_ ?_ _))); done))
        (first | (have hchk := hbG.lt; clear hchk; (with_reducible refine (sof_any (gz := true) ea e8 e9 s v2 m.E v4 m.F vF _ H_hv9.out H_he9.out H_iv2.out H_imE.out H_iv4.out H_imF.out ?qa hsg ?qb).mono ?_); (case qa => exact (But.at' (v := (evl 218 ea e8)) (w := wq) (by repeat' (first | (with_reducible assumption) | (with_reducible exact Nat.le_refl _) | (with_reducible refine But.drewN ?_) | (with_reducible refine But.drew ?_) | (with_reducible refine But.alloc ?_ _) | (with_reducible refine But.setCell ?_ ?_ _))))); (case qb => exact (H_KQ.out.but (v := (evl 218 ea e8)) (t := 105) (by repeat' (first | (with_reducible assumption) | (with_reducible exact Nat.le_refl _) | (with_reducible refine But.drewN ?_) | (with_reducible refine But.drew ?_) | (with_reducible refine But.alloc ?_ _) | (with_reducible refine But.setCell ?_ ?_ _))) hsg)); rintro en wH ⟨rfl, hqH⟩; have hbH := But.trans (v := (evl 218 ea e8)) (w := wq) (by repeat' (first | (with_reducible assumption) | (with_reducible exact Nat.le_refl _) | (with_reducible refine But.drewN ?_) | (with_reducible refine But.drew ?_) | (with_reducible refine But.alloc ?_ _) | (with_reducible refine But.setCell ?_ ?_ _))) hqH; have tH := hqH.size; (try simp only [World.size_alloc] at tH); (try simp only [World.size_drew] at tH); (try simp only [World.size_setCell] at tH); have uH : wq.heap.size ≤ wH.heap.size := hbH.size; have hsH := hqH.here; have hfH := hqH.free; have lH : s < wH.heap.size := Nat.lt_of_lt_of_le hbH.lt hbH.size; have nH : Hid (wH.heap.size ≠ s) := Lib.hid (Nat.ne_of_gt lH); have mH : Hid (wH.heap.size + 1 ≠ s) := Lib.hid (Nat.ne_of_gt (Nat.lt_succ_of_lt lH)); have uuH : wq.heap.size ≤ wH.heap.size + 1 := Nat.le_succ_of_le uH; (try have zHwq : wq.heap.size < wH.heap.size := Nat.lt_of_lt_of_le (by first | exact zGwq | (simp only [World.size_alloc, World.size_drew]; exact Nat.lt_succ_of_lt zGwq)) hqH.size); (try have oHwq := fun j => hqH.cell wq.heap.size j (by first | exact zGwq | (simp only [World.size_alloc, World.size_drew]; exact Nat.lt_succ_of_lt zGwq)) H_N0.out); (try have fHwq := fun j => hqH.frozen wq.heap.size j (by first | exact zGwq | (simp only [World.size_alloc, World.size_drew]; exact Nat.lt_succ_of_lt zGwq)) H_N0.out); (try have zzHwq : wq.heap.size + 1 < wH.heap.size := Nat.lt_of_lt_of_le (by first | exact zzGwq | (simp only [World.size_alloc, World.size_drew]; exact Nat.lt_succ_of_lt zzGwq)) hqH.size); (try have ooHwq := fun j => hqH.cell (wq.heap.size + 1) j (by first | exact zzGwq | (simp only [World.size_alloc, World.size_drew]; exact Nat.lt_succ_of_lt zzGwq)) H_N1.out); (try have ffHwq := fun j => hqH.frozen (wq.heap.size + 1) j (by first | exact zzGwq | (simp only [World.size_alloc, World.size_drew]; exact Nat.lt_succ_of_lt zzGwq)) H_N1.out); (try have zHwG : wG.heap.size < wH.heap.size := Nat.lt_of_lt_of_le (by simp only [World.size_alloc, World.size_drew]; omega) hqH.size); (try have oHwG := fun j => hqH.cell wG.heap.size j (by simp only [World.size_alloc, World.size_drew]; omega) nG.out); (try have fHwG := fun j => hqH.frozen wG.heap.size j (by simp only [World.size_alloc, World.size_drew]; omega) nG.out); (try have zzHwG : wG.heap.size + 1 < wH.heap.size := Nat.lt_of_lt_of_le (by simp only [World.size_alloc, World.size_drew]; omega) hqH.size); (try have ooHwG := fun j => hqH.cell (wG.heap.size + 1) j (by simp only [World.size_alloc, World.size_drew]; omega) mG.out); (try have ffHwG := fun j => hqH.frozen (wG.heap.size + 1) j (by simp only [World.size_alloc, World.size_drew]; omega) mG.out)) | ((with_reducible refine (sof_any (gz := true) ea e7 e8 s v1 m.E v3 m.F vE _ H_hv8.out H_he8.out H_iv1.out H_imE.out H_iv3.out H_imF.out ?qa hsg ?qb).mono ?_); (case qa => exact (But.at' (v := (evl 218 ea e7)) (w := wq) (by repeat' (first | (with_reducible assumption) | (with_reducible exact Nat.le_refl _) | (with_reducible refine But.drewN ?_) | (with_reducible refine But.drew ?_) | (with_reducible refine But.alloc ?_ _) | (with_reducible refine But.setCell ?_ ?_ _))))); (case qb => exact (H_KQ.out.but (v := (evl 218 ea e7)) (t := 105) (by repeat' (first | (with_reducible assumption) | (with_reducible exact Nat.le_refl _) | (with_reducible refine But.drewN ?_) | (with_reducible refine But.drew ?_) | (with_reducible refine But.alloc ?_ _) | (with_reducible refine But.setCell ?_ ?_ _))) hsg)); rintro en wG ⟨rfl, hqG⟩; have hbG := But.trans (v := (evl 218 ea e7)) (w := wq) (by repeat' (first | (with_reducible assumption) | (with_reducible exact Nat.le_refl _) | (with_reducible refine But.drewN ?_) | (with_reducible refine But.drew ?_) | (with_reducible refine But.alloc ?_ _) | (with_reducible refine But.setCell ?_ ?_ _))) hqG; have tG := hqG.size; (try simp only [World.size_alloc] at tG); (try simp only [World.size_drew] at tG); (try simp only [World.size_setCell] at tG); have uG : wq.heap.size ≤ wG.heap.size := hbG.size; have hsG := hqG.here; have hfG := hqG.free; have lG : s < wG.heap.size := Nat.lt_of_lt_of_le hbG.lt hbG.size; have nG : Hid (wG.heap.size ≠ s) := Lib.hid (Nat.ne_of_gt lG); have mG : Hid (wG.heap.size + 1 ≠ s) := Lib.hid (Nat.ne_of_gt (Nat.lt_succ_of_lt lG)); have uuG : wq.heap.size ≤ wG.heap.size + 1 := Nat.le_succ_of_le uG; (try have zGwq : wq.heap.size < wG.heap.size := Nat.lt_of_lt_of_le (by simp only [World.size_alloc, World.size_drew]; omega) hqG.size); (try have oGwq := fun j => hqG.cell wq.heap.size j (by simp only [World.size_alloc, World.size_drew]; omega) H_N0.out); (try have fGwq := fun j => hqG.frozen wq.heap.size j (by simp only [World.size_alloc, World.size_drew]; omega) H_N0.out); (try have zzGwq : wq.heap.size + 1 < wG.heap.size := Nat.lt_of_lt_of_le (by simp only [World.size_alloc, World.size_drew]; omega) hqG.size); (try have ooGwq := fun j => hqG.cell (wq.heap.size + 1) j (by simp only [World.size_alloc, World.size_drew]; omega) H_N1.out); (try have ffGwq := fun j => hqG.frozen (wq.heap.size + 1) j (by simp only [World.size_alloc, World.size_drew]; omega) H_N1.out)))
      all_goals (go_wp2_with fail; go_meet; refine ⟨_, _, rfl, rfl, ?_, ?_, ?_, ?_, ?_, ?_, ?_⟩)
      all_goals first | (simp [go_sem, *]; done) | omega | exact by repeat' (first | (with_reducible assumption) | (with_reducible exact But.refl (by assumption)) | (with_reducible refine But.drewN ?_) | (with_reducible refine But.alloc ?_ _) | (with_reducible refine But.drew ?_) | (with_reducible refine But.setCell ?_ ?_ _) | omega | (simp <;> omega))
    case rest =>
      obtain ⟨g1, g2, rfl, rfl, c10, c11, c20, c21, hg1', hg2', hbr⟩ := hcut
      rename World => wr
      have t9 := hbr.here
      have tr := hbr.size
      have o1r : ∀ j, wr.cell? ⟨w.heap.size + 1, j, none⟩ = (#[.int .i64 0, .int .i64 0, .int .i64 0, .int .i64 0, .int .i64 0, .int .i64 0, .int .i64 0, .int .i64 0, .int .i64 0, .int .i64 0, .int .i64 0, .int .i64 0] : Array Value)[j]? := fun j => (hbr.cell (w.heap.size + 1) j z1q (by omega)).trans (o1q j)
      have f1r : ∀ j, wr.frozen? ⟨w.heap.size + 1, j, none⟩ = false := fun j => (hbr.frozen (w.heap.size + 1) j z1q (by omega)).trans (f1q j)
      have ogr : ∀ j, wr.cell? ⟨g, j, none⟩ = #[Value.int .i64 v1.n, .int .i64 v1.d, .int .i64 v2.n, .int .i64 v2.d, .int .i64 v3.n, .int .i64 v3.d, .int .i64 v4.n, .int .i64 v4.d, .int .i64 0, .int .i64 0, .int .i64 0, .int .i64 0][j]? := fun j => (hbr.cell g j hg1 H_gs.out).trans (og j)
      have fgr : ∀ j, wr.frozen? ⟨g, j, none⟩ = false := fun j => (hbr.frozen g j hg1 H_gs.out).trans (fg j)
      have obr : wr.cell? ⟨s + 1, 0, none⟩ = some (.pointer (some ⟨s, 0, none⟩)) := (hbr.cell (s + 1) 0 z2q (by omega)).trans obq
      have hBr : Below w.heap.size w wr := hBq.trans (hbr.toBelow (by omega) (by omega))
      have lg1 : g1 < wr.heap.size := World.block_lt_of_cell? wr _ c10
      have lg2 : g2 < wr.heap.size := World.block_lt_of_cell? wr _ c20
      have lg : g < wr.heap.size := by omega
      have z1r : w.heap.size + 1 < wr.heap.size := by omega
      have ng1 : g ≠ g1 := by omega
      have ng2 : g ≠ g2 := by omega
      have ng1' : ¬ g = g1 := by omega
      have ng2' : ¬ g = g2 := by omega
      have ng3 : g ≠ w.heap.size + 1 := by omega
      have ng4 : ¬ s = g := by omega
      have ls4 : s < wr.heap.size := by omega
      clear o0q o1q f1q obq og fg hBq H_SC H_KQ H_N0 H_N1 H_hatq KB0 hc hf hbr hg1' hg2' hg1 l0q uq1 z0q z1q z2q tr
      clear wq
      by_cases h9 : e9 = 0
      · obtain ⟨hc, hv, RE, RF⟩ := H_hO.out h9
        have H_h9 := Lib.hid h9
        clear h9
        have H_hc := Lib.hid hc
        clear hc
        have H_hv := Lib.hid hv
        clear hv
        have H_RE := Lib.hid RE
        clear RE
        have H_RF := Lib.hid RF
        clear RF
        rw [evl_0 H_h9.out] at t9
        go_upto_region 18 with fail
        clear t9
        have K0 : ∀ W, Below wr.heap.size wr W → W.cell? ⟨g1, 0, none⟩ = some (.int .i64 vE.n) ∧ W.cell? ⟨g1, 1, none⟩ = some (.int .i64 vE.d) ∧ W.cell? ⟨g2, 0, none⟩ = some (.int .i64 vF.n) ∧ W.cell? ⟨g2, 1, none⟩ = some (.int .i64 vF.d) := fun W h => ⟨(h.cell (p := ⟨g1, 0, none⟩) lg1).trans c10, (h.cell (p := ⟨g1, 1, none⟩) lg1).trans c11, (h.cell (p := ⟨g2, 0, none⟩) lg2).trans c20, (h.cell (p := ⟨g2, 1, none⟩) lg2).trans c21⟩
        have K2 : ∀ (V : World) (i0 i1 : Nat) (x0 x1 : Value), Below wr.heap.size wr V → (fun W => W.cell? ⟨g1, 0, none⟩ = some (.int .i64 vE.n) ∧ W.cell? ⟨g1, 1, none⟩ = some (.int .i64 vE.d) ∧ W.cell? ⟨g2, 0, none⟩ = some (.int .i64 vF.n) ∧ W.cell? ⟨g2, 1, none⟩ = some (.int .i64 vF.d)) ((V.setCell ⟨g, i0, none⟩ x0).setCell ⟨g, i1, none⟩ x1) := fun V i0 i1 x0 x1 h => ⟨(oth2 ng1 0).trans (K0 V h).1, (oth2 ng1 1).trans (K0 V h).2.1, (oth2 ng2 0).trans (K0 V h).2.2.1, (oth2 ng2 1).trans (K0 V h).2.2.2⟩
        have K4 : ∀ (V : World) (i0 i1 i2 i3 : Nat) (x0 x1 x2 x3 : Value), Below wr.heap.size wr V → (fun W => W.cell? ⟨g1, 0, none⟩ = some (.int .i64 vE.n) ∧ W.cell? ⟨g1, 1, none⟩ = some (.int .i64 vE.d) ∧ W.cell? ⟨g2, 0, none⟩ = some (.int .i64 vF.n) ∧ W.cell? ⟨g2, 1, none⟩ = some (.int .i64 vF.d)) ((((V.setCell ⟨g, i0, none⟩ x0).setCell ⟨g, i1, none⟩ x1).setCell ⟨g, i2, none⟩ x2).setCell ⟨g, i3, none⟩ x3) := fun V i0 i1 i2 i3 x0 x1 x2 x3 h => ⟨(oth4 ng1 0).trans (K0 V h).1, (oth4 ng1 1).trans (K0 V h).2.1, (oth4 ng2 0).trans (K0 V h).2.2.1, (oth4 ng2 1).trans (K0 V h).2.2.2⟩
        have H_K0 := Lib.hid K0
        have H_K2 := Lib.hid K2
        have H_K4 := Lib.hid K4
        clear K0 K2 K4
        go_cut [11] (fun s11 wx => s11 = .pointer (some ⟨g, 0, none⟩) ∧ (∀ j, wx.cell? ⟨g, j, none⟩ = (#[Value.int .i64 v1.n, .int .i64 v1.d, .int .i64 v2.n, .int .i64 v2.d, .int .i64 v3.n, .int .i64 v3.d, .int .i64 v4.n, .int .i64 v4.d, .int .i64 vE.neg.n, .int .i64 vE.neg.d, .int .i64 vF.neg.n, .int .i64 vF.neg.d] : Array Value)[j]?) ∧ (∀ j, wx.cell? ⟨w.heap.size + 1, j, none⟩ = (#[.int .i64 0, .int .i64 0, .int .i64 0, .int .i64 0, .int .i64 0, .int .i64 0, .int .i64 0, .int .i64 0, .int .i64 0, .int .i64 0, .int .i64 0, .int .i64 0] : Array Value)[j]?) ∧ (∀ j, wx.frozen? ⟨w.heap.size + 1, j, none⟩ = false) ∧ w.heap.size + 1 < wx.heap.size ∧ g < wx.heap.size ∧ Below w.heap.size w wx)
        case first =>
          go_region_held3 (fun W => W.cell? ⟨g1, 0, none⟩ = some (.int .i64 vE.n) ∧ W.cell? ⟨g1, 1, none⟩ = some (.int .i64 vE.d) ∧ W.cell? ⟨g2, 0, none⟩ = some (.int .i64 vF.n) ∧ W.cell? ⟨g2, 1, none⟩ = some (.int .i64 vF.d))
            (first | ((with_reducible refine H_K4.out _ _ _ _ _ _ _ _ _ ?_); (repeat' (first | (with_reducible exact Below.refl _ _) | (with_reducible assumption) | (with_reducible refine bdn ?_) | (with_reducible refine Below.alloc ?_ ?_ _) | (with_reducible refine Below.drew ?_) | (with_reducible refine Below.setCell ?_ ?_ _) | omega | (simp <;> omega))); done) | ((with_reducible refine H_K2.out _ _ _ _ _ ?_); (repeat' (first | (with_reducible exact Below.refl _ _) | (with_reducible assumption) | (with_reducible refine bdn ?_) | (with_reducible refine Below.alloc ?_ ?_ _) | (with_reducible refine Below.drew ?_) | (with_reducible refine Below.setCell ?_ ?_ _) | omega | (simp <;> omega))); done) | ((with_reducible refine H_K0.out _ ?_); (repeat' (first | (with_reducible exact Below.refl _ _) | (with_reducible assumption) | (with_reducible refine bdn ?_) | (with_reducible refine Below.alloc ?_ ?_ _) | (with_reducible refine Below.drew ?_) | (with_reducible refine Below.setCell ?_ ?_ _) | omega | (simp <;> omega))); done))
            (first | ((with_reducible refine (mminus_any vE _ H_RE.out).mono ?_); rintro en wU ⟨rfl, hU⟩; have hbU : Below wr.heap.size wr wU := below_via (by repeat' (first | (with_reducible exact Below.refl _ _) | (with_reducible assumption) | (with_reducible refine bdn ?_) | (with_reducible refine Below.alloc ?_ ?_ _) | (with_reducible refine Below.drew ?_) | (with_reducible refine Below.setCell ?_ ?_ _) | omega | (simp <;> omega))) hU; have tU := hbU.size; have zU : g < wU.heap.size := Nat.lt_of_lt_of_le lg tU; have oU := fun j => (hbU.cell (p := ⟨g, j, none⟩) lg).trans (ogr j); have fU := fun j => (hbU.frozen (p := ⟨g, j, none⟩) lg).trans (fgr j)) | ((with_reducible refine (mminus_any vF _ H_RF.out).mono ?_); rintro en wV ⟨rfl, hV⟩; have hbV : Below wr.heap.size wr wV := below_via (by repeat' (first | (with_reducible exact Below.refl _ _) | (with_reducible assumption) | (with_reducible refine bdn ?_) | (with_reducible refine Below.alloc ?_ ?_ _) | (with_reducible refine Below.drew ?_) | (with_reducible refine Below.setCell ?_ ?_ _) | omega | (simp <;> omega))) hV; have tV := hbV.size; have zV : g < wV.heap.size := Nat.lt_of_lt_of_le lg tV; have oV := fun j => (hbV.cell (p := ⟨g, j, none⟩) lg).trans (ogr j); have fV := fun j => (hbV.frozen (p := ⟨g, j, none⟩) lg).trans (fgr j)))
          all_goals
            ((try go_simp); (repeat go_step))
            go_meet
            refine ⟨rfl, gf2 (ge2 oV _ _) _ _, fun j => (oth4 ng3 j).trans ((hbV.cell (p := ⟨w.heap.size + 1, j, none⟩) z1r).trans (o1r j)), fun j => ?_, ?_, ?_, ?_⟩
            · simp only [World.frozen?_setCell]
              exact (hbV.frozen (p := ⟨w.heap.size + 1, j, none⟩) z1r).trans (f1r j)
            · simp only [World.size_setCell]; omega
            · simp only [World.size_setCell]; exact zV
            · have hBV := below_via hBr hbV
              exact by repeat' (first | (with_reducible exact Below.refl _ _) | (with_reducible assumption) | (with_reducible refine bdn ?_) | (with_reducible refine Below.alloc ?_ ?_ _) | (with_reducible refine Below.drew ?_) | (with_reducible refine Below.setCell ?_ ?_ _) | omega | (simp <;> omega))
        case rest =>
          obtain ⟨rfl, og', o1', f1', z1', lg', hBc⟩ := hcut
          ((try go_simp); (repeat go_step))
          with_reducible refine bodyPost_ret (res_back _ _ (w.heap.size + 1) _ _ _ _ _ _ _ _ _ _ _ _ ?hp (set12 o1' _ _ _ _ _ _ _ _ _ _ _ _)) rfl ?_
          case hp => simp
          rw [H_hv.out, H_hc.out]
          exact ⟨_, rfl, (evl_0 rfl).symm, by repeat' (first | (with_reducible exact Below.refl _ _) | (with_reducible assumption) | (with_reducible refine bdn ?_) | (with_reducible refine Below.alloc ?_ ?_ _) | (with_reducible refine Below.drew ?_) | (with_reducible refine Below.setCell ?_ ?_ _) | omega | (simp <;> omega))⟩
      · obtain ⟨hc, hv⟩ := H_hN.out h9
        have H_h9 := Lib.hid h9
        clear h9
        have H_hc := Lib.hid hc
        clear hc
        have H_hv := Lib.hid hv
        clear hv
        rw [evl_n H_h9.out] at t9
        have SKB : ∀ W, Below w.heap.size w W → W.cell? ⟨1, 0, none⟩ = some (.iface 218 (.pointer (some (ea 2)))) := fun W h => gkeep h hBound rfl
        have H_SKB := Lib.hid SKB
        clear SKB
        go_upto_region 17 with fail
        go_region_held3 (fun W => W.cell? ⟨1, 0, none⟩ = some (.iface 218 (.pointer (some (ea 2))))) (exact H_SKB.out _ (by repeat' (first | (with_reducible exact Below.refl _ _) | (with_reducible assumption) | (with_reducible refine bdn ?_) | (with_reducible refine Below.alloc ?_ ?_ _) | (with_reducible refine Below.drew ?_) | (with_reducible refine Below.setCell ?_ ?_ _) | omega | (simp <;> omega)))) (fail)
        all_goals
          (try go_simp)
          (repeat go_step)
          first
            | with_reducible refine bodyPost_ret (res_back _ _ (w.heap.size + 1) _ _ _ _ _ _ _ _ _ _ _ _ ?hp (set12d o1r _ _ _ _ _ _ _ _ _ _ _ _)) rfl ?_
            | with_reducible refine bodyPost_ret (res_back _ _ (w.heap.size + 1) _ _ _ _ _ _ _ _ _ _ _ _ ?hp (set12 o1r _ _ _ _ _ _ _ _ _ _ _ _)) rfl ?_
          case hp => simp
          rw [H_hv.out, H_hc.out]
          exact ⟨_, rfl, (evl_n (by decide)).symm, by repeat' (first | (with_reducible exact Below.refl _ _) | (with_reducible assumption) | (with_reducible refine bdn ?_) | (with_reducible refine Below.alloc ?_ ?_ _) | (with_reducible refine Below.drew ?_) | (with_reducible refine Below.setCell ?_ ?_ _) | omega | (simp <;> omega))⟩
end Go.Proofs.YtbekidefgdijkaaGreatDoor
