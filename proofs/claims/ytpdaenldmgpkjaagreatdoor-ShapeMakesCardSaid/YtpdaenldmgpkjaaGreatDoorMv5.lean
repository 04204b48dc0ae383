/-
  Walks over package move: to.
-/
import Derived.Test.YtpdaenldmgpkjaaGreatDoorMv4
import Derived.Deep.DeepCutAuto
namespace Go.Proofs.YtpdaenldmgpkjaaGreatDoor
open Go.RowKit Lead
variable {gz : Bool}

set_option maxHeartbeats 2000000 in
theorem sto_any (ea : Nat → Addr) (e e' s : Nat) (m : Mv) (p : Pt) (x y : Fr) (w : World) (hx0 : toX e m p = x) (hy0 : toY e m p = y) (he' : toE e m p = e') (im : m.I) (ip : p.I)
    (hs0 : w.heap[s]? = some (.cells #[evl 308 ea e] 158 (0, 0))) (hsg : 20 ≤ s) (hG : Gs gz ea w) :
    Calls Tryz.prog 88 #[.pointer (some ⟨s, 0, none⟩), .agg #[.int .i64 m.A.n, .int .i64 m.A.d, .int .i64 m.B.n, .int .i64 m.B.d, .int .i64 m.C.n, .int .i64 m.C.d, .int .i64 m.D.n, .int .i64 m.D.d, .int .i64 m.E.n, .int .i64 m.E.d, .int .i64 m.F.n, .int .i64 m.F.d], .agg #[.int .i64 p.xn, .int .i64 p.xd, .int .i64 p.yn, .int .i64 p.yd]] w fun en w' => en = .returned (.agg #[.int .i64 x.n, .int .i64 x.d, .int .i64 y.n, .int .i64 y.d]) ∧ But s 158 (evl 308 ea e') w w' := by
  have hc := cell_of_one hs0
  have hf := free_of_one hs0
  have hl := lt_of_block hs0
  have hnw_0 : ¬ w.heap.size = s := by omega
  have hmw_0 : ¬ s = w.heap.size := by omega
  have hnw_1 : ¬ w.heap.size + 1 = s := by omega
  have hmw_1 : ¬ s = w.heap.size + 1 := by omega
  have hlw_1 : s < w.heap.size + 1 := by omega
  have hnw_2 : ¬ w.heap.size + 1 + 1 = s := by omega
  have hmw_2 : ¬ s = w.heap.size + 1 + 1 := by omega
  have hlw_2 : s < w.heap.size + 1 + 1 := by omega
  have hnw_3 : ¬ w.heap.size + 1 + 1 + 1 = s := by omega
  have hmw_3 : ¬ s = w.heap.size + 1 + 1 + 1 := by omega
  have hlw_3 : s < w.heap.size + 1 + 1 + 1 := by omega
  have hnw_4 : ¬ w.heap.size + 1 + 1 + 1 + 1 = s := by omega
  have hmw_4 : ¬ s = w.heap.size + 1 + 1 + 1 + 1 := by omega
  have hlw_4 : s < w.heap.size + 1 + 1 + 1 + 1 := by omega
  have hnw_5 : ¬ w.heap.size + 1 + 1 + 1 + 1 + 1 = s := by omega
  have hmw_5 : ¬ s = w.heap.size + 1 + 1 + 1 + 1 + 1 := by omega
  have hlw_5 : s < w.heap.size + 1 + 1 + 1 + 1 + 1 := by omega
  have iX : p.X.I := ⟨ip.xn, ip.xd⟩
  have iY : p.Y.I := ⟨ip.yn, ip.yd⟩
  have iV := ofV_I e m.A p.X m.C p.Y
  have iA := im.A
  have iB := im.B
  have iC := im.C
  have iD := im.D
  have iE := im.E
  have iF := im.F
  obtain ⟨q1, hq1⟩ : ∃ z, ofV e m.A p.X m.C p.Y = z := ⟨_, rfl⟩
  obtain ⟨e1, he1⟩ : ∃ z, ofE e m.A p.X m.C p.Y = z := ⟨_, rfl⟩
  obtain ⟨e2, he2⟩ : ∃ z, toE1 e m p = z := ⟨_, rfl⟩
  have iV2 := ofV_I e2 m.B p.X m.D p.Y
  obtain ⟨q2, hq2⟩ : ∃ z, ofV e2 m.B p.X m.D p.Y = z := ⟨_, rfl⟩
  obtain ⟨e3, he3⟩ : ∃ z, ofE e2 m.B p.X m.D p.Y = z := ⟨_, rfl⟩
  have k1 : dV e1 (q1.addK m.E) (q1.add m.E) = x := by rw [← hx0, ← hq1, ← he1]; rfl
  have k2 : dE e1 (q1.addK m.E) = e2 := by rw [← he2, ← hq1, ← he1]; rfl
  have k3 : dV e3 (q2.addK m.F) (q2.add m.F) = y := by rw [← hy0, ← hq2, ← he3, ← he2]; rfl
  have k4 : dE e3 (q2.addK m.F) = e' := by rw [← he', ← hq2, ← he3, ← he2]; rfl
  rw [hq1] at iV
  rw [hq2] at iV2
  have hb0 := But.refl hs0
  have H_hx0 := Lib.hid hx0
  clear hx0
  have H_hy0 := Lib.hid hy0
  clear hy0
  have H_he' := Lib.hid he'
  clear he'
  have H_im := Lib.hid im
  clear im
  have H_ip := Lib.hid ip
  clear ip
  have H_hG := Lib.hid hG
  clear hG
  have H_iX := Lib.hid iX
  clear iX
  have H_iY := Lib.hid iY
  clear iY
  have H_iV := Lib.hid iV
  clear iV
  have H_iA := Lib.hid iA
  clear iA
  have H_iB := Lib.hid iB
  clear iB
  have H_iC := Lib.hid iC
  clear iC
  have H_iD := Lib.hid iD
  clear iD
  have H_iE := Lib.hid iE
  clear iE
  have H_iF := Lib.hid iF
  clear iF
  have H_hq1 := Lib.hid hq1
  clear hq1
  have H_he1 := Lib.hid he1
  clear he1
  have H_he2 := Lib.hid he2
  clear he2
  have H_iV2 := Lib.hid iV2
  clear iV2
  have H_hq2 := Lib.hid hq2
  clear hq2
  have H_he3 := Lib.hid he3
  clear he3
  have H_k1 := Lib.hid k1
  clear k1
  have H_k2 := Lib.hid k2
  clear k2
  have H_k3 := Lib.hid k3
  clear k3
  have H_k4 := Lib.hid k4
  clear k4
  have H_hs0 := Lib.hid hs0
  clear hs0
  go_enter Tryz.func88, Tryz.ntmps88
  go_upto_region 1 with fail
  obtain ⟨w0, hw0⟩ : ∃ u, ((w.alloc (.cells #[.int .i64 m.A.n, .int .i64 m.A.d, .int .i64 m.B.n, .int .i64 m.B.d, .int .i64 m.C.n, .int .i64 m.C.d, .int .i64 m.D.n, .int .i64 m.D.d, .int .i64 m.E.n, .int .i64 m.E.d, .int .i64 m.F.n, .int .i64 m.F.d] 66)).alloc (.cells #[.int .i64 p.xn, .int .i64 p.xd, .int .i64 p.yn, .int .i64 p.yd] 102)).alloc (.cells #[.int .i64 0, .int .i64 0, .int .i64 0, .int .i64 0] 102) = u := ⟨_, rfl⟩
  have zz0 : w0.heap.size = w.heap.size + 1 + 1 + 1 := by rw [← hw0]; simp
  have hb1 : But s 158 (evl 308 ea e) w w0 := by rw [← hw0]; exact by repeat' (first | (with_reducible assumption) | (with_reducible exact But.refl (by assumption)) | (with_reducible refine But.drewN ?_) | (with_reducible refine But.alloc ?_ _) | (with_reducible refine But.drew ?_) | (with_reducible refine But.setCell ?_ ?_ _) | omega | (simp <;> omega))
  have o0 : ∀ j, w0.cell? ⟨w.heap.size, j, none⟩ = #[.int .i64 m.A.n, .int .i64 m.A.d, .int .i64 m.B.n, .int .i64 m.B.d, .int .i64 m.C.n, .int .i64 m.C.d, .int .i64 m.D.n, .int .i64 m.D.d, .int .i64 m.E.n, .int .i64 m.E.d, .int .i64 m.F.n, .int .i64 m.F.d][j]? := fun j => by rw [← hw0, World.cell?_alloc_past _ _ _ (by simp; omega), World.cell?_alloc_past _ _ _ (by simp), World.cell?_alloc_at _ _ _ _ rfl]
  have o1 : ∀ j, w0.cell? ⟨w.heap.size + 1, j, none⟩ = #[Value.int .i64 p.xn, .int .i64 p.xd, .int .i64 p.yn, .int .i64 p.yd][j]? := fun j => by rw [← hw0, World.cell?_alloc_past _ _ _ (by simp), World.cell?_alloc_at _ _ _ _ (by simp)]
  have o2 : ∀ j, w0.cell? ⟨w.heap.size + 1 + 1, j, none⟩ = #[Value.int .i64 0, .int .i64 0, .int .i64 0, .int .i64 0][j]? := fun j => by rw [← hw0, World.cell?_alloc_at _ _ _ _ (by simp)]
  have f2 : ∀ j, w0.frozen? ⟨w.heap.size + 1 + 1, j, none⟩ = false := fun j => by rw [← hw0, World.frozen?_alloc_at _ _ _ _ (by simp)]
  clear hnw_0 hmw_0 hnw_1 hmw_1 hlw_1 hnw_2 hmw_2 hlw_2 hnw_3 hmw_3 hlw_3 hnw_4 hmw_4 hlw_4 hnw_5 hmw_5 hlw_5
  have QG := H_hG.out.but hb1 hsg
  rw [hw0]
  have H_zz0 := Lib.hid zz0
  clear zz0
  have H_hw0 := Lib.hid hw0
  clear hw0
  have z0' : w.heap.size + 1 + 1 + 1 ≤ w0.heap.size := by rw [H_zz0.out]; exact Nat.le_refl _
  have KB0 : But s 158 (evl 308 ea e) w0 w0 := But.refl hb1.at'
  have l0 : s < w0.heap.size := KB0.lt
  have N0 : w0.heap.size ≠ s := by omega
  have SK : ∀ W, (∃ v, But s 158 v w0 W) → (∃ v, But s 158 v w0 W) ∧ (∀ j, W.cell? ⟨w.heap.size, j, none⟩ = #[.int .i64 m.A.n, .int .i64 m.A.d, .int .i64 m.B.n, .int .i64 m.B.d, .int .i64 m.C.n, .int .i64 m.C.d, .int .i64 m.D.n, .int .i64 m.D.d, .int .i64 m.E.n, .int .i64 m.E.d, .int .i64 m.F.n, .int .i64 m.F.d][j]?) ∧ (∀ j, W.cell? ⟨w.heap.size + 1, j, none⟩ = #[Value.int .i64 p.xn, .int .i64 p.xd, .int .i64 p.yn, .int .i64 p.yd][j]?) := by
    intro W h
    obtain ⟨v, h⟩ := h
    exact ⟨⟨v, h⟩, fun j => by rw [h.cell _ _ (by omega) (by omega)]; exact o0 j, fun j => by rw [h.cell _ _ (by omega) (by omega)]; exact o1 j⟩
  have KG := QG
  have H_SK := Lib.hid SK
  clear SK
  have H_KG := Lib.hid KG
  clear KG
  have H_N0 := Lib.hid N0
  clear N0
  have Q1 := H_hq1
  have Q2 := H_he1
  have Q3 := H_k1
  have Q4 := H_k2
  have QV := H_iV
  have QA := H_iA
  have QC := H_iC
  have QE := H_iE
  go_cut [7] (fun s7 wx => ∃ g : Nat, s7 = .pointer (some ⟨g, 0, none⟩) ∧ wx.cell? ⟨g, 0, none⟩ = some (.int .i64 x.n) ∧ wx.cell? ⟨g, 1, none⟩ = some (.int .i64 x.d) ∧ w0.heap.size ≤ g ∧ g < wx.heap.size ∧ But s 158 (evl 308 ea e2) w0 wx)
  case first =>
    go_region_held3 (fun W => (∃ v, But s 158 v w0 W) ∧ (∀ j, W.cell? ⟨w.heap.size, j, none⟩ = #[.int .i64 m.A.n, .int .i64 m.A.d, .int .i64 m.B.n, .int .i64 m.B.d, .int .i64 m.C.n, .int .i64 m.C.d, .int .i64 m.D.n, .int .i64 m.D.d, .int .i64 m.E.n, .int .i64 m.E.d, .int .i64 m.F.n, .int .i64 m.F.d][j]?) ∧ (∀ j, W.cell? ⟨w.heap.size + 1, j, none⟩ = #[Value.int .i64 p.xn, .int .i64 p.xd, .int .i64 p.yn, .int .i64 p.yd][j]?))
      (first | (refine H_SK.out _ ⟨(evl 308 ea e2), ?_⟩; (repeat' (first | (with_reducible assumption) | (with_reducible exact Nat.le_refl _) | (with_reducible refine But.drewN ?_) | (with_reducible refine But.drew ?_) | (with_reducible refine But.alloc ?_ _) | (with_reducible refine But.setCell ?_ ?_ _))); done) | (refine H_SK.out _ ⟨(evl 308 ea e1), ?_⟩; (repeat' (first | (with_reducible assumption) | (with_reducible exact Nat.le_refl _) | (with_reducible refine But.drewN ?_) | (with_reducible refine But.drew ?_) | (with_reducible refine But.alloc ?_ _) | (with_reducible refine But.setCell ?_ ?_ _))); done) | (refine H_SK.out _ ⟨(evl 308 ea e), ?_⟩; (repeat' (first | (with_reducible assumption) | (with_reducible exact Nat.le_refl _) | (with_reducible refine But.drewN ?_) | (with_reducible refine But.drew ?_) | (with_reducible refine But.alloc ?_ _) | (with_reducible refine But.setCell ?_ ?_ _))); done))
      (first | (go_at_call 120; (with_reducible refine (sof_any ea e e1 s m.A p.X m.C p.Y q1 _ Q1.out Q2.out QA.out H_iX.out QC.out H_iY.out (But.at' (v := (evl 308 ea e)) (w := w0) (by repeat' (first | (with_reducible assumption) | (with_reducible exact Nat.le_refl _) | (with_reducible refine But.drewN ?_) | (with_reducible refine But.drew ?_) | (with_reducible refine But.alloc ?_ _) | (with_reducible refine But.setCell ?_ ?_ _)))) hsg (H_KG.out.but (v := (evl 308 ea e)) (t := 158) (by repeat' (first | (with_reducible assumption) | (with_reducible exact Nat.le_refl _) | (with_reducible refine But.drewN ?_) | (with_reducible refine But.drew ?_) | (with_reducible refine But.alloc ?_ _) | (with_reducible refine But.setCell ?_ ?_ _))) hsg)).mono ?_); rintro en wA ⟨rfl, hbb⟩; have szA := hbb.size; have hbA := But.trans (v := (evl 308 ea e)) (w := w0) (by repeat' (first | (with_reducible assumption) | (with_reducible exact Nat.le_refl _) | (with_reducible refine But.drewN ?_) | (with_reducible refine But.drew ?_) | (with_reducible refine But.alloc ?_ _) | (with_reducible refine But.setCell ?_ ?_ _))) hbb; have tA := hbb.size; have uA := hbA.size; have hsA := hbb.here; have hfA := hbb.free; have lA : s < wA.heap.size := Nat.lt_of_lt_of_le hbA.lt hbA.size; have nA : Hid (wA.heap.size ≠ s) := Lib.hid (by omega); (try have oA := fun j => hbb.cell w0.heap.size j (by first | assumption | omega | (simp; done) | (simp; omega)) H_N0.out); (try have fA := fun j => hbb.frozen w0.heap.size j (by first | assumption | omega | (simp; done) | (simp; omega)) H_N0.out); (try have zA : w0.heap.size < wA.heap.size := (by first | omega | (simp at tA; omega)))) | (go_at_call 119; (with_reducible refine (sdo_add ea e1 (q1.addK m.E) e2 s q1 m.E (q1.add m.E) x _ Q3.out Q4.out (faddF ea q1 m.E QV.out QE.out) (But.at' (v := (evl 308 ea e1)) (w := w0) (by repeat' (first | (with_reducible assumption) | (with_reducible exact Nat.le_refl _) | (with_reducible refine But.drewN ?_) | (with_reducible refine But.drew ?_) | (with_reducible refine But.alloc ?_ _) | (with_reducible refine But.setCell ?_ ?_ _)))) hsg (H_KG.out.but (v := (evl 308 ea e1)) (t := 158) (by repeat' (first | (with_reducible assumption) | (with_reducible exact Nat.le_refl _) | (with_reducible refine But.drewN ?_) | (with_reducible refine But.drew ?_) | (with_reducible refine But.alloc ?_ _) | (with_reducible refine But.setCell ?_ ?_ _))) hsg)).mono ?_); rintro en wB ⟨rfl, hbb2⟩; have hbB := But.trans (v := (evl 308 ea e1)) (w := w0) (by repeat' (first | (with_reducible assumption) | (with_reducible exact Nat.le_refl _) | (with_reducible refine But.drewN ?_) | (with_reducible refine But.drew ?_) | (with_reducible refine But.alloc ?_ _) | (with_reducible refine But.setCell ?_ ?_ _))) hbb2; have tB := hbb2.size; (try have oB := fun j => hbb2.cell w0.heap.size j (by first | assumption | omega | (simp; done) | (simp; omega)) H_N0.out); (try have fB := fun j => hbb2.frozen w0.heap.size j (by first | assumption | omega | (simp; done) | (simp; omega)) H_N0.out); (try have zB : w0.heap.size < wB.heap.size := (by first | omega | (simp at tB; omega))); (try have oC := fun j => hbb2.cell wA.heap.size j (by first | assumption | omega | (simp; done) | (simp; omega)) nA.out); (try have fC := fun j => hbb2.frozen wA.heap.size j (by first | assumption | omega | (simp; done) | (simp; omega)) nA.out); (try have zC : wA.heap.size < wB.heap.size := (by first | omega | (simp at tB; omega)))))
    all_goals (go_wp2_with fail; go_meet; refine ⟨_, rfl, ?_, ?_, ?_, ?_, ?_⟩)
    all_goals first | (simp [go_sem, *]; done) | omega | exact hbB.alloc _ | exact (hbB.setCell (by first | exact Nat.le_refl w0.heap.size | exact uA) _).setCell (by first | exact Nat.le_refl w0.heap.size | exact uA) _
  case rest =>
    obtain ⟨gx, rfl, gx0, gx1, hgx1, hgx2, hB1⟩ := hcut
    clear Q1 Q2 Q3 Q4 QV QA QC QE
    have r0 := fun j => (hB1.cell w.heap.size j (by omega) (by omega)).trans (o0 j)
    have r1 := fun j => (hB1.cell (w.heap.size + 1) j (by omega) (by omega)).trans (o1 j)
    have r2 := fun j => (hB1.cell (w.heap.size + 1 + 1) j (by omega) (by omega)).trans (o2 j)
    have k2 := fun j => (hB1.frozen (w.heap.size + 1 + 1) j (by omega) (by omega)).trans (f2 j)
    have hb2 := hb1.trans hB1
    have zc : w.heap.size + 1 + 1 + 1 ≤ wc.heap.size := Nat.le_trans z0' hB1.size
    have QG' := H_KG.out.but hB1 hsg
    have gxs : gx ≠ s := by omega
    have H_gxs := Lib.hid gxs
    clear gxs o0 o1 o2 f2 KB0 l0 H_SK H_KG H_N0 QG hb1
    rename World => w5
    have o0 := r0
    have o1 := r1
    have o2 := r2
    have f2 := k2
    have hb1 := hb2
    have QG := QG'
    clear r0 r1 r2 k2 hb2 QG'
    go_upto_region 2 with fail
    have KB0 : But s 158 (evl 308 ea e2) w5 w5 := But.refl hb1.at'
    have l0 : s < w5.heap.size := KB0.lt
    have N0 : w5.heap.size ≠ s := by omega
    have SK : ∀ W, (∃ v, But s 158 v w5 W) → (∃ v, But s 158 v w5 W) ∧ (∀ j, W.cell? ⟨w.heap.size, j, none⟩ = #[.int .i64 m.A.n, .int .i64 m.A.d, .int .i64 m.B.n, .int .i64 m.B.d, .int .i64 m.C.n, .int .i64 m.C.d, .int .i64 m.D.n, .int .i64 m.D.d, .int .i64 m.E.n, .int .i64 m.E.d, .int .i64 m.F.n, .int .i64 m.F.d][j]?) ∧ (∀ j, W.cell? ⟨w.heap.size + 1, j, none⟩ = #[Value.int .i64 p.xn, .int .i64 p.xd, .int .i64 p.yn, .int .i64 p.yd][j]?) := by
      intro W h
      obtain ⟨v, h⟩ := h
      exact ⟨⟨v, h⟩, fun j => by rw [h.cell _ _ (by omega) (by omega)]; exact o0 j, fun j => by rw [h.cell _ _ (by omega) (by omega)]; exact o1 j⟩
    have KG := QG
    have H_SK := Lib.hid SK
    clear SK
    have H_KG := Lib.hid KG
    clear KG
    have H_N0 := Lib.hid N0
    clear N0
    have Q1 := H_hq2
    have Q2 := H_he3
    have Q3 := H_k3
    have Q4 := H_k4
    have QV := H_iV2
    have QA := H_iB
    have QC := H_iD
    have QE := H_iF
    go_cut [8] (fun s7 wx => ∃ g : Nat, s7 = .pointer (some ⟨g, 0, none⟩) ∧ wx.cell? ⟨g, 0, none⟩ = some (.int .i64 y.n) ∧ wx.cell? ⟨g, 1, none⟩ = some (.int .i64 y.d) ∧ w5.heap.size ≤ g ∧ g < wx.heap.size ∧ But s 158 (evl 308 ea e') w5 wx)
    case first =>
      go_region_held3 (fun W => (∃ v, But s 158 v w5 W) ∧ (∀ j, W.cell? ⟨w.heap.size, j, none⟩ = #[.int .i64 m.A.n, .int .i64 m.A.d, .int .i64 m.B.n, .int .i64 m.B.d, .int .i64 m.C.n, .int .i64 m.C.d, .int .i64 m.D.n, .int .i64 m.D.d, .int .i64 m.E.n, .int .i64 m.E.d, .int .i64 m.F.n, .int .i64 m.F.d][j]?) ∧ (∀ j, W.cell? ⟨w.heap.size + 1, j, none⟩ = #[Value.int .i64 p.xn, .int .i64 p.xd, .int .i64 p.yn, .int .i64 p.yd][j]?))
        (first | (refine H_SK.out _ ⟨(evl 308 ea e'), ?_⟩; (repeat' (first | (with_reducible assumption) | (with_reducible exact Nat.le_refl _) | (with_reducible refine But.drewN ?_) | (with_reducible refine But.drew ?_) | (with_reducible refine But.alloc ?_ _) | (with_reducible refine But.setCell ?_ ?_ _))); done) | (refine H_SK.out _ ⟨(evl 308 ea e3), ?_⟩; (repeat' (first | (with_reducible assumption) | (with_reducible exact Nat.le_refl _) | (with_reducible refine But.drewN ?_) | (with_reducible refine But.drew ?_) | (with_reducible refine But.alloc ?_ _) | (with_reducible refine But.setCell ?_ ?_ _))); done) | (refine H_SK.out _ ⟨(evl 308 ea e2), ?_⟩; (repeat' (first | (with_reducible assumption) | (with_reducible exact Nat.le_refl _) | (with_reducible refine But.drewN ?_) | (with_reducible refine But.drew ?_) | (with_reducible refine But.alloc ?_ _) | (with_reducible refine But.setCell ?_ ?_ _))); done))
        (first | (go_at_call 120; (with_reducible refine (sof_any ea e2 e3 s m.B p.X m.D p.Y q2 _ Q1.out Q2.out QA.out H_iX.out QC.out H_iY.out (But.at' (v := (evl 308 ea e2)) (w := w5) (by repeat' (first | (with_reducible assumption) | (with_reducible exact Nat.le_refl _) | (with_reducible refine But.drewN ?_) | (with_reducible refine But.drew ?_) | (with_reducible refine But.alloc ?_ _) | (with_reducible refine But.setCell ?_ ?_ _)))) hsg (H_KG.out.but (v := (evl 308 ea e2)) (t := 158) (by repeat' (first | (with_reducible assumption) | (with_reducible exact Nat.le_refl _) | (with_reducible refine But.drewN ?_) | (with_reducible refine But.drew ?_) | (with_reducible refine But.alloc ?_ _) | (with_reducible refine But.setCell ?_ ?_ _))) hsg)).mono ?_); rintro en wA ⟨rfl, hbb⟩; have szA := hbb.size; have hbA := But.trans (v := (evl 308 ea e2)) (w := w5) (by repeat' (first | (with_reducible assumption) | (with_reducible exact Nat.le_refl _) | (with_reducible refine But.drewN ?_) | (with_reducible refine But.drew ?_) | (with_reducible refine But.alloc ?_ _) | (with_reducible refine But.setCell ?_ ?_ _))) hbb; have tA := hbb.size; have uA := hbA.size; have hsA := hbb.here; have hfA := hbb.free; have lA : s < wA.heap.size := Nat.lt_of_lt_of_le hbA.lt hbA.size; have nA : Hid (wA.heap.size ≠ s) := Lib.hid (by omega); (try have oA := fun j => hbb.cell w5.heap.size j (by first | assumption | omega | (simp; done) | (simp; omega)) H_N0.out); (try have fA := fun j => hbb.frozen w5.heap.size j (by first | assumption | omega | (simp; done) | (simp; omega)) H_N0.out); (try have zA : w5.heap.size < wA.heap.size := (by first | omega | (simp at tA; omega)))) | (go_at_call 119; (with_reducible refine (sdo_add ea e3 (q2.addK m.F) e' s q2 m.F (q2.add m.F) y _ Q3.out Q4.out (faddF ea q2 m.F QV.out QE.out) (But.at' (v := (evl 308 ea e3)) (w := w5) (by repeat' (first | (with_reducible assumption) | (with_reducible exact Nat.le_refl _) | (with_reducible refine But.drewN ?_) | (with_reducible refine But.drew ?_) | (with_reducible refine But.alloc ?_ _) | (with_reducible refine But.setCell ?_ ?_ _)))) hsg (H_KG.out.but (v := (evl 308 ea e3)) (t := 158) (by repeat' (first | (with_reducible assumption) | (with_reducible exact Nat.le_refl _) | (with_reducible refine But.drewN ?_) | (with_reducible refine But.drew ?_) | (with_reducible refine But.alloc ?_ _) | (with_reducible refine But.setCell ?_ ?_ _))) hsg)).mono ?_); rintro en wB ⟨rfl, hbb2⟩; have hbB := But.trans (v := (evl 308 ea e3)) (w := w5) (by repeat' (first | (with_reducible assumption) | (with_reducible exact Nat.le_refl _) | (with_reducible refine But.drewN ?_) | (with_reducible refine But.drew ?_) | (with_reducible refine But.alloc ?_ _) | (with_reducible refine But.setCell ?_ ?_ _))) hbb2; have tB := hbb2.size; (try have oB := fun j => hbb2.cell w5.heap.size j (by first | assumption | omega | (simp; done) | (simp; omega)) H_N0.out); (try have fB := fun j => hbb2.frozen w5.heap.size j (by first | assumption | omega | (simp; done) | (simp; omega)) H_N0.out); (try have zB : w5.heap.size < wB.heap.size := (by first | omega | (simp at tB; omega))); (try have oC := fun j => hbb2.cell wA.heap.size j (by first | assumption | omega | (simp; done) | (simp; omega)) nA.out); (try have fC := fun j => hbb2.frozen wA.heap.size j (by first | assumption | omega | (simp; done) | (simp; omega)) nA.out); (try have zC : wA.heap.size < wB.heap.size := (by first | omega | (simp at tB; omega)))))
      all_goals (go_wp2_with fail; go_meet; refine ⟨_, rfl, ?_, ?_, ?_, ?_, ?_⟩)
      all_goals first | (simp [go_sem, *]; done) | omega | exact hbB.alloc _ | exact (hbB.setCell (by first | exact Nat.le_refl w5.heap.size | exact uA) _).setCell (by first | exact Nat.le_refl w5.heap.size | exact uA) _
    case rest =>
      obtain ⟨gy, rfl, gy0, gy1, hgy1, hgy2, hB2⟩ := hcut
      clear Q1 Q2 Q3 Q4 QV QA QC QE
      have v0 := (hB2.cell gx 0 hgx2 H_gxs.out).trans gx0
      have v1 := (hB2.cell gx 1 hgx2 H_gxs.out).trans gx1
      have r2 := fun j => (hB2.cell (w.heap.size + 1 + 1) j (by omega) (by omega)).trans (o2 j)
      have k2 := fun j => (hB2.frozen (w.heap.size + 1 + 1) j (by omega) (by omega)).trans (f2 j)
      have zr : w.heap.size + 1 + 1 < wc.heap.size := by have := hB2.size; omega
      have hb2 := hb1.trans hB2
      clear o0 o1 o2 f2 KB0 l0 H_SK H_KG H_N0 QG hb1 gx0 gx1
      go_wp2_with fail
      refine bodyPost_ret (by simp [results, Tryz.results88, go_sem, *]; try rfl) rfl ?_
      exact ⟨rfl, by repeat' (first | (with_reducible assumption) | (with_reducible exact But.refl (by assumption)) | (with_reducible refine But.drewN ?_) | (with_reducible refine But.alloc ?_ _) | (with_reducible refine But.drew ?_) | (with_reducible refine But.setCell ?_ ?_ _) | omega | (simp <;> omega))⟩
end Go.Proofs.YtpdaenldmgpkjaaGreatDoor
