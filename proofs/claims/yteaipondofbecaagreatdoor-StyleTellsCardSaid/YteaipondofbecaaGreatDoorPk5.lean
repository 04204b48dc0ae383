/-
  Walks over package pick: stepOf.
-/
import Derived.Test.YteaipondofbecaaGreatDoorPk3
import Derived.Test.YteaipondofbecaaGreatDoorPq
import Derived.Test.YteaipondofbecaaGreatDoorRw
import Derived.Test.YteaipondofbecaaGreatDoorDn
namespace Lead.Pk
open Go Go.RowKit Lead Lead.Dc
/-- stepOf's boxes: its result, still empty; the step, its wants in a row of its own behind it. -/
structure StpW (T TW : TypeId) (w W : World) (b5 : Nat) (nm : By) (v : Value) (A : List Wn) : Prop where
  bel : Below w.heap.size w W
  lo : w.heap.size < b5
  lt : b5 < W.heap.size
  res : W.heap[w.heap.size]? = some (.cells #[.string ⟨#[]⟩, .slice none 0 0, .bool false] T (0, 0))
  box : W.heap[b5]? = some (.cells #[.string (bs nm), v, .bool false] T (0, 0))
  own : OwnR EWa W (b5 + 1) TW v A
variable {T TW : TypeId} {w W W' : World} {b5 : Nat} {nm : By} {v : Value} {A : List Wn}
theorem StpW.step (h : StpW T TW w W b5 nm v A) (hb : Below W.heap.size W W') : StpW T TW w W' b5 nm v A :=
  ⟨below_via h.bel hb, h.lo, Nat.lt_of_lt_of_le h.lt hb.size, (hb.block _ (Nat.lt_trans h.lo h.lt)).trans h.res, (hb.block _ h.lt).trans h.box, h.own.keep hb⟩
theorem StpW.app {w3 : World} {v3 : Value} {x : Wn} (h : StpW T TW w W b5 nm v A) (hv : OwnR EWa w3 (b5 + 1) TW v3 (A ++ [x])) (hg : W.grownBy w3 v.ownBlock) : StpW T TW w (w3.setCell ⟨b5, 1, none⟩ v3) b5 nm v3 (A ++ [x]) := by
  have hno : ∀ k, v.ownBlock = some k → b5 + 1 ≤ k := fun k hk => (h.own.lt k hk).1
  have hbb := (hg.block b5 h.lt (fun e => by have := hno b5 e.symm; omega)).trans h.box
  have hrr := (hg.block w.heap.size (Nat.lt_trans h.lo h.lt) (fun e => by have := hno _ e.symm; have := h.lo; omega)).trans h.res
  have hne : ¬ w.heap.size = b5 := by have := h.lo; omega
  refine ⟨(h.bel.grown hg h.bel.size (fun k hk => by have := hno k hk; have := h.lo; omega)).setCell (p := ⟨b5, 1, none⟩) (Nat.le_of_lt h.lo) _, h.lo, by rw [World.size_setCell]; exact Nat.lt_of_lt_of_le h.lt hg.size, ?_, heap_setCell_same _ _ _ _ _ _ hbb, ?_⟩
  · rw [heap_setCell_other _ _ _ _ hne]; exact hrr
  · exact own_kept hv (fun k hk => heap_setCell_other _ _ _ _ (fun e => by have := (hv.lt k hk).1; have he : k = b5 := e; omega))
theorem StpW.f (h : StpW T TW w W b5 nm v A) : W.cell? ⟨b5, 0, none⟩ = some (.string (bs nm)) ∧ W.cell? ⟨b5, 1, none⟩ = some v ∧ W.cell? ⟨b5, 2, none⟩ = some (.bool false) ∧
    W.cell? ⟨w.heap.size, 0, none⟩ = some (.string ⟨#[]⟩) ∧ W.cell? ⟨w.heap.size, 1, none⟩ = some (.slice none 0 0) ∧ W.cell? ⟨w.heap.size, 2, none⟩ = some (.bool false) ∧ (∀ j, W.frozen? ⟨b5, j, none⟩ = false) ∧ ∀ j, W.frozen? ⟨w.heap.size, j, none⟩ = false :=
  ⟨Dc.hcell h.box rfl, Dc.hcell h.box rfl, Dc.hcell h.box rfl, Dc.hcell h.res rfl, Dc.hcell h.res rfl, Dc.hcell h.res rfl, fun _ => Dc.hfree h.box, fun _ => Dc.hfree h.res⟩
theorem StpW.start (hB : Below w.heap.size w W) (hl : w.heap.size < W.heap.size) (hr : W.heap[w.heap.size]? = some (.cells #[.string ⟨#[]⟩, .slice none 0 0, .bool false] T (0, 0))) (nm : By) : StpW T TW w (W.alloc (.cells #[.string (bs nm), .slice none 0 0, .bool false] T)) W.heap.size nm (.slice none 0 0) [] :=
  ⟨hB.alloc hB.size _, hl, by simp, by rw [Below.heap_alloc _ _ _ hl]; exact hr, heap_alloc_new _ _, OwnR.nil _ _ _ _⟩
theorem ow_form {α : Type} {E : Enc α} {W : World} {base : Nat} {e : TypeId} {v : Value} {xs : List α} (h : OwnR E W base e v xs) : ∃ o c, v = .slice o xs.length c := by
  rcases h.form with ⟨h, h'⟩ | ⟨g, cap, h, _⟩
  · exact ⟨_, _, by rw [h, h']; rfl⟩
  · exact ⟨_, _, h⟩
theorem three_set {W : World} {b : Nat} {T : TypeId} {x y z : Value} (h : W.heap[b]? = some (.cells #[x, y, z] T (0, 0))) (x' y' z' : Value) :
    (((W.setCell ⟨b, 0, none⟩ x').setCell ⟨b, 1, none⟩ y').setCell ⟨b, 2, none⟩ z').cell? ⟨b, 0, none⟩ = some x' ∧ (((W.setCell ⟨b, 0, none⟩ x').setCell ⟨b, 1, none⟩ y').setCell ⟨b, 2, none⟩ z').cell? ⟨b, 1, none⟩ = some y' ∧ (((W.setCell ⟨b, 0, none⟩ x').setCell ⟨b, 1, none⟩ y').setCell ⟨b, 2, none⟩ z').cell? ⟨b, 2, none⟩ = some z' := by
  have h3 := heap_setCell_same _ b 2 _ _ z' (heap_setCell_same _ b 1 _ _ y' (heap_setCell_same W b 0 _ _ x' h))
  exact ⟨Dc.hcell h3 rfl, Dc.hcell h3 rfl, Dc.hcell h3 rfl⟩
theorem three_set_a {W : World} {b : Nat} {T : TypeId} {x y z : Value} (h : W.heap[b]? = some (.cells #[x, y, z] T (0, 0))) (o : Obj) (x' y' z' : Value) :
    ((((W.setCell ⟨b, 0, none⟩ x').setCell ⟨b, 1, none⟩ y').setCell ⟨b, 2, none⟩ z').alloc o).cell? ⟨b, 0, none⟩ = some x' ∧ ((((W.setCell ⟨b, 0, none⟩ x').setCell ⟨b, 1, none⟩ y').setCell ⟨b, 2, none⟩ z').alloc o).cell? ⟨b, 1, none⟩ = some y' ∧ ((((W.setCell ⟨b, 0, none⟩ x').setCell ⟨b, 1, none⟩ y').setCell ⟨b, 2, none⟩ z').alloc o).cell? ⟨b, 2, none⟩ = some z' := by
  obtain ⟨h1, h2, h3⟩ := three_set h x' y' z'
  have hl : b < (((W.setCell ⟨b, 0, none⟩ x').setCell ⟨b, 1, none⟩ y').setCell ⟨b, 2, none⟩ z').heap.size := World.block_lt_of_cell? _ _ h1
  exact ⟨by rw [World.cell?_alloc_lt _ _ _ hl]; exact h1, by rw [World.cell?_alloc_lt _ _ _ hl]; exact h2, by rw [World.cell?_alloc_lt _ _ _ hl]; exact h3⟩
theorem three_bel {w W : World} (h : Below w.heap.size w W) (x' y' z' : Value) : Below w.heap.size w (((W.setCell ⟨w.heap.size, 0, none⟩ x').setCell ⟨w.heap.size, 1, none⟩ y').setCell ⟨w.heap.size, 2, none⟩ z') :=
  ((h.setCell (p := ⟨w.heap.size, 0, none⟩) (Nat.le_refl _) _).setCell (p := ⟨w.heap.size, 1, none⟩) (Nat.le_refl _) _).setCell (p := ⟨w.heap.size, 2, none⟩) (Nat.le_refl _) _
theorem StpW.done (h : StpW T TW w W b5 nm v A) (x' y' z' : Value) : OwnR EWa (((W.setCell ⟨w.heap.size, 0, none⟩ x').setCell ⟨w.heap.size, 1, none⟩ y').setCell ⟨w.heap.size, 2, none⟩ z') w.heap.size TW v A := by
  have hne : ∀ k, v.ownBlock = some k → ¬ k = w.heap.size := fun k hk e => by have := (h.own.lt k hk).1; have := h.lo; omega
  refine own_kept (h.own.base (Nat.le_succ_of_le (Nat.le_of_lt h.lo))) (fun k hk => ?_)
  rw [heap_setCell_other _ _ _ _ (hne k hk), heap_setCell_other _ _ _ _ (hne k hk), heap_setCell_other _ _ _ _ (hne k hk)]
def szV : Value → Nat
  | .string s => s.size
  | _ => 0
/-- What stepOf answers. -/
def StepIs (TW : TypeId) (o : Option (By × List Wn)) (w : World) (en : Ending) (w' : World) : Prop := Below w.heap.size w w' ∧ match o with
  | some x => ∃ v, en = .returned (.tuple #[.agg #[.string (bs x.1), v, .bool false], .bool true]) ∧ OwnR EWa w' w.heap.size TW v x.2
  | none => en = .returned (.tuple #[.agg #[.string ⟨#[]⟩, .slice none 0 0, .bool false], .bool false])
end Lead.Pk
namespace Go.Proofs.YteaipondofbecaaGreatDoor
open Go.RowKit Lead Lead.Dc Lead.Pk
theorem infoWa : (Tryz.prog.info? 259).map (fun i => (i.zero, i.size, i.bytes)) = some (some (.agg #[.int .u8 0, .string ⟨#[]⟩]), 2, 24) := by kernel_rfl
theorem res_step (tmps : Array Value) (w0 : World) (g : Nat) (x y z b : Value) (h2 : tmps[2]?.getD undef = .pointer (some ⟨g, 0, none⟩)) (h3 : tmps[3]?.getD undef = b)
    (hc : w0.cell? ⟨g, 0, none⟩ = some x ∧ w0.cell? ⟨g, 1, none⟩ = some y ∧ w0.cell? ⟨g, 2, none⟩ = some z) :
    (results Tryz.f164 tmps).run Tryz.prog w0 = .ok (.tuple #[.agg #[x, y, z], b]) w0 := by
  obtain ⟨hc, he, hf⟩ := hc
  simp [results, Tryz.results164, go_sem, h2, h3, hc, he, hf]
set_option maxHeartbeats 8000000 in
set_option maxRecDepth 100000 in
theorem stepof_any (s : By) (w : World) (hl : s.length ≤ 100000) :
    Calls Tryz.prog 164 #[.string (bs s)] w (StepIs 259 (stepP s) w) := by
  have cI := fun W => iany_any (bs s) ⟨#[35, 46, 91]⟩ W (by decide) (by decide) (by rw [bs_size]; omega) (by decide)
  have hI : Lib.indexAny (bs s).data.toList (ByteArray.mk #[35, 46, 91]).data.toList = Lib.indexAny s [35, 46, 91] := rfl
  rw [hI] at cI
  clear hI
  have eA := ext_upto (bs s) (headW s).length
  have eT := ext_from (bs s) (headW s).length
  rw [bs_list, take_headW] at eA
  rw [bs_list, drop_headW] at eT
  have hSs : (bs s).size = s.length := rfl
  have hle : (headW s).length + (tailW s).length = s.length := by rw [← List.length_append, head_tailW]
  have hS0 : ((bs s).toList == []) = decide (s = []) := by
    rw [ByteArray.toList_eq, bs_list, Bool.eq_iff_iff]; simp
  obtain ⟨S, hS⟩ : ∃ u, bs s = u := ⟨_, rfl⟩
  rw [hS] at cI eA eT hSs hS0
  rw [hS]
  have gk0 : (0 : Int) ≤ ((headW s).length : Int) := by omega
  have gk1 : ((headW s).length : Int) ≤ (S.size : Int) := by omega
  have H_cI := Lib.hid cI
  clear cI
  have H_hSs := Lib.hid hSs
  clear hSs
  have H_hS := Lib.hid hS
  clear hS
  have H_hle := Lib.hid hle
  clear hle
  have H_hS0 := Lib.hid hS0
  clear hS0
  go_enter Tryz.func164, Tryz.ntmps164
  go_wp2_with fail
  refine (H_cI.out _).mono ?_
  rintro _ w1 ⟨rfl, hb1⟩
  have hB1 : Below w.heap.size w w1 := below_via (by repeat' (first | (with_reducible first | exact bwR _ _ | assumption | refine bdn ?_ | refine bwA ?_ ?_ _ | refine bwD ?_ | refine bwS ?_ ?_ _) | omega | (simp <;> omega))) hb1
  have hl1 : w.heap.size < w1.heap.size := Nat.lt_of_lt_of_le (by simp) hb1.size
  have hr1 : w1.heap[w.heap.size]? = some (.cells #[.string ⟨#[]⟩, .slice none 0 0, .bool false] 252 (0, 0)) := (hb1.block _ (by simp)).trans (heap_alloc_new _ _)
  clear hb1
  dsimp only
  go_step
  go_step
  go_step
  go_step
  go_step
  go_step
  go_step
  go_step
  go_cut [4] (fun s4 wx => s4 = .int .i64 ((headW s).length : Int) ∧ wx = w1)
  case first =>
    rcases idxAny_sg s with ⟨h1, h2, _⟩ | ⟨h1, h2⟩
    · rw [h1]
      have hs : S.size = (headW s).length := by rw [h2]; exact H_hSs.out
      have H_h1 := Lib.hid h1
      clear h1
      have H_h2 := Lib.hid h2
      clear h2
      have H_hs := Lib.hid hs
      clear hs
      go_wp2_with fail
      go_meet
      exact ⟨by rw [H_hs.out], rfl⟩
    · rw [h1]
      have gn : ¬ ((headW s).length : Int) < 0 := by omega
      have H_h1 := Lib.hid h1
      clear h1
      have H_h2 := Lib.hid h2
      clear h2
      go_wp2_with fail
      go_meet
      exact ⟨rfl, rfl⟩
  case rest =>
    obtain ⟨rfl, hwx⟩ := hcut
    obtain rfl : wc = w1 := hwx
    obtain ⟨wA, rfl⟩ : ∃ u, u = wc := ⟨_, rfl⟩
    go_step
    go_step
    go_cut [5] (fun s5 wx => s5 = .pointer (some ⟨wA.heap.size, 0, none⟩) ∧ RowKit.Hid (StpW 252 259 w wx wA.heap.size (headW s) (.slice none 0 0) []))
    case first =>
      go_wp2_with fail
      go_meet
      exact ⟨rfl, Lib.hid (StpW.start hB1 hl1 hr1 (headW s))⟩
    case rest =>
      obtain ⟨rfl, H_W⟩ := hcut
      obtain ⟨wB, rfl⟩ : ∃ u, u = wc := ⟨_, rfl⟩
      obtain ⟨b5, hb5⟩ : ∃ u, wA.heap.size = u := ⟨_, rfl⟩
      rw [hb5] at H_W
      rw [hb5]
      clear hB1 hl1 hr1
      go_step
      go_step
      have cM := fun W => mname_any (bs (headW s)) W
      rw [nmOk_bs] at cM
      obtain ⟨d0, d1, d2, a0, a1, a2, bf, af⟩ := H_W.out.f
      have hA0 : ((bs (headW s)).toList == []) = decide (headW s = []) := by
        rw [ByteArray.toList_eq, bs_list, Bool.eq_iff_iff]; simp
      have hA42 : ((bs (headW s)).toList == [42]) = decide (headW s = [42]) := by
        rw [ByteArray.toList_eq, bs_list, Bool.eq_iff_iff]; simp
      obtain ⟨A, hA⟩ : ∃ u, bs (headW s) = u := ⟨_, rfl⟩
      rw [hA] at d0 hA0 hA42 cM
      have H_cM := Lib.hid cM
      clear cM
      have H_hA := Lib.hid hA
      clear hA
      have H_hA0 := Lib.hid hA0
      clear hA0
      have H_hA42 := Lib.hid hA42
      clear hA42
      go_cut [4] (fun s4 wx => s4 = .int .i64 ((headW s).length : Int) ∧ RowKit.Hid (¬ (s = [] ∨ (headW s ≠ [] ∧ headW s ≠ [42] ∧ nmL (headW s) = false))) ∧ RowKit.Hid (StpW 252 259 w wx b5 (headW s) (.slice none 0 0) []))
      case first =>
        by_cases hs0 : s = []
        · have hx : (S.toList == []) = true := by rw [H_hS0.out]; exact decide_eq_true hs0
          have hP := stepP_bad (.inl hs0)
          have H_hP := Lib.hid hP
          clear hP
          have H_hs0 := Lib.hid hs0
          clear hs0
          go_wp2_with fail
          with_reducible refine bodyPost_ret (res_step _ _ w.heap.size _ _ _ (.bool false) ?h2 ?h3 (three_set H_W.out.res _ _ _)) rfl ?_
          case h2 => simp
          case h3 => simp
          refine ⟨three_bel H_W.out.bel _ _ _, ?_⟩
          rw [H_hP.out]
        · have hx : (S.toList == []) = false := by rw [H_hS0.out]; exact decide_eq_false hs0
          by_cases hn0 : headW s = []
          · have hy : (A.toList == []) = true := by rw [H_hA0.out]; exact decide_eq_true hn0
            have hP : ¬ (s = [] ∨ (headW s ≠ [] ∧ headW s ≠ [42] ∧ nmL (headW s) = false)) := fun h => h.elim hs0 (fun h => h.1 hn0)
            have H_hs0 := Lib.hid hs0
            clear hs0
            have H_hn0 := Lib.hid hn0
            clear hn0
            have H_hP := Lib.hid hP
            clear hP
            go_wp2_with fail
            go_meet
            exact ⟨rfl, H_hP, Lib.hid (H_W.out)⟩
          · have hy : (A.toList == []) = false := by rw [H_hA0.out]; exact decide_eq_false hn0
            by_cases hn42 : headW s = [42]
            · have hz : (A.toList == [42]) = true := by rw [H_hA42.out]; exact decide_eq_true hn42
              have hP : ¬ (s = [] ∨ (headW s ≠ [] ∧ headW s ≠ [42] ∧ nmL (headW s) = false)) := fun h => h.elim hs0 (fun h => h.2.1 hn42)
              have H_hs0 := Lib.hid hs0
              clear hs0
              have H_hn0 := Lib.hid hn0
              clear hn0
              have H_hn42 := Lib.hid hn42
              clear hn42
              have H_hP := Lib.hid hP
              clear hP
              go_wp2_with fail
              go_meet
              exact ⟨rfl, H_hP, Lib.hid (H_W.out)⟩
            · have hz : (A.toList == [42]) = false := by rw [H_hA42.out]; exact decide_eq_false hn42
              cases hnm : nmL (headW s) with
              | true =>
                rw [hnm] at H_cM
                have hP : ¬ (s = [] ∨ (headW s ≠ [] ∧ headW s ≠ [42] ∧ nmL (headW s) = false)) := fun h => h.elim hs0 (fun h => by rw [hnm] at h; exact absurd h.2.2 (by decide))
                rw [hnm] at hP
                have H_hs0 := Lib.hid hs0
                clear hs0
                have H_hn0 := Lib.hid hn0
                clear hn0
                have H_hn42 := Lib.hid hn42
                clear hn42
                have H_hP := Lib.hid hP
                clear hP
                have H_hnm := Lib.hid hnm
                clear hnm
                go_wp2_with fail
                refine (H_cM.out _).mono ?_
                rintro _ w3 ⟨rfl, hb3⟩
                go_wp2_with fail
                go_meet
                exact ⟨rfl, Lib.hid (by rw [H_hnm.out]; exact H_hP.out), Lib.hid (H_W.out.step hb3)⟩
              | false =>
                rw [hnm] at H_cM
                have hP := stepP_bad (.inr ⟨hn0, hn42, hnm⟩)
                have H_hs0 := Lib.hid hs0
                clear hs0
                have H_hn0 := Lib.hid hn0
                clear hn0
                have H_hn42 := Lib.hid hn42
                clear hn42
                have H_hP := Lib.hid hP
                clear hP
                have H_hnm := Lib.hid hnm
                clear hnm
                go_wp2_with fail
                refine (H_cM.out _).mono ?_
                rintro _ w3 ⟨rfl, hb3⟩
                have hW3 := H_W.out.step hb3
                clear hb3
                obtain ⟨d0, d1, d2, a0, a1, a2, bf, af⟩ := hW3.f
                have H_hW3 := Lib.hid hW3
                clear hW3
                go_wp2_with fail
                with_reducible refine bodyPost_ret (res_step _ _ w.heap.size _ _ _ (.bool false) ?h2 ?h3 (three_set H_hW3.out.res _ _ _)) rfl ?_
                case h2 => simp
                case h3 => simp
                refine ⟨three_bel H_hW3.out.bel _ _ _, ?_⟩
                rw [H_hP.out]
      case rest =>
        obtain ⟨rfl, H_P, H_W3⟩ := hcut
        obtain ⟨wC, rfl⟩ : ∃ u, u = wc := ⟨_, rfl⟩
        clear d0 d1 d2 a0 a1 a2 bf af H_cI H_cM hb5 H_W eA
        clear H_hA H_hA0 H_hA42 H_hS0
        obtain ⟨i0, hi, hz0, hz1, hz2⟩ := info_parts infoWa
        have H_hi := Lib.hid hi
        clear hi
        have H_hz0 := Lib.hid hz0
        clear hz0
        have H_hz1 := Lib.hid hz1
        clear hz1
        have H_hz2 := Lib.hid hz2
        clear hz2
        go_wp2_with fail
        go_loopw [0] (fun t0 wr => ∃ (q : By) (v : Value) (B : List Wn), t0 = .string (bs q) ∧ q.length ≤ s.length ∧ B.length ≤ 8 ∧ RowKit.Hid (wantsP (tailW s) = (wantsP q).map (B ++ ·)) ∧ RowKit.Hid (StpW 252 259 w wr b5 (headW s) v B)) (fun t0 _ => szV t0)
        case atStart => exact ⟨tailW s, _, [], rfl, by have := H_hle.out; omega, by simp, Lib.hid (by cases wantsP (tailW s) <;> simp), H_W3⟩
        case round =>
          obtain ⟨q, v, B, rfl, hq, hB8, H_want, H_W4⟩ := hrel
          obtain ⟨ov, cv, rfl⟩ := ow_form H_W4.out.own
          obtain ⟨d0, d1, d2, a0, a1, a2, bf, af⟩ := H_W4.out.f
          cases q with
          | nil =>
            have hx : ((bs []).toList == []) = true := by rw [ByteArray.toList_eq]; rfl
            have hP := stepP_good H_P.out (wants_end H_want.out) hB8
            have H_hP := Lib.hid hP
            clear hP
            go_wp2_with fail
            with_reducible refine bodyPost_ret (res_step _ _ w.heap.size _ _ _ (.bool true) ?h2 ?h3 (three_set H_W4.out.res _ _ _)) rfl ?_
            case h2 => simp
            case h3 => simp
            refine ⟨three_bel H_W4.out.bel _ _ _, ?_⟩
            rw [H_hP.out]
            exact ⟨_, rfl, H_W4.out.done _ _ _⟩
          | cons c r =>
            have hx : ((bs (c :: r)).toList == []) = false := by rw [ByteArray.toList_eq]; rfl
            have hrl : r.length + 1 ≤ s.length := hq
            have cO := fun W => one_any c r (bs (c :: r)) W rfl (by omega)
            cases ho : oneP c r with
            | none =>
              rw [ho] at cO
              have hP := stepP_none (.inl (wants_bad H_want.out rfl ho))
              have H_cO := Lib.hid cO
              clear cO
              have H_hP := Lib.hid hP
              clear hP
              have H_ho := Lib.hid ho
              clear ho
              go_wp2_with fail
              refine (H_cO.out _).mono ?_
              rintro en w5 ⟨hb5, x1, x2, x3, rfl⟩
              have hW5 := H_W4.out.step hb5
              clear hb5 d0 d1 d2 a0 a1 a2 bf af
              obtain ⟨d0, d1, d2, a0, a1, a2, bf, af⟩ := hW5.f
              have hlt5 := hW5.lt
              have hl0 : w.heap.size < w5.heap.size := Nat.lt_trans hW5.lo hlt5
              have H_hW5 := Lib.hid hW5
              clear hW5
              go_wp2_with fail
              with_reducible refine bodyPost_ret (res_step _ _ w.heap.size _ _ _ (.bool false) ?h2 ?h3 (three_set_a H_hW5.out.res _ _ _ _)) rfl ?_
              case h2 => simp
              case h3 => simp
              refine ⟨(three_bel H_hW5.out.bel _ _ _).alloc (by simp; omega) _, ?_⟩
              rw [H_hP.out]
            | some z =>
              obtain ⟨x, q'⟩ := z
              rw [ho] at cO
              have hql := oneP_len ho
              have hwg := wants_go H_want.out rfl ho
              by_cases h8 : 8 ≤ B.length
              · have g8 : (8 : Int) ≤ (B.length : Int) := by omega
                have hP := stepP_none (wants_many H_want.out rfl h8)
                have H_cO := Lib.hid cO
                clear cO
                have H_hP := Lib.hid hP
                clear hP
                have H_ho := Lib.hid ho
                clear ho
                have H_hwg := Lib.hid hwg
                clear hwg
                go_wp2_with fail
                refine (H_cO.out _).mono ?_
                rintro en w5 ⟨hb5, rfl⟩
                have hW5 := H_W4.out.step hb5
                clear hb5 d0 d1 d2 a0 a1 a2 bf af
                obtain ⟨d0, d1, d2, a0, a1, a2, bf, af⟩ := hW5.f
                have hlt5 := hW5.lt
                have hl0 : w.heap.size < w5.heap.size := Nat.lt_trans hW5.lo hlt5
                have H_hW5 := Lib.hid hW5
                clear hW5
                go_wp2_with fail
                with_reducible refine bodyPost_ret (res_step _ _ w.heap.size _ _ _ (.bool false) ?h2 ?h3 (three_set_a H_hW5.out.res _ _ _ _)) rfl ?_
                case h2 => simp
                case h3 => simp
                refine ⟨(three_bel H_hW5.out.bel _ _ _).alloc (by simp; omega) _, ?_⟩
                rw [H_hP.out]
              · have g8 : ¬ (8 : Int) ≤ (B.length : Int) := by omega
                have H_cO := Lib.hid cO
                clear cO
                have H_ho := Lib.hid ho
                clear ho
                have H_hwg := Lib.hid hwg
                clear hwg
                go_wp2_with fail
                refine (H_cO.out _).mono ?_
                rintro en w5 ⟨hb5, rfl⟩
                have hW5 := H_W4.out.step hb5
                clear hb5 d0 d1 d2 a0 a1 a2 bf af
                obtain ⟨d0, d1, d2, a0, a1, a2, bf, af⟩ := hW5.f
                have hlt5 := hW5.lt
                have hl0 : w.heap.size < w5.heap.size := Nat.lt_trans hW5.lo hlt5
                have hW6 := hW5.step (((Below.refl w5.heap.size w5).alloc (Nat.le_refl _) (.cells #[.int .u8 (x.sign.toNat : Int), .string (bs x.name)] 259)).alloc (by simp) (.cells #[.int .u8 (x.sign.toNat : Int), .string (bs x.name)] 259))
                have H_hW5 := Lib.hid hW5
                clear hW5
                have H_hW6 := Lib.hid hW6
                clear hW6
                go_wp2_with (at_builtin; refine wp_append_told rfl (.tmp 59) (.tmp 61) 250 rfl EWa (b5 + 1) 259 i0 _ 24 Tryz.underlying250 H_hi.out H_hz0.out H_hz1.out H_hz2.out rfl (by decide) _ B rfl _ _ 1 1 [x] rfl rfl ?a1 ?a2 ?a3 ?a4 ?_)
                case a1 => show B.length + 1 ≤ 1000000; omega
                case a2 => exact H_hW6.out.own
                case a3 => exact row_one (vs := #[.int .u8 (x.sign.toNat : Int), .string (bs x.name)]) rfl (fun j => by have h := World.cell?_alloc_new (w5.alloc (.cells #[.int .u8 (x.sign.toNat : Int), .string (bs x.name)] 259)) #[.int .u8 (x.sign.toNat : Int), .string (bs x.name)] 259 j; rw [World.size_alloc] at h; exact h)
                case a4 => have := H_hW6.out.lt; exact this
                intro v3 w6 hv3 hA3 hg3 ho3
                obtain ⟨o3, c3, rfl⟩ := ow_form hv3
                have hW7 := H_hW6.out.app hv3 hg3
                have hbb := (hg3.block b5 H_hW6.out.lt (fun e => by have := (H_hW6.out.own.lt b5 e.symm).1; omega)).trans H_hW6.out.box
                have c1 : w6.cell? ⟨b5, 1, none⟩ = some (.slice ov B.length cv) := Dc.hcell hbb rfl
                have c2 : ∀ j, w6.frozen? ⟨b5, j, none⟩ = false := fun j => Dc.hfree hbb
                clear hv3 hA3 hg3 ho3 hbb
                have H_hW7 := Lib.hid hW7
                clear hW7
                go_wp2_with fail
                go_roundw
                case rel => exact ⟨q', .slice o3 (B.length + 1) c3, B ++ [x], rfl, by omega, by simp; omega, H_hwg, Lib.hid (by have h := H_hW7.out; rw [List.length_append] at h; exact h)⟩
                case measure => show (bs q').size < (bs (c :: r)).size; rw [bs_size, bs_size, List.length_cons]; omega
end Go.Proofs.YteaipondofbecaaGreatDoor
