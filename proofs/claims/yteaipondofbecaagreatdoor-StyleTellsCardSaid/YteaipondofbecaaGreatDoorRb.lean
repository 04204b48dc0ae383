/-
  Several texts as one: Rp9, Rpa.
-/
import Derived.Test.YteaipondofbecaaGreatDoorRz
import Derived.Test.YteaipondofbecaaGreatDoorRp3
import Derived.Test.YteaipondofbecaaGreatDoorRc7
import Derived.Test.YteaipondofbecaaGreatDoorPk5
/-
  The reference's stepOf: its boxes, and what it answers.
-/
namespace Lead.Rc
open Go Go.RowKit Lead Lead.Dc Lead.Pk
/-- stepOf's boxes: its result, still empty; the step, its wants in a row of its own behind it. -/
structure StpR (T TW : TypeId) (w W : World) (b5 : Nat) (nm : By) (v : Value) (A : List Wn) : Prop where
  bel : Below w.heap.size w W
  lo : w.heap.size < b5
  lt : b5 < W.heap.size
  res : W.heap[w.heap.size]? = some (.cells #[.string ⟨#[]⟩, .slice none 0 0, .bool false] T (0, 0))
  box : W.heap[b5]? = some (.cells #[.string (bs nm), v, .bool false] T (0, 0))
  own : OwnR EWs W (b5 + 1) TW v A
variable {T TW : TypeId} {w W W' : World} {b5 : Nat} {nm : By} {v : Value} {A : List Wn}
theorem StpR.step (h : StpR T TW w W b5 nm v A) (hb : Below W.heap.size W W') : StpR T TW w W' b5 nm v A :=
  ⟨below_via h.bel hb, h.lo, Nat.lt_of_lt_of_le h.lt hb.size, (hb.block _ (Nat.lt_trans h.lo h.lt)).trans h.res, (hb.block _ h.lt).trans h.box, h.own.keep hb⟩
theorem StpR.app {w3 : World} {v3 : Value} {x : Wn} (h : StpR T TW w W b5 nm v A) (hv : OwnR EWs w3 (b5 + 1) TW v3 (A ++ [x])) (hg : W.grownBy w3 v.ownBlock) : StpR T TW w (w3.setCell ⟨b5, 1, none⟩ v3) b5 nm v3 (A ++ [x]) := by
  have hno : ∀ k, v.ownBlock = some k → b5 + 1 ≤ k := fun k hk => (h.own.lt k hk).1
  have hbb := (hg.block b5 h.lt (fun e => by have := hno b5 e.symm; omega)).trans h.box
  have hrr := (hg.block w.heap.size (Nat.lt_trans h.lo h.lt) (fun e => by have := hno _ e.symm; have := h.lo; omega)).trans h.res
  have hne : ¬ w.heap.size = b5 := by have := h.lo; omega
  refine ⟨(h.bel.grown hg h.bel.size (fun k hk => by have := hno k hk; have := h.lo; omega)).setCell (p := ⟨b5, 1, none⟩) (Nat.le_of_lt h.lo) _, h.lo, by rw [World.size_setCell]; exact Nat.lt_of_lt_of_le h.lt hg.size, ?_, heap_setCell_same _ _ _ _ _ _ hbb, ?_⟩
  · rw [heap_setCell_other _ _ _ _ hne]; exact hrr
  · exact own_kept hv (fun k hk => heap_setCell_other _ _ _ _ (fun e => by have := (hv.lt k hk).1; have he : k = b5 := e; omega))
theorem StpR.f (h : StpR T TW w W b5 nm v A) : W.cell? ⟨b5, 0, none⟩ = some (.string (bs nm)) ∧ W.cell? ⟨b5, 1, none⟩ = some v ∧ W.cell? ⟨b5, 2, none⟩ = some (.bool false) ∧
    W.cell? ⟨w.heap.size, 0, none⟩ = some (.string ⟨#[]⟩) ∧ W.cell? ⟨w.heap.size, 1, none⟩ = some (.slice none 0 0) ∧ W.cell? ⟨w.heap.size, 2, none⟩ = some (.bool false) ∧ (∀ j, W.frozen? ⟨b5, j, none⟩ = false) ∧ ∀ j, W.frozen? ⟨w.heap.size, j, none⟩ = false :=
  ⟨Dc.hcell h.box rfl, Dc.hcell h.box rfl, Dc.hcell h.box rfl, Dc.hcell h.res rfl, Dc.hcell h.res rfl, Dc.hcell h.res rfl, fun _ => Dc.hfree h.box, fun _ => Dc.hfree h.res⟩
theorem StpR.start (hB : Below w.heap.size w W) (hl : w.heap.size < W.heap.size) (hr : W.heap[w.heap.size]? = some (.cells #[.string ⟨#[]⟩, .slice none 0 0, .bool false] T (0, 0))) (nm : By) : StpR T TW w (W.alloc (.cells #[.string (bs nm), .slice none 0 0, .bool false] T)) W.heap.size nm (.slice none 0 0) [] :=
  ⟨hB.alloc hB.size _, hl, by simp, by rw [Below.heap_alloc _ _ _ hl]; exact hr, heap_alloc_new _ _, OwnR.nil _ _ _ _⟩
theorem StpR.done (h : StpR T TW w W b5 nm v A) (x' y' z' : Value) : OwnR EWs (((W.setCell ⟨w.heap.size, 0, none⟩ x').setCell ⟨w.heap.size, 1, none⟩ y').setCell ⟨w.heap.size, 2, none⟩ z') w.heap.size TW v A := by
  have hne : ∀ k, v.ownBlock = some k → ¬ k = w.heap.size := fun k hk e => by have := (h.own.lt k hk).1; have := h.lo; omega
  refine own_kept (h.own.base (Nat.le_succ_of_le (Nat.le_of_lt h.lo))) (fun k hk => ?_)
  rw [heap_setCell_other _ _ _ _ (hne k hk), heap_setCell_other _ _ _ _ (hne k hk), heap_setCell_other _ _ _ _ (hne k hk)]
/-- What stepOf answers. -/
def StepRs (TW : TypeId) (o : Option (By × List Wn)) (w : World) (en : Ending) (w' : World) : Prop := Below w.heap.size w w' ∧ match o with
  | some x => ∃ v, en = .returned (.tuple #[.agg #[.string (bs x.1), v, .bool false], .bool true]) ∧ OwnR EWs w' w.heap.size TW v x.2
  | none => en = .returned (.tuple #[.agg #[.string ⟨#[]⟩, .slice none 0 0, .bool false], .bool false])
end Lead.Rc
namespace Go.Proofs.YteaipondofbecaaGreatDoor
open Go.RowKit Lead Lead.Dc Lead.Pk Lead.Rc
theorem rres_step (tmps : Array Value) (w0 : World) (g : Nat) (x y z b : Value) (h2 : tmps[2]?.getD undef = .pointer (some ⟨g, 0, none⟩)) (h3 : tmps[3]?.getD undef = b)
    (hc : w0.cell? ⟨g, 0, none⟩ = some x ∧ w0.cell? ⟨g, 1, none⟩ = some y ∧ w0.cell? ⟨g, 2, none⟩ = some z) :
    (results Tryz.f166 tmps).run Tryz.prog w0 = .ok (.tuple #[.agg #[x, y, z], b]) w0 := by
  obtain ⟨hc, he, hf⟩ := hc
  simp [results, Tryz.results166, go_sem, h2, h3, hc, he, hf]
end Go.Proofs.YteaipondofbecaaGreatDoor

/-
  Walks over the reference's selectors: stepOf, its head.
-/
namespace Lead.Rc
open Go Go.RowKit Lead Lead.Dc Lead.Pk
variable {T TW : TypeId} {w W W' : World} {b5 : Nat} {nm : By} {v : Value} {A : List Wn}
theorem StpR.name (h : StpR T TW w W b5 nm v A) (nm' : By) : StpR T TW w (W.setCell ⟨b5, 0, none⟩ (.string (bs nm'))) b5 nm' v A := by
  have hne : ¬ w.heap.size = b5 := by have := h.lo; omega
  have hno : ∀ k, v.ownBlock = some k → b5 + 1 ≤ k := fun k hk => (h.own.lt k hk).1
  refine ⟨h.bel.setCell (p := ⟨b5, 0, none⟩) (Nat.le_of_lt h.lo) _, h.lo, by rw [World.size_setCell]; exact h.lt, ?_, heap_setCell_same _ _ _ _ _ _ h.box, ?_⟩
  · rw [heap_setCell_other _ _ _ _ hne]; exact h.res
  · exact own_kept h.own (fun k hk => heap_setCell_other _ _ _ _ (fun e => by have := hno k hk; have he : k = b5 := e; omega))
theorem StpR.start0 (w : World) : StpR T TW w ((w.alloc (.cells #[.string ⟨#[]⟩, .slice none 0 0, .bool false] T)).alloc (.cells #[.string ⟨#[]⟩, .slice none 0 0, .bool false] T)) (w.heap.size + 1) [] (.slice none 0 0) [] := by
  have h := StpR.start (T := T) (TW := TW) (w := w) ((Below.refl _ w).alloc (Nat.le_refl _) (.cells #[.string ⟨#[]⟩, .slice none 0 0, .bool false] T)) (by simp) (heap_alloc_new _ _) []
  rw [World.size_alloc] at h
  exact h
end Lead.Rc
namespace Go.Proofs.YteaipondofbecaaGreatDoor
open Go.RowKit Lead Lead.Dc Lead.Pk Lead.Rc
set_option maxHeartbeats 4000000 in
set_option maxRecDepth 100000 in
theorem rstepof_bad (S : ByteArray) (s : By) (hSs : S.data.toList = s) (w : World) (hs : S.size ≤ 100000) (hbad : badH s) :
    Calls Tryz.prog 166 #[.string S] w fun en w' => en = .returned (.tuple #[.agg #[.string ⟨#[]⟩, .slice none 0 0, .bool false], .bool false]) ∧ Below w.heap.size w w' := by
  have hlen : s.length = S.size := by rw [← hSs]; simp
  have H_hlen := Lib.hid hlen
  clear hlen
  have H_hSs := Lib.hid hSs
  clear hSs
  have H_hbad := Lib.hid hbad
  clear hbad
  go_enter Tryz.func166, Tryz.ntmps166
  go_wp2_with fail
  go_loopw [5] (fun t5 wr => ∃ k : Nat, k ≤ S.size ∧ t5 = .int .i64 k ∧ RowKit.Hid (ScanTo (fun c => !isSg c) s 0 k) ∧ RowKit.Hid (StpR 213 9 w wr (w.heap.size + 1) [] (.slice none 0 0) [])) (fun t5 _ => S.size - (intOf t5).toNat)
  case atStart => exact ⟨0, Nat.zero_le _, rfl, Lib.hid (ScanTo.start _ _ _), Lib.hid (StpR.start0 _)⟩
  case round =>
    obtain ⟨k, hk, rfl, H_k, H_W⟩ := hrel
    by_cases hlt : k < S.size
    · have hkl : k < s.length := by have := H_hlen.out; omega
      obtain ⟨c, hc⟩ : ∃ c : UInt8, S[k] = c := ⟨_, rfl⟩
      have hcL : s[k] = c := by
        have h : S.data.toList[k] = c := hc
        simpa only [H_hSs.out] using h
      have gk : IntKind.i64.wrap ((k : Int) + 1) = ((k + 1 : Nat) : Int) := IntWalk.i64_in _ (by omega)
      by_cases h35 : c = 35
      · have g35 : ((c.toNat : Int) != 35) = false := by rw [h35]; rfl
        have hhd := scan_head H_k.out (by have := H_hlen.out; omega) (fun hl => by rw [hcL, h35]; decide)
        have hex : S.extract 0 k = bs (headW s) := by rw [ext_list S 0 k (Nat.zero_le _), H_hSs.out, hhd.1]; rfl
        have gk0 : (k : Int) ≤ (S.size : Int) := by omega
        obtain ⟨d0, d1, d2, a0, a1, a2, bf, af⟩ := H_W.out.f
        have hW2 := H_W.out.name (headW s)
        have hWf := hW2.f
        have hWr := hW2.res
        have hWb := hW2.bel
        have cM := fun W => risname_any (bs (headW s)) W (by rw [show (bs (headW s)).size = (headW s).length from rfl, hhd.1, List.length_take]; have := H_hlen.out; omega)
        have hno : nmOk (bs (headW s)) = nmL (headW s) := nmOk_bs _
        rw [hno] at cM
        rw [← hex] at hWf hW2 hWr hWb
        obtain ⟨e0, e1, e2, b0, b1, b2, ef, bf2⟩ := hWf
        obtain ⟨nb, hnb⟩ : ∃ u, nmL (headW s) = u := ⟨_, rfl⟩
        rw [hnb, ← hex] at cM
        obtain ⟨A, hA⟩ : ∃ u, S.extract 0 k = u := ⟨_, rfl⟩
        rw [hA] at cM hW2 hex e0 e1 e2 b0 b1 b2 hWr hWb
        have H_cM := Lib.hid cM
        clear cM
        have H_hex := Lib.hid hex
        clear hex
        have H_hW2 := Lib.hid hW2
        clear hW2
        have H_hhd := Lib.hid hhd
        clear hhd
        have H_hnb := Lib.hid hnb
        clear hnb
        have H_hno := Lib.hid hno
        clear hno
        clear a0 a1 a2
        go_wp2_with fail
        try rw [hA]
        refine (H_cM.out _).mono ?_
        rintro _ w2 ⟨rfl, hb2⟩
        have hW3 := H_hW2.out.step hb2
        have hf3 := hW3.f
        rw [← H_hex.out] at hf3
        obtain ⟨d0, d1, d2, a0, a1, a2, bf3, af3⟩ := hf3
        have hR3 := hW3.res
        have hB3 := hW3.bel
        clear hb2 hW3
        have H_hR3 := Lib.hid hR3
        clear hR3
        have H_hB3 := Lib.hid hB3
        clear hB3
        rcases H_hbad.out with h0 | ⟨h1, h2, h3⟩
        · have hx : (S.toList == []) = true := by rw [ByteArray.toList_eq, H_hSs.out, h0]; rfl
          have H_h0 := Lib.hid h0
          clear h0
          go_wp2_with fail
          with_reducible refine bodyPost_ret (rres_step _ _ w.heap.size _ _ _ (.bool false) ?h2 ?h3 (three_set H_hR3.out _ _ _)) rfl ?_
          case h2 => simp
          case h3 => simp
          exact ⟨rfl, three_bel H_hB3.out _ _ _⟩
        · have hx : (S.toList == []) = false := by
            rw [ByteArray.toList_eq, H_hSs.out, beq_eq_false_iff_ne]
            intro e; rw [e] at h1; exact h1 rfl
          have hy : (A.toList == []) = false := by
            rw [ByteArray.toList_eq, H_hex.out, bs_list, beq_eq_false_iff_ne]; exact h1
          have hz : (A.toList == [42]) = false := by
            rw [ByteArray.toList_eq, H_hex.out, bs_list, beq_eq_false_iff_ne]; exact h2
          have hn : nb = false := by rw [← H_hnb.out]; exact h3
          subst hn
          have H_h1 := Lib.hid h1
          clear h1
          have H_h2 := Lib.hid h2
          clear h2
          have H_h3 := Lib.hid h3
          clear h3
          go_wp2_with fail
          with_reducible refine bodyPost_ret (rres_step _ _ w.heap.size _ _ _ (.bool false) ?h2 ?h3 (three_set H_hR3.out _ _ _)) rfl ?_
          case h2 => simp
          case h3 => simp
          exact ⟨rfl, three_bel H_hB3.out _ _ _⟩
      · have g35 : ((c.toNat : Int) != 35) = true := by
          rw [bne_iff_ne]; intro h; exact h35 (UInt8.toNat.inj (by show c.toNat = 35; omega))
        by_cases h46 : c = 46
        · have g46 : ((c.toNat : Int) != 46) = false := by rw [h46]; rfl
          have hhd := scan_head H_k.out (by have := H_hlen.out; omega) (fun hl => by rw [hcL, h46]; decide)
          have hex : S.extract 0 k = bs (headW s) := by rw [ext_list S 0 k (Nat.zero_le _), H_hSs.out, hhd.1]; rfl
          have gk0 : (k : Int) ≤ (S.size : Int) := by omega
          obtain ⟨d0, d1, d2, a0, a1, a2, bf, af⟩ := H_W.out.f
          have hW2 := H_W.out.name (headW s)
          have hWf := hW2.f
          have hWr := hW2.res
          have hWb := hW2.bel
          have cM := fun W => risname_any (bs (headW s)) W (by rw [show (bs (headW s)).size = (headW s).length from rfl, hhd.1, List.length_take]; have := H_hlen.out; omega)
          have hno : nmOk (bs (headW s)) = nmL (headW s) := nmOk_bs _
          rw [hno] at cM
          rw [← hex] at hWf hW2 hWr hWb
          obtain ⟨e0, e1, e2, b0, b1, b2, ef, bf2⟩ := hWf
          obtain ⟨nb, hnb⟩ : ∃ u, nmL (headW s) = u := ⟨_, rfl⟩
          rw [hnb, ← hex] at cM
          obtain ⟨A, hA⟩ : ∃ u, S.extract 0 k = u := ⟨_, rfl⟩
          rw [hA] at cM hW2 hex e0 e1 e2 b0 b1 b2 hWr hWb
          have H_cM := Lib.hid cM
          clear cM
          have H_hex := Lib.hid hex
          clear hex
          have H_hW2 := Lib.hid hW2
          clear hW2
          have H_hhd := Lib.hid hhd
          clear hhd
          have H_hnb := Lib.hid hnb
          clear hnb
          have H_hno := Lib.hid hno
          clear hno
          clear a0 a1 a2
          go_wp2_with fail
          try rw [hA]
          refine (H_cM.out _).mono ?_
          rintro _ w2 ⟨rfl, hb2⟩
          have hW3 := H_hW2.out.step hb2
          have hf3 := hW3.f
          rw [← H_hex.out] at hf3
          obtain ⟨d0, d1, d2, a0, a1, a2, bf3, af3⟩ := hf3
          have hR3 := hW3.res
          have hB3 := hW3.bel
          clear hb2 hW3
          have H_hR3 := Lib.hid hR3
          clear hR3
          have H_hB3 := Lib.hid hB3
          clear hB3
          rcases H_hbad.out with h0 | ⟨h1, h2, h3⟩
          · have hx : (S.toList == []) = true := by rw [ByteArray.toList_eq, H_hSs.out, h0]; rfl
            have H_h0 := Lib.hid h0
            clear h0
            go_wp2_with fail
            with_reducible refine bodyPost_ret (rres_step _ _ w.heap.size _ _ _ (.bool false) ?h2 ?h3 (three_set H_hR3.out _ _ _)) rfl ?_
            case h2 => simp
            case h3 => simp
            exact ⟨rfl, three_bel H_hB3.out _ _ _⟩
          · have hx : (S.toList == []) = false := by
              rw [ByteArray.toList_eq, H_hSs.out, beq_eq_false_iff_ne]
              intro e; rw [e] at h1; exact h1 rfl
            have hy : (A.toList == []) = false := by
              rw [ByteArray.toList_eq, H_hex.out, bs_list, beq_eq_false_iff_ne]; exact h1
            have hz : (A.toList == [42]) = false := by
              rw [ByteArray.toList_eq, H_hex.out, bs_list, beq_eq_false_iff_ne]; exact h2
            have hn : nb = false := by rw [← H_hnb.out]; exact h3
            subst hn
            have H_h1 := Lib.hid h1
            clear h1
            have H_h2 := Lib.hid h2
            clear h2
            have H_h3 := Lib.hid h3
            clear h3
            go_wp2_with fail
            with_reducible refine bodyPost_ret (rres_step _ _ w.heap.size _ _ _ (.bool false) ?h2 ?h3 (three_set H_hR3.out _ _ _)) rfl ?_
            case h2 => simp
            case h3 => simp
            exact ⟨rfl, three_bel H_hB3.out _ _ _⟩
        · have g46 : ((c.toNat : Int) != 46) = true := by
            rw [bne_iff_ne]; intro h; exact h46 (UInt8.toNat.inj (by show c.toNat = 46; omega))
          by_cases h91 : c = 91
          · have g91 : ((c.toNat : Int) != 91) = false := by rw [h91]; rfl
            have hhd := scan_head H_k.out (by have := H_hlen.out; omega) (fun hl => by rw [hcL, h91]; decide)
            have hex : S.extract 0 k = bs (headW s) := by rw [ext_list S 0 k (Nat.zero_le _), H_hSs.out, hhd.1]; rfl
            have gk0 : (k : Int) ≤ (S.size : Int) := by omega
            obtain ⟨d0, d1, d2, a0, a1, a2, bf, af⟩ := H_W.out.f
            have hW2 := H_W.out.name (headW s)
            have hWf := hW2.f
            have hWr := hW2.res
            have hWb := hW2.bel
            have cM := fun W => risname_any (bs (headW s)) W (by rw [show (bs (headW s)).size = (headW s).length from rfl, hhd.1, List.length_take]; have := H_hlen.out; omega)
            have hno : nmOk (bs (headW s)) = nmL (headW s) := nmOk_bs _
            rw [hno] at cM
            rw [← hex] at hWf hW2 hWr hWb
            obtain ⟨e0, e1, e2, b0, b1, b2, ef, bf2⟩ := hWf
            obtain ⟨nb, hnb⟩ : ∃ u, nmL (headW s) = u := ⟨_, rfl⟩
            rw [hnb, ← hex] at cM
            obtain ⟨A, hA⟩ : ∃ u, S.extract 0 k = u := ⟨_, rfl⟩
            rw [hA] at cM hW2 hex e0 e1 e2 b0 b1 b2 hWr hWb
            have H_cM := Lib.hid cM
            clear cM
            have H_hex := Lib.hid hex
            clear hex
            have H_hW2 := Lib.hid hW2
            clear hW2
            have H_hhd := Lib.hid hhd
            clear hhd
            have H_hnb := Lib.hid hnb
            clear hnb
            have H_hno := Lib.hid hno
            clear hno
            clear a0 a1 a2
            go_wp2_with fail
            try rw [hA]
            refine (H_cM.out _).mono ?_
            rintro _ w2 ⟨rfl, hb2⟩
            have hW3 := H_hW2.out.step hb2
            have hf3 := hW3.f
            rw [← H_hex.out] at hf3
            obtain ⟨d0, d1, d2, a0, a1, a2, bf3, af3⟩ := hf3
            have hR3 := hW3.res
            have hB3 := hW3.bel
            clear hb2 hW3
            have H_hR3 := Lib.hid hR3
            clear hR3
            have H_hB3 := Lib.hid hB3
            clear hB3
            rcases H_hbad.out with h0 | ⟨h1, h2, h3⟩
            · have hx : (S.toList == []) = true := by rw [ByteArray.toList_eq, H_hSs.out, h0]; rfl
              have H_h0 := Lib.hid h0
              clear h0
              go_wp2_with fail
              with_reducible refine bodyPost_ret (rres_step _ _ w.heap.size _ _ _ (.bool false) ?h2 ?h3 (three_set H_hR3.out _ _ _)) rfl ?_
              case h2 => simp
              case h3 => simp
              exact ⟨rfl, three_bel H_hB3.out _ _ _⟩
            · have hx : (S.toList == []) = false := by
                rw [ByteArray.toList_eq, H_hSs.out, beq_eq_false_iff_ne]
                intro e; rw [e] at h1; exact h1 rfl
              have hy : (A.toList == []) = false := by
                rw [ByteArray.toList_eq, H_hex.out, bs_list, beq_eq_false_iff_ne]; exact h1
              have hz : (A.toList == [42]) = false := by
                rw [ByteArray.toList_eq, H_hex.out, bs_list, beq_eq_false_iff_ne]; exact h2
              have hn : nb = false := by rw [← H_hnb.out]; exact h3
              subst hn
              have H_h1 := Lib.hid h1
              clear h1
              have H_h2 := Lib.hid h2
              clear h2
              have H_h3 := Lib.hid h3
              clear h3
              go_wp2_with fail
              with_reducible refine bodyPost_ret (rres_step _ _ w.heap.size _ _ _ (.bool false) ?h2 ?h3 (three_set H_hR3.out _ _ _)) rfl ?_
              case h2 => simp
              case h3 => simp
              exact ⟨rfl, three_bel H_hB3.out _ _ _⟩
          · have g91 : ((c.toNat : Int) != 91) = true := by
              rw [bne_iff_ne]; intro h; exact h91 (UInt8.toNat.inj (by show c.toNat = 91; omega))
            have hn := H_k.out.next hkl hcL (by simp [isSg, h35, h46, h91])
            have H_hn := Lib.hid hn
            clear hn
            go_wp2_with fail
            go_roundw
            case rel => exact ⟨k + 1, by omega, by go_num, H_hn, H_W⟩
            case measure => simp [intOf]; omega
    · have hhd := scan_head H_k.out (by have := H_hlen.out; omega) (fun hl => by have := H_hlen.out; omega)
      have hex : S.extract 0 k = bs (headW s) := by rw [ext_list S 0 k (Nat.zero_le _), H_hSs.out, hhd.1]; rfl
      have gk0 : (k : Int) ≤ (S.size : Int) := by omega
      obtain ⟨d0, d1, d2, a0, a1, a2, bf, af⟩ := H_W.out.f
      have hW2 := H_W.out.name (headW s)
      have hWf := hW2.f
      have hWr := hW2.res
      have hWb := hW2.bel
      have cM := fun W => risname_any (bs (headW s)) W (by rw [show (bs (headW s)).size = (headW s).length from rfl, hhd.1, List.length_take]; have := H_hlen.out; omega)
      have hno : nmOk (bs (headW s)) = nmL (headW s) := nmOk_bs _
      rw [hno] at cM
      rw [← hex] at hWf hW2 hWr hWb
      obtain ⟨e0, e1, e2, b0, b1, b2, ef, bf2⟩ := hWf
      obtain ⟨nb, hnb⟩ : ∃ u, nmL (headW s) = u := ⟨_, rfl⟩
      rw [hnb, ← hex] at cM
      obtain ⟨A, hA⟩ : ∃ u, S.extract 0 k = u := ⟨_, rfl⟩
      rw [hA] at cM hW2 hex e0 e1 e2 b0 b1 b2 hWr hWb
      have H_cM := Lib.hid cM
      clear cM
      have H_hex := Lib.hid hex
      clear hex
      have H_hW2 := Lib.hid hW2
      clear hW2
      have H_hhd := Lib.hid hhd
      clear hhd
      have H_hnb := Lib.hid hnb
      clear hnb
      have H_hno := Lib.hid hno
      clear hno
      clear a0 a1 a2
      go_wp2_with fail
      try rw [hA]
      refine (H_cM.out _).mono ?_
      rintro _ w2 ⟨rfl, hb2⟩
      have hW3 := H_hW2.out.step hb2
      have hf3 := hW3.f
      rw [← H_hex.out] at hf3
      obtain ⟨d0, d1, d2, a0, a1, a2, bf3, af3⟩ := hf3
      have hR3 := hW3.res
      have hB3 := hW3.bel
      clear hb2 hW3
      have H_hR3 := Lib.hid hR3
      clear hR3
      have H_hB3 := Lib.hid hB3
      clear hB3
      rcases H_hbad.out with h0 | ⟨h1, h2, h3⟩
      · have hx : (S.toList == []) = true := by rw [ByteArray.toList_eq, H_hSs.out, h0]; rfl
        have H_h0 := Lib.hid h0
        clear h0
        go_wp2_with fail
        with_reducible refine bodyPost_ret (rres_step _ _ w.heap.size _ _ _ (.bool false) ?h2 ?h3 (three_set H_hR3.out _ _ _)) rfl ?_
        case h2 => simp
        case h3 => simp
        exact ⟨rfl, three_bel H_hB3.out _ _ _⟩
      · have hx : (S.toList == []) = false := by
          rw [ByteArray.toList_eq, H_hSs.out, beq_eq_false_iff_ne]
          intro e; rw [e] at h1; exact h1 rfl
        have hy : (A.toList == []) = false := by
          rw [ByteArray.toList_eq, H_hex.out, bs_list, beq_eq_false_iff_ne]; exact h1
        have hz : (A.toList == [42]) = false := by
          rw [ByteArray.toList_eq, H_hex.out, bs_list, beq_eq_false_iff_ne]; exact h2
        have hn : nb = false := by rw [← H_hnb.out]; exact h3
        subst hn
        have H_h1 := Lib.hid h1
        clear h1
        have H_h2 := Lib.hid h2
        clear h2
        have H_h3 := Lib.hid h3
        clear h3
        go_wp2_with fail
        with_reducible refine bodyPost_ret (rres_step _ _ w.heap.size _ _ _ (.bool false) ?h2 ?h3 (three_set H_hR3.out _ _ _)) rfl ?_
        case h2 => simp
        case h3 => simp
        exact ⟨rfl, three_bel H_hB3.out _ _ _⟩
end Go.Proofs.YteaipondofbecaaGreatDoor
