/-
  Walks over package pick: one.
-/
import Derived.Test.YteaipondofbecaaGreatDoorPp
import Derived.Test.YteaipondofbecaaGreatDoorIra
import Derived.Test.YteaipondofbecaaGreatDoorKm
import Derived.Test.YteaipondofbecaaGreatDoorDn
import Derived.Deep.DeepCutAuto
import Derived.Deep.RegionHeld
namespace Lead.Pk
open Go Go.RowKit Lead Lead.Dc
def OneIs (o : Option (Wn × By)) (w : World) (en : Ending) (w' : World) : Prop := Below w.heap.size w w' ∧ match o with
  | some x => en = .returned (.tuple #[.agg #[.int .u8 (x.1.sign.toNat : Int), .string (bs x.1.name)], .string (bs x.2), .bool true])
  | none => ∃ (a : Int) (b t : ByteArray), en = .returned (.tuple #[.agg #[.int .u8 a, .string b], .string t, .bool false])
theorem oneP_eq {c : UInt8} {r N t1 t : By} (h1 : c = 91 → 93 ∈ r ∧ N = headB r ∧ t1 = tailB r) (h2 : c ≠ 91 → N = headW r ∧ t1 = tailW r) (h3 : c = 91 → t = t1.drop 1) (h4 : c ≠ 91 → t = t1) :
    oneP c r = if nmL N = true ∧ hdOk t = true then some (⟨c, N⟩, t) else none := by
  unfold oneP
  by_cases hc : c = 91
  · obtain ⟨a1, rfl, rfl⟩ := h1 hc
    rw [if_pos hc, h3 hc]
    by_cases hn : nmL (headB r) = true
    · by_cases ht : hdOk ((tailB r).drop 1) = true
      · rw [if_pos ⟨⟨a1, hn⟩, ht⟩, if_pos ⟨hn, ht⟩]
      · rw [if_neg (fun h => ht h.2), if_neg (fun h => ht h.2)]
    · rw [if_neg (fun h => hn h.1.2), if_neg (fun h => hn h.1)]
  · obtain ⟨rfl, rfl⟩ := h2 hc
    rw [if_neg hc, h4 hc]
    by_cases hn : nmL (headW r) = true
    · rw [if_pos hn, if_pos ⟨hn, hdOk_tailW r⟩]
    · rw [if_neg hn, if_neg (fun h => hn h.1)]
/-- The two boxes of 'one': its result, still empty; the want. -/
structure OneW (T : TypeId) (w W : World) (c : UInt8) (s : ByteArray) : Prop where
  bel : Below w.heap.size w W
  lt : w.heap.size + 1 < W.heap.size
  res : W.heap[w.heap.size]? = some (.cells #[.int .u8 0, .string ⟨#[]⟩] T (0, 0))
  box : W.heap[w.heap.size + 1]? = some (.cells #[.int .u8 (c.toNat : Int), .string s] T (0, 0))
theorem OneW.start (T : TypeId) (w : World) (c : UInt8) : OneW T w ((w.alloc (.cells #[.int .u8 0, .string ⟨#[]⟩] T)).alloc (.cells #[.int .u8 (c.toNat : Int), .string ⟨#[]⟩] T)) c ⟨#[]⟩ := by
  refine ⟨((Below.refl _ _).alloc (Nat.le_refl _) _).alloc (by simp) _, by simp, ?_, ?_⟩
  · rw [Below.heap_alloc _ _ _ (by simp)]; exact heap_alloc_new _ _
  · have h := heap_alloc_new (w.alloc (.cells #[.int .u8 0, .string ⟨#[]⟩] T)) (.cells #[.int .u8 (c.toNat : Int), .string ⟨#[]⟩] T)
    rw [World.size_alloc] at h; exact h
theorem OneW.step {T : TypeId} {w W W' : World} {c : UInt8} {s : ByteArray} (h : OneW T w W c s) (hb : Below W.heap.size W W') : OneW T w W' c s :=
  ⟨below_via h.bel hb, Nat.lt_of_lt_of_le h.lt hb.size, (hb.block _ (Nat.lt_of_succ_lt h.lt)).trans h.res, (hb.block _ h.lt).trans h.box⟩
theorem OneW.name {T : TypeId} {w W : World} {c : UInt8} {s : ByteArray} (h : OneW T w W c s) (s' : ByteArray) : OneW T w (W.setCell ⟨w.heap.size + 1, 1, none⟩ (.string s')) c s' := by
  refine ⟨h.bel.setCell (p := ⟨w.heap.size + 1, 1, none⟩) (Nat.le_succ _) _, by rw [World.size_setCell]; exact h.lt, ?_, ?_⟩
  · rw [heap_setCell_other _ _ _ _ (fun q => by have : w.heap.size = w.heap.size + 1 := q; omega)]; exact h.res
  · exact heap_setCell_same _ _ _ _ _ _ h.box
theorem OneW.f {T : TypeId} {w W : World} {c : UInt8} {s : ByteArray} (h : OneW T w W c s) : W.cell? ⟨w.heap.size + 1, 0, none⟩ = some (.int .u8 (c.toNat : Int)) ∧ W.cell? ⟨w.heap.size + 1, 1, none⟩ = some (.string s) ∧ W.cell? ⟨w.heap.size, 0, none⟩ = some (.int .u8 0) ∧ W.cell? ⟨w.heap.size, 1, none⟩ = some (.string ⟨#[]⟩) ∧ (∀ j, W.frozen? ⟨w.heap.size + 1, j, none⟩ = false) ∧ ∀ j, W.frozen? ⟨w.heap.size, j, none⟩ = false :=
  ⟨Dc.hcell h.box rfl, Dc.hcell h.box rfl, Dc.hcell h.res rfl, Dc.hcell h.res rfl, fun _ => Dc.hfree h.box, fun _ => Dc.hfree h.res⟩
/-- What is held while the last statement of 'one' picks its order: the want's box; the result's box, whatever it holds. -/
structure OneV (T : TypeId) (w W : World) (c : UInt8) (s : ByteArray) : Prop where
  bel : Below w.heap.size w W
  lt : w.heap.size + 1 < W.heap.size
  res : ∃ x y : Value, W.heap[w.heap.size]? = some (.cells #[x, y] T (0, 0))
  box : W.heap[w.heap.size + 1]? = some (.cells #[.int .u8 (c.toNat : Int), .string s] T (0, 0))
theorem OneV.step {T : TypeId} {w W W' : World} {c : UInt8} {s : ByteArray} (h : OneV T w W c s) (hb : Below W.heap.size W W') : OneV T w W' c s :=
  ⟨below_via h.bel hb, Nat.lt_of_lt_of_le h.lt hb.size, let ⟨x, y, hr⟩ := h.res; ⟨x, y, (hb.block _ (Nat.lt_of_succ_lt h.lt)).trans hr⟩, (hb.block _ h.lt).trans h.box⟩
theorem OneW.v {T : TypeId} {w W : World} {c : UInt8} {s : ByteArray} (h : OneW T w W c s) : OneV T w W c s := ⟨h.bel, h.lt, ⟨_, _, h.res⟩, h.box⟩
theorem OneV.f {T : TypeId} {w W : World} {c : UInt8} {s : ByteArray} (h : OneV T w W c s) : W.cell? ⟨w.heap.size + 1, 0, none⟩ = some (.int .u8 (c.toNat : Int)) ∧ W.cell? ⟨w.heap.size + 1, 1, none⟩ = some (.string s) := ⟨Dc.hcell h.box rfl, Dc.hcell h.box rfl⟩
theorem OneV.g {T : TypeId} {w W : World} {c : UInt8} {s : ByteArray} (h : OneV T w W c s) : ∃ x y : Value, W.cell? ⟨w.heap.size, 0, none⟩ = some x ∧ W.cell? ⟨w.heap.size, 1, none⟩ = some y ∧ ∀ j, W.frozen? ⟨w.heap.size, j, none⟩ = false := by
  obtain ⟨x, y, hr⟩ := h.res
  exact ⟨x, y, Dc.hcell hr rfl, Dc.hcell hr rfl, fun _ => Dc.hfree hr⟩
theorem OneV.set {T : TypeId} {w W : World} {c : UInt8} {s : ByteArray} (h : OneV T w W c s) (x' y' : Value) : OneV T w ((W.setCell ⟨w.heap.size, 0, none⟩ x').setCell ⟨w.heap.size, 1, none⟩ y') c s ∧
    ((W.setCell ⟨w.heap.size, 0, none⟩ x').setCell ⟨w.heap.size, 1, none⟩ y').cell? ⟨w.heap.size, 0, none⟩ = some x' ∧ ((W.setCell ⟨w.heap.size, 0, none⟩ x').setCell ⟨w.heap.size, 1, none⟩ y').cell? ⟨w.heap.size, 1, none⟩ = some y' := by
  obtain ⟨x, y, hr⟩ := h.res
  have h1 := heap_setCell_same W w.heap.size 0 _ _ x' hr
  have h2 := heap_setCell_same _ w.heap.size 1 _ _ y' h1
  have hn : w.heap.size + 1 ≠ w.heap.size := by omega
  refine ⟨⟨(h.bel.setCell (p := ⟨w.heap.size, 0, none⟩) (Nat.le_refl _) _).setCell (p := ⟨w.heap.size, 1, none⟩) (Nat.le_refl _) _, by rw [World.size_setCell, World.size_setCell]; exact h.lt, ⟨_, _, h2⟩, ?_⟩, Dc.hcell h2 rfl, Dc.hcell h2 rfl⟩
  rw [heap_setCell_other _ _ _ _ hn, heap_setCell_other _ _ _ _ hn]; exact h.box
end Lead.Pk
namespace Go.Proofs.YteaipondofbecaaGreatDoor
open Go.RowKit Lead Lead.Dc Lead.Pk
theorem res_one (tmps : Array Value) (w0 : World) (g : Nat) (x y t b : Value) (h2 : tmps[2]?.getD undef = .pointer (some ⟨g, 0, none⟩)) (h3 : tmps[3]?.getD undef = t) (h4 : tmps[4]?.getD undef = b)
    (hc : w0.cell? ⟨g, 0, none⟩ = some x ∧ w0.cell? ⟨g, 1, none⟩ = some y) :
    (results Tryz.f187 tmps).run Tryz.prog w0 = .ok (.tuple #[.agg #[x, y], t, b]) w0 := by
  obtain ⟨hc, he⟩ := hc
  simp [results, Tryz.results187, go_sem, h2, h3, h4, hc, he]
set_option maxHeartbeats 8000000 in
set_option maxRecDepth 100000 in
theorem one_any (c : UInt8) (r : By) (S : ByteArray) (w : World) (hS : S.data.toList = c :: r) (hl : r.length ≤ 100000) :
    Calls Tryz.prog 187 #[.string S] w (OneIs (oneP c r) w) := by
  have hsz : 0 < S.size := by have := congrArg List.length hS; simp at this; omega
  have hc0 : S[0]'hsz = c := by
    have h := Lib.data_getElem? S 0 hsz
    rw [hS] at h
    injection h with h; exact h.symm
  have e1 : S.extract 1 S.size = bs r := by rw [ext_from, hS]; rfl
  have cI := fun W => iany_any (bs r) ⟨#[35, 46, 91]⟩ W (by decide) (by decide) (by rw [bs_size]; omega) (by decide)
  have hI : Lib.indexAny (bs r).data.toList (ByteArray.mk #[35, 46, 91]).data.toList = Lib.indexAny r [35, 46, 91] := rfl
  rw [hI] at cI
  clear hI
  obtain ⟨R, hR⟩ : ∃ u, bs r = u := ⟨_, rfl⟩
  have gS1 : (1 : Int) ≤ (S.size : Int) := by omega
  rw [hR] at e1 cI
  have H_cI := Lib.hid cI
  clear cI
  have H_hS := Lib.hid hS
  clear hS
  go_enter Tryz.func187, Tryz.ntmps187
  go_wp2_with fail
  refine (H_cI.out _).mono ?_
  rintro _ w1 ⟨rfl, hb1⟩
  have hO1 := (OneW.start 259 w c).step hb1
  clear hb1
  dsimp only
  go_step
  go_step
  go_step
  go_step
  go_step
  go_step
  go_step
  go_step
  have hR' : R.data.toList = r := by rw [← hR]; rfl
  have hRs : R.size = r.length := by rw [← hR]; rfl
  have cB := fun W => (Tryz.strings_IndexByte R 93 W)
  have hIB : Lib.indexByte R.data.toList ((93 : Int).toNat.toUInt8) = Lib.indexByte r 93 := by rw [hR']; rfl
  rw [hIB] at cB
  clear hIB
  obtain ⟨d0, d1, a0, a1, bf, af⟩ := hO1.f
  have H_hO1 := Lib.hid hO1
  clear hO1
  have H_cB := Lib.hid cB
  clear cB
  have H_hR' := Lib.hid hR'
  clear hR'
  have H_hRs := Lib.hid hRs
  clear hRs
  have H_hR := Lib.hid hR
  clear hR
  go_cut [7] (fun s7 wx => ∃ k : Int, s7 = .int .i64 k ∧ (c = 91 → 93 ∈ r ∧ k = ((headB r).length : Int)) ∧ (c ≠ 91 → (k = -1 ∧ headW r = r ∧ tailW r = []) ∨ k = ((headW r).length : Int)) ∧ RowKit.Hid (OneW 259 w wx c ⟨#[]⟩))
  case first =>
    by_cases hc91 : c = 91
    · have gc : ((c.toNat : Int) == 91) = true := by rw [hc91]; rfl
      rcases idxB_93 r with ⟨h1, h2⟩ | ⟨h1, h2, h3⟩
      · rw [h2] at H_cB
        have hP : oneP c r = none := by unfold oneP; rw [if_pos hc91, if_neg (fun h => h1 h.1.1)]
        have H_hc91 := Lib.hid hc91
        clear hc91
        have H_h1 := Lib.hid h1
        clear h1
        have H_h2 := Lib.hid h2
        clear h2
        have H_hP := Lib.hid hP
        clear hP
        go_wp2_with fail
        refine (H_cB.out _).mono ?_
        rintro _ w2 ⟨rfl, hw2⟩
        subst hw2
        go_wp2_with fail
        go_wp2_with fail
        refine bodyPost_ret (by simp [results, Tryz.results187, go_sem, *]; try rfl) rfl ?_
        refine ⟨(H_hO1.out.bel.setCell (p := ⟨w.heap.size, 0, none⟩) (Nat.le_refl _) _).setCell (p := ⟨w.heap.size, 1, none⟩) (Nat.le_refl _) _, ?_⟩
        rw [H_hP.out]; exact ⟨_, _, _, rfl⟩
      · rw [h2] at H_cB
        have gn : ¬ ((headB r).length : Int) < 0 := by omega
        have H_hc91 := Lib.hid hc91
        clear hc91
        have H_h1 := Lib.hid h1
        clear h1
        have H_h2 := Lib.hid h2
        clear h2
        have H_h3 := Lib.hid h3
        clear h3
        go_wp2_with fail
        refine (H_cB.out _).mono ?_
        rintro _ w2 ⟨rfl, hw2⟩
        obtain rfl : w2 = w1 := hw2
        go_wp2_with fail
        go_meet
        exact ⟨_, rfl, fun _ => ⟨H_h1.out, rfl⟩, fun h => absurd H_hc91.out h, H_hO1⟩
    · have gc : ((c.toNat : Int) == 91) = false := by
        rw [beq_eq_false_iff_ne]
        intro h
        exact hc91 (UInt8.toNat.inj (by show c.toNat = 91; omega))
      have H_hc91 := Lib.hid hc91
      clear hc91
      go_wp2_with fail
      go_meet
      refine ⟨_, rfl, fun h => absurd h H_hc91.out, fun _ => ?_, H_hO1⟩
      rcases idxAny_sg r with ⟨h1, h2, h3⟩ | ⟨h1, h2⟩
      · exact .inl ⟨h1, h2, h3⟩
      · exact .inr h1
  case rest =>
    obtain ⟨k, rfl, hk1, hk2, H_O⟩ := hcut
    clear d0 d1 a0 a1 bf af H_hO1 H_cI H_cB
    obtain ⟨w3, rfl⟩ : ∃ u, u = wc := ⟨_, rfl⟩
    go_step
    go_step
    have gk0 : -1 ≤ k := by
      by_cases h : c = 91
      · have := (hk1 h).2; omega
      · rcases hk2 h with h | h <;> omega
    have H_hk1 := Lib.hid hk1
    clear hk1
    have H_hk2 := Lib.hid hk2
    clear hk2
    go_cut [7] (fun s7 wx => ∃ N t1 : By, s7 = .int .i64 (N.length : Int) ∧ N ++ t1 = r ∧ (c = 91 → 93 ∈ r ∧ N = headB r ∧ t1 = tailB r) ∧ (c ≠ 91 → N = headW r ∧ t1 = tailW r) ∧ RowKit.Hid (OneW 259 w wx c ⟨#[]⟩))
    case first =>
      by_cases hk : k < 0
      · have hr : c ≠ 91 ∧ headW r = r ∧ tailW r = [] := by
          by_cases h : c = 91
          · have := (H_hk1.out h).2; omega
          · rcases H_hk2.out h with h' | h'
            · exact ⟨h, h'.2⟩
            · omega
        have hs : R.size = r.length := H_hRs.out
        have H_hr := Lib.hid hr
        clear hr
        have H_hs := Lib.hid hs
        clear hs
        go_wp2_with fail
        go_meet
        exact ⟨r, [], by rw [← H_hs.out], by simp, fun h => absurd h H_hr.out.1, fun _ => ⟨H_hr.out.2.1.symm, H_hr.out.2.2.symm⟩, H_O⟩
      · go_wp2_with fail
        go_meet
        by_cases h : c = 91
        · obtain ⟨h1, h2⟩ := H_hk1.out h
          exact ⟨headB r, tailB r, by rw [h2], head_tailB r, fun _ => ⟨h1, rfl, rfl⟩, fun h' => absurd h h', H_O⟩
        · have h2 : k = ((headW r).length : Int) := by
            rcases H_hk2.out h with h' | h'
            · omega
            · exact h'
          exact ⟨headW r, tailW r, by rw [h2], head_tailW r, fun h' => absurd h' h, fun _ => ⟨rfl, rfl⟩, H_O⟩
    case rest =>
      obtain ⟨N, t1, rfl, hNt, hN1, hN2, H_O⟩ := hcut
      obtain ⟨w4, rfl⟩ : ∃ u, u = wc := ⟨_, rfl⟩
      clear H_hk1 H_hk2 gk0
      have eA := ext_upto R N.length
      have eT := ext_from R N.length
      have hlen : N.length + t1.length = r.length := by rw [← hNt, List.length_append]
      rw [H_hR'.out, ← hNt] at eA eT
      rw [List.take_left' rfl] at eA
      rw [List.drop_left' rfl] at eT
      have gj0 : (0 : Int) ≤ (N.length : Int) := by omega
      have gj1 : (N.length : Int) ≤ (R.size : Int) := by rw [H_hRs.out]; omega
      have gjn : N.length ≤ R.size := by rw [H_hRs.out]; omega
      obtain ⟨nl, hnl⟩ : ∃ u, N.length = u := ⟨_, rfl⟩
      rw [hnl] at eA eT gj0 gj1 gjn
      rw [hnl]
      obtain ⟨A, hA⟩ : ∃ u, bs N = u := ⟨_, rfl⟩
      obtain ⟨T1, hT1⟩ : ∃ u, bs t1 = u := ⟨_, rfl⟩
      rw [hA] at eA
      rw [hT1] at eT
      obtain ⟨d0, d1, a0, a1, bf, af⟩ := H_O.out.f
      have H_hNt := Lib.hid hNt
      clear hNt
      have H_hN1 := Lib.hid hN1
      clear hN1
      have H_hN2 := Lib.hid hN2
      clear hN2
      have H_hlen := Lib.hid hlen
      clear hlen
      have H_hnl := Lib.hid hnl
      clear hnl
      have H_hA := Lib.hid hA
      clear hA
      have H_hT1 := Lib.hid hT1
      clear hT1
      go_step
      go_step
      go_cut [6] (fun s6 wx => s6 = .string T1 ∧ RowKit.Hid (OneW 259 w wx c A))
      case first =>
        go_region
        all_goals
          go_wp2_with fail
          go_meet
          exact ⟨rfl, Lib.hid ((H_O.out.step (Below.refl _ _).drew).name A)⟩
      case rest =>
        obtain ⟨rfl, H_O2⟩ := hcut
        obtain ⟨w5, rfl⟩ : ∃ u, u = wc := ⟨_, rfl⟩
        clear d0 d1 a0 a1 bf af eA eT gj0 gj1 gjn H_O
        obtain ⟨d0, d1, a0, a1, bf, af⟩ := H_O2.out.f
        go_step
        go_step
        go_cut [6] (fun s6 wx => ∃ t : By, s6 = .string (bs t) ∧ (c = 91 → t = t1.drop 1) ∧ (c ≠ 91 → t = t1) ∧ RowKit.Hid (OneW 259 w wx c A))
        case first =>
          by_cases hc91 : c = 91
          · have gc : ((c.toNat : Int) == 91) = true := by rw [hc91]; rfl
            have e2 : T1.extract 1 T1.size = bs (t1.drop 1) := by rw [ext_from, ← H_hT1.out]; rfl
            have gT : (1 : Int) ≤ (T1.size : Int) := by
              obtain ⟨h1, h2, h3⟩ := H_hN1.out hc91
              rw [← H_hT1.out, bs_size, h3]
              have := H_hlen.out
              rw [h2, h3] at this
              rcases idxB_93 r with ⟨h, _⟩ | ⟨_, _, h⟩
              · exact absurd h1 h
              · omega
            have H_hc91 := Lib.hid hc91
            clear hc91
            go_wp2_with fail
            go_meet
            exact ⟨_, rfl, fun _ => by simp, fun h => absurd H_hc91.out h, H_O2⟩
          · have gc : ((c.toNat : Int) == 91) = false := by
              rw [beq_eq_false_iff_ne]
              intro h
              exact hc91 (UInt8.toNat.inj (by show c.toNat = 91; omega))
            have H_hc91 := Lib.hid hc91
            clear hc91
            go_wp2_with fail
            go_meet
            exact ⟨t1, by rw [H_hT1.out], fun h => absurd h H_hc91.out, fun _ => rfl, H_O2⟩
        case rest =>
          obtain ⟨t, rfl, ht1, ht2, H_O3⟩ := hcut
          obtain ⟨w6, rfl⟩ : ∃ u, u = wc := ⟨_, rfl⟩
          clear d0 d1 a0 a1 bf af H_O2
          have cM := fun W => mname_any (bs N) W
          rw [nmOk_bs, H_hA.out] at cM
          have hP := oneP_eq H_hN1.out H_hN2.out ht1 ht2
          clear ht1 ht2 H_hN1 H_hN2
          obtain ⟨d0, d1, a0, a1, bf, af⟩ := H_O3.out.f
          cases hn : nmL N with
          | false =>
            rw [hn] at cM hP
            rw [if_neg (fun h => absurd h.1 (by decide))] at hP
            obtain ⟨T, hT⟩ : ∃ u, bs t = u := ⟨_, rfl⟩
            rw [hT]
            have H_cM := Lib.hid cM
            clear cM
            have H_hP := Lib.hid hP
            clear hP
            have H_hn := Lib.hid hn
            clear hn
            have H_hT := Lib.hid hT
            clear hT
            go_wp2_with fail
            refine wp_region_held_drew (S := fun W => OneV 259 w W c A) (by kernel_rfl) (H_O3.out.v.step (Below.refl _ _).drew) (fun hHeld => ?_)
            refine wpAnyH_take (i := 0) (v := ?_) rfl (by kernel_rfl) (by kernel_rfl) (by kernel_rfl) (fun _ _ _ h => h) (Or.inl ⟨by rfl, ?_⟩) (by assumption) ?_
            rotate_left
            · (intro W hW; have hf := OneV.f hW; go_simp; try (with_reducible rfl))
            try simp only [List.getElem_toArray, List.getElem_cons_zero, Act.put, List.setIfInBounds_toArray, List.set_cons_zero, List.set_cons_succ]
            refine wpAnyH_take (i := 1) (v := ?_) rfl (by kernel_rfl) (by kernel_rfl) (by kernel_rfl) (fun _ _ _ h => h) (Or.inl ⟨by rfl, ?_⟩) (by assumption) ?_
            rotate_left
            · (intro W hW; have hf := OneV.f hW; go_simp; try (with_reducible rfl))
            try simp only [List.getElem_toArray, List.getElem_cons_zero, List.getElem_cons_succ, Act.put, List.setIfInBounds_toArray, List.set_cons_zero, List.set_cons_succ]
            refine wpAnyH_take (i := 2) (v := ?_) rfl (by kernel_rfl) (by kernel_rfl) (by kernel_rfl) (fun _ _ _ h => h) (Or.inl ⟨by rfl, ?_⟩) (by assumption) ?_
            rotate_left
            · (intro W hW; have hf := OneV.f hW; go_simp; try (with_reducible rfl))
            try simp only [List.getElem_toArray, List.getElem_cons_zero, List.getElem_cons_succ, Act.put, List.setIfInBounds_toArray, List.set_cons_zero, List.set_cons_succ]
            refine wpAnyH_take (i := 3) (v := ?_) rfl (by kernel_rfl) (by kernel_rfl) (by kernel_rfl) (fun _ _ _ h => h) (Or.inl ⟨by rfl, ?_⟩) (by assumption) ?_
            rotate_left
            · (intro W hW; have hf := OneV.f hW; go_simp; try (with_reducible rfl))
            try simp only [List.getElem_toArray, List.getElem_cons_zero, List.getElem_cons_succ, Act.put, List.setIfInBounds_toArray, List.set_cons_zero, List.set_cons_succ]
            refine wpAnyH_ready (rs := [4]) (by kernel_rfl) (by simp) ?_
            refine AllReadyH.cons rfl (fun K hK => ?_) AllReadyH.nil
            go_simp
            go_at_call 55
            refine (H_cM.out _).mono ?_
            rintro _ w2 ⟨rfl, hb2⟩
            have hO := hHeld.step hb2
            clear hHeld hb2
            refine hK.out _ _ hO (fun hHeld => ?_)
            clear hK K hO
            try simp only [List.getElem_toArray, List.getElem_cons_zero, List.getElem_cons_succ, Act.put, List.setIfInBounds_toArray, List.set_cons_zero, List.set_cons_succ]
            refine wpAnyH_take (i := 5) (v := ?_) rfl (by kernel_rfl) (by kernel_rfl) (by kernel_rfl) (fun _ _ _ h => h) (Or.inl ⟨by rfl, ?_⟩) (by assumption) ?_
            rotate_left
            · (intro W hW; have hf := OneV.f hW; go_simp; try (with_reducible rfl))
            try simp only [List.getElem_toArray, List.getElem_cons_zero, List.getElem_cons_succ, Act.put, List.setIfInBounds_toArray, List.set_cons_zero, List.set_cons_succ]
            refine wpAnyH_take (i := 6) (v := undef) rfl (by kernel_rfl) (by kernel_rfl) (by kernel_rfl) (fun _ _ _ h => h) (Or.inr ⟨by rfl, rfl⟩) (by assumption) ?_
            try simp only [List.getElem_toArray, List.getElem_cons_zero, List.getElem_cons_succ, Act.put, List.setIfInBounds_toArray, List.set_cons_zero, List.set_cons_succ]
            refine wpAnyH_take (i := 7) (v := undef) rfl (by kernel_rfl) (by kernel_rfl) (by kernel_rfl) (fun _ _ _ h => h) (Or.inr ⟨by rfl, rfl⟩) (by assumption) ?_
            try simp only [List.getElem_toArray, List.getElem_cons_zero, List.getElem_cons_succ, Act.put, List.setIfInBounds_toArray, List.set_cons_zero, List.set_cons_succ]
            refine wpAnyH_take (i := 8) (v := undef) rfl (by kernel_rfl) (by kernel_rfl) (by kernel_rfl) (fun _ _ _ h => h) (Or.inr ⟨by rfl, rfl⟩) (by assumption) ?_
            try simp only [List.getElem_toArray, List.getElem_cons_zero, List.getElem_cons_succ, Act.put, List.setIfInBounds_toArray, List.set_cons_zero, List.set_cons_succ]
            refine wpAnyH_take (i := 9) (v := undef) rfl (by kernel_rfl) (by kernel_rfl) (by kernel_rfl) (fun _ _ _ h => h) (Or.inr ⟨by rfl, rfl⟩) (by assumption) ?_
            try simp only [List.getElem_toArray, List.getElem_cons_zero, List.getElem_cons_succ, Act.put, List.setIfInBounds_toArray, List.set_cons_zero, List.set_cons_succ]
            refine wpAnyH_take (i := 10) (v := undef) rfl (by kernel_rfl) (by kernel_rfl) (by kernel_rfl) (fun _ _ _ h => h) (Or.inr ⟨by rfl, rfl⟩) (by assumption) ?_
            try simp only [List.getElem_toArray, List.getElem_cons_zero, List.getElem_cons_succ, Act.put, List.setIfInBounds_toArray, List.set_cons_zero, List.set_cons_succ]
            refine wpAnyH_take (i := 11) (v := undef) rfl (by kernel_rfl) (by kernel_rfl) (by kernel_rfl) (fun _ _ _ h => h) (Or.inr ⟨by rfl, rfl⟩) (by assumption) ?_
            try simp only [List.getElem_toArray, List.getElem_cons_zero, List.getElem_cons_succ, Act.put, List.setIfInBounds_toArray, List.set_cons_zero, List.set_cons_succ]
            refine wpAnyH_take (i := 12) (v := undef) rfl (by kernel_rfl) (by kernel_rfl) (by kernel_rfl) (fun _ _ _ h => h) (Or.inr ⟨by rfl, rfl⟩) (by assumption) ?_
            try simp only [List.getElem_toArray, List.getElem_cons_zero, List.getElem_cons_succ, Act.put, List.setIfInBounds_toArray, List.set_cons_zero, List.set_cons_succ]
            refine wpAnyH_take (i := 13) (v := undef) rfl (by kernel_rfl) (by kernel_rfl) (by kernel_rfl) (fun _ _ _ h => h) (Or.inr ⟨by rfl, rfl⟩) (by assumption) ?_
            try simp only [List.getElem_toArray, List.getElem_cons_zero, List.getElem_cons_succ, Act.put, List.setIfInBounds_toArray, List.set_cons_zero, List.set_cons_succ]
            refine wpAnyH_take (i := 14) (v := ?_) rfl (by kernel_rfl) (by kernel_rfl) (by kernel_rfl) (fun _ _ _ h => h) (Or.inl ⟨by rfl, ?_⟩) (by assumption) ?_
            rotate_left
            · (intro W hW; have hf := OneV.f hW; go_simp; try (with_reducible rfl))
            try simp only [List.getElem_toArray, List.getElem_cons_zero, List.getElem_cons_succ, Act.put, List.setIfInBounds_toArray, List.set_cons_zero, List.set_cons_succ]
            refine wpAnyH_ready (rs := [15]) (by kernel_rfl) (by simp) ?_
            refine AllReadyH.cons rfl (fun K hK => ?_) AllReadyH.nil
            obtain ⟨x0, x1, y0, y1, y2⟩ := OneV.g hHeld
            go_simp
            clear y0 y1 y2
            obtain ⟨hV, z0, z1⟩ := OneV.set hHeld (.int .u8 (c.toNat : Int)) (.string A)
            clear hHeld
            refine hK.out _ _ hV (fun hHeld => ?_)
            clear hK K hV
            try simp only [List.getElem_toArray, List.getElem_cons_zero, List.getElem_cons_succ, Act.put, List.setIfInBounds_toArray, List.set_cons_zero, List.set_cons_succ]
            refine wpAnyH_take (i := 16) (v := ?_) rfl (by kernel_rfl) (by kernel_rfl) (by kernel_rfl) (fun _ _ _ h => h) (Or.inl ⟨by rfl, ?_⟩) (by assumption) ?_
            rotate_left
            · (intro W hW; have hf := OneV.f hW; go_simp; try (with_reducible rfl))
            try simp only [List.getElem_toArray, List.getElem_cons_zero, List.getElem_cons_succ, Act.put, List.setIfInBounds_toArray, List.set_cons_zero, List.set_cons_succ]
            refine wpAnyH_take (i := 17) (v := ?_) rfl (by kernel_rfl) (by kernel_rfl) (by kernel_rfl) (fun _ _ _ h => h) (Or.inl ⟨by rfl, ?_⟩) (by assumption) ?_
            rotate_left
            · (intro W hW; have hf := OneV.f hW; go_simp; try (with_reducible rfl))
            try simp only [List.getElem_toArray, List.getElem_cons_zero, List.getElem_cons_succ, Act.put, List.setIfInBounds_toArray, List.set_cons_zero, List.set_cons_succ]
            refine wpAnyH_done (by kernel_rfl) ?_ _
            go_wp2_with fail
            with_reducible refine bodyPost_ret (res_one _ _ w.heap.size _ _ (.string T) (.bool false) ?h2 ?h3 ?h4 ⟨z0, z1⟩) rfl ?_
            case h2 => simp
            case h3 => simp
            case h4 => first | (simp; done) | (simp; omega)
            refine ⟨hHeld.bel, ?_⟩
            rw [H_hP.out]
            exact ⟨_, _, _, rfl⟩
          | true =>
            rw [hn] at cM hP
            obtain ⟨T, hT⟩ : ∃ u, bs t = u := ⟨_, rfl⟩
            rw [hT]
            cases t with
            | nil =>
              rw [if_pos ⟨rfl, rfl⟩] at hP
              have hT0 : (T.toList == []) = true := by rw [← hT, ByteArray.toList_eq]; rfl
              have H_cM := Lib.hid cM
              clear cM
              have H_hP := Lib.hid hP
              clear hP
              have H_hn := Lib.hid hn
              clear hn
              have H_hT := Lib.hid hT
              clear hT
              go_wp2_with fail
              refine wp_region_held_drew (S := fun W => OneV 259 w W c A) (by kernel_rfl) (H_O3.out.v.step (Below.refl _ _).drew) (fun hHeld => ?_)
              refine wpAnyH_take (i := 0) (v := ?_) rfl (by kernel_rfl) (by kernel_rfl) (by kernel_rfl) (fun _ _ _ h => h) (Or.inl ⟨by rfl, ?_⟩) (by assumption) ?_
              rotate_left
              · (intro W hW; have hf := OneV.f hW; go_simp; try (with_reducible rfl))
              try simp only [List.getElem_toArray, List.getElem_cons_zero, Act.put, List.setIfInBounds_toArray, List.set_cons_zero, List.set_cons_succ]
              refine wpAnyH_take (i := 1) (v := ?_) rfl (by kernel_rfl) (by kernel_rfl) (by kernel_rfl) (fun _ _ _ h => h) (Or.inl ⟨by rfl, ?_⟩) (by assumption) ?_
              rotate_left
              · (intro W hW; have hf := OneV.f hW; go_simp; try (with_reducible rfl))
              try simp only [List.getElem_toArray, List.getElem_cons_zero, List.getElem_cons_succ, Act.put, List.setIfInBounds_toArray, List.set_cons_zero, List.set_cons_succ]
              refine wpAnyH_take (i := 2) (v := ?_) rfl (by kernel_rfl) (by kernel_rfl) (by kernel_rfl) (fun _ _ _ h => h) (Or.inl ⟨by rfl, ?_⟩) (by assumption) ?_
              rotate_left
              · (intro W hW; have hf := OneV.f hW; go_simp; try (with_reducible rfl))
              try simp only [List.getElem_toArray, List.getElem_cons_zero, List.getElem_cons_succ, Act.put, List.setIfInBounds_toArray, List.set_cons_zero, List.set_cons_succ]
              refine wpAnyH_take (i := 3) (v := ?_) rfl (by kernel_rfl) (by kernel_rfl) (by kernel_rfl) (fun _ _ _ h => h) (Or.inl ⟨by rfl, ?_⟩) (by assumption) ?_
              rotate_left
              · (intro W hW; have hf := OneV.f hW; go_simp; try (with_reducible rfl))
              try simp only [List.getElem_toArray, List.getElem_cons_zero, List.getElem_cons_succ, Act.put, List.setIfInBounds_toArray, List.set_cons_zero, List.set_cons_succ]
              refine wpAnyH_ready (rs := [4]) (by kernel_rfl) (by simp) ?_
              refine AllReadyH.cons rfl (fun K hK => ?_) AllReadyH.nil
              go_simp
              go_at_call 55
              refine (H_cM.out _).mono ?_
              rintro _ w2 ⟨rfl, hb2⟩
              have hO := hHeld.step hb2
              clear hHeld hb2
              refine hK.out _ _ hO (fun hHeld => ?_)
              clear hK K hO
              try simp only [List.getElem_toArray, List.getElem_cons_zero, List.getElem_cons_succ, Act.put, List.setIfInBounds_toArray, List.set_cons_zero, List.set_cons_succ]
              refine wpAnyH_take (i := 5) (v := ?_) rfl (by kernel_rfl) (by kernel_rfl) (by kernel_rfl) (fun _ _ _ h => h) (Or.inl ⟨by rfl, ?_⟩) (by assumption) ?_
              rotate_left
              · (intro W hW; have hf := OneV.f hW; go_simp; try (with_reducible rfl))
              try simp only [List.getElem_toArray, List.getElem_cons_zero, List.getElem_cons_succ, Act.put, List.setIfInBounds_toArray, List.set_cons_zero, List.set_cons_succ]
              refine wpAnyH_take (i := 6) (v := ?_) rfl (by kernel_rfl) (by kernel_rfl) (by kernel_rfl) (fun _ _ _ h => h) (Or.inl ⟨by rfl, ?_⟩) (by assumption) ?_
              rotate_left
              · (intro W hW; have hf := OneV.f hW; go_simp; try (with_reducible rfl))
              try simp only [List.getElem_toArray, List.getElem_cons_zero, List.getElem_cons_succ, Act.put, List.setIfInBounds_toArray, List.set_cons_zero, List.set_cons_succ]
              refine wpAnyH_take (i := 7) (v := ?_) rfl (by kernel_rfl) (by kernel_rfl) (by kernel_rfl) (fun _ _ _ h => h) (Or.inl ⟨by rfl, ?_⟩) (by assumption) ?_
              rotate_left
              · (intro W hW; have hf := OneV.f hW; go_simp; try (with_reducible rfl))
              try simp only [List.getElem_toArray, List.getElem_cons_zero, List.getElem_cons_succ, Act.put, List.setIfInBounds_toArray, List.set_cons_zero, List.set_cons_succ]
              refine wpAnyH_take (i := 8) (v := ?_) rfl (by kernel_rfl) (by kernel_rfl) (by kernel_rfl) (fun _ _ _ h => h) (Or.inl ⟨by rfl, ?_⟩) (by assumption) ?_
              rotate_left
              · (intro W hW; have hf := OneV.f hW; go_simp; try (with_reducible rfl))
              try simp only [List.getElem_toArray, List.getElem_cons_zero, List.getElem_cons_succ, Act.put, List.setIfInBounds_toArray, List.set_cons_zero, List.set_cons_succ]
              refine wpAnyH_take (i := 9) (v := undef) rfl (by kernel_rfl) (by kernel_rfl) (by kernel_rfl) (fun _ _ _ h => h) (Or.inr ⟨by rfl, rfl⟩) (by assumption) ?_
              try simp only [List.getElem_toArray, List.getElem_cons_zero, List.getElem_cons_succ, Act.put, List.setIfInBounds_toArray, List.set_cons_zero, List.set_cons_succ]
              refine wpAnyH_take (i := 10) (v := undef) rfl (by kernel_rfl) (by kernel_rfl) (by kernel_rfl) (fun _ _ _ h => h) (Or.inr ⟨by rfl, rfl⟩) (by assumption) ?_
              try simp only [List.getElem_toArray, List.getElem_cons_zero, List.getElem_cons_succ, Act.put, List.setIfInBounds_toArray, List.set_cons_zero, List.set_cons_succ]
              refine wpAnyH_take (i := 11) (v := undef) rfl (by kernel_rfl) (by kernel_rfl) (by kernel_rfl) (fun _ _ _ h => h) (Or.inr ⟨by rfl, rfl⟩) (by assumption) ?_
              try simp only [List.getElem_toArray, List.getElem_cons_zero, List.getElem_cons_succ, Act.put, List.setIfInBounds_toArray, List.set_cons_zero, List.set_cons_succ]
              refine wpAnyH_take (i := 12) (v := undef) rfl (by kernel_rfl) (by kernel_rfl) (by kernel_rfl) (fun _ _ _ h => h) (Or.inr ⟨by rfl, rfl⟩) (by assumption) ?_
              try simp only [List.getElem_toArray, List.getElem_cons_zero, List.getElem_cons_succ, Act.put, List.setIfInBounds_toArray, List.set_cons_zero, List.set_cons_succ]
              refine wpAnyH_take (i := 13) (v := ?_) rfl (by kernel_rfl) (by kernel_rfl) (by kernel_rfl) (fun _ _ _ h => h) (Or.inl ⟨by rfl, ?_⟩) (by assumption) ?_
              rotate_left
              · (intro W hW; have hf := OneV.f hW; go_simp; try (with_reducible rfl))
              try simp only [List.getElem_toArray, List.getElem_cons_zero, List.getElem_cons_succ, Act.put, List.setIfInBounds_toArray, List.set_cons_zero, List.set_cons_succ]
              refine wpAnyH_take (i := 14) (v := ?_) rfl (by kernel_rfl) (by kernel_rfl) (by kernel_rfl) (fun _ _ _ h => h) (Or.inl ⟨by rfl, ?_⟩) (by assumption) ?_
              rotate_left
              · (intro W hW; have hf := OneV.f hW; go_simp; try (with_reducible rfl))
              try simp only [List.getElem_toArray, List.getElem_cons_zero, List.getElem_cons_succ, Act.put, List.setIfInBounds_toArray, List.set_cons_zero, List.set_cons_succ]
              refine wpAnyH_ready (rs := [15]) (by kernel_rfl) (by simp) ?_
              refine AllReadyH.cons rfl (fun K hK => ?_) AllReadyH.nil
              obtain ⟨x0, x1, y0, y1, y2⟩ := OneV.g hHeld
              go_simp
              clear y0 y1 y2
              obtain ⟨hV, z0, z1⟩ := OneV.set hHeld (.int .u8 (c.toNat : Int)) (.string A)
              clear hHeld
              refine hK.out _ _ hV (fun hHeld => ?_)
              clear hK K hV
              try simp only [List.getElem_toArray, List.getElem_cons_zero, List.getElem_cons_succ, Act.put, List.setIfInBounds_toArray, List.set_cons_zero, List.set_cons_succ]
              refine wpAnyH_take (i := 16) (v := ?_) rfl (by kernel_rfl) (by kernel_rfl) (by kernel_rfl) (fun _ _ _ h => h) (Or.inl ⟨by rfl, ?_⟩) (by assumption) ?_
              rotate_left
              · (intro W hW; have hf := OneV.f hW; go_simp; try (with_reducible rfl))
              try simp only [List.getElem_toArray, List.getElem_cons_zero, List.getElem_cons_succ, Act.put, List.setIfInBounds_toArray, List.set_cons_zero, List.set_cons_succ]
              refine wpAnyH_take (i := 17) (v := ?_) rfl (by kernel_rfl) (by kernel_rfl) (by kernel_rfl) (fun _ _ _ h => h) (Or.inl ⟨by rfl, ?_⟩) (by assumption) ?_
              rotate_left
              · (intro W hW; have hf := OneV.f hW; go_simp; try (with_reducible rfl))
              try simp only [List.getElem_toArray, List.getElem_cons_zero, List.getElem_cons_succ, Act.put, List.setIfInBounds_toArray, List.set_cons_zero, List.set_cons_succ]
              refine wpAnyH_done (by kernel_rfl) ?_ _
              go_wp2_with fail
              with_reducible refine bodyPost_ret (res_one _ _ w.heap.size _ _ (.string T) (.bool true) ?h2 ?h3 ?h4 ⟨z0, z1⟩) rfl ?_
              case h2 => simp
              case h3 => simp
              case h4 => first | (simp; done) | (simp; omega)
              refine ⟨hHeld.bel, ?_⟩
              rw [H_hP.out]
              exact (by rw [← H_hA.out, ← H_hT.out])
            | cons t0 t' =>
              have hT0 : (T.toList == []) = false := by rw [← hT, ByteArray.toList_eq]; rfl
              have hTs : 0 < T.size := by rw [← hT, bs_size]; simp
              have hTi : T[0]'hTs = t0 := by subst hT; rfl
              have cX := fun W => Tryz.strings_IndexByte ⟨#[35, 46, 91]⟩ (t0.toNat : Int) W
              have hX := Lib.contains_iff_indexByte [35, 46, 91] t0
              have hback : ((t0.toNat : Int)).toNat.toUInt8 = t0 := by simp
              rw [hback] at cX
              clear hback
              rw [sg_in] at hX
              obtain ⟨v, hv⟩ : ∃ u, Lib.indexByte [35, 46, 91] t0 = u := ⟨_, rfl⟩
              have hv' : Lib.indexByte (ByteArray.mk #[35, 46, 91]).data.toList t0 = v := hv
              rw [hv'] at cX
              rw [hv] at hX
              clear hv hv'
              have hdk : hdOk (t0 :: t') = isSg t0 := rfl
              rw [hdk] at hP
              cases hsg : isSg t0 with
              | true =>
                rw [hsg] at hX hP
                rw [if_pos ⟨rfl, rfl⟩] at hP
                have hv0 : (0 : Int) ≤ v := of_decide_eq_true hX.symm
                have H_cM := Lib.hid cM
                clear cM
                have H_hP := Lib.hid hP
                clear hP
                have H_hn := Lib.hid hn
                clear hn
                have H_hT := Lib.hid hT
                clear hT
                have H_cX := Lib.hid cX
                clear cX
                have H_hX := Lib.hid hX
                clear hX
                have H_hsg := Lib.hid hsg
                clear hsg
                have H_hdk := Lib.hid hdk
                clear hdk
                go_wp2_with fail
                refine wp_region_held_drew (S := fun W => OneV 259 w W c A) (by kernel_rfl) (H_O3.out.v.step (Below.refl _ _).drew) (fun hHeld => ?_)
                refine wpAnyH_take (i := 0) (v := ?_) rfl (by kernel_rfl) (by kernel_rfl) (by kernel_rfl) (fun _ _ _ h => h) (Or.inl ⟨by rfl, ?_⟩) (by assumption) ?_
                rotate_left
                · (intro W hW; have hf := OneV.f hW; go_simp; try (with_reducible rfl))
                try simp only [List.getElem_toArray, List.getElem_cons_zero, Act.put, List.setIfInBounds_toArray, List.set_cons_zero, List.set_cons_succ]
                refine wpAnyH_take (i := 1) (v := ?_) rfl (by kernel_rfl) (by kernel_rfl) (by kernel_rfl) (fun _ _ _ h => h) (Or.inl ⟨by rfl, ?_⟩) (by assumption) ?_
                rotate_left
                · (intro W hW; have hf := OneV.f hW; go_simp; try (with_reducible rfl))
                try simp only [List.getElem_toArray, List.getElem_cons_zero, List.getElem_cons_succ, Act.put, List.setIfInBounds_toArray, List.set_cons_zero, List.set_cons_succ]
                refine wpAnyH_take (i := 2) (v := ?_) rfl (by kernel_rfl) (by kernel_rfl) (by kernel_rfl) (fun _ _ _ h => h) (Or.inl ⟨by rfl, ?_⟩) (by assumption) ?_
                rotate_left
                · (intro W hW; have hf := OneV.f hW; go_simp; try (with_reducible rfl))
                try simp only [List.getElem_toArray, List.getElem_cons_zero, List.getElem_cons_succ, Act.put, List.setIfInBounds_toArray, List.set_cons_zero, List.set_cons_succ]
                refine wpAnyH_take (i := 3) (v := ?_) rfl (by kernel_rfl) (by kernel_rfl) (by kernel_rfl) (fun _ _ _ h => h) (Or.inl ⟨by rfl, ?_⟩) (by assumption) ?_
                rotate_left
                · (intro W hW; have hf := OneV.f hW; go_simp; try (with_reducible rfl))
                try simp only [List.getElem_toArray, List.getElem_cons_zero, List.getElem_cons_succ, Act.put, List.setIfInBounds_toArray, List.set_cons_zero, List.set_cons_succ]
                refine wpAnyH_ready (rs := [4]) (by kernel_rfl) (by simp) ?_
                refine AllReadyH.cons rfl (fun K hK => ?_) AllReadyH.nil
                go_simp
                go_at_call 55
                refine (H_cM.out _).mono ?_
                rintro _ w2 ⟨rfl, hb2⟩
                have hO := hHeld.step hb2
                clear hHeld hb2
                refine hK.out _ _ hO (fun hHeld => ?_)
                clear hK K hO
                try simp only [List.getElem_toArray, List.getElem_cons_zero, List.getElem_cons_succ, Act.put, List.setIfInBounds_toArray, List.set_cons_zero, List.set_cons_succ]
                refine wpAnyH_take (i := 5) (v := ?_) rfl (by kernel_rfl) (by kernel_rfl) (by kernel_rfl) (fun _ _ _ h => h) (Or.inl ⟨by rfl, ?_⟩) (by assumption) ?_
                rotate_left
                · (intro W hW; have hf := OneV.f hW; go_simp; try (with_reducible rfl))
                try simp only [List.getElem_toArray, List.getElem_cons_zero, List.getElem_cons_succ, Act.put, List.setIfInBounds_toArray, List.set_cons_zero, List.set_cons_succ]
                refine wpAnyH_take (i := 6) (v := ?_) rfl (by kernel_rfl) (by kernel_rfl) (by kernel_rfl) (fun _ _ _ h => h) (Or.inl ⟨by rfl, ?_⟩) (by assumption) ?_
                rotate_left
                · (intro W hW; have hf := OneV.f hW; go_simp; try (with_reducible rfl))
                try simp only [List.getElem_toArray, List.getElem_cons_zero, List.getElem_cons_succ, Act.put, List.setIfInBounds_toArray, List.set_cons_zero, List.set_cons_succ]
                refine wpAnyH_take (i := 7) (v := ?_) rfl (by kernel_rfl) (by kernel_rfl) (by kernel_rfl) (fun _ _ _ h => h) (Or.inl ⟨by rfl, ?_⟩) (by assumption) ?_
                rotate_left
                · (intro W hW; have hf := OneV.f hW; go_simp; try (with_reducible rfl))
                try simp only [List.getElem_toArray, List.getElem_cons_zero, List.getElem_cons_succ, Act.put, List.setIfInBounds_toArray, List.set_cons_zero, List.set_cons_succ]
                refine wpAnyH_take (i := 8) (v := ?_) rfl (by kernel_rfl) (by kernel_rfl) (by kernel_rfl) (fun _ _ _ h => h) (Or.inl ⟨by rfl, ?_⟩) (by assumption) ?_
                rotate_left
                · (intro W hW; have hf := OneV.f hW; go_simp; try (with_reducible rfl))
                try simp only [List.getElem_toArray, List.getElem_cons_zero, List.getElem_cons_succ, Act.put, List.setIfInBounds_toArray, List.set_cons_zero, List.set_cons_succ]
                refine wpAnyH_take (i := 9) (v := ?_) rfl (by kernel_rfl) (by kernel_rfl) (by kernel_rfl) (fun _ _ _ h => h) (Or.inl ⟨by rfl, ?_⟩) (by assumption) ?_
                rotate_left
                · (intro W hW; have hf := OneV.f hW; go_simp; try (with_reducible rfl))
                try simp only [List.getElem_toArray, List.getElem_cons_zero, List.getElem_cons_succ, Act.put, List.setIfInBounds_toArray, List.set_cons_zero, List.set_cons_succ]
                refine wpAnyH_take (i := 10) (v := ?_) rfl (by kernel_rfl) (by kernel_rfl) (by kernel_rfl) (fun _ _ _ h => h) (Or.inl ⟨by rfl, ?_⟩) (by assumption) ?_
                rotate_left
                · (intro W hW; have hf := OneV.f hW; go_simp; try (with_reducible rfl))
                try simp only [List.getElem_toArray, List.getElem_cons_zero, List.getElem_cons_succ, Act.put, List.setIfInBounds_toArray, List.set_cons_zero, List.set_cons_succ]
                refine wpAnyH_ready (rs := [11]) (by kernel_rfl) (by simp) ?_
                refine AllReadyH.cons rfl (fun K hK => ?_) AllReadyH.nil
                go_simp
                go_at_call 205
                refine (H_cX.out _).mono ?_
                rintro _ w9 ⟨rfl, hw9⟩
                subst hw9
                refine hK.out _ _ hHeld (fun hHeld => ?_)
                clear hK K
                try simp only [List.getElem_toArray, List.getElem_cons_zero, List.getElem_cons_succ, Act.put, List.setIfInBounds_toArray, List.set_cons_zero, List.set_cons_succ]
                refine wpAnyH_take (i := 12) (v := ?_) rfl (by kernel_rfl) (by kernel_rfl) (by kernel_rfl) (fun _ _ _ h => h) (Or.inl ⟨by rfl, ?_⟩) (by assumption) ?_
                rotate_left
                · (intro W hW; have hf := OneV.f hW; go_simp; try (with_reducible rfl))
                try simp only [List.getElem_toArray, List.getElem_cons_zero, List.getElem_cons_succ, Act.put, List.setIfInBounds_toArray, List.set_cons_zero, List.set_cons_succ]
                refine wpAnyH_take (i := 13) (v := ?_) rfl (by kernel_rfl) (by kernel_rfl) (by kernel_rfl) (fun _ _ _ h => h) (Or.inl ⟨by rfl, ?_⟩) (by assumption) ?_
                rotate_left
                · (intro W hW; have hf := OneV.f hW; go_simp; try (with_reducible rfl))
                try simp only [List.getElem_toArray, List.getElem_cons_zero, List.getElem_cons_succ, Act.put, List.setIfInBounds_toArray, List.set_cons_zero, List.set_cons_succ]
                refine wpAnyH_take (i := 14) (v := ?_) rfl (by kernel_rfl) (by kernel_rfl) (by kernel_rfl) (fun _ _ _ h => h) (Or.inl ⟨by rfl, ?_⟩) (by assumption) ?_
                rotate_left
                · (intro W hW; have hf := OneV.f hW; go_simp; try (with_reducible rfl))
                try simp only [List.getElem_toArray, List.getElem_cons_zero, List.getElem_cons_succ, Act.put, List.setIfInBounds_toArray, List.set_cons_zero, List.set_cons_succ]
                refine wpAnyH_ready (rs := [15]) (by kernel_rfl) (by simp) ?_
                refine AllReadyH.cons rfl (fun K hK => ?_) AllReadyH.nil
                obtain ⟨x0, x1, y0, y1, y2⟩ := OneV.g hHeld
                go_simp
                clear y0 y1 y2
                obtain ⟨hV, z0, z1⟩ := OneV.set hHeld (.int .u8 (c.toNat : Int)) (.string A)
                clear hHeld
                refine hK.out _ _ hV (fun hHeld => ?_)
                clear hK K hV
                try simp only [List.getElem_toArray, List.getElem_cons_zero, List.getElem_cons_succ, Act.put, List.setIfInBounds_toArray, List.set_cons_zero, List.set_cons_succ]
                refine wpAnyH_take (i := 16) (v := ?_) rfl (by kernel_rfl) (by kernel_rfl) (by kernel_rfl) (fun _ _ _ h => h) (Or.inl ⟨by rfl, ?_⟩) (by assumption) ?_
                rotate_left
                · (intro W hW; have hf := OneV.f hW; go_simp; try (with_reducible rfl))
                try simp only [List.getElem_toArray, List.getElem_cons_zero, List.getElem_cons_succ, Act.put, List.setIfInBounds_toArray, List.set_cons_zero, List.set_cons_succ]
                refine wpAnyH_take (i := 17) (v := ?_) rfl (by kernel_rfl) (by kernel_rfl) (by kernel_rfl) (fun _ _ _ h => h) (Or.inl ⟨by rfl, ?_⟩) (by assumption) ?_
                rotate_left
                · (intro W hW; have hf := OneV.f hW; go_simp; try (with_reducible rfl))
                try simp only [List.getElem_toArray, List.getElem_cons_zero, List.getElem_cons_succ, Act.put, List.setIfInBounds_toArray, List.set_cons_zero, List.set_cons_succ]
                refine wpAnyH_done (by kernel_rfl) ?_ _
                go_wp2_with fail
                with_reducible refine bodyPost_ret (res_one _ _ w.heap.size _ _ (.string T) (.bool true) ?h2 ?h3 ?h4 ⟨z0, z1⟩) rfl ?_
                case h2 => simp
                case h3 => simp
                case h4 => first | (simp; done) | (simp; omega)
                refine ⟨hHeld.bel, ?_⟩
                rw [H_hP.out]
                exact (by rw [← H_hA.out, ← H_hT.out])
              | false =>
                rw [hsg] at hX hP
                rw [if_neg (fun h => absurd h.2 (by decide))] at hP
                have hv0 : ¬ (0 : Int) ≤ v := of_decide_eq_false hX.symm
                have H_cM := Lib.hid cM
                clear cM
                have H_hP := Lib.hid hP
                clear hP
                have H_hn := Lib.hid hn
                clear hn
                have H_hT := Lib.hid hT
                clear hT
                have H_cX := Lib.hid cX
                clear cX
                have H_hX := Lib.hid hX
                clear hX
                have H_hsg := Lib.hid hsg
                clear hsg
                have H_hdk := Lib.hid hdk
                clear hdk
                go_wp2_with fail
                refine wp_region_held_drew (S := fun W => OneV 259 w W c A) (by kernel_rfl) (H_O3.out.v.step (Below.refl _ _).drew) (fun hHeld => ?_)
                refine wpAnyH_take (i := 0) (v := ?_) rfl (by kernel_rfl) (by kernel_rfl) (by kernel_rfl) (fun _ _ _ h => h) (Or.inl ⟨by rfl, ?_⟩) (by assumption) ?_
                rotate_left
                · (intro W hW; have hf := OneV.f hW; go_simp; try (with_reducible rfl))
                try simp only [List.getElem_toArray, List.getElem_cons_zero, Act.put, List.setIfInBounds_toArray, List.set_cons_zero, List.set_cons_succ]
                refine wpAnyH_take (i := 1) (v := ?_) rfl (by kernel_rfl) (by kernel_rfl) (by kernel_rfl) (fun _ _ _ h => h) (Or.inl ⟨by rfl, ?_⟩) (by assumption) ?_
                rotate_left
                · (intro W hW; have hf := OneV.f hW; go_simp; try (with_reducible rfl))
                try simp only [List.getElem_toArray, List.getElem_cons_zero, List.getElem_cons_succ, Act.put, List.setIfInBounds_toArray, List.set_cons_zero, List.set_cons_succ]
                refine wpAnyH_take (i := 2) (v := ?_) rfl (by kernel_rfl) (by kernel_rfl) (by kernel_rfl) (fun _ _ _ h => h) (Or.inl ⟨by rfl, ?_⟩) (by assumption) ?_
                rotate_left
                · (intro W hW; have hf := OneV.f hW; go_simp; try (with_reducible rfl))
                try simp only [List.getElem_toArray, List.getElem_cons_zero, List.getElem_cons_succ, Act.put, List.setIfInBounds_toArray, List.set_cons_zero, List.set_cons_succ]
                refine wpAnyH_take (i := 3) (v := ?_) rfl (by kernel_rfl) (by kernel_rfl) (by kernel_rfl) (fun _ _ _ h => h) (Or.inl ⟨by rfl, ?_⟩) (by assumption) ?_
                rotate_left
                · (intro W hW; have hf := OneV.f hW; go_simp; try (with_reducible rfl))
                try simp only [List.getElem_toArray, List.getElem_cons_zero, List.getElem_cons_succ, Act.put, List.setIfInBounds_toArray, List.set_cons_zero, List.set_cons_succ]
                refine wpAnyH_ready (rs := [4]) (by kernel_rfl) (by simp) ?_
                refine AllReadyH.cons rfl (fun K hK => ?_) AllReadyH.nil
                go_simp
                go_at_call 55
                refine (H_cM.out _).mono ?_
                rintro _ w2 ⟨rfl, hb2⟩
                have hO := hHeld.step hb2
                clear hHeld hb2
                refine hK.out _ _ hO (fun hHeld => ?_)
                clear hK K hO
                try simp only [List.getElem_toArray, List.getElem_cons_zero, List.getElem_cons_succ, Act.put, List.setIfInBounds_toArray, List.set_cons_zero, List.set_cons_succ]
                refine wpAnyH_take (i := 5) (v := ?_) rfl (by kernel_rfl) (by kernel_rfl) (by kernel_rfl) (fun _ _ _ h => h) (Or.inl ⟨by rfl, ?_⟩) (by assumption) ?_
                rotate_left
                · (intro W hW; have hf := OneV.f hW; go_simp; try (with_reducible rfl))
                try simp only [List.getElem_toArray, List.getElem_cons_zero, List.getElem_cons_succ, Act.put, List.setIfInBounds_toArray, List.set_cons_zero, List.set_cons_succ]
                refine wpAnyH_take (i := 6) (v := ?_) rfl (by kernel_rfl) (by kernel_rfl) (by kernel_rfl) (fun _ _ _ h => h) (Or.inl ⟨by rfl, ?_⟩) (by assumption) ?_
                rotate_left
                · (intro W hW; have hf := OneV.f hW; go_simp; try (with_reducible rfl))
                try simp only [List.getElem_toArray, List.getElem_cons_zero, List.getElem_cons_succ, Act.put, List.setIfInBounds_toArray, List.set_cons_zero, List.set_cons_succ]
                refine wpAnyH_take (i := 7) (v := ?_) rfl (by kernel_rfl) (by kernel_rfl) (by kernel_rfl) (fun _ _ _ h => h) (Or.inl ⟨by rfl, ?_⟩) (by assumption) ?_
                rotate_left
                · (intro W hW; have hf := OneV.f hW; go_simp; try (with_reducible rfl))
                try simp only [List.getElem_toArray, List.getElem_cons_zero, List.getElem_cons_succ, Act.put, List.setIfInBounds_toArray, List.set_cons_zero, List.set_cons_succ]
                refine wpAnyH_take (i := 8) (v := ?_) rfl (by kernel_rfl) (by kernel_rfl) (by kernel_rfl) (fun _ _ _ h => h) (Or.inl ⟨by rfl, ?_⟩) (by assumption) ?_
                rotate_left
                · (intro W hW; have hf := OneV.f hW; go_simp; try (with_reducible rfl))
                try simp only [List.getElem_toArray, List.getElem_cons_zero, List.getElem_cons_succ, Act.put, List.setIfInBounds_toArray, List.set_cons_zero, List.set_cons_succ]
                refine wpAnyH_take (i := 9) (v := ?_) rfl (by kernel_rfl) (by kernel_rfl) (by kernel_rfl) (fun _ _ _ h => h) (Or.inl ⟨by rfl, ?_⟩) (by assumption) ?_
                rotate_left
                · (intro W hW; have hf := OneV.f hW; go_simp; try (with_reducible rfl))
                try simp only [List.getElem_toArray, List.getElem_cons_zero, List.getElem_cons_succ, Act.put, List.setIfInBounds_toArray, List.set_cons_zero, List.set_cons_succ]
                refine wpAnyH_take (i := 10) (v := ?_) rfl (by kernel_rfl) (by kernel_rfl) (by kernel_rfl) (fun _ _ _ h => h) (Or.inl ⟨by rfl, ?_⟩) (by assumption) ?_
                rotate_left
                · (intro W hW; have hf := OneV.f hW; go_simp; try (with_reducible rfl))
                try simp only [List.getElem_toArray, List.getElem_cons_zero, List.getElem_cons_succ, Act.put, List.setIfInBounds_toArray, List.set_cons_zero, List.set_cons_succ]
                refine wpAnyH_ready (rs := [11]) (by kernel_rfl) (by simp) ?_
                refine AllReadyH.cons rfl (fun K hK => ?_) AllReadyH.nil
                go_simp
                go_at_call 205
                refine (H_cX.out _).mono ?_
                rintro _ w9 ⟨rfl, hw9⟩
                subst hw9
                refine hK.out _ _ hHeld (fun hHeld => ?_)
                clear hK K
                try simp only [List.getElem_toArray, List.getElem_cons_zero, List.getElem_cons_succ, Act.put, List.setIfInBounds_toArray, List.set_cons_zero, List.set_cons_succ]
                refine wpAnyH_take (i := 12) (v := ?_) rfl (by kernel_rfl) (by kernel_rfl) (by kernel_rfl) (fun _ _ _ h => h) (Or.inl ⟨by rfl, ?_⟩) (by assumption) ?_
                rotate_left
                · (intro W hW; have hf := OneV.f hW; go_simp; try (with_reducible rfl))
                try simp only [List.getElem_toArray, List.getElem_cons_zero, List.getElem_cons_succ, Act.put, List.setIfInBounds_toArray, List.set_cons_zero, List.set_cons_succ]
                refine wpAnyH_take (i := 13) (v := ?_) rfl (by kernel_rfl) (by kernel_rfl) (by kernel_rfl) (fun _ _ _ h => h) (Or.inl ⟨by rfl, ?_⟩) (by assumption) ?_
                rotate_left
                · (intro W hW; have hf := OneV.f hW; go_simp; try (with_reducible rfl))
                try simp only [List.getElem_toArray, List.getElem_cons_zero, List.getElem_cons_succ, Act.put, List.setIfInBounds_toArray, List.set_cons_zero, List.set_cons_succ]
                refine wpAnyH_take (i := 14) (v := ?_) rfl (by kernel_rfl) (by kernel_rfl) (by kernel_rfl) (fun _ _ _ h => h) (Or.inl ⟨by rfl, ?_⟩) (by assumption) ?_
                rotate_left
                · (intro W hW; have hf := OneV.f hW; go_simp; try (with_reducible rfl))
                try simp only [List.getElem_toArray, List.getElem_cons_zero, List.getElem_cons_succ, Act.put, List.setIfInBounds_toArray, List.set_cons_zero, List.set_cons_succ]
                refine wpAnyH_ready (rs := [15]) (by kernel_rfl) (by simp) ?_
                refine AllReadyH.cons rfl (fun K hK => ?_) AllReadyH.nil
                obtain ⟨x0, x1, y0, y1, y2⟩ := OneV.g hHeld
                go_simp
                clear y0 y1 y2
                obtain ⟨hV, z0, z1⟩ := OneV.set hHeld (.int .u8 (c.toNat : Int)) (.string A)
                clear hHeld
                refine hK.out _ _ hV (fun hHeld => ?_)
                clear hK K hV
                try simp only [List.getElem_toArray, List.getElem_cons_zero, List.getElem_cons_succ, Act.put, List.setIfInBounds_toArray, List.set_cons_zero, List.set_cons_succ]
                refine wpAnyH_take (i := 16) (v := ?_) rfl (by kernel_rfl) (by kernel_rfl) (by kernel_rfl) (fun _ _ _ h => h) (Or.inl ⟨by rfl, ?_⟩) (by assumption) ?_
                rotate_left
                · (intro W hW; have hf := OneV.f hW; go_simp; try (with_reducible rfl))
                try simp only [List.getElem_toArray, List.getElem_cons_zero, List.getElem_cons_succ, Act.put, List.setIfInBounds_toArray, List.set_cons_zero, List.set_cons_succ]
                refine wpAnyH_take (i := 17) (v := ?_) rfl (by kernel_rfl) (by kernel_rfl) (by kernel_rfl) (fun _ _ _ h => h) (Or.inl ⟨by rfl, ?_⟩) (by assumption) ?_
                rotate_left
                · (intro W hW; have hf := OneV.f hW; go_simp; try (with_reducible rfl))
                try simp only [List.getElem_toArray, List.getElem_cons_zero, List.getElem_cons_succ, Act.put, List.setIfInBounds_toArray, List.set_cons_zero, List.set_cons_succ]
                refine wpAnyH_done (by kernel_rfl) ?_ _
                go_wp2_with fail
                with_reducible refine bodyPost_ret (res_one _ _ w.heap.size _ _ (.string T) (.bool false) ?h2 ?h3 ?h4 ⟨z0, z1⟩) rfl ?_
                case h2 => simp
                case h3 => simp
                case h4 => first | (simp; done) | (simp; omega)
                refine ⟨hHeld.bel, ?_⟩
                rw [H_hP.out]
                exact ⟨_, _, _, rfl⟩
end Go.Proofs.YteaipondofbecaaGreatDoor
