/-
  Walks over package doc: Unset.
-/
import Derived.Test.YtndlmmpheecleaaGreatDoorPu5
import Derived.Test.YtndlmmpheecleaaGreatDoorDz
namespace Go.Proofs.YtndlmmpheecleaaGreatDoor
open Go.RowKit Go.WideMaps Go.Maps Lead Lead.Dc Lead.Rc
set_option maxHeartbeats 1000000 in
theorem attr_none (bd next : Nat) (z : Int) (nm : ByteArray) (F : Nat → Prop) (E : Els) (d : Nat → Nat) (w : World) (hD : DokG Tryz.prog TT w bd F E next d) (hz : I64 z) (h : atZ E z = none) :
    Calls Tryz.prog 22 #[.pointer (some ⟨bd, 0, none⟩), .int .i64 z, .string nm] w fun en w' => en = .returned (.tuple #[.string ⟨#[]⟩, .bool false]) ∧ Below w.heap.size w w' := by
  obtain ⟨⟨pl, bm, cnt, D, hA, hc, hF⟩, hg, hbig, hlen⟩ := hD
  have c0 := hA.c0
  have hm := atZ_none h
  have H_hA := Lib.hid hA
  clear hA
  have H_hm := Lib.hid hm
  clear hm
  have H_h := Lib.hid h
  clear h
  have H_hz := Lib.hid hz
  clear hz
  clear hc hF hg
  go_enter Tryz.func22, Tryz.ntmps22
  go_wp2_with (at_lookup; refine wp_miss_ok (T := TT) TK rfl _ _ rfl rfl rfl H_hA.out H_hm.out H_hz.out ?_)
  go_returns
  exact ⟨rfl, by repeat' (first | (with_reducible first | exact bwR _ _ | assumption | refine bdn ?_ | refine bwA ?_ ?_ _ | refine bwD ?_ | refine bwS ?_ ?_ _) | omega | (simp <;> omega))⟩
set_option maxHeartbeats 1000000 in
theorem puns_bad (ea : Nat → Addr) (bd next : Nat) (z : Int) (nm : ByteArray) (F : Nat → Prop) (E : Els) (d : Nat → Nat) (w : World) (hD : DokG Tryz.prog TT w bd F E next d) (hG : DGs ea w) (hz : I64 z) (hc : unsC E z nm ≠ 0) :
    Calls Tryz.prog 20 #[.pointer (some ⟨bd, 0, none⟩), .int .i64 z, .string nm] w (ErrIs 264 ea (unsC E z nm) w) := by
  have hNone := hG.c5
  have zhNone := zlt hNone
  have xhNone := zlts hNone
  have yhNone := zne hNone
  have zw := hD.ok.lt
  have cA : ∀ (W : World) (_ : Below w.heap.size w W), Calls Tryz.prog 22 #[.pointer (some ⟨bd, 0, none⟩), .int .i64 z, .string nm] W fun en w' => en = .returned (.tuple #[.string ⟨#[]⟩, .bool false]) ∧ Below W.heap.size W w' := fun W hb => by
    unfold unsC at hc
    cases hat : atZ E z with
    | none => exact attr_none bd next z nm F E d W (hD.keep hb) hz hat
    | some e =>
      obtain ⟨n, rfl, he⟩ := atZ_some hat
      rw [hat] at hc
      dsimp only at hc
      split at hc
      · next h1 =>
        have h := attr_any bd next n nm F E d e W (hD.keep hb) he
        rw [attrV_idx_none h1] at h
        exact h
      · exact absurd rfl hc
  have hC : unsC E z nm = 5 := by
    unfold unsC at hc ⊢
    cases hat : atZ E z with
    | none => rfl
    | some e =>
      rw [hat] at hc
      dsimp only at hc ⊢
      split at hc
      · next h1 => rw [if_pos h1]
      · exact absurd rfl hc
  rw [hC]
  have H_cA := Lib.hid cA
  clear cA
  have H_hD := Lib.hid hD
  clear hD
  have H_hG := Lib.hid hG
  clear hG
  have H_hC := Lib.hid hC
  clear hC
  have H_hc := Lib.hid hc
  clear hc
  have H_hz := Lib.hid hz
  clear hz
  go_enter Tryz.func20, Tryz.ntmps20
  go_wp2_with fail
  refine (H_cA.out _ (by repeat' (first | (with_reducible first | exact bwR _ _ | assumption | refine bdn ?_ | refine bwA ?_ ?_ _ | refine bwD ?_ | refine bwS ?_ ?_ _) | omega | (simp <;> omega)))).mono ?_
  rintro _ w1 ⟨rfl, hb1⟩
  have hB1 : Below w.heap.size w w1 := below_via (by repeat' (first | (with_reducible first | exact bwR _ _ | assumption | refine bdn ?_ | refine bwA ?_ ?_ _ | refine bwD ?_ | refine bwS ?_ ?_ _) | omega | (simp <;> omega))) hb1
  have hX := gkeep hB1 hNone rfl
  have zX := zlt hX
  clear hb1
  go_wp2_with fail
  go_returns
  exact ⟨rfl, hB1⟩
set_option maxHeartbeats 4000000 in
set_option maxRecDepth 100000 in
theorem puns_ok (bd next n : Nat) (nm : ByteArray) (F : Nat → Prop) (E : Els) (d : Nat → Nat) (e : El) (w : World) (hD : DokG Tryz.prog TT w bd F E next d) (he : elAt E n = some e) (hc : unsC E (n : Int) nm = 0) :
    Calls Tryz.prog 20 #[.pointer (some ⟨bd, 0, none⟩), .int .i64 (n : Int), .string nm] w fun en w' => en = .returned .nilIface ∧ Became Tryz.prog TT w w' bd F (atsE E n (unsetA nm e.attrs)) next := by
  obtain ⟨k, hi⟩ : ∃ k, idxA nm e.attrs = some k := by
    unfold unsC at hc
    rw [atZ_nat, he] at hc
    dsimp only at hc
    cases hi : idxA nm e.attrs with
    | some k => exact ⟨k, rfl⟩
    | none => rw [hi, if_pos rfl] at hc; exact absurd hc (by decide)
  obtain ⟨hkl, hav0⟩ := attrV_idx hi
  have cA := fun (W : World) (hb : Below w.heap.size w W) => attr_any bd next n nm F E d e W (hD.keep hb) he
  rw [hav0] at cA
  simp only [attrEnd] at cA
  obtain ⟨⟨pl, bm, cnt, D, hA, hcn, hF⟩, hg, hbig, hlen⟩ := hD
  have hnI : I64 (n : Int) := i64_nat (by have := hg.lt n e he; omega)
  have hno := hA.els n e he
  have hkeys := hg.keys
  obtain ⟨ho, hrb⟩ : OwnR EAt w 0 59 (pl n).av e.attrs ∧ (pl n).av.ownBlock = rowB (pl n).av := by
    rcases hno.attrs.cases with h1 | ⟨_, _, h2⟩
    · exact h1
    · rw [h2] at hkl; simp at hkl
  obtain ⟨oa, ca, hav⟩ := Rc.ow_form ho
  have e1 := hno.e1
  have ef := hno.fr
  have hbl := hno.lt
  rw [hav] at e1
  have zw := hA.ltD
  obtain ⟨K, hK⟩ : ∃ u, e.attrs.length = u := ⟨_, rfl⟩
  rw [hK] at e1
  have H_cA := Lib.hid cA
  clear cA
  have H_hA := Lib.hid hA
  clear hA
  have H_he := Lib.hid he
  clear he
  have H_hnI := Lib.hid hnI
  clear hnI
  have H_hno := Lib.hid hno
  clear hno
  have H_ho := Lib.hid ho
  clear ho
  have H_hrb := Lib.hid hrb
  clear hrb
  have H_hav := Lib.hid hav
  clear hav
  have H_hkeys := Lib.hid hkeys
  clear hkeys
  have H_hF := Lib.hid hF
  clear hF
  have H_hg := Lib.hid hg
  clear hg
  have H_hc := Lib.hid hc
  clear hc
  have H_hi := Lib.hid hi
  clear hi
  have H_hav0 := Lib.hid hav0
  clear hav0
  have H_hK := Lib.hid hK
  clear hK
  have H_ef := Lib.hid ef
  clear ef
  go_enter Tryz.func20, Tryz.ntmps20
  go_wp2_with fail
  refine (H_cA.out _ (by repeat' (first | (with_reducible first | exact bwR _ _ | assumption | refine bdn ?_ | refine bwA ?_ ?_ _ | refine bwD ?_ | refine bwS ?_ ?_ _) | omega | (simp <;> omega)))).mono ?_
  rintro _ w1 ⟨rfl, hb1⟩
  have hB1 : Below w.heap.size w w1 := below_via (by repeat' (first | (with_reducible first | exact bwR _ _ | assumption | refine bdn ?_ | refine bwA ?_ ?_ _ | refine bwD ?_ | refine bwS ?_ ?_ _) | omega | (simp <;> omega))) hb1
  have b0 : w1.cell? ⟨w.heap.size, 0, none⟩ = some (.string nm) := gkeep hb1 (World.cell?_alloc_new _ _ _ _) (by simp)
  have hzB : w.heap.size < w1.heap.size := Nat.lt_of_lt_of_le (by simp) hb1.size
  have hA1 := H_hA.out.keep hB1
  have hF1 := H_hF.out.keep (w' := w1) hB1.size
  have ho1 := H_ho.out.keep hB1
  have e1 := (hB1.cell (p := ⟨(pl n).blk, 1, none⟩) hbl).trans e1
  have f1 : ∀ j, w1.frozen? ⟨(pl n).blk, j, none⟩ = false := fun j => (hB1.frozen (p := ⟨(pl n).blk, j, none⟩) hbl).trans (H_ef.out j)
  have c0 := hA1.c0
  have hbl1 : (pl n).blk < w1.heap.size := Nat.lt_of_lt_of_le hbl hB1.size
  rw [H_hav.out] at ho1
  have hob : ∀ j, (Value.slice oa e.attrs.length ca).ownBlock = some j → rowB (pl n).av = some j := fun j hj => by rw [← H_hrb.out, H_hav.out]; exact hj
  have hBv : (Value.slice oa e.attrs.length ca).ownBlock ≠ some w.heap.size := fun h => by
    have h1 := H_hF.out.lt _ (H_hF.out.av n e H_he.out _ (hob _ h))
    omega
  have cD := dla_uns nm w.heap.size (.slice oa e.attrs.length ca) e.attrs w1 ho1 b0 hBv
  have hTo := fun (j : Nat) (hj : (Value.slice oa e.attrs.length ca).ownBlock = some j) => H_hF.out.av n e H_he.out j (hob j hj)
  simp only [H_hK.out] at cD
  have hbn : ∀ j, (Value.slice oa K ca).ownBlock = some j → j ≠ (pl n).blk := fun j hj e => by
    rw [e] at hj
    have h1 := hob (pl n).blk (by rw [H_hK.out]; exact hj)
    obtain ⟨_, _, cur, hcq⟩ := H_hno.out.attrs.rowB h1
    exact H_hno.out.blk_ne hcq TK.h4 rfl
  clear hb1
  have H_hA1 := Lib.hid hA1
  clear hA1
  have H_hF1 := Lib.hid hF1
  clear hF1
  have H_ho1 := Lib.hid ho1
  clear ho1
  have H_hob := Lib.hid hob
  clear hob
  have H_cD := Lib.hid cD
  clear cD
  have H_hTo := Lib.hid hTo
  clear hTo
  have H_hbn := Lib.hid hbn
  clear hbn
  go_wp2_with (at_lookup; refine wp_hit (T := TT) TK rfl _ _ rfl rfl rfl H_hA1.out H_he.out H_hnI.out ?_)
  refine (H_cD.out).mono ?_
  rintro _ w2 ⟨v2, rfl, ho2, hob2, hT2⟩
  have hw2 : ∀ j, j < w1.heap.size → rowB (pl n).av ≠ some j → w2.heap[j]? = w1.heap[j]? := fun j hj hn => hT2.block j hj (fun h => hn (H_hob.out j (by rw [H_hK.out]; exact h)))
  have hfin := H_hA1.out.atts TK H_hF1.out H_he.out (w1 := w2) (v' := v2) ⟨hT2.os, hT2.tape, hT2.output⟩ hT2.size hw2 ho2 (fun b hb => .inl (H_hob.out b (by rw [H_hK.out, ← hob2]; exact rowB_own ho2 hb)))
  have e2 := (hT2.cell (p := ⟨(pl n).blk, 1, none⟩) hbl1 (fun h => H_hbn.out _ h rfl)).trans e1
  have f2 := (hT2.frozen (p := ⟨(pl n).blk, 1, none⟩) hbl1 (fun h => H_hbn.out _ h rfl)).trans (f1 1)
  rw [atsE_upd H_hkeys.out H_he.out] at hfin
  obtain ⟨o2, c2, rfl⟩ := Rc.ow_form ho2
  have hrow2 : ∀ b, rowB (.slice o2 (unsetA nm e.attrs).length c2) = some b → F b := fun b hb => H_hTo.out b (by rw [H_hK.out, ← hob2]; exact rowB_own ho2 hb)
  clear hw2 hT2 ho2 hob2
  have H_hfin := Lib.hid hfin
  clear hfin
  have H_hrow2 := Lib.hid hrow2
  clear hrow2
  go_wp2_with fail
  go_returns
  refine ⟨rfl, _, fun j hj => ?_, ⟨_, _, _, _, H_hfin.out.1, hcn, H_hfin.out.2.1⟩, (Turn.of_below hB1).trans (F' := F) H_hfin.out.2.2 (fun _ _ h => h)⟩
  rcases hj with h | h
  · exact .inl h
  · exact .inl (H_hrow2.out j h)
end Go.Proofs.YtndlmmpheecleaaGreatDoor
