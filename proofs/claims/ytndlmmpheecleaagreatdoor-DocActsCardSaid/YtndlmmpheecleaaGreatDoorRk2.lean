/-
  Walks over the reference's document: kid, where the new row is told to be new.
-/
import Derived.Test.YtndlmmpheecleaaGreatDoorRe
namespace Go.Proofs.YtndlmmpheecleaaGreatDoor
open Go.RowKit Lead Lead.Dc Lead.Rc
set_option maxHeartbeats 4000000 in
set_option maxRecDepth 100000 in
theorem kid2_any (base b : Nat) (v : Value) (l : List ReX) (p a n : Nat) (w : World) (h : RDoc RT_ base w b v l) (hbw : base ≤ w.heap.size) (hp : p < l.length) (ha : a ≤ l[p].kids.length) (_hl : l.length ≤ 1000000) (hk : l[p].kids.length ≤ 900000) (_hn : n ≤ 1000000) :
    Calls Tryz.prog 47 #[.pointer (some ⟨b, 0, none⟩), .int .i64 (p : Int), .int .i64 (a : Int), .int .i64 (n : Int)] w fun en w' => en = .returned (.tuple #[]) ∧ (∃ ko kl kc, (∀ k, (Value.slice ko kl kc).ownBlock = some k → w.heap.size ≤ k) ∧ RDoc RT_ base w' b v (l.set p { l[p] with ko := ko, kl := kl, kc := kc, kids := l[p].kids.take a ++ n :: l[p].kids.drop a })) ∧ Turn (fun k => v.ownBlock = some k) w w' := by
  have hv := h.v_form hp
  obtain ⟨g, cap, rfl, hg, hbg, hgb, hlc, hcm, hrow, hfz⟩ := hv
  have hc := h.cells rfl hp
  have hs := h.sub _ (List.getElem_mem hp)
  obtain ⟨x, hx⟩ : ∃ x, l[p] = x := ⟨_, rfl⟩
  rw [hx] at hc hs ha hk ⊢
  obtain ⟨q0, q1, q2, q3, q4⟩ := hc
  have c0 := h.c0
  have gp : (p : Int) < (l.length : Int) := by omega
  obtain ⟨i0, hi0, hz0, hz1, hz2⟩ := info_parts infoIn
  have hbl := h.lt
  have hgb' : ¬ b = g := fun e => hgb e.symm
  have hmx : cap ≤ 9223372036854775807 := by unfold maxLen at hcm; omega
  rcases (show OwnR EIn w base 3 (.slice x.ko x.kl x.kc) x.kids from hs.kids).form with ⟨h0, hks⟩ | ⟨g', cap', h0, hbg', hg', hkc, hkm, hkr⟩
  · injection h0 with e1 e2 e3
    rw [e1, e2, e3] at q3
    have ha0 : a = 0 := by rw [hks] at ha; exact Nat.le_zero.1 ha
    have hS : SlA EIn w none 0 0 (x.kids.take a) := ⟨by rw [hks, List.take_nil]; rfl, Nat.le_refl _, Nat.zero_le _, .inl (by rw [hks, List.take_nil])⟩
    have hSd : ∀ W, Below w.heap.size w W → SlA EIn W none 0 0 (x.kids.drop a) := fun W _ => ⟨by rw [hks, List.drop_nil]; rfl, Nat.le_refl _, Nat.zero_le _, .inl (by rw [hks, List.drop_nil])⟩
    have hz : ((0 : Nat) : Int) = 0 := rfl
    subst ha0
    simp only [hz]
    clear hz
    have H_h := Lib.hid h
    clear h
    have H_hs := Lib.hid hs
    clear hs
    have H_hx := Lib.hid hx
    clear hx
    have H_hrow := Lib.hid hrow
    clear hrow
    have H_hi0 := Lib.hid hi0
    clear hi0
    have H_hz0 := Lib.hid hz0
    clear hz0
    have H_hz1 := Lib.hid hz1
    clear hz1
    have H_hz2 := Lib.hid hz2
    clear hz2
    have H_hS := Lib.hid hS
    clear hS
    have H_hSd := Lib.hid hSd
    clear hSd
    have H_hks := Lib.hid hks
    clear hks
    have H_e1 := Lib.hid e1
    clear e1
    have H_e2 := Lib.hid e2
    clear e2
    have H_e3 := Lib.hid e3
    clear e3
    go_enter Tryz.func47, Tryz.ntmps47
    go_wp2_with (at_builtin; refine wp_append_told rfl (.tmp 21) (.tmp 23) 60 rfl EIn w.heap.size 3 i0 _ 8 Tryz.underlying60 H_hi0.out H_hz0.out H_hz1.out H_hz2.out rfl (by decide) _ [] rfl _ 0 1 1 [n] rfl rfl ?a1 (OwnR.nil _ _ _ _) ?a3 ?a4 ?_)
    case a1 => show 0 + 1 ≤ 1000000; omega
    case a3 => exact row_one (vs := #[.int .i64 n]) rfl (fun j => World.cell?_alloc_new _ _ _ _)
    case a4 => simp
    intro v2 w2 hv2' hA2 hg2 ho2
    have hla : (x.kids.take 0).length = 0 := rfl
    have hv2 : OwnR EIn w2 w.heap.size 3 v2 (x.kids.take 0 ++ [n]) := hv2'
    obtain ⟨o2, cc2, rfl⟩ := ow_form hv2
    have hB2 : Below w.heap.size w w2 := ((Below.refl _ _).alloc (Nat.le_refl _) _).trans hA2
    have s2 := hB2.size
    have c02 : w2.cell? ⟨b, 0, none⟩ = some (.slice (some ⟨g, 0, none⟩) l.length cap) := gkeep hB2 c0 rfl
    have q32 : w2.cell? ⟨g, p * 5 + 3, none⟩ = some (.slice none 0 0) := gkeep hB2 q3 rfl
    have hS2 := H_hSd.out w2 hB2
    have H_hv2 := Lib.hid hv2
    clear hv2 hv2' hA2 hg2 ho2
    have H_hS2 := Lib.hid hS2
    clear hS2
    go_wp2_with (at_builtin; refine wp_append_sla rfl (.tmp 25) (.tmp 35) 60 rfl EIn w.heap.size 3 i0 _ 8 Tryz.underlying60 H_hi0.out H_hz0.out H_hz1.out H_hz2.out rfl (by decide) _ (x.kids.take 0 ++ [n]) rfl _ _ _ (x.kids.drop 0) rfl (by first | exact H_hS2.out | exact ⟨by first | (rw [List.length_drop]; done) | (rw [List.length_drop]; omega), by omega, by first | (unfold maxLen; omega) | omega, .inl H_hnil.out⟩) ?a1 H_hv2.out s2 ?_)
    case a1 => rw [List.length_append, hla, List.length_drop, List.length_cons, List.length_nil]; omega
    intro v3 w3 hv3' hA3 hg3 ho3
    have hv3 : OwnR EIn w3 w.heap.size 3 v3 (x.kids.take 0 ++ n :: x.kids.drop 0) := by first | exact hv3' | simpa using hv3'
    clear hv3'
    obtain ⟨o3, cc3, rfl⟩ := ow_form hv3
    have hB3 : Below w.heap.size w w3 := hB2.trans hA3
    have h3 := H_h.out.keep hB3
    have c03 : w3.cell? ⟨b, 0, none⟩ = some (.slice (some ⟨g, 0, none⟩) l.length cap) := gkeep hB3 c0 rfl
    have q33 := gkeep hB3 q3 rfl
    have f33 : w3.frozen? ⟨g, p * 5 + 3, none⟩ = false := (hB3.frozen (p := ⟨g, p * 5 + 3, none⟩) hg).trans (hfz _)
    have hkb : ∀ k, (Value.slice o3 (x.kids.take 0 ++ n :: x.kids.drop 0).length cc3).ownBlock = some k → (Value.slice (some ⟨g, 0, none⟩) l.length cap).ownBlock ≠ some k ∧ k ≠ b := fun k hk' => by
      have := (hv3.lt k hk').1
      exact ⟨fun e => by
        have e' : some g = some k := e
        injection e' with e'; omega, by omega⟩
    have hfr : ∀ k, (Value.slice o3 (x.kids.take 0 ++ n :: x.kids.drop 0).length cc3).ownBlock = some k → w.heap.size ≤ k := fun k hk' => (hv3.lt k hk').1
    have hfin := h3.setKids (p := p) rfl hp (hv3.base hbw) hkb
    have hT : Turn (fun k => (Value.slice (some ⟨g, 0, none⟩) l.length cap).ownBlock = some k) w (w3.setCell ⟨g, p * 5 + 3, none⟩ (.slice o3 (x.kids.take 0 ++ n :: x.kids.drop 0).length cc3)) :=
      ⟨hB3.os, hB3.tape, hB3.output, by rw [World.size_setCell]; exact hB3.size, fun k hk' hn' => by
        rw [heap_setCell_other _ _ _ _ (fun e => hn' (by rw [e]; rfl))]; exact hB3.block k hk'⟩
    rw [H_hx.out] at hfin
    obtain ⟨L3, hL3⟩ : ∃ u, (x.kids.take 0 ++ n :: x.kids.drop 0).length = u := ⟨_, rfl⟩
    rw [hL3] at hfin hT hfr ⊢
    have H_hL3 := Lib.hid hL3
    clear hL3
    clear hv3 hA3 hg3 ho3 hkb h3
    have H_hfin := Lib.hid hfin
    clear hfin
    have H_hT := Lib.hid hT
    clear hT
    have H_hfr := Lib.hid hfr
    clear hfr
    go_wp2_with fail
    go_returns
    exact ⟨rfl, ⟨_, _, _, H_hfr.out, H_hfin.out⟩, H_hT.out⟩
  · injection h0 with e1 e2 e3
    rw [e1, e2, e3] at q3
    have ga : (a : Int) ≤ (x.kids.length : Int) := by omega
    have gac : (a : Int) ≤ (cap' : Int) := by omega
    have glc : (x.kids.length : Int) ≤ (cap' : Int) := by omega
    have hsK := hs.kids
    have hcm' : cap' ≤ maxLen := by
      obtain ⟨_, hq⟩ := hsK
      rcases hq with ⟨hq, _⟩ | ⟨g2, cap2, cur, hq, _, _, _, hc2, _⟩
      · have hq' : Value.slice x.ko x.kl x.kc = _ := hq
        rw [e1] at hq'; cases hq'
      · have hq' : Value.slice x.ko x.kl x.kc = _ := hq
        rw [e1, e2, e3] at hq'; cases hq'; exact hc2
    have hS : SlA EIn w (some ⟨g', 0, none⟩) a cap' (x.kids.take a) := ⟨by rw [List.length_take]; omega, by omega, hcm', .inr ⟨g', 0, rfl, hg', hkr.take a⟩⟩
    have hkl9 : x.kids.length ≤ 9223372036854775807 := by omega
    have hcm9 : cap' ≤ 9223372036854775807 := by unfold maxLen at hcm'; omega
    by_cases hac : a = cap'
    · have hnil : x.kids.drop a = [] := List.drop_eq_nil_of_le (by omega)
      subst hac
      have hSd : ∀ W, Below w.heap.size w W → SlA EIn W (some ⟨g', 0, none⟩) (x.kids.length - a) (a - a) (x.kids.drop a) := fun W _ => ⟨by rw [List.length_drop], by omega, by omega, .inl hnil⟩
      have hacn : ¬ a < a := by omega
      have H_h := Lib.hid h
      clear h
      have H_hs := Lib.hid hs
      clear hs
      have H_hx := Lib.hid hx
      clear hx
      have H_hrow := Lib.hid hrow
      clear hrow
      have H_hi0 := Lib.hid hi0
      clear hi0
      have H_hz0 := Lib.hid hz0
      clear hz0
      have H_hz1 := Lib.hid hz1
      clear hz1
      have H_hz2 := Lib.hid hz2
      clear hz2
      have H_hS := Lib.hid hS
      clear hS
      have H_hSd := Lib.hid hSd
      clear hSd
      have H_e1 := Lib.hid e1
      clear e1
      have H_e2 := Lib.hid e2
      clear e2
      have H_e3 := Lib.hid e3
      clear e3
      have H_hsK := Lib.hid hsK
      clear hsK
      have H_hnil := Lib.hid hnil
      clear hnil
      go_enter Tryz.func47, Tryz.ntmps47
      go_wp2_with ((at_builtin; refine wp_append_sla rfl (.tmp 9) (.tmp 19) 60 rfl EIn w.heap.size 3 i0 _ 8 Tryz.underlying60 H_hi0.out H_hz0.out H_hz1.out H_hz2.out rfl (by decide) _ [] rfl _ _ _ (x.kids.take a) rfl (H_hS.out) ?a1 (OwnR.nil _ _ _ _) (Nat.le_refl _) ?_))
      case a1 => rw [List.length_take, List.length_nil]; omega
      intro v1 w1 hv1 hA1 hg1 ho1
      have hv1' : OwnR EIn w1 w.heap.size 3 v1 (x.kids.take a) := hv1
      obtain ⟨o1, cc1, rfl⟩ := ow_form hv1'
      have hla : (x.kids.take a).length = a := by rw [List.length_take]; omega
      have hB1 : Below w.heap.size w w1 := hA1
      have s1 := hB1.size
      clear hv1 hA1 hg1 ho1
      have H_hv1' := Lib.hid hv1'
      clear hv1'
      go_wp2_with (at_builtin; refine wp_append_told rfl (.tmp 21) (.tmp 23) 60 rfl EIn w.heap.size 3 i0 _ 8 Tryz.underlying60 H_hi0.out H_hz0.out H_hz1.out H_hz2.out rfl (by decide) _ (x.kids.take a) rfl _ 0 1 1 [n] rfl rfl ?a1 ?a2 ?a3 ?a4 ?_)
      case a1 => rw [hla, List.length_cons, List.length_nil]; omega
      case a2 => exact H_hv1'.out.alloc _
      case a3 => exact row_one (vs := #[.int .i64 n]) rfl (fun j => World.cell?_alloc_new _ _ _ _)
      case a4 => simp; omega
      intro v2 w2 hv2 hA2 hg2 ho2
      obtain ⟨o2, cc2, rfl⟩ := ow_form hv2
      have hB2 : Below w.heap.size w w2 := (hB1.alloc s1 _).trans hA2
      have s2 := hB2.size
      have c02 : w2.cell? ⟨b, 0, none⟩ = some (.slice (some ⟨g, 0, none⟩) l.length cap) := gkeep hB2 c0 rfl
      have q32 : w2.cell? ⟨g, p * 5 + 3, none⟩ = some (.slice (some ⟨g', 0, none⟩) x.kids.length a) := gkeep hB2 q3 rfl
      have hS2 := H_hSd.out w2 hB2
      have H_hv2 := Lib.hid hv2
      clear hv2 hA2 hg2 ho2
      have H_hS2 := Lib.hid hS2
      clear hS2
      go_wp2_with (at_builtin; refine wp_append_sla rfl (.tmp 25) (.tmp 35) 60 rfl EIn w.heap.size 3 i0 _ 8 Tryz.underlying60 H_hi0.out H_hz0.out H_hz1.out H_hz2.out rfl (by decide) _ (x.kids.take a ++ [n]) rfl _ _ _ (x.kids.drop a) rfl (by first | exact H_hS2.out | exact ⟨by first | (rw [List.length_drop]; done) | (rw [List.length_drop]; omega), by omega, by first | (unfold maxLen; omega) | omega, .inl H_hnil.out⟩) ?a1 H_hv2.out s2 ?_)
      case a1 => rw [List.length_append, hla, List.length_drop, List.length_cons, List.length_nil]; omega
      intro v3 w3 hv3' hA3 hg3 ho3
      have hv3 : OwnR EIn w3 w.heap.size 3 v3 (x.kids.take a ++ n :: x.kids.drop a) := by first | exact hv3' | simpa using hv3'
      clear hv3'
      obtain ⟨o3, cc3, rfl⟩ := ow_form hv3
      have hB3 : Below w.heap.size w w3 := hB2.trans hA3
      have h3 := H_h.out.keep hB3
      have c03 : w3.cell? ⟨b, 0, none⟩ = some (.slice (some ⟨g, 0, none⟩) l.length cap) := gkeep hB3 c0 rfl
      have q33 := gkeep hB3 q3 rfl
      have f33 : w3.frozen? ⟨g, p * 5 + 3, none⟩ = false := (hB3.frozen (p := ⟨g, p * 5 + 3, none⟩) hg).trans (hfz _)
      have hkb : ∀ k, (Value.slice o3 (x.kids.take a ++ n :: x.kids.drop a).length cc3).ownBlock = some k → (Value.slice (some ⟨g, 0, none⟩) l.length cap).ownBlock ≠ some k ∧ k ≠ b := fun k hk' => by
        have := (hv3.lt k hk').1
        exact ⟨fun e => by
          have e' : some g = some k := e
          injection e' with e'; omega, by omega⟩
      have hfr : ∀ k, (Value.slice o3 (x.kids.take a ++ n :: x.kids.drop a).length cc3).ownBlock = some k → w.heap.size ≤ k := fun k hk' => (hv3.lt k hk').1
      have hfin := h3.setKids (p := p) rfl hp (hv3.base hbw) hkb
      have hT : Turn (fun k => (Value.slice (some ⟨g, 0, none⟩) l.length cap).ownBlock = some k) w (w3.setCell ⟨g, p * 5 + 3, none⟩ (.slice o3 (x.kids.take a ++ n :: x.kids.drop a).length cc3)) :=
        ⟨hB3.os, hB3.tape, hB3.output, by rw [World.size_setCell]; exact hB3.size, fun k hk' hn' => by
          rw [heap_setCell_other _ _ _ _ (fun e => hn' (by rw [e]; rfl))]; exact hB3.block k hk'⟩
      rw [H_hx.out] at hfin
      obtain ⟨L3, hL3⟩ : ∃ u, (x.kids.take a ++ n :: x.kids.drop a).length = u := ⟨_, rfl⟩
      rw [hL3] at hfin hT hfr ⊢
      have H_hL3 := Lib.hid hL3
      clear hL3
      clear hv3 hA3 hg3 ho3 hkb h3
      have H_hfin := Lib.hid hfin
      clear hfin
      have H_hT := Lib.hid hT
      clear hT
      have H_hfr := Lib.hid hfr
      clear hfr
      go_wp2_with fail
      go_returns
      exact ⟨rfl, ⟨_, _, _, H_hfr.out, H_hfin.out⟩, H_hT.out⟩
    · have hSd : ∀ W, Below w.heap.size w W → SlA EIn W (some ⟨g', a, none⟩) (x.kids.length - a) (cap' - a) (x.kids.drop a) := fun W hW => by
        have := SlA.drop (En := EIn) (a := a) (by omega) rfl hkc hcm' (Nat.lt_of_lt_of_le hg' hW.size) (hkr.keep hW hg')
        rw [show 0 + a * EIn.k = a by show 0 + a * 1 = a; omega] at this
        exact this
      have gac2 : (a : Int) < (cap' : Int) := by omega
      have hacn : a < cap' := by omega
      have H_h := Lib.hid h
      clear h
      have H_hs := Lib.hid hs
      clear hs
      have H_hx := Lib.hid hx
      clear hx
      have H_hrow := Lib.hid hrow
      clear hrow
      have H_hi0 := Lib.hid hi0
      clear hi0
      have H_hz0 := Lib.hid hz0
      clear hz0
      have H_hz1 := Lib.hid hz1
      clear hz1
      have H_hz2 := Lib.hid hz2
      clear hz2
      have H_hS := Lib.hid hS
      clear hS
      have H_hSd := Lib.hid hSd
      clear hSd
      have H_e1 := Lib.hid e1
      clear e1
      have H_e2 := Lib.hid e2
      clear e2
      have H_e3 := Lib.hid e3
      clear e3
      have H_hsK := Lib.hid hsK
      clear hsK
      go_enter Tryz.func47, Tryz.ntmps47
      go_wp2_with ((at_builtin; refine wp_append_sla rfl (.tmp 9) (.tmp 19) 60 rfl EIn w.heap.size 3 i0 _ 8 Tryz.underlying60 H_hi0.out H_hz0.out H_hz1.out H_hz2.out rfl (by decide) _ [] rfl _ _ _ (x.kids.take a) rfl (H_hS.out) ?a1 (OwnR.nil _ _ _ _) (Nat.le_refl _) ?_))
      case a1 => rw [List.length_take, List.length_nil]; omega
      intro v1 w1 hv1 hA1 hg1 ho1
      have hv1' : OwnR EIn w1 w.heap.size 3 v1 (x.kids.take a) := hv1
      obtain ⟨o1, cc1, rfl⟩ := ow_form hv1'
      have hla : (x.kids.take a).length = a := by rw [List.length_take]; omega
      have hB1 : Below w.heap.size w w1 := hA1
      have s1 := hB1.size
      clear hv1 hA1 hg1 ho1
      have H_hv1' := Lib.hid hv1'
      clear hv1'
      go_wp2_with (at_builtin; refine wp_append_told rfl (.tmp 21) (.tmp 23) 60 rfl EIn w.heap.size 3 i0 _ 8 Tryz.underlying60 H_hi0.out H_hz0.out H_hz1.out H_hz2.out rfl (by decide) _ (x.kids.take a) rfl _ 0 1 1 [n] rfl rfl ?a1 ?a2 ?a3 ?a4 ?_)
      case a1 => rw [hla, List.length_cons, List.length_nil]; omega
      case a2 => exact H_hv1'.out.alloc _
      case a3 => exact row_one (vs := #[.int .i64 n]) rfl (fun j => World.cell?_alloc_new _ _ _ _)
      case a4 => simp; omega
      intro v2 w2 hv2 hA2 hg2 ho2
      obtain ⟨o2, cc2, rfl⟩ := ow_form hv2
      have hB2 : Below w.heap.size w w2 := (hB1.alloc s1 _).trans hA2
      have s2 := hB2.size
      have c02 : w2.cell? ⟨b, 0, none⟩ = some (.slice (some ⟨g, 0, none⟩) l.length cap) := gkeep hB2 c0 rfl
      have q32 : w2.cell? ⟨g, p * 5 + 3, none⟩ = some (.slice (some ⟨g', 0, none⟩) x.kids.length cap') := gkeep hB2 q3 rfl
      have hS2 := H_hSd.out w2 hB2
      have H_hv2 := Lib.hid hv2
      clear hv2 hA2 hg2 ho2
      have H_hS2 := Lib.hid hS2
      clear hS2
      go_wp2_with (at_builtin; refine wp_append_sla rfl (.tmp 25) (.tmp 35) 60 rfl EIn w.heap.size 3 i0 _ 8 Tryz.underlying60 H_hi0.out H_hz0.out H_hz1.out H_hz2.out rfl (by decide) _ (x.kids.take a ++ [n]) rfl _ _ _ (x.kids.drop a) rfl (by first | exact H_hS2.out | exact ⟨by first | (rw [List.length_drop]; done) | (rw [List.length_drop]; omega), by omega, by first | (unfold maxLen; omega) | omega, .inl H_hnil.out⟩) ?a1 H_hv2.out s2 ?_)
      case a1 => rw [List.length_append, hla, List.length_drop, List.length_cons, List.length_nil]; omega
      intro v3 w3 hv3' hA3 hg3 ho3
      have hv3 : OwnR EIn w3 w.heap.size 3 v3 (x.kids.take a ++ n :: x.kids.drop a) := by first | exact hv3' | simpa using hv3'
      clear hv3'
      obtain ⟨o3, cc3, rfl⟩ := ow_form hv3
      have hB3 : Below w.heap.size w w3 := hB2.trans hA3
      have h3 := H_h.out.keep hB3
      have c03 : w3.cell? ⟨b, 0, none⟩ = some (.slice (some ⟨g, 0, none⟩) l.length cap) := gkeep hB3 c0 rfl
      have q33 := gkeep hB3 q3 rfl
      have f33 : w3.frozen? ⟨g, p * 5 + 3, none⟩ = false := (hB3.frozen (p := ⟨g, p * 5 + 3, none⟩) hg).trans (hfz _)
      have hkb : ∀ k, (Value.slice o3 (x.kids.take a ++ n :: x.kids.drop a).length cc3).ownBlock = some k → (Value.slice (some ⟨g, 0, none⟩) l.length cap).ownBlock ≠ some k ∧ k ≠ b := fun k hk' => by
        have := (hv3.lt k hk').1
        exact ⟨fun e => by
          have e' : some g = some k := e
          injection e' with e'; omega, by omega⟩
      have hfr : ∀ k, (Value.slice o3 (x.kids.take a ++ n :: x.kids.drop a).length cc3).ownBlock = some k → w.heap.size ≤ k := fun k hk' => (hv3.lt k hk').1
      have hfin := h3.setKids (p := p) rfl hp (hv3.base hbw) hkb
      have hT : Turn (fun k => (Value.slice (some ⟨g, 0, none⟩) l.length cap).ownBlock = some k) w (w3.setCell ⟨g, p * 5 + 3, none⟩ (.slice o3 (x.kids.take a ++ n :: x.kids.drop a).length cc3)) :=
        ⟨hB3.os, hB3.tape, hB3.output, by rw [World.size_setCell]; exact hB3.size, fun k hk' hn' => by
          rw [heap_setCell_other _ _ _ _ (fun e => hn' (by rw [e]; rfl))]; exact hB3.block k hk'⟩
      rw [H_hx.out] at hfin
      obtain ⟨L3, hL3⟩ : ∃ u, (x.kids.take a ++ n :: x.kids.drop a).length = u := ⟨_, rfl⟩
      rw [hL3] at hfin hT hfr ⊢
      have H_hL3 := Lib.hid hL3
      clear hL3
      clear hv3 hA3 hg3 ho3 hkb h3
      have H_hfin := Lib.hid hfin
      clear hfin
      have H_hT := Lib.hid hT
      clear hT
      have H_hfr := Lib.hid hfr
      clear hfr
      go_wp2_with fail
      go_returns
      exact ⟨rfl, ⟨_, _, _, H_hfr.out, H_hfin.out⟩, H_hT.out⟩
end Go.Proofs.YtndlmmpheecleaaGreatDoor
