/-
  Several texts as one: Rc2, Rc4, Rc5.
-/
import Derived.Test.YtndlmmpheecleaaGreatDoorRd
import Derived.Test.YtndlmmpheecleaaGreatDoorChecked
import Derived.Test.YtndlmmpheecleaaGreatDoorDn
import Derived.Test.YtndlmmpheecleaaGreatDoorUa
/-
  Walks over the reference's document: kid.
-/
namespace Lead.Rc
open Go Go.RowKit Lead Lead.Dc
theorem sla_of {α : Type} {En : Enc α} {w : World} {base : Nat} {e : TypeId} {o : Option Addr} {l c : Nat} {xs : List α} (h : OwnR En w base e (.slice o l c) xs) : SlA En w o l c xs := by
  rcases h.form with ⟨h1, h2⟩ | ⟨g, cap, h1, h2, h3, h4, h5, h6⟩
  · cases h1; subst h2; exact ⟨rfl, Nat.le_refl _, Nat.zero_le _, .inl rfl⟩
  · cases h1
    refine ⟨rfl, h4, ?_, .inr ⟨g, 0, rfl, h3, h6⟩⟩
    obtain ⟨_, h⟩ := h
    rcases h with ⟨h, _⟩ | ⟨g', cap', cur, h, _, _, _, hc, _⟩
    · cases h
    · cases h; exact hc
theorem ow_form {α : Type} {En : Enc α} {w : World} {base : Nat} {e : TypeId} {v : Value} {xs : List α} (h : OwnR En w base e v xs) : ∃ o c, v = .slice o xs.length c := by
  rcases h.form with ⟨h1, h2⟩ | ⟨g, cap, h1, _⟩
  · exact ⟨none, 0, by rw [h1, h2]; rfl⟩
  · exact ⟨_, _, h1⟩
theorem SlA.take {α : Type} {En : Enc α} {w : World} {oa : Option Addr} {len cap : Nat} {xs : List α} (h : SlA En w oa len cap xs) {a : Nat} (ha : a ≤ len) : SlA En w oa a cap (xs.take a) := by
  obtain ⟨h1, h2, h3, h4⟩ := h
  refine ⟨by rw [List.length_take]; omega, by omega, h3, ?_⟩
  rcases h4 with rfl | ⟨b, off, e, hb, hr⟩
  · exact .inl (by simp)
  · exact .inr ⟨b, off, e, hb, hr.take a⟩
theorem SlA.drop {α : Type} {En : Enc α} {w : World} {b off len cap : Nat} {xs : List α} {a : Nat} (ha : a ≤ len) (h1 : len = xs.length) (h2 : len ≤ cap) (h3 : cap ≤ maxLen) (hb : b < w.heap.size) (hr : RowIn En w b off xs) : SlA En w (some ⟨b, off + a * En.k, none⟩) (len - a) (cap - a) (xs.drop a) :=
  ⟨by rw [List.length_drop]; omega, by omega, by omega, .inr ⟨b, off + a * En.k, rfl, hb, hr.drop a⟩⟩
end Lead.Rc
namespace Go.Proofs.YtndlmmpheecleaaGreatDoor
open Go.RowKit Lead Lead.Dc Lead.Rc
def RT_ : RTys := ⟨65, 62, 59, 3, by decide⟩
theorem infoIn : (Tryz.prog.info? 3).map (fun i => (i.zero, i.size, i.bytes)) = some (some (.int .i64 0), 1, 8) := by kernel_rfl
theorem infoRe : (Tryz.prog.info? 62).map (fun i => (i.zero, i.size, i.bytes)) = some (some (.agg #[.string ⟨#[]⟩, .slice none 0 0, .int .i64 0, .slice none 0 0, .bool false]), 5, 80) := by kernel_rfl
theorem infoAt2 : (Tryz.prog.info? 59).map (fun i => (i.zero, i.size, i.bytes)) = some (some (.agg #[.string ⟨#[]⟩, .string ⟨#[]⟩]), 2, 32) := by kernel_rfl
set_option maxHeartbeats 4000000 in
set_option maxRecDepth 100000 in
theorem kid_any (base b : Nat) (v : Value) (l : List ReX) (p a n : Nat) (w : World) (h : RDoc RT_ base w b v l) (hbw : base ≤ w.heap.size) (hp : p < l.length) (ha : a ≤ l[p].kids.length) (_hl : l.length ≤ 1000000) (hk : l[p].kids.length ≤ 900000) (_hn : n ≤ 1000000) :
    Calls Tryz.prog 47 #[.pointer (some ⟨b, 0, none⟩), .int .i64 (p : Int), .int .i64 (a : Int), .int .i64 (n : Int)] w fun en w' => en = .returned (.tuple #[]) ∧ (∃ ko kl kc, RDoc RT_ base w' b v (l.set p { l[p] with ko := ko, kl := kl, kc := kc, kids := l[p].kids.take a ++ n :: l[p].kids.drop a })) ∧ Turn (fun k => v.ownBlock = some k) w w' := by
  have hv := h.v_form hp
  obtain ⟨g, cap, rfl, hg, hbg, hgb, hlc, hcm, hrow, hfz⟩ := hv
  have hc := h.cells rfl hp
  have hs := h.sub _ (List.getElem_mem hp)
  obtain ⟨x, hx⟩ : ∃ x, l[p] = x := ⟨_, rfl⟩
  rw [hx] at hc hs ha hk ⊢
  obtain ⟨q0, q1, q2, q3, q4⟩ := hc
  have c0 := h.c0
  have gp : (p : Int) < (l.length : Int) := by omega
  obtain ⟨i0, hi0, hz0, hz1, hz2⟩ := info_parts infoIn
  have hbl := h.lt
  have hgb' : ¬ b = g := fun e => hgb e.symm
  have hmx : cap ≤ 9223372036854775807 := by unfold maxLen at hcm; omega
  rcases (show OwnR EIn w base 3 (.slice x.ko x.kl x.kc) x.kids from hs.kids).form with ⟨h0, hks⟩ | ⟨g', cap', h0, hbg', hg', hkc, hkm, hkr⟩
  · injection h0 with e1 e2 e3
    rw [e1, e2, e3] at q3
    have ha0 : a = 0 := by rw [hks] at ha; exact Nat.le_zero.1 ha
    have hS : SlA EIn w none 0 0 (x.kids.take a) := ⟨by rw [hks, List.take_nil]; rfl, Nat.le_refl _, Nat.zero_le _, .inl (by rw [hks, List.take_nil])⟩
    have hSd : ∀ W, Below w.heap.size w W → SlA EIn W none 0 0 (x.kids.drop a) := fun W _ => ⟨by rw [hks, List.drop_nil]; rfl, Nat.le_refl _, Nat.zero_le _, .inl (by rw [hks, List.drop_nil])⟩
    have hz : ((0 : Nat) : Int) = 0 := rfl
    subst ha0
    simp only [hz]
    clear hz
    have H_h := Lib.hid h
    clear h
    have H_hs := Lib.hid hs
    clear hs
    have H_hx := Lib.hid hx
    clear hx
    have H_hrow := Lib.hid hrow
    clear hrow
    have H_hi0 := Lib.hid hi0
    clear hi0
    have H_hz0 := Lib.hid hz0
    clear hz0
    have H_hz1 := Lib.hid hz1
    clear hz1
    have H_hz2 := Lib.hid hz2
    clear hz2
    have H_hS := Lib.hid hS
    clear hS
    have H_hSd := Lib.hid hSd
    clear hSd
    have H_hks := Lib.hid hks
    clear hks
    have H_e1 := Lib.hid e1
    clear e1
    have H_e2 := Lib.hid e2
    clear e2
    have H_e3 := Lib.hid e3
    clear e3
    go_enter Tryz.func47, Tryz.ntmps47
    go_wp2_with (at_builtin; refine wp_append_told rfl (.tmp 21) (.tmp 23) 60 rfl EIn w.heap.size 3 i0 _ 8 Tryz.underlying60 H_hi0.out H_hz0.out H_hz1.out H_hz2.out rfl (by decide) _ [] rfl _ 0 1 1 [n] rfl rfl ?a1 (OwnR.nil _ _ _ _) ?a3 ?a4 ?_)
    case a1 => show 0 + 1 ≤ 1000000; omega
    case a3 => exact row_one (vs := #[.int .i64 n]) rfl (fun j => World.cell?_alloc_new _ _ _ _)
    case a4 => simp
    intro v2 w2 hv2' hA2 hg2 ho2
    have hla : (x.kids.take 0).length = 0 := rfl
    have hv2 : OwnR EIn w2 w.heap.size 3 v2 (x.kids.take 0 ++ [n]) := hv2'
    obtain ⟨o2, cc2, rfl⟩ := ow_form hv2
    have hB2 : Below w.heap.size w w2 := ((Below.refl _ _).alloc (Nat.le_refl _) _).trans hA2
    have s2 := hB2.size
    have c02 : w2.cell? ⟨b, 0, none⟩ = some (.slice (some ⟨g, 0, none⟩) l.length cap) := gkeep hB2 c0 rfl
    have q32 : w2.cell? ⟨g, p * 5 + 3, none⟩ = some (.slice none 0 0) := gkeep hB2 q3 rfl
    have hS2 := H_hSd.out w2 hB2
    have H_hv2 := Lib.hid hv2
    clear hv2 hv2' hA2 hg2 ho2
    have H_hS2 := Lib.hid hS2
    clear hS2
    go_wp2_with (at_builtin; refine wp_append_sla rfl (.tmp 25) (.tmp 35) 60 rfl EIn w.heap.size 3 i0 _ 8 Tryz.underlying60 H_hi0.out H_hz0.out H_hz1.out H_hz2.out rfl (by decide) _ (x.kids.take 0 ++ [n]) rfl _ _ _ (x.kids.drop 0) rfl (by first | exact H_hS2.out | exact ⟨by first | (rw [List.length_drop]; done) | (rw [List.length_drop]; omega), by omega, by first | (unfold maxLen; omega) | omega, .inl H_hnil.out⟩) ?a1 H_hv2.out s2 ?_)
    case a1 => rw [List.length_append, hla, List.length_drop, List.length_cons, List.length_nil]; omega
    intro v3 w3 hv3' hA3 hg3 ho3
    have hv3 : OwnR EIn w3 w.heap.size 3 v3 (x.kids.take 0 ++ n :: x.kids.drop 0) := by first | exact hv3' | simpa using hv3'
    clear hv3'
    obtain ⟨o3, cc3, rfl⟩ := ow_form hv3
    have hB3 : Below w.heap.size w w3 := hB2.trans hA3
    have h3 := H_h.out.keep hB3
    have c03 : w3.cell? ⟨b, 0, none⟩ = some (.slice (some ⟨g, 0, none⟩) l.length cap) := gkeep hB3 c0 rfl
    have q33 := gkeep hB3 q3 rfl
    have f33 : w3.frozen? ⟨g, p * 5 + 3, none⟩ = false := (hB3.frozen (p := ⟨g, p * 5 + 3, none⟩) hg).trans (hfz _)
    have hkb : ∀ k, (Value.slice o3 (x.kids.take 0 ++ n :: x.kids.drop 0).length cc3).ownBlock = some k → (Value.slice (some ⟨g, 0, none⟩) l.length cap).ownBlock ≠ some k ∧ k ≠ b := fun k hk' => by
      have := (hv3.lt k hk').1
      exact ⟨fun e => by
        have e' : some g = some k := e
        injection e' with e'; omega, by omega⟩
    have hfin := h3.setKids (p := p) rfl hp (hv3.base hbw) hkb
    have hT : Turn (fun k => (Value.slice (some ⟨g, 0, none⟩) l.length cap).ownBlock = some k) w (w3.setCell ⟨g, p * 5 + 3, none⟩ (.slice o3 (x.kids.take 0 ++ n :: x.kids.drop 0).length cc3)) :=
      ⟨hB3.os, hB3.tape, hB3.output, by rw [World.size_setCell]; exact hB3.size, fun k hk' hn' => by
        rw [heap_setCell_other _ _ _ _ (fun e => hn' (by rw [e]; rfl))]; exact hB3.block k hk'⟩
    rw [H_hx.out] at hfin
    obtain ⟨L3, hL3⟩ : ∃ u, (x.kids.take 0 ++ n :: x.kids.drop 0).length = u := ⟨_, rfl⟩
    rw [hL3] at hfin hT ⊢
    have H_hL3 := Lib.hid hL3
    clear hL3
    clear hv3 hA3 hg3 ho3 hkb h3
    have H_hfin := Lib.hid hfin
    clear hfin
    have H_hT := Lib.hid hT
    clear hT
    go_wp2_with fail
    go_returns
    exact ⟨rfl, ⟨_, _, _, H_hfin.out⟩, H_hT.out⟩
  · injection h0 with e1 e2 e3
    rw [e1, e2, e3] at q3
    have ga : (a : Int) ≤ (x.kids.length : Int) := by omega
    have gac : (a : Int) ≤ (cap' : Int) := by omega
    have glc : (x.kids.length : Int) ≤ (cap' : Int) := by omega
    have hsK := hs.kids
    have hcm' : cap' ≤ maxLen := by
      obtain ⟨_, hq⟩ := hsK
      rcases hq with ⟨hq, _⟩ | ⟨g2, cap2, cur, hq, _, _, _, hc2, _⟩
      · have hq' : Value.slice x.ko x.kl x.kc = _ := hq
        rw [e1] at hq'; cases hq'
      · have hq' : Value.slice x.ko x.kl x.kc = _ := hq
        rw [e1, e2, e3] at hq'; cases hq'; exact hc2
    have hS : SlA EIn w (some ⟨g', 0, none⟩) a cap' (x.kids.take a) := ⟨by rw [List.length_take]; omega, by omega, hcm', .inr ⟨g', 0, rfl, hg', hkr.take a⟩⟩
    have hkl9 : x.kids.length ≤ 9223372036854775807 := by omega
    have hcm9 : cap' ≤ 9223372036854775807 := by unfold maxLen at hcm'; omega
    by_cases hac : a = cap'
    · have hnil : x.kids.drop a = [] := List.drop_eq_nil_of_le (by omega)
      subst hac
      have hSd : ∀ W, Below w.heap.size w W → SlA EIn W (some ⟨g', 0, none⟩) (x.kids.length - a) (a - a) (x.kids.drop a) := fun W _ => ⟨by rw [List.length_drop], by omega, by omega, .inl hnil⟩
      have hacn : ¬ a < a := by omega
      have H_h := Lib.hid h
      clear h
      have H_hs := Lib.hid hs
      clear hs
      have H_hx := Lib.hid hx
      clear hx
      have H_hrow := Lib.hid hrow
      clear hrow
      have H_hi0 := Lib.hid hi0
      clear hi0
      have H_hz0 := Lib.hid hz0
      clear hz0
      have H_hz1 := Lib.hid hz1
      clear hz1
      have H_hz2 := Lib.hid hz2
      clear hz2
      have H_hS := Lib.hid hS
      clear hS
      have H_hSd := Lib.hid hSd
      clear hSd
      have H_e1 := Lib.hid e1
      clear e1
      have H_e2 := Lib.hid e2
      clear e2
      have H_e3 := Lib.hid e3
      clear e3
      have H_hsK := Lib.hid hsK
      clear hsK
      have H_hnil := Lib.hid hnil
      clear hnil
      go_enter Tryz.func47, Tryz.ntmps47
      go_wp2_with ((at_builtin; refine wp_append_sla rfl (.tmp 9) (.tmp 19) 60 rfl EIn w.heap.size 3 i0 _ 8 Tryz.underlying60 H_hi0.out H_hz0.out H_hz1.out H_hz2.out rfl (by decide) _ [] rfl _ _ _ (x.kids.take a) rfl (H_hS.out) ?a1 (OwnR.nil _ _ _ _) (Nat.le_refl _) ?_))
      case a1 => rw [List.length_take, List.length_nil]; omega
      intro v1 w1 hv1 hA1 hg1 ho1
      have hv1' : OwnR EIn w1 w.heap.size 3 v1 (x.kids.take a) := hv1
      obtain ⟨o1, cc1, rfl⟩ := ow_form hv1'
      have hla : (x.kids.take a).length = a := by rw [List.length_take]; omega
      have hB1 : Below w.heap.size w w1 := hA1
      have s1 := hB1.size
      clear hv1 hA1 hg1 ho1
      have H_hv1' := Lib.hid hv1'
      clear hv1'
      go_wp2_with (at_builtin; refine wp_append_told rfl (.tmp 21) (.tmp 23) 60 rfl EIn w.heap.size 3 i0 _ 8 Tryz.underlying60 H_hi0.out H_hz0.out H_hz1.out H_hz2.out rfl (by decide) _ (x.kids.take a) rfl _ 0 1 1 [n] rfl rfl ?a1 ?a2 ?a3 ?a4 ?_)
      case a1 => rw [hla, List.length_cons, List.length_nil]; omega
      case a2 => exact H_hv1'.out.alloc _
      case a3 => exact row_one (vs := #[.int .i64 n]) rfl (fun j => World.cell?_alloc_new _ _ _ _)
      case a4 => simp; omega
      intro v2 w2 hv2 hA2 hg2 ho2
      obtain ⟨o2, cc2, rfl⟩ := ow_form hv2
      have hB2 : Below w.heap.size w w2 := (hB1.alloc s1 _).trans hA2
      have s2 := hB2.size
      have c02 : w2.cell? ⟨b, 0, none⟩ = some (.slice (some ⟨g, 0, none⟩) l.length cap) := gkeep hB2 c0 rfl
      have q32 : w2.cell? ⟨g, p * 5 + 3, none⟩ = some (.slice (some ⟨g', 0, none⟩) x.kids.length a) := gkeep hB2 q3 rfl
      have hS2 := H_hSd.out w2 hB2
      have H_hv2 := Lib.hid hv2
      clear hv2 hA2 hg2 ho2
      have H_hS2 := Lib.hid hS2
      clear hS2
      go_wp2_with (at_builtin; refine wp_append_sla rfl (.tmp 25) (.tmp 35) 60 rfl EIn w.heap.size 3 i0 _ 8 Tryz.underlying60 H_hi0.out H_hz0.out H_hz1.out H_hz2.out rfl (by decide) _ (x.kids.take a ++ [n]) rfl _ _ _ (x.kids.drop a) rfl (by first | exact H_hS2.out | exact ⟨by first | (rw [List.length_drop]; done) | (rw [List.length_drop]; omega), by omega, by first | (unfold maxLen; omega) | omega, .inl H_hnil.out⟩) ?a1 H_hv2.out s2 ?_)
      case a1 => rw [List.length_append, hla, List.length_drop, List.length_cons, List.length_nil]; omega
      intro v3 w3 hv3' hA3 hg3 ho3
      have hv3 : OwnR EIn w3 w.heap.size 3 v3 (x.kids.take a ++ n :: x.kids.drop a) := by first | exact hv3' | simpa using hv3'
      clear hv3'
      obtain ⟨o3, cc3, rfl⟩ := ow_form hv3
      have hB3 : Below w.heap.size w w3 := hB2.trans hA3
      have h3 := H_h.out.keep hB3
      have c03 : w3.cell? ⟨b, 0, none⟩ = some (.slice (some ⟨g, 0, none⟩) l.length cap) := gkeep hB3 c0 rfl
      have q33 := gkeep hB3 q3 rfl
      have f33 : w3.frozen? ⟨g, p * 5 + 3, none⟩ = false := (hB3.frozen (p := ⟨g, p * 5 + 3, none⟩) hg).trans (hfz _)
      have hkb : ∀ k, (Value.slice o3 (x.kids.take a ++ n :: x.kids.drop a).length cc3).ownBlock = some k → (Value.slice (some ⟨g, 0, none⟩) l.length cap).ownBlock ≠ some k ∧ k ≠ b := fun k hk' => by
        have := (hv3.lt k hk').1
        exact ⟨fun e => by
          have e' : some g = some k := e
          injection e' with e'; omega, by omega⟩
      have hfin := h3.setKids (p := p) rfl hp (hv3.base hbw) hkb
      have hT : Turn (fun k => (Value.slice (some ⟨g, 0, none⟩) l.length cap).ownBlock = some k) w (w3.setCell ⟨g, p * 5 + 3, none⟩ (.slice o3 (x.kids.take a ++ n :: x.kids.drop a).length cc3)) :=
        ⟨hB3.os, hB3.tape, hB3.output, by rw [World.size_setCell]; exact hB3.size, fun k hk' hn' => by
          rw [heap_setCell_other _ _ _ _ (fun e => hn' (by rw [e]; rfl))]; exact hB3.block k hk'⟩
      rw [H_hx.out] at hfin
      obtain ⟨L3, hL3⟩ : ∃ u, (x.kids.take a ++ n :: x.kids.drop a).length = u := ⟨_, rfl⟩
      rw [hL3] at hfin hT ⊢
      have H_hL3 := Lib.hid hL3
      clear hL3
      clear hv3 hA3 hg3 ho3 hkb h3
      have H_hfin := Lib.hid hfin
      clear hfin
      have H_hT := Lib.hid hT
      clear hT
      go_wp2_with fail
      go_returns
      exact ⟨rfl, ⟨_, _, _, H_hfin.out⟩, H_hT.out⟩
    · have hSd : ∀ W, Below w.heap.size w W → SlA EIn W (some ⟨g', a, none⟩) (x.kids.length - a) (cap' - a) (x.kids.drop a) := fun W hW => by
        have := SlA.drop (En := EIn) (a := a) (by omega) rfl hkc hcm' (Nat.lt_of_lt_of_le hg' hW.size) (hkr.keep hW hg')
        rw [show 0 + a * EIn.k = a by show 0 + a * 1 = a; omega] at this
        exact this
      have gac2 : (a : Int) < (cap' : Int) := by omega
      have hacn : a < cap' := by omega
      have H_h := Lib.hid h
      clear h
      have H_hs := Lib.hid hs
      clear hs
      have H_hx := Lib.hid hx
      clear hx
      have H_hrow := Lib.hid hrow
      clear hrow
      have H_hi0 := Lib.hid hi0
      clear hi0
      have H_hz0 := Lib.hid hz0
      clear hz0
      have H_hz1 := Lib.hid hz1
      clear hz1
      have H_hz2 := Lib.hid hz2
      clear hz2
      have H_hS := Lib.hid hS
      clear hS
      have H_hSd := Lib.hid hSd
      clear hSd
      have H_e1 := Lib.hid e1
      clear e1
      have H_e2 := Lib.hid e2
      clear e2
      have H_e3 := Lib.hid e3
      clear e3
      have H_hsK := Lib.hid hsK
      clear hsK
      go_enter Tryz.func47, Tryz.ntmps47
      go_wp2_with ((at_builtin; refine wp_append_sla rfl (.tmp 9) (.tmp 19) 60 rfl EIn w.heap.size 3 i0 _ 8 Tryz.underlying60 H_hi0.out H_hz0.out H_hz1.out H_hz2.out rfl (by decide) _ [] rfl _ _ _ (x.kids.take a) rfl (H_hS.out) ?a1 (OwnR.nil _ _ _ _) (Nat.le_refl _) ?_))
      case a1 => rw [List.length_take, List.length_nil]; omega
      intro v1 w1 hv1 hA1 hg1 ho1
      have hv1' : OwnR EIn w1 w.heap.size 3 v1 (x.kids.take a) := hv1
      obtain ⟨o1, cc1, rfl⟩ := ow_form hv1'
      have hla : (x.kids.take a).length = a := by rw [List.length_take]; omega
      have hB1 : Below w.heap.size w w1 := hA1
      have s1 := hB1.size
      clear hv1 hA1 hg1 ho1
      have H_hv1' := Lib.hid hv1'
      clear hv1'
      go_wp2_with (at_builtin; refine wp_append_told rfl (.tmp 21) (.tmp 23) 60 rfl EIn w.heap.size 3 i0 _ 8 Tryz.underlying60 H_hi0.out H_hz0.out H_hz1.out H_hz2.out rfl (by decide) _ (x.kids.take a) rfl _ 0 1 1 [n] rfl rfl ?a1 ?a2 ?a3 ?a4 ?_)
      case a1 => rw [hla, List.length_cons, List.length_nil]; omega
      case a2 => exact H_hv1'.out.alloc _
      case a3 => exact row_one (vs := #[.int .i64 n]) rfl (fun j => World.cell?_alloc_new _ _ _ _)
      case a4 => simp; omega
      intro v2 w2 hv2 hA2 hg2 ho2
      obtain ⟨o2, cc2, rfl⟩ := ow_form hv2
      have hB2 : Below w.heap.size w w2 := (hB1.alloc s1 _).trans hA2
      have s2 := hB2.size
      have c02 : w2.cell? ⟨b, 0, none⟩ = some (.slice (some ⟨g, 0, none⟩) l.length cap) := gkeep hB2 c0 rfl
      have q32 : w2.cell? ⟨g, p * 5 + 3, none⟩ = some (.slice (some ⟨g', 0, none⟩) x.kids.length cap') := gkeep hB2 q3 rfl
      have hS2 := H_hSd.out w2 hB2
      have H_hv2 := Lib.hid hv2
      clear hv2 hA2 hg2 ho2
      have H_hS2 := Lib.hid hS2
      clear hS2
      go_wp2_with (at_builtin; refine wp_append_sla rfl (.tmp 25) (.tmp 35) 60 rfl EIn w.heap.size 3 i0 _ 8 Tryz.underlying60 H_hi0.out H_hz0.out H_hz1.out H_hz2.out rfl (by decide) _ (x.kids.take a ++ [n]) rfl _ _ _ (x.kids.drop a) rfl (by first | exact H_hS2.out | exact ⟨by first | (rw [List.length_drop]; done) | (rw [List.length_drop]; omega), by omega, by first | (unfold maxLen; omega) | omega, .inl H_hnil.out⟩) ?a1 H_hv2.out s2 ?_)
      case a1 => rw [List.length_append, hla, List.length_drop, List.length_cons, List.length_nil]; omega
      intro v3 w3 hv3' hA3 hg3 ho3
      have hv3 : OwnR EIn w3 w.heap.size 3 v3 (x.kids.take a ++ n :: x.kids.drop a) := by first | exact hv3' | simpa using hv3'
      clear hv3'
      obtain ⟨o3, cc3, rfl⟩ := ow_form hv3
      have hB3 : Below w.heap.size w w3 := hB2.trans hA3
      have h3 := H_h.out.keep hB3
      have c03 : w3.cell? ⟨b, 0, none⟩ = some (.slice (some ⟨g, 0, none⟩) l.length cap) := gkeep hB3 c0 rfl
      have q33 := gkeep hB3 q3 rfl
      have f33 : w3.frozen? ⟨g, p * 5 + 3, none⟩ = false := (hB3.frozen (p := ⟨g, p * 5 + 3, none⟩) hg).trans (hfz _)
      have hkb : ∀ k, (Value.slice o3 (x.kids.take a ++ n :: x.kids.drop a).length cc3).ownBlock = some k → (Value.slice (some ⟨g, 0, none⟩) l.length cap).ownBlock ≠ some k ∧ k ≠ b := fun k hk' => by
        have := (hv3.lt k hk').1
        exact ⟨fun e => by
          have e' : some g = some k := e
          injection e' with e'; omega, by omega⟩
      have hfin := h3.setKids (p := p) rfl hp (hv3.base hbw) hkb
      have hT : Turn (fun k => (Value.slice (some ⟨g, 0, none⟩) l.length cap).ownBlock = some k) w (w3.setCell ⟨g, p * 5 + 3, none⟩ (.slice o3 (x.kids.take a ++ n :: x.kids.drop a).length cc3)) :=
        ⟨hB3.os, hB3.tape, hB3.output, by rw [World.size_setCell]; exact hB3.size, fun k hk' hn' => by
          rw [heap_setCell_other _ _ _ _ (fun e => hn' (by rw [e]; rfl))]; exact hB3.block k hk'⟩
      rw [H_hx.out] at hfin
      obtain ⟨L3, hL3⟩ : ∃ u, (x.kids.take a ++ n :: x.kids.drop a).length = u := ⟨_, rfl⟩
      rw [hL3] at hfin hT ⊢
      have H_hL3 := Lib.hid hL3
      clear hL3
      clear hv3 hA3 hg3 ho3 hkb h3
      have H_hfin := Lib.hid hfin
      clear hfin
      have H_hT := Lib.hid hT
      clear hT
      go_wp2_with fail
      go_returns
      exact ⟨rfl, ⟨_, _, _, H_hfin.out⟩, H_hT.out⟩
end Go.Proofs.YtndlmmpheecleaaGreatDoor

/-
  Walks over the reference's document: Has, Attr.
-/
namespace Lead.Rc
open Go Go.RowKit Lead Lead.Dc
/-- Is an element in it? -/
def hasR (L : List RE) (z : Int) : Bool := decide (0 ≤ z) && ((L[z.toNat]?).map (·.inn)).getD false
/-- Which attribute has a name? -/
def idxA (nm : ByteArray) : List At → Option Nat
  | [] => none
  | a :: r => if a.1 = nm then some 0 else (idxA nm r).map (· + 1)
def attrI (nm : ByteArray) (L : List RE) (z : Int) : Int := if hasR L z = true then (match (L[z.toNat]?).bind (fun e => idxA nm e.ats) with | some k => (k : Int) | none => -1) else -1
theorem idxA_step {nm : ByteArray} {l : List At} {k : Nat} (hk : k < l.length) (h : idxA nm l = (idxA nm (l.drop k)).map (· + k)) : (l[k].1 = nm → idxA nm l = some k) ∧ (l[k].1 ≠ nm → idxA nm l = (idxA nm (l.drop (k + 1))).map (· + (k + 1))) := by
  rw [List.drop_eq_getElem_cons hk, idxA] at h
  constructor
  · intro hn
    rw [if_pos hn] at h
    rw [h]; simp
  · intro hn
    rw [if_neg hn] at h
    rw [h, Option.map_map]
    congr 1
    funext j
    show j + 1 + k = j + (k + 1)
    omega
end Lead.Rc
namespace Go.Proofs.YtndlmmpheecleaaGreatDoor
open Go.RowKit Lead Lead.Dc Lead.Rc
set_option maxHeartbeats 2000000 in
theorem rhas_any (base b : Nat) (v : Value) (l : List ReX) (z : Int) (w : World) (h : RDoc RT_ base w b v l) (_hl : l.length ≤ 1000000) :
    Calls Tryz.prog 51 #[.pointer (some ⟨b, 0, none⟩), .int .i64 z] w fun en w' => en = .returned (.bool (hasR (l.map ReX.re) z)) ∧ Below w.heap.size w w' := by
  have c0 := h.c0
  obtain ⟨ov, cv, rfl⟩ := ow_form h.own
  by_cases h0 : 0 ≤ z
  · by_cases h1 : z < (l.length : Int)
    · obtain ⟨n, rfl⟩ := Int.eq_ofNat_of_zero_le h0
      have hn : n < l.length := by omega
      obtain ⟨g, cap, hv, _⟩ := h.v_form hn
      injection hv with hv1 _ hv3
      subst hv1 hv3
      obtain ⟨_, _, _, _, q4⟩ := h.cells rfl hn
      have hR : hasR (l.map ReX.re) (n : Int) = l[n].inn := by
        unfold hasR
        rw [decide_eq_true h0, Int.toNat_natCast, List.getElem?_map, List.getElem?_eq_getElem hn]; rfl
      rw [hR]
      obtain ⟨x, hx⟩ : ∃ x, l[n].inn = x := ⟨_, rfl⟩
      rw [hx] at q4 ⊢
      have g0 : (0 : Int) ≤ (n : Int) := h0
      have g1 : (n : Int) < (l.length : Int) := h1
      have H_h := Lib.hid h
      clear h
      have H_hR := Lib.hid hR
      clear hR
      have H_hx := Lib.hid hx
      clear hx
      go_enter Tryz.func51, Tryz.ntmps51
      go_wp2_with fail
      go_returns
      exact ⟨rfl, by repeat' (first | (with_reducible first | exact bwR _ _ | assumption | refine bdn ?_ | refine bwA ?_ ?_ _ | refine bwD ?_ | refine bwS ?_ ?_ _) | omega | (simp <;> omega))⟩
    · have hR : hasR (l.map ReX.re) z = false := by
        unfold hasR
        rw [List.getElem?_eq_none (by rw [List.length_map]; omega)]; simp
      rw [hR]
      have H_h := Lib.hid h
      clear h
      have H_hR := Lib.hid hR
      clear hR
      go_enter Tryz.func51, Tryz.ntmps51
      go_wp2_with fail
      go_returns
      exact ⟨rfl, by repeat' (first | (with_reducible first | exact bwR _ _ | assumption | refine bdn ?_ | refine bwA ?_ ?_ _ | refine bwD ?_ | refine bwS ?_ ?_ _) | omega | (simp <;> omega))⟩
  · have hR : hasR (l.map ReX.re) z = false := by unfold hasR; rw [decide_eq_false h0]; rfl
    rw [hR]
    have H_h := Lib.hid h
    clear h
    have H_hR := Lib.hid hR
    clear hR
    go_enter Tryz.func51, Tryz.ntmps51
    go_wp2_with fail
    go_returns
    exact ⟨rfl, by repeat' (first | (with_reducible first | exact bwR _ _ | assumption | refine bdn ?_ | refine bwA ?_ ?_ _ | refine bwD ?_ | refine bwS ?_ ?_ _) | omega | (simp <;> omega))⟩
set_option maxHeartbeats 4000000 in
set_option maxRecDepth 100000 in
theorem rattr_any (base b : Nat) (v : Value) (l : List ReX) (z : Int) (nm : ByteArray) (w : World) (h : RDoc RT_ base w b v l) (hl : l.length ≤ 1000000) :
    Calls Tryz.prog 23 #[.pointer (some ⟨b, 0, none⟩), .int .i64 z, .string nm] w fun en w' => en = .returned (.int .i64 (attrI nm (l.map ReX.re) z)) ∧ Below w.heap.size w w' := by
  have cH := fun (W : World) (hW : Below w.heap.size w W) => rhas_any base b v l z W (h.keep hW) hl
  obtain ⟨hb, hhb⟩ : ∃ u, hasR (l.map ReX.re) z = u := ⟨_, rfl⟩
  rw [hhb] at cH
  cases hb with
  | false =>
    have hR : attrI nm (l.map ReX.re) z = -1 := by unfold attrI; rw [hhb]; rfl
    rw [hR]
    have H_cH := Lib.hid cH
    clear cH
    have H_hhb := Lib.hid hhb
    clear hhb
    have H_hR := Lib.hid hR
    clear hR
    have H_h := Lib.hid h
    clear h
    go_enter Tryz.func23, Tryz.ntmps23
    go_wp2_with fail
    refine (H_cH.out _ (by repeat' (first | (with_reducible first | exact bwR _ _ | assumption | refine bdn ?_ | refine bwA ?_ ?_ _ | refine bwD ?_ | refine bwS ?_ ?_ _) | omega | (simp <;> omega)))).mono ?_
    rintro _ w1 ⟨rfl, hb1⟩
    have hB1 : Below w.heap.size w w1 := below_via (by repeat' (first | (with_reducible first | exact bwR _ _ | assumption | refine bdn ?_ | refine bwA ?_ ?_ _ | refine bwD ?_ | refine bwS ?_ ?_ _) | omega | (simp <;> omega))) hb1
    go_wp2_with fail
    go_returns
    exact ⟨rfl, hB1⟩
  | true =>
    have h0 : 0 ≤ z := by
      unfold hasR at hhb
      rw [Bool.and_eq_true] at hhb
      exact of_decide_eq_true hhb.1
    obtain ⟨n, rfl⟩ := Int.eq_ofNat_of_zero_le h0
    have hn : n < l.length := by
      rcases Nat.lt_or_ge n l.length with h' | h'
      · exact h'
      · unfold hasR at hhb
        rw [Int.toNat_natCast, List.getElem?_eq_none (by rw [List.length_map]; exact h')] at hhb
        simp at hhb
    have hR : attrI nm (l.map ReX.re) (n : Int) = match idxA nm l[n].ats with | some k => (k : Int) | none => -1 := by
      unfold attrI
      rw [if_pos hhb, Int.toNat_natCast, List.getElem?_map, List.getElem?_eq_getElem hn]; rfl
    rw [hR]
    obtain ⟨g, cap, hv, hgw, _⟩ := h.v_form hn
    subst hv
    obtain ⟨_, q1, _, _, _⟩ := h.cells rfl hn
    have c0 := h.c0
    have hbl := h.lt
    have hsub := h.sub _ (List.getElem_mem hn)
    obtain ⟨x, hx⟩ : ∃ x, l[n] = x := ⟨_, rfl⟩
    rw [hx] at q1 hsub ⊢
    have hS := sla_of (show OwnR EAt w base 59 (.slice x.ao x.al x.ac) x.ats from hsub.ats)
    obtain ⟨AO, hAO⟩ : ∃ u, x.ao = u := ⟨_, rfl⟩
    obtain ⟨AL, hAL⟩ : ∃ u, x.al = u := ⟨_, rfl⟩
    obtain ⟨AC, hAC⟩ : ∃ u, x.ac = u := ⟨_, rfl⟩
    rw [hAO, hAL, hAC] at hS q1
    have hm : AL ≤ 9223372036854775807 := by have h := hS.2.2.1; have h' := hS.2.1; unfold maxLen at h; omega
    have g1 : (n : Int) < (l.length : Int) := by omega
    have g0 : (0 : Int) ≤ (n : Int) := h0
    obtain ⟨ANS, hANS⟩ : ∃ u, (match idxA nm x.ats with | some k => (k : Int) | none => -1) = u := ⟨_, rfl⟩
    rw [hANS]
    have H_cH := Lib.hid cH
    clear cH
    have H_hhb := Lib.hid hhb
    clear hhb
    have H_hR := Lib.hid hR
    clear hR
    have H_h := Lib.hid h
    clear h
    have H_hx := Lib.hid hx
    clear hx
    have H_hsub := Lib.hid hsub
    clear hsub
    have H_hS := Lib.hid hS
    clear hS
    have H_hAO := Lib.hid hAO
    clear hAO
    have H_hAL := Lib.hid hAL
    clear hAL
    have H_hAC := Lib.hid hAC
    clear hAC
    have H_hANS := Lib.hid hANS
    clear hANS
    go_enter Tryz.func23, Tryz.ntmps23
    go_wp2_with fail
    refine (H_cH.out _ (by repeat' (first | (with_reducible first | exact bwR _ _ | assumption | refine bdn ?_ | refine bwA ?_ ?_ _ | refine bwD ?_ | refine bwS ?_ ?_ _) | omega | (simp <;> omega)))).mono ?_
    rintro _ w1 ⟨rfl, hb1⟩
    have hB1 : Below w.heap.size w w1 := below_via (by repeat' (first | (with_reducible first | exact bwR _ _ | assumption | refine bdn ?_ | refine bwA ?_ ?_ _ | refine bwD ?_ | refine bwS ?_ ?_ _) | omega | (simp <;> omega))) hb1
    clear hb1
    go_wp2_with fail
    go_loopw [8] (fun t8 wr => ∃ k : Nat, k ≤ AL ∧ t8 = .int .i64 k ∧ RowKit.Hid (idxA nm x.ats = (idxA nm (x.ats.drop k)).map (· + k)) ∧ Below w.heap.size w wr) (fun t8 _ => AL - (intOf t8).toNat)
    case atStart => exact ⟨0, Nat.zero_le _, rfl, Lib.hid (by rw [List.drop_zero]; cases idxA nm x.ats <;> rfl), hB1⟩
    case round =>
      obtain ⟨k, hk, rfl, H_k, hB⟩ := hrel
      have hzr := hB.size
      have c0r : wr.cell? ⟨b, 0, none⟩ = some (.slice (some ⟨g, 0, none⟩) l.length cap) := (hB.cell (p := ⟨b, 0, none⟩) hbl).trans c0
      have q1r : wr.cell? ⟨g, n * 5 + 1, none⟩ = some (.slice AO AL AC) := (hB.cell (p := ⟨g, n * 5 + 1, none⟩) hgw).trans q1
      by_cases hlt : k < AL
      · have hk' : k < x.ats.length := by have := H_hS.out.1; omega
        obtain ⟨ga, off, rfl, hga, hrow⟩ := H_hS.out.2.2.2.resolve_left (by intro h; rw [h] at hk'; simp at hk')
        have q0 : wr.cell? ⟨ga, off + k * 2, none⟩ = some (.string x.ats[k].1) := (hrow.keep hB hga) k hk' 0 _ rfl
        have hst := idxA_step hk' H_k.out
        obtain ⟨an, han⟩ : ∃ u, x.ats[k].1 = u := ⟨_, rfl⟩
        rw [han] at q0 hst
        have gk : IntKind.i64.wrap ((k : Int) + 1) = ((k + 1 : Nat) : Int) := IntWalk.i64_in _ (by omega)
        have gkl : (k : Int) < (AL : Int) := by omega
        by_cases hn' : an = nm
        · have hq : (an.toList == nm.toList) = true := by rw [hn']; simp
          have hA : ANS = (k : Int) := by rw [← H_hANS.out, hst.1 hn']
          have H_hst := Lib.hid hst
          clear hst
          have H_hrow := Lib.hid hrow
          clear hrow
          have H_han := Lib.hid han
          clear han
          have H_hn' := Lib.hid hn'
          clear hn'
          have H_hA := Lib.hid hA
          clear hA
          go_wp2_with fail
          go_returns
          exact ⟨congrArg (fun t => Ending.returned (.int .i64 t)) H_hA.out.symm, by repeat' (first | (with_reducible first | exact bwR _ _ | assumption | refine bdn ?_ | refine bwA ?_ ?_ _ | refine bwD ?_ | refine bwS ?_ ?_ _) | omega | (simp <;> omega))⟩
        · have hq : (an.toList == nm.toList) = false := by
            rw [beq_eq_false_iff_ne, ByteArray.toList_eq, ByteArray.toList_eq]
            intro h; exact hn' (ByteArray.ext (Array.ext' h))
          have hst2 := hst.2 hn'
          have H_hst := Lib.hid hst
          clear hst
          have H_hst2 := Lib.hid hst2
          clear hst2
          have H_hrow := Lib.hid hrow
          clear hrow
          have H_han := Lib.hid han
          clear han
          have H_hn' := Lib.hid hn'
          clear hn'
          go_wp2_with fail
          go_roundw
          case rel => exact ⟨k + 1, by omega, by go_num, H_hst2, hB⟩
          case measure => simp [intOf]; omega
      · obtain rfl : k = AL := by omega
        have hA : ANS = -1 := by
          have h1 := H_k.out
          rw [List.drop_eq_nil_of_le (by have := H_hS.out.1; omega)] at h1
          rw [← H_hANS.out, h1]; rfl
        have H_hA := Lib.hid hA
        clear hA
        go_wp2_with fail
        go_returns
        exact ⟨congrArg (fun t => Ending.returned (.int .i64 t)) H_hA.out.symm, hB⟩
end Go.Proofs.YtndlmmpheecleaaGreatDoor

/-
  Walks over the reference: Index; does a step fit an element.
-/
namespace Lead.Rc
open Go Go.RowKit Lead Lead.Dc Lead.Pk
def optI (o : Option Nat) : Int := match o with | some k => (k : Int) | none => -1
theorem attrV_idx {nm : ByteArray} : ∀ {l : List At} {k : Nat}, idxA nm l = some k → ∃ h : k < l.length, attrV nm l = some l[k].2
  | [], _, h => by cases h
  | a :: r, k, h => by
    unfold idxA at h
    split at h
    · next e => cases h; exact ⟨by simp, by rw [attrV, if_pos e]; rfl⟩
    · next e =>
      cases hr : idxA nm r with
      | none => rw [hr] at h; cases h
      | some j =>
        rw [hr] at h; cases h
        obtain ⟨h1, h2⟩ := attrV_idx hr
        exact ⟨by simp; omega, by rw [attrV, if_neg e, h2]; rfl⟩
theorem attrV_idx_none {nm : ByteArray} : ∀ {l : List At}, idxA nm l = none → attrV nm l = none
  | [], _ => rfl
  | a :: r, h => by
    unfold idxA at h
    split at h
    · cases h
    · next e =>
      cases hr : idxA nm r with
      | none => rw [attrV, if_neg e, attrV_idx_none hr]
      | some j => rw [hr] at h; cases h
end Lead.Rc
namespace Go.Proofs.YtndlmmpheecleaaGreatDoor
open Go.RowKit Lead Lead.Dc Lead.Pk Lead.Rc
end Go.Proofs.YtndlmmpheecleaaGreatDoor
