/-
  Several texts as one: Plk, Ra1, Ra2, Ra4, Ra5, Rs2.
-/
import Derived.Test.YtndlmmpheecleaaGreatDoorDp
import Derived.Test.YtndlmmpheecleaaGreatDoorRe
import Derived.Test.YtndlmmpheecleaaGreatDoorUb
/-
  Plain: where an element's parent lies.
-/
namespace Lead.Pk
open Lead Lead.Dc
def parOk (E : Els) (z : Int) : Prop := z = -1 ∨ ∃ (p : Nat) (e : El), z = (p : Int) ∧ elAt E p = some e
theorem par_ok {E : Els} {next : Nat} {d : Nat → Nat} (g : Good E next d) {n : Nat} {e : El} (h : elAt E n = some e) : parOk E e.parent ∧ (if 0 ≤ e.parent then d e.parent.toNat else 0) < d n := by
  by_cases h0 : n = 0
  · obtain ⟨e0, hr, hp⟩ := g.root
    subst h0
    rw [hr] at h
    injection h with h
    rw [← h, hp]
    exact ⟨.inl rfl, by rw [if_neg (by omega), g.d0]; omega⟩
  · obtain ⟨p, pe, hp, hpe, hd, _⟩ := g.par h h0
    rw [hp]
    exact ⟨.inr ⟨p, pe, rfl, hpe⟩, by rw [if_pos (by omega), Int.toNat_natCast]; omega⟩
end Lead.Pk

/-
  Walks over the reference's document: under, deepOf.
-/
namespace Lead.Rc
open Go Go.RowKit Lead Lead.Dc Lead.Pk
/-- The elements' parents lie where they should. -/
def ParIs (l : List ReX) (E : Els) : Prop := ∀ n e, elAt E n = some e → ∃ h : n < l.length, l[n].par = e.parent
/-- Is an element, or none, below another one? -/
def inB (E : Els) (a : Nat) (z : Int) : Bool := decide (0 ≤ z) && decide (z.toNat ∈ below E 10 a)
theorem inB_neg {E : Els} {a : Nat} : inB E a (-1) = false := by unfold inB; rw [decide_eq_false (by omega)]; rfl
theorem inB_nat {E : Els} {a n : Nat} : inB E a (n : Int) = decide (n ∈ below E 10 a) := by unfold inB; rw [decide_eq_true (by omega), Int.toNat_natCast, Bool.true_and]
theorem inB_self {E : Els} {a : Nat} : inB E a (a : Int) = true := by rw [inB_nat]; exact decide_eq_true (self_below _ _)
theorem inB_up {E : Els} {next : Nat} {d : Nat → Nat} (g : Good E next d) {a n : Nat} {e ae : El} (he : elAt E n = some e) (ha : elAt E a = some ae) (hn : n ≠ a) : inB E a (n : Int) = inB E a e.parent := by
  have h := g.gone_iff he ha
  rw [inB_nat]
  unfold inB
  rw [Bool.eq_iff_iff, decide_eq_true_eq, Bool.and_eq_true, decide_eq_true_eq, decide_eq_true_eq, h]
  exact ⟨fun h => h.resolve_left hn, .inr⟩
/-- How deep an element, or none, lies. -/
def dZ (d : Nat → Nat) (z : Int) : Nat := if 0 ≤ z then d z.toNat else 0
theorem dZ_neg {d : Nat → Nat} : dZ d (-1) = 0 := if_neg (by omega)
theorem dZ_nat {d : Nat → Nat} {n : Nat} : dZ d (n : Int) = d n := by unfold dZ; rw [if_pos (by omega), Int.toNat_natCast]
theorem dZ_up {E : Els} {next : Nat} {d : Nat → Nat} (g : Good E next d) {n : Nat} {e : El} (he : elAt E n = some e) : d n = dZ d e.parent + 1 := by
  by_cases h0 : n = 0
  · subst h0
    obtain ⟨e0, h1, h2⟩ := g.root
    obtain rfl : e = e0 := by rw [he] at h1; injection h1
    rw [h2, dZ_neg, g.d0]
  · obtain ⟨p, pe, h1, h2, h3⟩ := g.up n e he h0
    rw [h1, dZ_nat]
    exact g.dk p pe n h2 h3
end Lead.Rc
namespace Go.Proofs.YtndlmmpheecleaaGreatDoor
open Go.RowKit Lead Lead.Dc Lead.Pk Lead.Rc
set_option maxHeartbeats 1000000 in
theorem runder_any (base b : Nat) (v : Value) (l : List ReX) (E : Els) (next : Nat) (d : Nat → Nat) (n a : Nat) (e ae : El) (w : World) (h : RDoc RT_ base w b v l) (g : Lead.Dc.Good E next d) (hP : ParIs l E) (he : elAt E n = some e) (ha : elAt E a = some ae) :
    Calls Tryz.prog 57 #[.pointer (some ⟨b, 0, none⟩), .int .i64 (n : Int), .int .i64 (a : Int)] w fun en w' => en = .returned (.bool (decide (n ∈ below E 10 a))) ∧ Below w.heap.size w w' := by
  obtain ⟨hn0, _⟩ := hP n e he
  obtain ⟨gd, cap, hv, hgd, _⟩ := h.v_form hn0
  subst hv
  have hC := fun (W : World) (hW : Below w.heap.size w W) (k : Nat) (hk : k < l.length) => (h.keep hW).cells rfl hk
  have c0 := h.c0
  have hbl := h.lt
  rw [← inB_nat]
  obtain ⟨B, hB⟩ : ∃ u, inB E a (n : Int) = u := ⟨_, rfl⟩
  rw [hB]
  obtain ⟨N, hN⟩ : ∃ u, l.length = u := ⟨_, rfl⟩
  rw [hN] at c0
  have H_h := Lib.hid h
  clear h
  have H_hC := Lib.hid hC
  clear hC
  have H_g := Lib.hid g
  clear g
  have H_hP := Lib.hid hP
  clear hP
  have H_ha := Lib.hid ha
  clear ha
  have H_hN := Lib.hid hN
  clear hN
  have H_hB := Lib.hid hB
  clear hB
  have H_he := Lib.hid he
  clear he
  go_enter Tryz.func57, Tryz.ntmps57
  go_wp2_with fail
  go_loopw [1] (fun t1 wr => ∃ z : Int, t1 = .int .i64 z ∧ RowKit.Hid (parOk E z ∧ B = inB E a z) ∧ Below w.heap.size w wr) (fun t1 _ => dZ d (intOf t1))
  case atStart => exact ⟨_, rfl, Lib.hid ⟨.inr ⟨n, e, rfl, H_he.out⟩, H_hB.out.symm⟩, Below.refl _ _⟩
  case round =>
    obtain ⟨z, rfl, H_z, hBw⟩ := hrel
    rcases H_z.out.1 with rfl | ⟨p, f, rfl, hfp⟩
    · have hr := H_z.out.2
      rw [inB_neg] at hr
      subst hr
      go_wp2_with fail
      go_returns
      exact ⟨rfl, hBw⟩
    · have hp0 : (0 : Int) ≤ (p : Int) := by omega
      by_cases hpa : p = a
      · have hr := H_z.out.2
        rw [hpa, inB_self] at hr
        subst hr
        have hpe : ((p : Int) == (a : Int)) = true := by rw [hpa]; exact beq_self_eq_true _
        have H_hpa := Lib.hid hpa
        clear hpa
        have H_hfp := Lib.hid hfp
        clear hfp
        go_wp2_with fail
        go_returns
        exact ⟨rfl, hBw⟩
      · have hpe : ((p : Int) == (a : Int)) = false := by rw [beq_eq_false_iff_ne]; omega
        obtain ⟨hpl, hpp⟩ := H_hP.out p f hfp
        obtain ⟨_, _, q2, _, _⟩ := H_hC.out wr hBw p hpl
        rw [hpp] at q2
        have c0r : wr.cell? ⟨b, 0, none⟩ = some (.slice (some ⟨gd, 0, none⟩) N cap) := (hBw.cell (p := ⟨b, 0, none⟩) hbl).trans c0
        have hpN : (p : Int) < (N : Int) := by have := H_hN.out; omega
        have hpk := (par_ok H_g.out hfp).1
        have hup := inB_up H_g.out hfp H_ha.out hpa
        have hdd := dZ_up H_g.out hfp
        have hr := H_z.out.2
        rw [hup] at hr
        obtain ⟨y, hy⟩ : ∃ u, f.parent = u := ⟨_, rfl⟩
        rw [hy] at q2 hpk hr hdd
        clear hup hpp
        have H_hfp := Lib.hid hfp
        clear hfp
        have H_hy := Lib.hid hy
        clear hy
        have H_hpk := Lib.hid hpk
        clear hpk
        have H_hr := Lib.hid hr
        clear hr
        have H_hpa := Lib.hid hpa
        clear hpa
        have H_hdd := Lib.hid hdd
        clear hdd
        go_wp2_with fail
        go_roundw
        case rel => exact ⟨y, rfl, Lib.hid ⟨H_hpk.out, H_hr.out⟩, hBw⟩
        case measure => show dZ d y < dZ d (p : Int); rw [dZ_nat, H_hdd.out]; omega
set_option maxHeartbeats 1000000 in
theorem rdeep2_any (base b : Nat) (v : Value) (l : List ReX) (E : Els) (d : Nat → Nat) (n : Nat) (e : El) (w : World) (h : RDoc RT_ base w b v l) (g : ∀ n e, elAt E n = some e → parOk E e.parent ∧ d n = dZ d e.parent + 1) (hP : ParIs l E) (he : elAt E n = some e) (hd10 : d n ≤ 1000) :
    Calls Tryz.prog 52 #[.pointer (some ⟨b, 0, none⟩), .int .i64 (n : Int)] w fun en w' => en = .returned (.int .i64 (d n : Int)) ∧ Below w.heap.size w w' := by
  obtain ⟨hn0, _⟩ := hP n e he
  obtain ⟨gd, cap, hv, hgd, _⟩ := h.v_form hn0
  subst hv
  have hC := fun (W : World) (hW : Below w.heap.size w W) (k : Nat) (hk : k < l.length) => (h.keep hW).cells rfl hk
  have c0 := h.c0
  have hbl := h.lt
  obtain ⟨D, hD⟩ : ∃ u, d n = u := ⟨_, rfl⟩
  rw [hD] at hd10 ⊢
  obtain ⟨N, hN⟩ : ∃ u, l.length = u := ⟨_, rfl⟩
  rw [hN] at c0
  have H_h := Lib.hid h
  clear h
  have H_hC := Lib.hid hC
  clear hC
  have H_g := Lib.hid g
  clear g
  have H_hP := Lib.hid hP
  clear hP
  have H_hN := Lib.hid hN
  clear hN
  have H_hD := Lib.hid hD
  clear hD
  have H_he := Lib.hid he
  clear he
  go_enter Tryz.func52, Tryz.ntmps52
  go_wp2_with fail
  go_loopw [1, 5] (fun t1 t5 wr => ∃ (z : Int) (k : Nat), t1 = .int .i64 z ∧ t5 = .int .i64 k ∧ k ≤ 1000 ∧ RowKit.Hid (parOk E z ∧ k + dZ d z = D) ∧ Below w.heap.size w wr) (fun t1 _ _ => dZ d (intOf t1))
  case atStart => exact ⟨_, 0, rfl, rfl, by omega, Lib.hid ⟨.inr ⟨n, e, rfl, H_he.out⟩, by rw [dZ_nat, H_hD.out]; omega⟩, Below.refl _ _⟩
  case round =>
    obtain ⟨z, k, rfl, rfl, hk, H_z, hBw⟩ := hrel
    rcases H_z.out.1 with rfl | ⟨p, f, rfl, hfp⟩
    · have hr := H_z.out.2
      rw [dZ_neg] at hr
      obtain rfl : k = D := by omega
      go_wp2_with fail
      go_returns
      exact ⟨rfl, hBw⟩
    · have hp0 : (0 : Int) ≤ (p : Int) := by omega
      obtain ⟨hpl, hpp⟩ := H_hP.out p f hfp
      obtain ⟨_, _, q2, _, _⟩ := H_hC.out wr hBw p hpl
      rw [hpp] at q2
      have c0r : wr.cell? ⟨b, 0, none⟩ = some (.slice (some ⟨gd, 0, none⟩) N cap) := (hBw.cell (p := ⟨b, 0, none⟩) hbl).trans c0
      have hpN : (p : Int) < (N : Int) := by have := H_hN.out; omega
      have hpk := (H_g.out _ _ hfp).1
      have hdd := (H_g.out _ _ hfp).2
      have hr := H_z.out.2
      rw [dZ_nat, hdd] at hr
      obtain ⟨y, hy⟩ : ∃ u, f.parent = u := ⟨_, rfl⟩
      rw [hy] at q2 hpk hr hdd
      have gk : IntKind.i64.wrap ((k : Int) + 1) = ((k + 1 : Nat) : Int) := IntWalk.i64_in _ (by omega)
      have hk2 : k + 1 ≤ 1000 := by omega
      have hr2 : k + 1 + dZ d y = D := by omega
      clear hpp hr
      have H_hfp := Lib.hid hfp
      clear hfp
      have H_hy := Lib.hid hy
      clear hy
      have H_hpk := Lib.hid hpk
      clear hpk
      have H_hdd := Lib.hid hdd
      clear hdd
      have H_hr2 := Lib.hid hr2
      clear hr2
      go_wp2_with fail
      go_roundw
      case rel => exact ⟨y, k + 1, rfl, by go_num, hk2, Lib.hid ⟨H_hpk.out, H_hr2.out⟩, hBw⟩
      case measure => show dZ d y < dZ d (p : Int); rw [dZ_nat, H_hdd.out]; omega
theorem rdeep_any (base b : Nat) (v : Value) (l : List ReX) (E : Els) (next : Nat) (d : Nat → Nat) (n : Nat) (e : El) (w : World) (h : RDoc RT_ base w b v l) (g : Lead.Dc.Good E next d) (hP : ParIs l E) (he : elAt E n = some e) :
    Calls Tryz.prog 52 #[.pointer (some ⟨b, 0, none⟩), .int .i64 (n : Int)] w fun en w' => en = .returned (.int .i64 (d n : Int)) ∧ Below w.heap.size w w' :=
  rdeep2_any base b v l E d n e w h (fun m f hf => ⟨(par_ok g hf).1, dZ_up g hf⟩) hP he (by have := g.dm n e he; omega)
end Go.Proofs.YtndlmmpheecleaaGreatDoor

/-
  Walks over the reference's document: off.
-/
namespace Lead.Rc
open Go Go.RowKit Lead Lead.Dc Lead.Pk
theorem offK_snoc {L : List Nat} {k : Nat} (hk : k < L.length) (n : Nat) : offK (L.take (k + 1)) n = offK (L.take k) n ++ (if L[k] = n then [] else [L[k]]) := by
  unfold offK
  rw [List.take_succ_eq_append_getElem hk, List.filter_append]
  congr 1
  by_cases h : L[k] = n
  · rw [if_pos h]; simp [h]
  · rw [if_neg h]; simp [h]
end Lead.Rc
namespace Go.Proofs.YtndlmmpheecleaaGreatDoor
open Go.RowKit Lead Lead.Dc Lead.Pk Lead.Rc
set_option maxHeartbeats 2000000 in
set_option maxRecDepth 100000 in
theorem roff_any (base b : Nat) (v : Value) (l : List ReX) (p n : Nat) (w : World) (h : RDoc RT_ base w b v l) (hbw : base ≤ w.heap.size) (hp : p < l.length) (hn : n < l.length) (hpar : l[n].par = (p : Int)) (hk : l[p].kids.length ≤ 900000) :
    Calls Tryz.prog 56 #[.pointer (some ⟨b, 0, none⟩), .int .i64 (n : Int)] w fun en w' => en = .returned (.tuple #[]) ∧ (∃ ko kl kc, (∀ k, (Value.slice ko kl kc).ownBlock = some k → w.heap.size ≤ k) ∧ RDoc RT_ base w' b v (l.set p { l[p] with ko := ko, kl := kl, kc := kc, kids := offK l[p].kids n })) ∧ Turn (fun k => v.ownBlock = some k) w w' := by
  obtain ⟨g, cap, rfl, hg, hbg, hgb, hlc, hcm, hrow, hfz⟩ := h.v_form hp
  have hq3 := fun (W : World) (hW : Below w.heap.size w W) => ((h.keep hW).cells rfl hp).2.2.2.1
  have hq2 : w.cell? ⟨g, n * 5 + 2, none⟩ = some (.int .i64 (p : Int)) := by rw [← hpar]; exact (h.cells rfl hn).2.2.1
  have hs := h.sub _ (List.getElem_mem hp)
  have hks := fun (W : World) (hW : Below w.heap.size w W) => Rc.sla_of ((show OwnR EIn w base 3 (.slice l[p].ko l[p].kl l[p].kc) l[p].kids from hs.kids).keep hW)
  have hset := fun (W : World) (hW : Below w.heap.size w W) (o : Option Addr) (L c : Nat) (ks : List Nat) => (h.keep hW).setKids (p := p) (g := g) (cap := cap) (ko := o) (kl := L) (kc := c) (ks := ks) rfl hp
  obtain ⟨x, hx⟩ : ∃ x, l[p] = x := ⟨_, rfl⟩
  rw [hx] at hq3 hks hk ⊢
  simp only [hx] at hset
  have c0 := h.c0
  have hbl := h.lt
  obtain ⟨i0, hi0, hz0, hz1, hz2⟩ := info_parts infoIn
  have hgb' : ¬ b = g := fun e => hgb e.symm
  have gp : (p : Int) < (l.length : Int) := by omega
  have gn : (n : Int) < (l.length : Int) := by omega
  obtain ⟨N, hN⟩ : ∃ u, l.length = u := ⟨_, rfl⟩
  rw [hN] at c0 hlc gp gn ⊢
  obtain ⟨nm, ao, al, ac, ats, par, ko, kl, kc, ks, inn⟩ := x
  have hkl := (hks w (Below.refl _ _)).1
  simp only at hq3 hks hk hset hkl ⊢
  obtain ⟨M, hM⟩ : ∃ u, ks.length = u := ⟨_, rfl⟩
  rw [hM] at hk hkl
  subst hkl
  have H_h := Lib.hid h
  clear h
  have H_hq3 := Lib.hid hq3
  clear hq3
  have H_hks := Lib.hid hks
  clear hks
  have H_hset := Lib.hid hset
  clear hset
  have H_hN := Lib.hid hN
  clear hN
  have H_hM := Lib.hid hM
  clear hM
  have H_hx := Lib.hid hx
  clear hx
  have H_hi0 := Lib.hid hi0
  clear hi0
  have H_hz0 := Lib.hid hz0
  clear hz0
  have H_hz1 := Lib.hid hz1
  clear hz1
  have H_hz2 := Lib.hid hz2
  clear hz2
  go_enter Tryz.func56, Tryz.ntmps56
  go_wp2_with fail
  go_loopw [5, 6] (fun t5 t6 wr => ∃ (i : Nat) (v5 : Value), i ≤ kl ∧ t6 = .int .i64 i ∧ t5 = v5 ∧ RowKit.Hid (OwnR EIn wr w.heap.size 3 v5 (offK (ks.take i) n)) ∧ Below w.heap.size w wr) (fun _ t6 _ => kl - (intOf t6).toNat)
  case atStart => exact ⟨0, _, Nat.zero_le _, rfl, rfl, Lib.hid (OwnR.nil _ _ _ _), Below.refl _ _⟩
  case round =>
    obtain ⟨i, v5, hi, rfl, rfl, H_v, hB⟩ := hrel
    have c0r : wr.cell? ⟨b, 0, none⟩ = some (.slice (some ⟨g, 0, none⟩) N cap) := (hB.cell (p := ⟨b, 0, none⟩) hbl).trans c0
    have q3 := H_hq3.out wr hB
    by_cases hlt : i < kl
    · have hi' : i < ks.length := by rw [H_hM.out]; exact hlt
      obtain ⟨gk, ok, rfl, hgk, hrk⟩ := (H_hks.out w (Below.refl _ _)).2.2.2.resolve_left (by intro h; rw [h] at hi'; simp at hi')
      have q4 : wr.cell? ⟨gk, ok + i, none⟩ = some (.int .i64 (ks[i] : Int)) := by
        have h := (hrk.keep hB hgk) i hi' 0 _ rfl
        simpa [EIn] using h
      have hsn := offK_snoc hi' n
      have hfl : (offK (ks.take i) n).length ≤ 900000 := by
        unfold offK
        refine Nat.le_trans (List.length_filter_le _ _) ?_
        rw [List.length_take]; omega
      obtain ⟨y, hy⟩ : ∃ u, ks[i] = u := ⟨_, rfl⟩
      rw [hy] at q4 hsn
      obtain ⟨fl, hflv⟩ : ∃ u, offK (ks.take i) n = u := ⟨_, rfl⟩
      rw [hflv] at hsn hfl H_v
      obtain ⟨ov, cv, rfl⟩ := Rc.ow_form H_v.out
      have gi : IntKind.i64.wrap ((i : Int) + 1) = ((i + 1 : Nat) : Int) := IntWalk.i64_in _ (by omega)
      clear hrk
      by_cases hyn : y = n
      · have gy : ((y : Int) != (n : Int)) = false := by rw [hyn]; exact bne_self_eq_false _
        rw [if_pos hyn, List.append_nil] at hsn
        have H_hsn := Lib.hid hsn
        clear hsn
        have H_hyn := Lib.hid hyn
        clear hyn
        have H_hy := Lib.hid hy
        clear hy
        have H_hflv := Lib.hid hflv
        clear hflv
        have H_hfl := Lib.hid hfl
        clear hfl
        go_wp2_with fail
        go_roundw
        case rel => exact ⟨i + 1, _, by omega, by go_num, rfl, Lib.hid (by rw [H_hsn.out]; exact H_v.out), hB⟩
        case measure => simp [intOf]; omega
      · have gy : ((y : Int) != (n : Int)) = true := by rw [bne_iff_ne]; omega
        rw [if_neg hyn] at hsn
        have H_hsn := Lib.hid hsn
        clear hsn
        have H_hyn := Lib.hid hyn
        clear hyn
        have H_hy := Lib.hid hy
        clear hy
        have H_hflv := Lib.hid hflv
        clear hflv
        have H_hfl := Lib.hid hfl
        clear hfl
        go_wp2_with (at_builtin; refine wp_append_told rfl (.tmp 41) (.tmp 53) 60 rfl EIn w.heap.size 3 i0 _ 8 Tryz.underlying60 H_hi0.out H_hz0.out H_hz1.out H_hz2.out rfl (by decide) _ fl rfl _ _ 1 1 [y] rfl rfl ?a1 ?a2 ?a3 ?a4 ?_)
        case a1 => have := H_hfl.out; first | omega | (show fl.length + 1 ≤ 1000000; omega)
        case a2 => exact H_v.out.alloc _
        case a3 => exact row_one (vs := #[.int .i64 (y : Int)]) rfl (fun j => World.cell?_alloc_new _ _ _ _)
        case a4 => have := hB.size; simp; omega
        intro v7 w7 hv7 hA7 hg7 ho7
        have hB7 : Below w.heap.size w w7 := (hB.alloc hB.size _).trans hA7
        clear hA7 hg7 ho7
        have H_hv7 := Lib.hid hv7
        clear hv7
        go_wp2_with fail
        go_roundw
        case rel => exact ⟨i + 1, _, by omega, by go_num, rfl, Lib.hid (by rw [H_hsn.out]; exact H_hv7.out), hB7⟩
        case measure => simp [intOf]; omega
    · obtain rfl : i = kl := by omega
      have hv := H_v.out
      rw [← H_hM.out, List.take_length] at hv
      obtain ⟨ov, cv, rfl⟩ := Rc.ow_form hv
      have f3 : wr.frozen? ⟨g, p * 5 + 3, none⟩ = false := (hB.frozen (p := ⟨g, p * 5 + 3, none⟩) hg).trans (hfz _)
      have hkb : ∀ k, (Value.slice ov (offK ks n).length cv).ownBlock = some k → (Value.slice (some ⟨g, 0, none⟩) l.length cap).ownBlock ≠ some k ∧ k ≠ b := fun k hk' => by
        have := (hv.lt k hk').1
        exact ⟨fun e => by
          have e' : some g = some k := e
          injection e' with e'; omega, by omega⟩
      have hfr : ∀ k, (Value.slice ov (offK ks n).length cv).ownBlock = some k → w.heap.size ≤ k := fun k hk' => (hv.lt k hk').1
      have hfin := H_hset.out wr hB ov (offK ks n).length cv (offK ks n) (hv.base hbw) hkb
      have hT : Turn (fun k => (Value.slice (some ⟨g, 0, none⟩) N cap).ownBlock = some k) w (wr.setCell ⟨g, p * 5 + 3, none⟩ (.slice ov (offK ks n).length cv)) :=
        ⟨hB.os, hB.tape, hB.output, by rw [World.size_setCell]; exact hB.size, fun k hk' hn' => by
          rw [heap_setCell_other _ _ _ _ (fun e => hn' (by rw [e]; rfl))]; exact hB.block k hk'⟩
      rw [H_hN.out] at hfin
      obtain ⟨L3, hL3⟩ : ∃ u, (offK ks n).length = u := ⟨_, rfl⟩
      rw [hL3] at hfin hT hfr ⊢
      clear hkb hv H_v
      have H_hL3 := Lib.hid hL3
      clear hL3
      have H_hfin := Lib.hid hfin
      clear hfin
      have H_hT := Lib.hid hT
      clear hT
      have H_hfr := Lib.hid hfr
      clear hfr
      go_wp2_with fail
      go_returns
      exact ⟨rfl, ⟨_, _, _, H_hfr.out, H_hfin.out⟩, H_hT.out⟩
end Go.Proofs.YtndlmmpheecleaaGreatDoor

/-
  Plain: the reference's document against the program's: the same elements; one element set; which blocks are its own.
-/
namespace Lead.Rc
open Go Go.RowKit Lead Lead.Dc Lead.Pk
/-- The reference's elements are the document's; those that are gone are not in. -/
structure RelD (l : List ReX) (E : Els) (next : Nat) : Prop where
  len : l.length = next
  el : ∀ n e, elAt E n = some e → ∃ h : n < l.length, l[n].nm = e.name ∧ l[n].ats = e.attrs ∧ l[n].par = e.parent ∧ l[n].kids = e.kids ∧ l[n].inn = true
  no : ∀ n (h : n < l.length), elAt E n = none → l[n].inn = false
variable {T : RTys} {base b : Nat} {W : World} {v : Value} {l : List ReX} {E : Els} {next : Nat}
theorem RelD.par (h : RelD l E next) : ParIs l E := fun n e he => by
  obtain ⟨h1, _, _, h2, _⟩ := h.el n e he
  exact ⟨h1, h2⟩
theorem RelD.has (h : RelD l E next) (z : Int) : hasR (l.map ReX.re) z = (match (if 0 ≤ z then elAt E z.toNat else none) with | some _ => true | none => false) := by
  unfold hasR
  by_cases h0 : 0 ≤ z
  · rw [if_pos h0, decide_eq_true h0, Bool.true_and]
    cases he : elAt E z.toNat with
    | some e =>
      obtain ⟨h1, _, _, _, _, h2⟩ := h.el _ e he
      rw [List.getElem?_map, List.getElem?_eq_getElem h1]
      exact h2
    | none =>
      by_cases hl : z.toNat < l.length
      · rw [List.getElem?_map, List.getElem?_eq_getElem hl]
        exact h.no _ hl he
      · rw [List.getElem?_map, List.getElem?_eq_none (by omega)]; rfl
  · rw [if_neg h0, decide_eq_false h0]; rfl
/-- An element's value set in the row: its rows are as they were, or new. -/
theorem RDoc.setEl (h : RDoc T base W b v l) {g cap p q : Nat} {u : Value} {y : ReX} (hv : v = .slice (some ⟨g, 0, none⟩) l.length cap) (hp : p < l.length) (hq : q < 5) (hy : ERe.enc y = (ERe.enc l[p]).set q u) (hs : SubOk T base W (fun k => v.ownBlock ≠ some k ∧ k ≠ b) y) :
    RDoc T base (W.setCell ⟨g, p * 5 + q, none⟩ u) b v (l.set p y) := by
  obtain ⟨g', cap', hv', hg, hbg, hgb, _⟩ := h.v_form hp
  rw [hv] at hv'
  cases hv'
  have hother : ∀ k, v.ownBlock ≠ some k → (W.setCell ⟨g, p * 5 + q, none⟩ u).heap[k]? = W.heap[k]? := fun k hk' => heap_setCell_other _ _ _ _ (fun e => hk' (by rw [hv]; exact congrArg some e.symm))
  have hown := h.own
  rw [hv] at hown
  have ho := own_set (En := ERe) (y := y) (q := q) (u := u) hown hp hq hy
  refine ⟨(hother b h.ne).trans h.box, h.bb, ?_, h.ne, fun x hx => ?_⟩
  · have e : v = .slice (some ⟨g, 0, none⟩) (l.set p y).length cap := by rw [hv, List.length_set]
    unfold OwnR at ho ⊢
    rw [hv]
    exact ho
  · rcases List.mem_or_eq_of_mem_set hx with hx | rfl
    · exact (h.sub x hx).kept (fun k hq _ => hother k hq.1) (fun _ hq _ => hq)
    · exact hs.kept (fun k hq _ => hother k hq.1) (fun _ hq _ => hq)
/-- The document's own blocks. -/
def RG (b : Nat) (v : Value) (l : List ReX) (k : Nat) : Prop := k = b ∨ v.ownBlock = some k ∨ ∃ x ∈ l, x.av.ownBlock = some k ∨ x.kv.ownBlock = some k
end Lead.Rc

/-
  Walks over the reference's document: Remove.
-/
namespace Lead.Rc
open Go Go.RowKit Lead Lead.Dc Lead.Pk
def ReX.out (x : ReX) : ReX := { x with inn := false }
/-- The first i elements, those that answer taken out. -/
def outL (q : Nat → Bool) (i : Nat) (l : List ReX) : List ReX := l.mapIdx fun k x => if k < i ∧ q k = true then x.out else x
theorem outL_len (q : Nat → Bool) (i : Nat) (l : List ReX) : (outL q i l).length = l.length := List.length_mapIdx
theorem outL_at {q : Nat → Bool} {i : Nat} {l : List ReX} {k : Nat} (h : k < (outL q i l).length) : (outL q i l)[k] = if k < i ∧ q k = true then (l[k]'(by rw [outL_len] at h; exact h)).out else l[k]'(by rw [outL_len] at h; exact h) := by
  exact List.getElem_mapIdx (f := fun k x => if k < i ∧ q k = true then x.out else x) (l := l)
theorem outL_zero (q : Nat → Bool) (l : List ReX) : outL q 0 l = l := by
  refine List.ext_getElem (outL_len _ _ _) fun k h1 h2 => ?_
  rw [outL_at h1, if_neg (by omega)]
theorem outL_no {q : Nat → Bool} {i : Nat} {l : List ReX} (h : q i = false) : outL q (i + 1) l = outL q i l := by
  refine List.ext_getElem (by rw [outL_len, outL_len]) fun k h1 h2 => ?_
  rw [outL_at h1, outL_at h2]
  by_cases hk : k = i
  · subst hk; rw [if_neg (by rw [h]; simp), if_neg (by omega)]
  · by_cases hki : k < i ∧ q k = true
    · rw [if_pos ⟨by omega, hki.2⟩, if_pos hki]
    · rw [if_neg (fun h' => hki ⟨by omega, h'.2⟩), if_neg hki]
theorem outL_yes {q : Nat → Bool} {i : Nat} {l : List ReX} (hi : i < (outL q i l).length) (h : q i = true) : outL q (i + 1) l = (outL q i l).set i ((outL q i l)[i].out) := by
  have e : (outL q i l)[i] = l[i]'(by rw [outL_len] at hi; exact hi) := by rw [outL_at hi, if_neg (by omega)]
  refine List.ext_getElem (by rw [List.length_set, outL_len, outL_len]) fun k h1 h2 => ?_
  rw [outL_at h1, List.getElem_set]
  by_cases hk : i = k
  · subst hk
    rw [if_pos ⟨by omega, h⟩, if_pos rfl, e]
  · rw [if_neg hk, outL_at (by rw [List.length_set] at h2; exact h2)]
    by_cases hki : k < i ∧ q k = true
    · rw [if_pos ⟨by omega, hki.2⟩, if_pos hki]
    · rw [if_neg (fun h' => hki ⟨by omega, h'.2⟩), if_neg hki]
theorem outL_par {q : Nat → Bool} {i : Nat} {l : List ReX} {k : Nat} (h : k < (outL q i l).length) : (outL q i l)[k].par = (l[k]'(by rw [outL_len] at h; exact h)).par ∧ (outL q i l)[k].av = (l[k]'(by rw [outL_len] at h; exact h)).av ∧ (outL q i l)[k].kv = (l[k]'(by rw [outL_len] at h; exact h)).kv ∧ (outL q i l)[k].kids = (l[k]'(by rw [outL_len] at h; exact h)).kids ∧ (outL q i l)[k].nm = (l[k]'(by rw [outL_len] at h; exact h)).nm ∧ (outL q i l)[k].ats = (l[k]'(by rw [outL_len] at h; exact h)).ats := by
  rw [outL_at h]
  split <;> exact ⟨rfl, rfl, rfl, rfl, rfl, rfl⟩
/-- What is removed: the elements behind. -/
theorem RelD.remove {l : List ReX} {E : Els} {next : Nat} {d : Nat → Nat} (h : RelD l E next) (_g : Good E next d) {n p : Nat} {pe : El} (hpe : elAt E p = some pe) {ko : Option Addr} {kl kc : Nat} (hp : p < l.length) (l1 : List ReX)
    (hl1 : l1 = l.set p { l[p] with ko := ko, kl := kl, kc := kc, kids := offK l[p].kids n }) : RelD (outL (fun k => (below E 10 n).contains k) l.length l1) (removeE E n p) next := by
  have hlen : l1.length = l.length := by rw [hl1, List.length_set]
  refine ⟨by rw [outL_len, hlen]; exact h.len, fun x e he => ?_, fun x hx hno => ?_⟩
  · rw [removeE_at] at he
    by_cases hb : x ∈ below E 10 n
    · rw [if_pos hb] at he; cases he
    · rw [if_neg hb] at he
      have hq : ¬ (x < l.length ∧ (fun k => (below E 10 n).contains k) x = true) := fun h' => hb (by simpa using h'.2)
      by_cases hxp : x = p
      · subst hxp
        rw [if_pos rfl, hpe] at he
        injection he with he
        obtain ⟨h1, a1, a2, a3, a4, a5⟩ := h.el x pe hpe
        have h2 : x < (outL (fun k => (below E 10 n).contains k) l.length l1).length := by rw [outL_len, hlen]; exact h1
        refine ⟨h2, ?_⟩
        have e1 : (outL (fun k => (below E 10 n).contains k) l.length l1)[x] = { l[x] with ko := ko, kl := kl, kc := kc, kids := offK l[x].kids n } := by
          rw [outL_at h2, if_neg hq]
          subst hl1
          rw [List.getElem_set, if_pos rfl]
        rw [e1, ← he]
        exact ⟨a1, a2, a3, by show offK l[x].kids n = offK pe.kids n; rw [a4], a5⟩
      · rw [if_neg hxp] at he
        obtain ⟨h1, a1, a2, a3, a4, a5⟩ := h.el x e he
        have h2 : x < (outL (fun k => (below E 10 n).contains k) l.length l1).length := by rw [outL_len, hlen]; exact h1
        refine ⟨h2, ?_⟩
        have e1 : (outL (fun k => (below E 10 n).contains k) l.length l1)[x] = l[x] := by
          rw [outL_at h2, if_neg hq]
          subst hl1
          rw [List.getElem_set, if_neg (fun h => hxp h.symm)]
        rw [e1]
        exact ⟨a1, a2, a3, a4, a5⟩
  · have hx' : x < l.length := by rw [outL_len, hlen] at hx; exact hx
    rw [outL_at hx]
    rw [removeE_at] at hno
    by_cases hb : x ∈ below E 10 n
    · rw [if_pos ⟨hx', by simpa using hb⟩]; rfl
    · rw [if_neg hb] at hno
      rw [if_neg (fun h' => hb (by simpa using h'.2))]
      have hne : elAt E x = none := by
        by_cases hxp : x = p
        · rw [if_pos hxp] at hno
          cases hx : elAt E x with
          | none => rfl
          | some e => rw [hx] at hno; cases hno
        · rw [if_neg hxp] at hno; exact hno
      have hxp : ¬ p = x := fun e => by rw [← e, hpe] at hne; cases hne
      subst hl1
      rw [List.getElem_set, if_neg hxp]
      exact h.no x hx' hne
/-- No element has more than K attributes or children. -/
def Sz (K : Nat) (l : List ReX) : Prop := ∀ x ∈ l, x.ats.length ≤ K ∧ x.kids.length ≤ K
theorem Sz.set {K K' : Nat} {l : List ReX} (h : Sz K l) {p : Nat} {y : ReX} (hle : K ≤ K') (hy : y.ats.length ≤ K' ∧ y.kids.length ≤ K') : Sz K' (l.set p y) := fun x hx => by
  rcases List.mem_or_eq_of_mem_set hx with hx | rfl
  · have := h x hx; omega
  · exact hy
theorem Sz.get {K : Nat} {l : List ReX} (h : Sz K l) {p : Nat} (hp : p < l.length) : l[p].ats.length ≤ K ∧ l[p].kids.length ≤ K := h _ (List.getElem_mem hp)
theorem Sz.of_re {K : Nat} {l l' : List ReX} (h : Sz K l) (he : l'.map ReX.re = l.map ReX.re) : Sz K l' := fun x hx => by
  have h1 : x.re ∈ l.map ReX.re := he ▸ List.mem_map_of_mem hx
  obtain ⟨y, hy, hyx⟩ := List.mem_map.1 h1
  have a1 : y.ats = x.ats := congrArg RE.ats hyx
  have a2 : y.kids = x.kids := congrArg RE.kids hyx
  rw [← a1, ← a2]; exact h y hy
theorem offK_le (L : List Nat) (n : Nat) : (offK L n).length ≤ L.length := by
  unfold offK; exact List.length_filter_le _ _
end Lead.Rc
namespace Go.Proofs.YtndlmmpheecleaaGreatDoor
open Go.RowKit Lead Lead.Dc Lead.Pk Lead.Rc
/-- What an act of the reference leaves: its document, in its own blocks or new ones. -/
def RActs (base b : Nat) (v : Value) (l l' : List ReX) (v' : Value) (w w' : World) : Prop :=
  RDoc RT_ base w' b v' l' ∧ Turn (RG b v l) w w' ∧ (∀ k, RG b v' l' k → RG b v l k ∨ w.heap.size ≤ k) ∧ (RDis l → RDis l') ∧ ∀ K, Sz K l → Sz (K + 1) l'
set_option maxHeartbeats 4000000 in
set_option maxRecDepth 100000 in
theorem rrem_ok (base b : Nat) (v : Value) (l : List ReX) (E : Els) (next : Nat) (d : Nat → Nat) (n p : Nat) (e pe : El) (w : World) (h : RDoc RT_ base w b v l) (hbw : base ≤ w.heap.size) (hR : RelD l E next) (hnx : next ≤ 1000000) (g : Lead.Dc.Good E next d) (he : elAt E n = some e) (h0 : n ≠ 0) (hep : e.parent = (p : Int)) (hpe : elAt E p = some pe) (hkl : pe.kids.length ≤ 900000) :
    Calls Tryz.prog 15 #[.pointer (some ⟨b, 0, none⟩), .int .i64 (n : Int)] w fun en w' => en = .returned (.int .i64 0) ∧ ∃ l', RelD l' (removeE E n p) next ∧ RActs base b v l l' v w w' := by
  obtain ⟨hnl, _, _, hnp, _, hni⟩ := hR.el n e he
  obtain ⟨hpl, _, _, _, hpk, _⟩ := hR.el p pe hpe
  have hlm : l.length ≤ 1000000 := by rw [hR.len]; exact hnx
  have cH := rhas_any base b v l (n : Int) w h hlm
  rw [hR.has, if_pos (by omega), Int.toNat_natCast, he] at cH
  have cO := fun (W : World) (hW : Below w.heap.size w W) => roff_any base b v l p n W (h.keep hW) (Nat.le_trans hbw hW.size) hpl hnl (by rw [hnp]; exact hep) (by rw [hpk]; exact hkl)
  obtain ⟨gd, cap, hv, hgd, hbg, hgb, _, _, _, hfz⟩ := h.v_form hpl
  have g0 : ((n : Int) == 0) = false := by rw [beq_eq_false_iff_ne]; omega
  have hvo : v.ownBlock = some gd := by rw [hv]; rfl
  obtain ⟨q, hq⟩ : ∃ q : Nat → Bool, (fun k => (below E 10 n).contains k) = q := ⟨_, rfl⟩
  have hqk : ∀ k, decide (k ∈ below E 10 n) = q k := fun k => by rw [← hq]; simp
  have hrem := fun (ko : Option Addr) (kl kc : Nat) => hR.remove g hpe (n := n) (ko := ko) (kl := kl) (kc := kc) hpl _ rfl
  rw [hq] at hrem
  have hself := h.lt
  have H_h := Lib.hid h
  clear h
  have H_hR := Lib.hid hR
  clear hR
  have H_g := Lib.hid g
  clear g
  have H_cO := Lib.hid cO
  clear cO
  have H_hq := Lib.hid hq
  clear hq
  have H_hqk := Lib.hid hqk
  clear hqk
  have H_hrem := Lib.hid hrem
  clear hrem
  have H_hpe := Lib.hid hpe
  clear hpe
  have H_he := Lib.hid he
  clear he
  have H_hnp := Lib.hid hnp
  clear hnp
  have H_hpk := Lib.hid hpk
  clear hpk
  have H_hfz := Lib.hid hfz
  clear hfz
  go_enter Tryz.func15, Tryz.ntmps15
  go_wp2_with fail
  refine cH.mono ?_
  rintro _ w1 ⟨rfl, hb1⟩
  have hB1 : Below w.heap.size w w1 := hb1
  clear hb1 cH
  go_wp2_with fail
  refine (H_cO.out _ hB1).mono ?_
  rintro _ w2 ⟨rfl, ⟨ko, kl, kc, hko, hR2⟩, hT2⟩
  have hT : Turn (fun k => v.ownBlock = some k) w w2 := (Turn.of_below hB1).trans hT2 (fun _ _ h => h)
  have hrel := H_hrem.out ko kl kc
  have hko' : ∀ k, (Value.slice ko kl kc).ownBlock = some k → w.heap.size ≤ k := fun k hk => Nat.le_trans hB1.size (hko k hk)
  obtain ⟨l1, hl1⟩ : ∃ u, l.set p { l[p] with ko := ko, kl := kl, kc := kc, kids := offK l[p].kids n } = u := ⟨_, rfl⟩
  rw [hl1] at hR2 hrel
  have hlen1 : l1.length = l.length := by rw [← hl1, List.length_set]
  have hpar1 : ParIs l1 E := fun x f hf => by
    obtain ⟨h1, h2⟩ := H_hR.out.par x f hf
    refine ⟨by rw [hlen1]; exact h1, ?_⟩
    subst hl1
    rw [List.getElem_set]
    split
    · next h3 => subst h3; exact h2
    · exact h2
  have hav1 : ∀ x (hx : x < l1.length), (l1[x]).av = (l[x]'(by omega)).av ∧ ((l1[x]).kv = (l[x]'(by omega)).kv ∨ (l1[x]).kv = .slice ko kl kc) ∧ (l1[x]).inn = (l[x]'(by omega)).inn := fun x hx => by
    subst hl1
    rw [List.getElem_set]
    split
    · next h3 => subst h3; exact ⟨rfl, .inr rfl, rfl⟩
    · exact ⟨rfl, .inl rfl, rfl⟩
  have hsz1 : ∀ K, Sz K l → Sz (K + 1) l1 := fun K hK => by
    rw [← hl1]
    have := hK.get hpl
    exact hK.set (Nat.le_succ K) ⟨Nat.le_succ_of_le this.1, Nat.le_succ_of_le (Nat.le_trans (offK_le _ _) this.2)⟩
  obtain ⟨N, hN⟩ : ∃ u, l.length = u := ⟨_, rfl⟩
  rw [hN] at hlm hrel hlen1 hv
  clear hT2 hko hB1
  have H_hR2 := Lib.hid hR2
  clear hR2
  have H_hrel := Lib.hid hrel
  clear hrel
  have H_hpar1 := Lib.hid hpar1
  clear hpar1
  have H_hav1 := Lib.hid hav1
  clear hav1
  have H_hko' := Lib.hid hko'
  clear hko'
  have H_hl1 := Lib.hid hl1
  clear hl1
  have H_hN := Lib.hid hN
  clear hN
  have H_hsz1 := Lib.hid hsz1
  clear hsz1
  go_wp2_with fail
  go_loopw [6, 7] (fun t6 _ wr => ∃ i : Nat, i ≤ N ∧ t6 = .int .i64 i ∧ RowKit.Hid (RDoc RT_ base wr b v (outL q i l1)) ∧ RowKit.Hid (Turn (fun k => v.ownBlock = some k) w wr)) (fun t6 _ _ => N - (intOf t6).toNat)
  case atStart => exact ⟨0, Nat.zero_le _, rfl, Lib.hid (by rw [outL_zero]; exact H_hR2.out), Lib.hid hT⟩
  case round =>
    obtain ⟨i, hi, rfl, H_D, H_T⟩ := hrel
    have hlo : (outL q i l1).length = N := by rw [outL_len]; exact hlen1
    have c0 := H_D.out.c0
    rw [hv] at c0
    by_cases hlt : i < N
    · have hil : i < (outL q i l1).length := by omega
      have hil1 : i < l1.length := by omega
      have hiL : i < l.length := by rw [H_hN.out]; exact hlt
      have hxe : (outL q i l1)[i] = l1[i] := by rw [outL_at hil, if_neg (by omega)]
      obtain ⟨_, _, _, _, q4⟩ := H_D.out.cells (g := gd) (cap := cap) (p := i) (by rw [hlo]; exact hv) hil
      have hinn := (H_hav1.out i hil1).2.2
      rw [hxe, hinn] at q4
      have gi : IntKind.i64.wrap ((i : Int) + 1) = ((i + 1 : Nat) : Int) := IntWalk.i64_in _ (by omega)
      have gl : (i : Int) < (N : Int) := by omega
      cases hf : elAt E i with
      | none =>
        rw [H_hR.out.no i hiL hf] at q4
        have hqi : q i = false := by
          rw [← H_hqk.out]
          exact decide_eq_false (fun hm => by
            obtain ⟨f, hf'⟩ := H_g.out.below_in 10 n i ⟨e, H_he.out⟩ hm
            rw [hf] at hf'; cases hf')
        have hno := outL_no (l := l1) hqi
        have H_hno := Lib.hid hno
        clear hno
        have H_hqi := Lib.hid hqi
        clear hqi
        have H_hf := Lib.hid hf
        clear hf
        have H_hxe := Lib.hid hxe
        clear hxe
        have H_hinn := Lib.hid hinn
        clear hinn
        have H_hlo := Lib.hid hlo
        clear hlo
        go_wp2_with fail
        go_roundw
        case rel => exact ⟨i + 1, by omega, by go_num, Lib.hid (by rw [H_hno.out]; exact H_D.out), H_T⟩
        case measure => simp [intOf]; omega
      | some f =>
        obtain ⟨_, _, _, _, _, hi1⟩ := H_hR.out.el i f hf
        rw [hi1] at q4
        have hpo : ParIs (outL q i l1) E := fun x fx hx => by
          obtain ⟨h1, h2⟩ := H_hpar1.out x fx hx
          have h3 : x < (outL q i l1).length := by rw [outL_len]; exact h1
          exact ⟨h3, (outL_par h3).1.trans h2⟩
        have cU := runder_any base b v (outL q i l1) E next d i n f e wr H_D.out H_g.out hpo hf H_he.out
        rw [H_hqk.out] at cU
        obtain ⟨bq, hbq⟩ : ∃ u, q i = u := ⟨_, rfl⟩
        rw [hbq] at cU
        have H_cU := Lib.hid cU
        clear cU
        have H_hpo := Lib.hid hpo
        clear hpo
        have H_hf := Lib.hid hf
        clear hf
        have H_hxe := Lib.hid hxe
        clear hxe
        have H_hinn := Lib.hid hinn
        clear hinn
        have H_hi1 := Lib.hid hi1
        clear hi1
        have H_hbq := Lib.hid hbq
        clear hbq
        go_wp2_with fail
        refine (H_cU.out).mono ?_
        rintro _ w5 ⟨rfl, hb5⟩
        have hD5 := H_D.out.keep hb5
        have hT5 : Turn (fun k => v.ownBlock = some k) w w5 := H_T.out.trans (Turn.of_below hb5) (fun _ _ h => h)
        have c05 := hD5.c0
        rw [hv] at c05
        obtain ⟨_, _, _, _, q45⟩ := hD5.cells (g := gd) (cap := cap) (p := i) (by rw [hlo]; exact hv) hil
        obtain ⟨gd', cap', hv', _, _, _, _, _, _, hfz5⟩ := hD5.v_form hil
        obtain rfl : gd = gd' := by rw [hv] at hv'; injection hv' with h1 _ _; injection h1 with h1; injection h1 with h1
        clear hb5 c0 q4
        cases bq with
        | false =>
          have hno := outL_no (l := l1) H_hbq.out
          have H_hno := Lib.hid hno
          clear hno
          have H_hD5 := Lib.hid hD5
          clear hD5
          have H_hT5 := Lib.hid hT5
          clear hT5
          have H_hlo := Lib.hid hlo
          clear hlo
          go_wp2_with fail
          go_roundw
          case rel => exact ⟨i + 1, by omega, by go_num, Lib.hid (by rw [H_hno.out]; exact H_hD5.out), H_hT5⟩
          case measure => simp [intOf]; omega
        | true =>
          have hyes := outL_yes hil H_hbq.out
          have hsub := hD5.sub _ (List.getElem_mem hil)
          have hset := hD5.setEl (g := gd) (cap := cap) (p := i) (q := 4) (u := .bool false) (y := (outL q i l1)[i].out) (by rw [hlo]; exact hv) hil (by decide) rfl ⟨hsub.ats, hsub.kids, hsub.aq, hsub.kq⟩
          rw [← hyes] at hset
          have hT6 : Turn (fun k => v.ownBlock = some k) w (w5.setCell ⟨gd, i * 5 + 4, none⟩ (.bool false)) := hT5.trans (F' := fun k => v.ownBlock = some k) (Turn.set (a := ⟨gd, i * 5 + 4, none⟩) hvo) (fun _ _ h => h)
          clear hyes hsub
          have H_hset := Lib.hid hset
          clear hset
          have H_hT6 := Lib.hid hT6
          clear hT6
          have H_hD5 := Lib.hid hD5
          clear hD5
          have H_hT5 := Lib.hid hT5
          clear hT5
          have H_hlo := Lib.hid hlo
          clear hlo
          have H_hv' := Lib.hid hv'
          clear hv'
          go_wp2_with fail
          go_roundw
          case rel => exact ⟨i + 1, by omega, by go_num, H_hset, H_hT6⟩
          case measure => simp [intOf]; omega
    · obtain rfl : i = N := by omega
      have hact : RActs base b v l (outL q i l1) v w wr := by
        refine ⟨H_D.out, H_T.out.mono (fun k hk => .inr (.inl hk)), fun k hk => ?_, fun hd a1 a2 h1 h2 hne k hk1 hk2 => ?_, fun K hK x hx => ?_⟩
        · rcases hk with rfl | hk | ⟨x, hx, hk⟩
          · exact .inl (.inl rfl)
          · exact .inl (.inr (.inl hk))
          · obtain ⟨j, hj, rfl⟩ := List.mem_iff_getElem.1 hx
            have hj1 : j < l1.length := by rw [outL_len] at hj; exact hj
            have hjL : j < l.length := by rw [H_hN.out, ← hlen1]; exact hj1
            obtain ⟨_, e1, e2, _⟩ := outL_par hj
            obtain ⟨e3, e4, _⟩ := H_hav1.out j hj1
            rw [e1, e2, e3] at hk
            rcases hk with hk | hk
            · exact .inl (.inr (.inr ⟨_, List.getElem_mem hjL, .inl hk⟩))
            · rcases e4 with e4 | e4
              · rw [e4] at hk; exact .inl (.inr (.inr ⟨_, List.getElem_mem hjL, .inr hk⟩))
              · rw [e4] at hk; exact .inr (H_hko'.out k hk)
        · have b1 : a1 < l1.length := by rw [outL_len] at h1; exact h1
          have b2 : a2 < l1.length := by rw [outL_len] at h2; exact h2
          rw [(outL_par h1).2.1, (H_hav1.out a1 b1).1] at hk1
          rw [(outL_par h2).2.1, (H_hav1.out a2 b2).1] at hk2
          exact hd a1 a2 _ _ hne k hk1 hk2
        · obtain ⟨j, hj, rfl⟩ := List.mem_iff_getElem.1 hx
          have hj1 : j < l1.length := by rw [outL_len] at hj; exact hj
          obtain ⟨_, _, _, e3, _, e5⟩ := outL_par hj
          rw [e3, e5]
          exact (H_hsz1.out K hK).get hj1
      have H_hact := Lib.hid hact
      clear hact
      have H_hlo := Lib.hid hlo
      clear hlo
      go_wp2_with fail
      go_returns
      exact ⟨rfl, _, H_hrel.out, H_hact.out⟩
end Go.Proofs.YtndlmmpheecleaaGreatDoor

/-
  The reference's document in memory: an element's attributes change.
-/
namespace Lead.Rc
open Go Go.RowKit Lead Lead.Dc Lead.Pk
theorem own_flat {α : Type} {En : Enc α} {W : World} {base : Nat} {e : TypeId} {v : Value} {xs ys : List α} (h : OwnR En W base e v xs) (hl : ys.length = xs.length) (hf : En.flat ys = En.flat xs) : OwnR En W base e v ys := by
  unfold OwnR at h ⊢
  rw [hl, hf]; exact h
theorem own_block {α : Type} {En : Enc α} {W : World} {base : Nat} {e : TypeId} {v : Value} {xs : List α} (h : OwnR En W base e v xs) {k : Nat} (hk : v.ownBlock = some k) : ∃ c, W.heap[k]? = some (.cells c e (0, 0)) := by
  obtain ⟨_, h2⟩ := h
  rcases h2 with ⟨rfl, _⟩ | ⟨g, cap, cur, rfl, _, h5, _⟩
  · cases hk
  · cases hk; exact ⟨cur, h5⟩
theorem own_apart {α β : Type} {En : Enc α} {En' : Enc β} {W : World} {base base' : Nat} {e e' : TypeId} {v v' : Value} {xs : List α} {ys : List β} (h : OwnR En W base e v xs) (h' : OwnR En' W base' e' v' ys) (hne : e ≠ e') : ∀ k, v.ownBlock = some k → v'.ownBlock ≠ some k := fun k h1 h2 => by
  obtain ⟨c, a1⟩ := own_block h h1
  obtain ⟨c', a2⟩ := own_block h' h2
  rw [a1] at a2
  injection a2 with a2
  injection a2 with _ a3 _
  exact hne a3
variable {T : RTys} {base b : Nat} {W W' : World} {v : Value} {l : List ReX}
/-- An element's attributes change in their own row. -/
theorem RDoc.ats0 (h : RDoc T base W b v l) (hT : T.at_ ≠ T.int_) (hD : RDis l) {p : Nat} (hp : p < l.length) {ats : List At} (hk : ∀ k, l[p].av.ownBlock ≠ some k → W'.heap[k]? = W.heap[k]?) (ha : OwnR EAt W' base T.at_ l[p].av ats) :
    RDoc T base W' b v (l.set p { l[p] with ats := ats }) := by
  have hs := h.sub _ (List.getElem_mem hp)
  have hvb : ∀ k, v.ownBlock = some k → l[p].av.ownBlock ≠ some k := fun k h1 h2 => (hs.aq k h2).1 h1
  have hbb : l[p].av.ownBlock ≠ some b := fun h2 => (hs.aq b h2).2 rfl
  refine ⟨(hk b hbb).trans h.box, h.bb, ?_, h.ne, fun x hx => ?_⟩
  · refine own_flat (own_kept h.own (fun k h1 => hk k (hvb k h1))) (List.length_set ..) ?_
    have e : ∀ (m : List ReX) (q : Nat) (hq : q < m.length) (a : List At), ERe.flat (m.set q { m[q] with ats := a }) = ERe.flat m := by
      intro m
      induction m with
      | nil => intro q hq; exact absurd hq (Nat.not_lt_zero _)
      | cons y r ih =>
        intro q hq a
        match q, hq with
        | 0, _ => rfl
        | q + 1, hq =>
          have := ih q (by rw [List.length_cons] at hq; omega) a
          unfold Enc.flat at this ⊢
          rw [List.set_cons_succ, List.flatMap_cons, List.flatMap_cons]
          exact congrArg _ this
    exact e l p hp ats
  · rw [List.mem_iff_getElem] at hx
    obtain ⟨j, hj, rfl⟩ := hx
    rw [List.length_set] at hj
    rw [List.getElem_set]
    split
    · next e =>
      exact ⟨ha, own_kept hs.kids (fun k h1 => hk k (fun h2 => own_apart hs.ats hs.kids hT k h2 h1)), hs.aq, hs.kq⟩
    · next e =>
      have hj' := h.sub _ (List.getElem_mem hj)
      exact ⟨own_kept hj'.ats (fun k h1 => hk k (fun h2 => hD p j hp hj e k h2 h1)), own_kept hj'.kids (fun k h1 => hk k (fun h2 => own_apart hs.ats hj'.kids hT k h2 h1)), hj'.aq, hj'.kq⟩
/-- An element's attributes get another slice. -/
theorem RDoc.ats1 (h : RDoc T base W b v l) (hT : T.at_ ≠ T.int_) (hD : RDis l) {g cap p : Nat} (hv : v = .slice (some ⟨g, 0, none⟩) l.length cap) (hp : p < l.length) {ats : List At} {ao : Option Addr} {al ac : Nat} (hk : ∀ k, k < W.heap.size → l[p].av.ownBlock ≠ some k → W'.heap[k]? = W.heap[k]?)
    (ha : OwnR EAt W' base T.at_ (.slice ao al ac) ats) (ho : ∀ k, (Value.slice ao al ac).ownBlock = some k → l[p].av.ownBlock = some k ∨ W.heap.size ≤ k) :
    RDoc T base (W'.setCell ⟨g, p * 5 + 1, none⟩ (.slice ao al ac)) b v (l.set p { l[p] with ao := ao, al := al, ac := ac, ats := ats }) := by
  obtain ⟨g', cap', hv', hg, hbg, hgb, _⟩ := h.v_form hp
  rw [hv] at hv'
  cases hv'
  have hs := h.sub _ (List.getElem_mem hp)
  have hvb : ∀ k, v.ownBlock = some k → l[p].av.ownBlock ≠ some k := fun k h1 h2 => (hs.aq k h2).1 h1
  have hbb : l[p].av.ownBlock ≠ some b := fun h2 => (hs.aq b h2).2 rfl
  have hvg : v.ownBlock = some g := by rw [hv]; rfl
  have hother : ∀ k, v.ownBlock ≠ some k → (W'.setCell ⟨g, p * 5 + 1, none⟩ (.slice ao al ac)).heap[k]? = W'.heap[k]? := fun k hk' => heap_setCell_other _ _ _ _ (fun e => hk' (by rw [hvg, e]))
  have hlt := h.own.lt
  have ho1 : OwnR ERe W' base T.el v l := own_kept h.own (fun k h1 => hk k (hlt k h1).2 (hvb k h1))
  rw [hv] at ho1
  have ho2 := own_set (En := ERe) (y := { l[p] with ao := ao, al := al, ac := ac, ats := ats }) (q := 1) (u := .slice ao al ac) ho1 hp (by decide) rfl
  have hnew : ∀ k, (Value.slice ao al ac).ownBlock = some k → v.ownBlock ≠ some k ∧ k ≠ b := fun k h1 => by
    rcases ho k h1 with h2 | h2
    · exact hs.aq k h2
    · exact ⟨fun h3 => by have := (hlt k h3).2; omega, by have := h.lt; omega⟩
  refine ⟨(hother b h.ne).trans ((hk b h.lt hbb).trans h.box), h.bb, ?_, h.ne, fun x hx => ?_⟩
  · have e : v = .slice (some ⟨g, 0, none⟩) (l.set p { l[p] with ao := ao, al := al, ac := ac, ats := ats }).length cap := by rw [hv, List.length_set]
    unfold OwnR at ho2 ⊢
    rw [hv]
    exact ho2
  · rw [List.mem_iff_getElem] at hx
    obtain ⟨j, hj, rfl⟩ := hx
    rw [List.length_set] at hj
    have hj' := h.sub _ (List.getElem_mem hj)
    have hkids : OwnR EIn (W'.setCell ⟨g, p * 5 + 1, none⟩ (.slice ao al ac)) base T.int_ l[j].kv l[j].kids :=
      own_kept hj'.kids (fun k h1 => (hother k (hj'.kq k h1).1).trans (hk k (hj'.kids.lt k h1).2 (fun h2 => own_apart hs.ats hj'.kids hT k h2 h1)))
    rw [List.getElem_set]
    split
    · next e =>
      subst e
      exact ⟨own_kept ha (fun k h1 => hother k (hnew k h1).1), hkids, hnew, hj'.kq⟩
    · next e =>
      exact ⟨own_kept hj'.ats (fun k h1 => (hother k (hj'.aq k h1).1).trans (hk k (hj'.ats.lt k h1).2 (fun h2 => hD p j hp hj e k h2 h1))), hkids, hj'.aq, hj'.kq⟩
/-- The elements, one's attributes set. -/
theorem RelD.ats {E : Els} {next : Nat} (h : RelD l E next) {n : Nat} {e : El} (he : elAt E n = some e) (hn : n < l.length) {ats : List At} {y : ReX} (hy : y.nm = l[n].nm ∧ y.ats = ats ∧ y.par = l[n].par ∧ y.kids = l[n].kids ∧ y.inn = l[n].inn) :
    RelD (l.set n y) (atsE E n ats) next := by
  obtain ⟨y1, y2, y3, y4, y5⟩ := hy
  refine ⟨by rw [List.length_set]; exact h.len, fun x f hf => ?_, fun x hx hno => ?_⟩
  · rw [atsE_at] at hf
    split at hf
    · next hx =>
      subst hx
      rw [he] at hf
      cases hf
      obtain ⟨_, a1, a2, a3, a4, a5⟩ := h.el _ e he
      refine ⟨by rw [List.length_set]; exact hn, ?_⟩
      rw [List.getElem_set_self]
      exact ⟨y1.trans a1, y2, y3.trans a3, y4.trans a4, y5.trans a5⟩
    · next hx =>
      obtain ⟨a0, a1⟩ := h.el _ f hf
      refine ⟨by rw [List.length_set]; exact a0, ?_⟩
      rw [List.getElem_set_ne (fun e => hx e.symm)]
      exact a1
  · rw [List.length_set] at hx
    rw [atsE_at] at hno
    split at hno
    · next hx' =>
      subst hx'
      rw [he] at hno; cases hno
    · next hx' =>
      rw [List.getElem_set_ne (fun e => hx' e.symm)]
      exact h.no x hx hno
theorem rattr_at {n : Nat} (hn : n < l.length) (hi : l[n].inn = true) {k : ByteArray} : attrI k (l.map ReX.re) (n : Int) = optI (idxA k l[n].ats) := by
  unfold attrI hasR
  rw [Int.toNat_natCast, List.getElem?_map, List.getElem?_eq_getElem hn, if_pos (by rw [decide_eq_true (Int.natCast_nonneg n)]; exact hi)]
  show (match (idxA k l[n].ats) with | some k => (k : Int) | none => -1) = _
  cases idxA k l[n].ats <;> rfl
end Lead.Rc
