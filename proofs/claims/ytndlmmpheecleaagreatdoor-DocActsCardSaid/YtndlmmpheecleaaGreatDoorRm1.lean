/-
  Walks over the reference's document: Copy.
-/
import Derived.Test.YtndlmmpheecleaaGreatDoorRc3
import Derived.Deep.DeepCutAuto
namespace Lead.Rc
open Go Go.RowKit Lead Lead.Dc
variable {T : RTys} {base base' b be : Nat} {w wr wa w1 w3 w4 w7 : World} {v v' v3 v4 : Value} {l : List ReX} {x : ReX}
/-- One element's box, while it is copied: its rows are as they were read, or new. -/
structure CpB (T : RTys) (W0 W : World) (be : Nat) (nm : ByteArray) (av : Value) (par : Int) (kv : Value) (inn : Bool) : Prop where
  bel : Below W0.heap.size W0 W
  lt : W0.heap.size ≤ be
  box : W.heap[be]? = some (.cells #[.string nm, av, .int .i64 par, kv, .bool inn] T.el (0, 0))
theorem CpB.c {nm : ByteArray} {av kv : Value} {par : Int} {inn : Bool} (h : CpB T w wr be nm av par kv inn) : wr.cell? ⟨be, 0, none⟩ = some (.string nm) ∧ wr.cell? ⟨be, 1, none⟩ = some av ∧ wr.cell? ⟨be, 2, none⟩ = some (.int .i64 par) ∧ wr.cell? ⟨be, 3, none⟩ = some kv ∧ wr.cell? ⟨be, 4, none⟩ = some (.bool inn) ∧ ∀ j, wr.frozen? ⟨be, j, none⟩ = false :=
  ⟨Dc.hcell h.box rfl, Dc.hcell h.box rfl, Dc.hcell h.box rfl, Dc.hcell h.box rfl, Dc.hcell h.box rfl, fun _ => Dc.hfree h.box⟩
/-- A new row is appended to nil. -/
theorem CpB.app {nm : ByteArray} {av kv : Value} {par : Int} {inn : Bool} (h : CpB T w wr be nm av par kv inn) (hg : wr.grownBy w3 none) : CpB T w w3 be nm av par kv inn :=
  ⟨h.bel.grown hg h.bel.size (fun k hk => by cases hk), h.lt, (hg.block be (Dc.hlt h.box) (fun e => by cases e)).trans h.box⟩
theorem CpB.setA {nm : ByteArray} {av kv : Value} {par : Int} {inn : Bool} (h : CpB T w wr be nm av par kv inn) (u : Value) : CpB T w (wr.setCell ⟨be, 1, none⟩ u) be nm u par kv inn :=
  ⟨h.bel.setCell (p := ⟨be, 1, none⟩) h.lt u, h.lt, heap_setCell_same wr be 1 _ _ u h.box⟩
theorem CpB.setK {nm : ByteArray} {av kv : Value} {par : Int} {inn : Bool} (h : CpB T w wr be nm av par kv inn) (u : Value) : CpB T w (wr.setCell ⟨be, 3, none⟩ u) be nm av par u inn :=
  ⟨h.bel.setCell (p := ⟨be, 3, none⟩) h.lt u, h.lt, heap_setCell_same wr be 3 _ _ u h.box⟩
theorem CpB.step {nm : ByteArray} {av kv : Value} {par : Int} {inn : Bool} (h : CpB T w wr be nm av par kv inn) (hb : Below wr.heap.size wr w3) : CpB T w w3 be nm av par kv inn :=
  ⟨below_via h.bel hb, h.lt, (hb.block be (Dc.hlt h.box)).trans h.box⟩
/-- A new row lies behind what was there. -/
theorem new_row {o : Option Addr} {L c : Nat} {k N : Nat} (h : (Value.slice o L c).ownBlock = (Value.slice none 0 0).ownBlock ∨ (Value.slice o L c).ownBlock = some N) (hk : (Value.slice o L c).ownBlock = some k) : k = N := by
  rcases h with h | h
  · rw [h] at hk; cases hk
  · rw [h] at hk; exact (Option.some.inj hk).symm
end Lead.Rc
namespace Go.Proofs.YtndlmmpheecleaaGreatDoor
open Go.RowKit Lead Lead.Dc Lead.Rc
theorem infoAtC : (Tryz.prog.info? 59).map (fun i => (i.zero, i.size, i.bytes)) = some (some (.agg #[.string ⟨#[]⟩, .string ⟨#[]⟩]), 2, 32) := by kernel_rfl
theorem infoIntC : (Tryz.prog.info? 3).map (fun i => (i.zero, i.size, i.bytes)) = some (some (.int .i64 0), 1, 8) := by kernel_rfl
theorem infoReC : (Tryz.prog.info? 62).map (fun i => (i.zero, i.size, i.bytes)) = some (some (.agg #[.string ⟨#[]⟩, .slice none 0 0, .int .i64 0, .slice none 0 0, .bool false]), 5, 80) := by kernel_rfl
set_option maxHeartbeats 8000000 in
set_option maxRecDepth 100000 in
theorem rcopy_any (base b : Nat) (v : Value) (l : List ReX) (w : World) (h : RDoc RT_ base w b v l) (hl : l.length ≤ 900000) (hat : ∀ x ∈ l, x.ats.length ≤ 900000 ∧ x.kids.length ≤ 900000) :
    Calls Tryz.prog 60 #[.pointer (some ⟨b, 0, none⟩)] w fun en w' => ∃ b' v' l', en = .returned (.pointer (some ⟨b', 0, none⟩)) ∧ RDoc RT_ w.heap.size w' b' v' l' ∧ (l'.map ReX.re = l.map ReX.re ∧ RDis l') ∧ Below w.heap.size w w' := by
  obtain ⟨iA, hiA, hzA0, hzA1, hzA2⟩ := info_parts infoAtC
  obtain ⟨iI, hiI, hzI0, hzI1, hzI2⟩ := info_parts infoIntC
  obtain ⟨iR, hiR, hzR0, hzR1, hzR2⟩ := info_parts infoReC
  obtain ⟨ov, cv, hv⟩ := ow_form h.own
  have hc0 := fun (W : World) (hW : Below w.heap.size w W) => (h.keep hW).c0
  simp only [hv] at hc0
  have hcells := fun (W : World) (hW : Below w.heap.size w W) (p : Nat) (hp : p < l.length) => (h.keep hW).v_form hp
  have hbl := h.lt
  obtain ⟨N, hN⟩ : ∃ u, l.length = u := ⟨_, rfl⟩
  rw [hN] at hc0 hl
  clear hcells
  have H_h := Lib.hid h
  clear h
  have H_hat := Lib.hid hat
  clear hat
  have H_hv := Lib.hid hv
  clear hv
  have H_hc0 := Lib.hid hc0
  clear hc0
  have H_hN := Lib.hid hN
  clear hN
  have H_hiA := Lib.hid hiA
  clear hiA
  have H_hzA0 := Lib.hid hzA0
  clear hzA0
  have H_hzA1 := Lib.hid hzA1
  clear hzA1
  have H_hzA2 := Lib.hid hzA2
  clear hzA2
  have H_hiI := Lib.hid hiI
  clear hiI
  have H_hzI0 := Lib.hid hzI0
  clear hzI0
  have H_hzI1 := Lib.hid hzI1
  clear hzI1
  have H_hzI2 := Lib.hid hzI2
  clear hzI2
  have H_hiR := Lib.hid hiR
  clear hiR
  have H_hzR0 := Lib.hid hzR0
  clear hzR0
  have H_hzR1 := Lib.hid hzR1
  clear hzR1
  have H_hzR2 := Lib.hid hzR2
  clear hzR2
  go_enter Tryz.func60, Tryz.ntmps60
  go_wp2_with fail
  go_loopw [4, 5, 6, 7] (fun t4 _ _ _ wr => ∃ (i : Nat) (v' : Value) (l' : List ReX), i ≤ N ∧ t4 = .int .i64 i ∧ RowKit.Hid (RDoc RT_ w.heap.size wr w.heap.size v' l') ∧ RowKit.Hid (l'.map ReX.re = (l.map ReX.re).take i ∧ RDis l') ∧ Below w.heap.size w wr) (fun t4 _ _ _ _ => N - (intOf t4).toNat)
  case atStart =>
    refine ⟨0, .slice none 0 0, [], Nat.zero_le _, rfl, Lib.hid ⟨heap_alloc_new _ _, Nat.le_refl _, OwnR.nil _ _ _ _, (fun e => by cases e), fun x hx => by cases hx⟩, Lib.hid ⟨rfl, RDis.nil⟩, by repeat' (first | (with_reducible first | exact bwR _ _ | assumption | refine bdn ?_ | refine bwA ?_ ?_ _ | refine bwD ?_ | refine bwS ?_ ?_ _) | omega | (simp <;> omega))⟩
  case round =>
    obtain ⟨i, v', l', hi, rfl, H_R, H_m, hB⟩ := hrel
    have hzr := hB.size
    have c0 := H_hc0.out wr hB
    by_cases hlt : i < N
    · have hil : i < l.length := by rw [H_hN.out]; exact hlt
      have hr := H_h.out.keep hB
      obtain ⟨g, cap, hv2, hgw, _⟩ := hr.v_form hil
      have hv3 := hv2
      rw [H_hv.out] at hv3
      injection hv3 with ho3 _ hc3
      subst ho3 hc3
      obtain ⟨q0, q1, q2, q3, q4⟩ := hr.cells hv2 hil
      have hsub := hr.sub _ (List.getElem_mem hil)
      have hatx := H_hat.out _ (List.getElem_mem hil)
      have hre : (l.map ReX.re)[i]'(by rw [List.length_map]; exact hil) = l[i].re := List.getElem_map _
      obtain ⟨x, hx⟩ : ∃ x, l[i] = x := ⟨_, rfl⟩
      rw [hx] at q0 q1 q2 q3 q4 hsub hatx hre
      obtain ⟨nm, ao, al, ac, ats, par, ko, kl, kc, kids, inn⟩ := x
      have hSA : SlA EAt wr ao al ac ats := Rc.sla_of (show OwnR EAt wr base 59 (.slice ao al ac) ats from hsub.ats)
      have hSK : SlA EIn wr ko kl kc kids := Rc.sla_of (show OwnR EIn wr base 3 (.slice ko kl kc) kids from hsub.kids)
      have gi : IntKind.i64.wrap ((i : Int) + 1) = ((i + 1 : Nat) : Int) := IntWalk.i64_in _ (by omega)
      have giN : (i : Int) < (N : Int) := by omega
      have hR0 := H_R.out.keep (Below.refl _ _)
      clear hsub hr hv2
      have H_hSA := Lib.hid hSA
      clear hSA
      have H_hSK := Lib.hid hSK
      clear hSK
      have H_hx := Lib.hid hx
      clear hx
      have H_hre := Lib.hid hre
      clear hre
      have H_hatx := Lib.hid hatx
      clear hatx
      go_upto_region 8 with fail
      have hC : CpB RT_ wr (wr.alloc (.cells #[.string nm, .slice ao al ac, .int .i64 par, .slice ko kl kc, .bool inn] 62)) wr.heap.size nm (.slice ao al ac) par (.slice ko kl kc) inn := ⟨(Below.refl _ _).alloc (Nat.le_refl _) _, Nat.le_refl _, heap_alloc_new _ _⟩
      generalize wr.alloc (.cells #[.string nm, .slice ao al ac, .int .i64 par, .slice ko kl kc, .bool inn] 62) = wa at hC ⊢
      have hSAa := H_hSA.out.keep hC.bel rfl
      have hla : wr.heap.size < wa.heap.size := Dc.hlt hC.box
      obtain ⟨x0, x1, x2, x3, x4, xf⟩ := hC.c
      have sa : w.heap.size ≤ wa.heap.size := by omega
      have hat1 : ats.length ≤ 900000 := H_hatx.out.1
      have hat2 : kids.length ≤ 900000 := H_hatx.out.2
      clear q0 q1 q2 q3 q4 c0
      have H_hC := Lib.hid hC
      clear hC
      have H_hSAa := Lib.hid hSAa
      clear hSAa
      go_wp2_with (at_builtin; refine wp_append_sla rfl (.tmp 26) (.tmp 28) 22 rfl EAt w.heap.size 59 iA _ 32 Tryz.underlying22 H_hiA.out H_hzA0.out H_hzA1.out H_hzA2.out rfl (by decide) (.slice none 0 0) [] rfl ao al ac ats rfl H_hSAa.out ?b1 (OwnR.nil _ _ _ _) sa ?_)
      case b1 => first | omega | (rw [List.length_nil]; omega)
      intro v3 w3 hv3' hA3 hg3 ho3
      have hv3 : OwnR EAt w3 w.heap.size 59 v3 ats := hv3'
      obtain ⟨o3, c3, rfl⟩ := ow_form hv3
      have hC3 : CpB RT_ wr w3 wr.heap.size nm (.slice ao al ac) par (.slice ko kl kc) inn := H_hC.out.app hg3
      have hC4 := hC3.setA (.slice o3 ats.length c3)
      have hn3 : ∀ k, (Value.slice o3 ats.length c3).ownBlock = some k → k = wa.heap.size := fun k hk => new_row ho3 hk
      have hv4 : OwnR EAt (w3.setCell ⟨wr.heap.size, 1, none⟩ (.slice o3 ats.length c3)) w.heap.size 59 (.slice o3 ats.length c3) ats := own_kept hv3 fun k hk => heap_setCell_other _ ⟨wr.heap.size, 1, none⟩ k _ (by have := hn3 k hk; show k ≠ wr.heap.size; omega)
      obtain ⟨y0, y1, y2, y3, y4, yf⟩ := hC3.c
      have hl3 : wa.heap.size ≤ w3.heap.size := hg3.size
      obtain ⟨L3, hL3⟩ : ∃ u, ats.length = u := ⟨_, rfl⟩
      rw [hL3] at hC4 hv4 hn3 ⊢
      clear hv3' hv3 hA3 hg3 ho3 hC3 x0 x1 x2 x3 x4 xf
      have H_hC4 := Lib.hid hC4
      clear hC4
      have H_hv4 := Lib.hid hv4
      clear hv4
      have H_hn3 := Lib.hid hn3
      clear hn3
      have H_hL3 := Lib.hid hL3
      clear hL3
      go_upto_region 9 with fail
      generalize w3.setCell ⟨wr.heap.size, 1, none⟩ (.slice o3 L3 c3) = wb at H_hC4 H_hv4 ⊢
      clear y0 y1 y2 y3 y4 yf
      have hSKb := H_hSK.out.keep H_hC4.out.bel rfl
      obtain ⟨x0, x1, x2, x3, x4, xf⟩ := H_hC4.out.c
      have hlb : wr.heap.size < wb.heap.size := Dc.hlt H_hC4.out.box
      have sb : w.heap.size ≤ wb.heap.size := by omega
      have H_hSKb := Lib.hid hSKb
      clear hSKb
      go_wp2_with (at_builtin; refine wp_append_sla rfl (.tmp 31) (.tmp 33) 60 rfl EIn w.heap.size 3 iI _ 8 Tryz.underlying60 H_hiI.out H_hzI0.out H_hzI1.out H_hzI2.out rfl (by decide) (.slice none 0 0) [] rfl ko kl kc kids rfl H_hSKb.out ?b1 (OwnR.nil _ _ _ _) sb ?_)
      case b1 => first | omega | (rw [List.length_nil]; omega)
      intro v5 w5 hv5' hA5 hg5 ho5
      have hv5 : OwnR EIn w5 w.heap.size 3 v5 kids := hv5'
      obtain ⟨o5, c5, rfl⟩ := ow_form hv5
      have hC5 : CpB RT_ wr w5 wr.heap.size nm (.slice o3 L3 c3) par (.slice ko kl kc) inn := H_hC4.out.app hg5
      have hC6 := hC5.setK (.slice o5 kids.length c5)
      have hn5 : ∀ k, (Value.slice o5 kids.length c5).ownBlock = some k → k = wb.heap.size := fun k hk => new_row ho5 hk
      have hv6 : OwnR EIn (w5.setCell ⟨wr.heap.size, 3, none⟩ (.slice o5 kids.length c5)) w.heap.size 3 (.slice o5 kids.length c5) kids := own_kept hv5 fun k hk => heap_setCell_other _ ⟨wr.heap.size, 3, none⟩ k _ (by have := hn5 k hk; show k ≠ wr.heap.size; omega)
      have hv46 : OwnR EAt (w5.setCell ⟨wr.heap.size, 3, none⟩ (.slice o5 kids.length c5)) w.heap.size 59 (.slice o3 L3 c3) ats := own_kept H_hv4.out fun k hk => (heap_setCell_other _ ⟨wr.heap.size, 3, none⟩ k _ (by have := H_hn3.out k hk; show k ≠ wr.heap.size; omega)).trans (hg5.block k (H_hv4.out.lt k hk).2 (fun e => by cases e))
      obtain ⟨y0, y1, y2, y3, y4, yf⟩ := hC5.c
      have hl5 : wb.heap.size ≤ w5.heap.size := hg5.size
      obtain ⟨L5, hL5⟩ : ∃ u, kids.length = u := ⟨_, rfl⟩
      rw [hL5] at hC6 hv6 hv46 hn5 ⊢
      clear hv5' hv5 hA5 hg5 ho5 hC5 x0 x1 x2 x3 x4 xf
      have H_hC6 := Lib.hid hC6
      clear hC6
      have H_hv6 := Lib.hid hv6
      clear hv6
      have H_hv46 := Lib.hid hv46
      clear hv46
      have H_hn5 := Lib.hid hn5
      clear hn5
      have H_hL5 := Lib.hid hL5
      clear hL5
      go_upto_region 10 with fail
      generalize w5.setCell ⟨wr.heap.size, 3, none⟩ (.slice o5 L5 c5) = wc at H_hC6 H_hv6 H_hv46 ⊢
      clear y0 y1 y2 y3 y4 yf
      have hRc := H_R.out.keep H_hC6.out.bel
      have hlR := H_R.out.lt
      have hoR := H_R.out.own.lt
      have hsubc : SubOk RT_ w.heap.size wc (fun k => v'.ownBlock ≠ some k ∧ k ≠ w.heap.size) ⟨nm, o3, L3, c3, ats, par, o5, L5, c5, kids, inn⟩ :=
        ⟨H_hv46.out, H_hv6.out, fun k hk => ⟨fun e => by have h1 := (hoR k e).2; have h2 := H_hn3.out k hk; omega, by have h2 := H_hn3.out k hk; omega⟩, fun k hk => ⟨fun e => by have h1 := (hoR k e).2; have h2 := H_hn5.out k hk; omega, by have h2 := H_hn5.out k hk; omega⟩⟩
      have hdis : RDis (l' ++ [(⟨nm, o3, L3, c3, ats, par, o5, L5, c5, kids, inn⟩ : ReX)]) := H_m.out.2.app fun k hk y hy h1 => by
        have h2 := H_hn3.out k hk
        have h3 := ((H_R.out.sub y hy).ats.lt k h1).2
        omega
      have hmm : (l' ++ [(⟨nm, o3, L3, c3, ats, par, o5, L5, c5, kids, inn⟩ : ReX)]).map ReX.re = (l.map ReX.re).take (i + 1) := by
        rw [List.take_succ_eq_append_getElem (by rw [List.length_map]; exact hil), List.map_append, H_m.out.1, H_hre.out]; rfl
      have hml : l'.length + 1 ≤ 1000000 := by
        have h := congrArg List.length H_m.out.1
        rw [List.length_map, List.length_take] at h
        omega
      obtain ⟨z0, z1, z2, z3, z4, zf⟩ := H_hC6.out.c
      have c0c := hRc.c0
      have f0c := hRc.fr
      have zbl := hRc.lt
      have hlc : wr.heap.size < wc.heap.size := Dc.hlt H_hC6.out.box
      have hBc : Below w.heap.size w wc := below_via hB H_hC6.out.bel
      have hBrc := H_hC6.out.bel
      clear hoR
      have H_hRc := Lib.hid hRc
      clear hRc
      have H_hsubc := Lib.hid hsubc
      clear hsubc
      have H_hdis := Lib.hid hdis
      clear hdis
      have H_hmm := Lib.hid hmm
      clear hmm
      have H_hml := Lib.hid hml
      clear hml
      have H_hBrc := Lib.hid hBrc
      clear hBrc
      go_region_law (((refine step_append_told rfl (.tmp 40) (.tmp 42) 63 rfl ERe w.heap.size 62 iR _ 80 Tryz.underlying63 H_hiR.out H_hzR0.out H_hzR1.out H_hzR2.out rfl (by decide) v' l' rfl _ 0 1 1 [⟨nm, o3, L3, c3, ats, par, o5, L5, c5, kids, inn⟩] rfl rfl ?a2 ?a3 ?a4 ?a5 ?_); (case a2 => exact H_hml.out); (case a3 => first | exact H_hRc.out.own.alloc _ | exact (H_hRc.out.own.keep (Below.refl _ _).drew).alloc _ | exact (H_hRc.out.own.alloc _).keep (Below.refl _ _).drew); (case a4 => first | exact row_one (vs := #[.string nm, .slice o3 L3 c3, .int .i64 par, .slice o5 L5 c5, .bool inn]) rfl (fun j => World.cell?_alloc_new _ _ _ _) | exact row_one (vs := #[.string nm, .slice o3 L3 c3, .int .i64 par, .slice o5 L5 c5, .bool inn]) rfl (fun j => by rw [World.cell?_drew]; exact World.cell?_alloc_new _ _ _ _)); (case a5 => simp; omega); intro v7 w7 hv7 hA7 hg7 ho7; have hend := after7 H_hRc.out H_hsubc.out hv7 hg7 ho7 (by repeat' (first | (with_reducible first | exact bwR _ _ | assumption | refine bdn ?_ | refine bwA ?_ ?_ _ | refine bwD ?_ | refine bwS ?_ ?_ _) | omega | (simp <;> omega))); obtain ⟨o7, c7, h7⟩ := ow_form hv7; rw [List.length_append, show ([_] : List ReX).length = 1 from rfl] at h7; subst h7; obtain ⟨⟨e7, x7⟩, hend⟩ := hend; have H_hend := Lib.hid hend; clear hend hv7 hA7 hg7 ho7))
      all_goals
        go_wp2_with fail
        go_roundw
        case rel =>
          obtain ⟨hR8, hB8⟩ := H_hend.out _ (by first | exact Below.refl _ _ | exact (Below.refl _ _).drew)
          exact ⟨i + 1, _, _, by omega, by go_num, hR8, ⟨H_hmm.out, H_hdis.out⟩, hBc.trans hB8⟩
        case measure => simp [intOf]; omega
    · obtain rfl : N = i := by omega
      have hall : (l.map ReX.re).take N = l.map ReX.re := List.take_of_length_le (by rw [List.length_map, H_hN.out]; exact Nat.le_refl _)
      have hm := H_m.out
      rw [hall] at hm
      clear hall
      have H_hm := Lib.hid hm
      clear hm
      go_wp2_with fail
      go_returns
      exact ⟨_, v', l', rfl, H_R.out, H_hm.out, hB⟩
end Go.Proofs.YtndlmmpheecleaaGreatDoor
