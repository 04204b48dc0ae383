/-
  Walks over the reference's document: Fitting.
-/
import Derived.Test.YteaipondofbecaaGreatDoorRc6
import Derived.Test.YteaipondofbecaaGreatDoorPke
import Derived.Deep.OwnRows
namespace Lead.Rc
open Go Go.RowKit Lead Lead.Dc Lead.Pk
/-- A step of the reference, as it lies. -/
structure SrX where
  nm : By
  wo : Option Addr
  wl : Nat
  wc : Nat
  ws : List Wn
  right : Bool
def SrX.st (x : SrX) : St := ⟨x.nm, x.ws, x.right⟩
def ESr : Enc SrX := ⟨fun x => [.string (bs x.nm), .slice x.wo x.wl x.wc, .bool x.right], 3, fun _ => rfl, fun x u h => by simp at h; rcases h with rfl | rfl | rfl <;> rfl, by decide⟩
/-- Which ones fit the first steps. -/
def fitK (E : Els) (ss : List St) : Nat → Nat → Bool
  | 0, _ => false
  | i + 1, j => fitsR E (ss.take (i + 1)).reverse j
theorem fitK_succ {E : Els} {next : Nat} {d : Nat → Nat} (g : Good E next d) {ss : List St} {i n : Nat} {e : El} (hi : i < ss.length) (he : elAt E n = some e) :
    fitK E ss (i + 1) n = (stF e ss[i] && (decide (i = 0) || upF ss[i].right (upZ E e.parent) (fitK E ss i))) := by
  show fitsR E (ss.take (i + 1)).reverse n = _
  rw [take_rev ss hi, fitsR_eq g he]
  congr 1
  cases i with
  | zero => simp
  | succ i =>
    have h1 : (ss.take (i + 1)).reverse.isEmpty = false := by
      rw [List.isEmpty_reverse, List.isEmpty_eq_false_iff]
      intro h
      have := congrArg List.length h
      rw [List.length_take, List.length_nil] at this
      omega
    rw [h1, decide_eq_false (by omega)]; rfl
/-- A row of Booleans. -/
def bR (f : Nat → Bool) : Nat → Value := fun j => .bool (f j)
/-- What a round of the middle loop has told. -/
def mid (F : Nat → Bool) (n : Nat) (acc : Bool) : Nat → Bool := fun j => (decide (j < n) && F j) || (decide (j = n) && acc)
theorem mid_next {F : Nat → Bool} {n : Nat} {acc : Bool} (h : F n = acc) (j : Nat) : mid F n acc j = mid F (n + 1) false j := by
  unfold mid
  rw [Bool.and_false, Bool.or_false]
  by_cases hj : j = n
  · subst hj; rw [decide_eq_false (Nat.lt_irrefl j), decide_eq_true rfl, decide_eq_true (Nat.lt_succ_self j), h]; simp
  · rw [decide_eq_false hj]
    by_cases h1 : j < n
    · rw [decide_eq_true h1, decide_eq_true (by omega : j < n + 1)]; simp
    · rw [decide_eq_false h1, decide_eq_false (by omega : ¬ j < n + 1)]; simp
theorem row_set {W : World} {b : Nat} {t : TypeId} {N n : Nat} {F : Nat → Bool} {acc : Bool} (h : W.rowIs b t N (bR (mid F n acc))) : (W.setCell ⟨b, n, none⟩ (.bool true)).rowIs b t N (bR (mid F n true)) :=
  (h.set n (.bool true)).congr fun j _ => by
    unfold bR mid
    by_cases hj : j = n
    · rw [if_pos hj, hj]; simp
    · rw [if_neg hj, decide_eq_false hj]; simp
end Lead.Rc
namespace Go.Proofs.YteaipondofbecaaGreatDoor
open Go.RowKit Lead Lead.Dc Lead.Pk Lead.Rc
theorem infoBoR : (Tryz.prog.info? 4).map (fun i => (i.zero, i.size, i.bytes)) = some (some (.bool false), 1, 1) := by kernel_rfl
set_option maxHeartbeats 8000000 in
set_option maxRecDepth 100000 in
theorem rfitting_any (base b : Nat) (v : Value) (l : List ReX) (E : Els) (next : Nat) (d : Nat → Nat) (lo : Option Addr) (ll lc : Nat) (ls : List SrX) (w : World) (h : RDoc RT_ base w b v l) (hl0 : 0 < l.length) (hl : l.length ≤ 1000) (g : Lead.Dc.Good E next d)
    (hE : ∀ n (hn : n < l.length), ∃ e, elAt E n = some e ∧ l[n].nm = e.name ∧ l[n].ats = e.attrs ∧ l[n].par = e.parent ∧ l[n].inn = true) (hEn : ∀ p e, elAt E p = some e → p < l.length) (hat : ∀ n e, elAt E n = some e → ∀ a ∈ e.attrs, a.2.size ≤ 100000)
    (hS : SlA ESr w lo ll lc ls) (hw : ∀ x ∈ ls, SlA EWs w x.wo x.wl x.wc x.ws ∧ ∀ u ∈ x.ws, isSg u.sign = true ∧ u.name ≠ []) :
    Calls Tryz.prog 88 #[.pointer (some ⟨b, 0, none⟩), .slice lo ll lc] w fun en w' => ∃ gf, en = .returned (.slice (some ⟨gf, 0, none⟩) l.length l.length) ∧ w.heap.size ≤ gf ∧ gf < w'.heap.size ∧ w'.rowIs gf 4 l.length (bR (fitK E (ls.map SrX.st) ls.length)) ∧ Below w.heap.size w w' := by
  obtain ⟨gd, cap, hv, hgd, _⟩ := h.v_form hl0
  subst hv
  have hC := fun (W : World) (hW : Below w.heap.size w W) (n : Nat) (hn : n < l.length) => (h.keep hW).cells rfl hn
  have c0 := h.c0
  have hbl := h.lt
  obtain ⟨N, hN⟩ : ∃ u, l.length = u := ⟨_, rfl⟩
  have hmk := fun W => run_make_row' (P := Tryz.prog) 158 4 (.bool false) 1 Tryz.underlying158 infoBoR rfl .i64 .i64 N (by omega) (by omega) W
  rw [hN] at c0 hl0 hl
  rw [hN]
  have hNs : (0 : Int) ≤ (N : Int) := by omega
  have hlm : ll ≤ 9223372036854775807 := by have h := hS.2.2.1; have h' := hS.2.1; unfold maxLen at h; omega
  obtain ⟨ss, hss⟩ : ∃ u, ls.map SrX.st = u := ⟨_, rfl⟩
  have hsl : ss.length = ll := by rw [← hss, List.length_map]; exact hS.1.symm
  rw [hss, ← hS.1]
  have H_h := Lib.hid h
  clear h
  have H_hC := Lib.hid hC
  clear hC
  have H_g := Lib.hid g
  clear g
  have H_hE := Lib.hid hE
  clear hE
  have H_hEn := Lib.hid hEn
  clear hEn
  have H_hat := Lib.hid hat
  clear hat
  have H_hS := Lib.hid hS
  clear hS
  have H_hw := Lib.hid hw
  clear hw
  have H_hN := Lib.hid hN
  clear hN
  have H_hss := Lib.hid hss
  clear hss
  have H_hsl := Lib.hid hsl
  clear hsl
  go_enter Tryz.func88, Tryz.ntmps88
  go_wp2_with fail
  go_loopw [5, 6] (fun t5 t6 wr => ∃ (i gf : Nat), i ≤ ll ∧ t6 = .int .i64 i ∧ t5 = .slice (some ⟨gf, 0, none⟩) N N ∧ w.heap.size ≤ gf ∧ gf < wr.heap.size ∧ RowKit.Hid (wr.rowIs gf 4 N (bR (fitK E ss i))) ∧ Below w.heap.size w wr) (fun _ t6 _ => ll - (intOf t6).toNat)
  case atStart => exact ⟨0, _, Nat.zero_le _, rfl, rfl, Nat.le_refl _, by simp, Lib.hid (World.rowIs_made w (.bool false) N 4), by repeat' (first | (with_reducible first | exact bwR _ _ | assumption | refine bdn ?_ | refine bwA ?_ ?_ _ | refine bwD ?_ | refine bwS ?_ ?_ _) | omega | (simp <;> omega))⟩
  case round =>
    obtain ⟨i, gf, hi, rfl, rfl, hgf, hgfw, H_f, hB⟩ := hrel
    obtain ⟨wo', rfl⟩ : ∃ u, u = wr := ⟨_, rfl⟩
    have c0r : wo'.cell? ⟨b, 0, none⟩ = some (.slice (some ⟨gd, 0, none⟩) N cap) := (hB.cell (p := ⟨b, 0, none⟩) hbl).trans c0
    have hzr := hB.size
    by_cases hlt : i < ll
    · have hi' : i < ls.length := by have := H_hS.out.1; omega
      have his : i < ss.length := by rw [H_hsl.out]; exact hlt
      obtain ⟨gs, offs, rfl, hgs, hrow⟩ := H_hS.out.2.2.2.resolve_left (by intro h; rw [h] at hi'; simp at hi')
      have hcs := fun (W : World) (hW : Below w.heap.size w W) (q : Nat) (u : Value) (hq : (ESr.enc ls[i])[q]? = some u) => (hrow.keep hW hgs) i hi' q u hq
      have hwx := H_hw.out _ (List.getElem_mem hi')
      have hxs : ss[i] = (ls[i]).st := by simp only [← H_hss.out, List.getElem_map]
      have hfk := fun (n : Nat) (e : El) (he : elAt E n = some e) => fitK_succ H_g.out (i := i) his he
      simp only [hxs] at hfk
      obtain ⟨x, hx⟩ : ∃ x, ls[i] = x := ⟨_, rfl⟩
      rw [hx] at hcs hwx
      simp only [hx] at hfk
      obtain ⟨nm, wo, wl, wc, ws, rt⟩ := x
      have hcs' : ∀ W, Below w.heap.size w W → W.cell? ⟨gs, offs + i * 3, none⟩ = some (.string (bs nm)) ∧ W.cell? ⟨gs, offs + i * 3 + 1, none⟩ = some (.slice wo wl wc) ∧ W.cell? ⟨gs, offs + i * 3 + 2, none⟩ = some (.bool rt) := fun W hW => ⟨hcs W hW 0 _ rfl, hcs W hW 1 _ rfl, hcs W hW 2 _ rfl⟩
      have gi : IntKind.i64.wrap ((i : Int) + 1) = ((i + 1 : Nat) : Int) := IntWalk.i64_in _ (by omega)
      have gil : (i : Int) < (ll : Int) := by omega
      have hm0 := World.rowIs_made wo' (.bool false) N 4
      have hBm : Below wo'.heap.size wo' (wo'.alloc (.cells (madeCells #[.bool false] N) 4)) := (Below.refl _ _).alloc (Nat.le_refl _) _
      clear hcs hrow
      obtain ⟨F, hF⟩ : ∃ F, fitK E ss (i + 1) = F := ⟨_, rfl⟩
      obtain ⟨G, hG⟩ : ∃ G, fitK E ss i = G := ⟨_, rfl⟩
      rw [hG] at H_f
      simp only [hF, hG] at hfk
      have H_hwx := Lib.hid hwx
      clear hwx
      have H_hxs := Lib.hid hxs
      clear hxs
      have H_hfk := Lib.hid hfk
      clear hfk
      have H_hx := Lib.hid hx
      clear hx
      have H_hcs' := Lib.hid hcs'
      clear hcs'
      have H_hm0 := Lib.hid hm0
      clear hm0
      have H_hF := Lib.hid hF
      clear hF
      have H_hG := Lib.hid hG
      clear hG
      go_wp2_with fail
      go_loopw [8] (fun t8 wm => ∃ n : Nat, n ≤ N ∧ t8 = .int .i64 n ∧ Below wo'.heap.size wo' wm ∧ wo'.heap.size < wm.heap.size ∧ RowKit.Hid (wm.rowIs wo'.heap.size 4 N (bR (mid F n false)))) (fun t8 _ => N - (intOf t8).toNat)
      case atStart => exact ⟨0, Nat.zero_le _, rfl, hBm, by simp, Lib.hid (H_hm0.out.congr fun j _ => by unfold bR mid; simp)⟩
      case round =>
        obtain ⟨n, hn, rfl, hM, hMl, H_m⟩ := hrel
        have hMw : Below w.heap.size w wr := hB.trans (hM.mono hzr)
        have c0m : wr.cell? ⟨b, 0, none⟩ = some (.slice (some ⟨gd, 0, none⟩) N cap) := (hMw.cell (p := ⟨b, 0, none⟩) hbl).trans c0
        by_cases hnlt : n < N
        · have hnl : n < l.length := by rw [H_hN.out]; exact hnlt
          obtain ⟨e, he, h1, h2, h3, h4⟩ := H_hE.out n hnl
          obtain ⟨_, _, q2, _, q4⟩ := H_hC.out wr hMw n hnl
          rw [h3] at q2
          rw [h4] at q4
          obtain ⟨s0, s1, s2⟩ := H_hcs'.out wr hMw
          have cSt := fun (W : World) (hW : Below w.heap.size w W) => rstepfits_any base b _ l n ⟨nm, ws, rt⟩ wo wl wc W (H_h.out.keep hW) hnl (by rw [H_hN.out]; omega) h4 (H_hwx.out.1.keep hW rfl) H_hwx.out.2 (by rw [h2]; exact H_hat.out n e he)
          rw [h1, h2] at cSt
          have cSt' : ∀ (W : World), Below w.heap.size w W → Calls Tryz.prog 131 #[.pointer (some ⟨b, 0, none⟩), .agg #[.string (bs nm), .slice wo wl wc, .bool rt], .int .i64 (n : Int)] W fun en w' => en = .returned (.bool (stF e ⟨nm, ws, rt⟩)) ∧ Below W.heap.size W w' := cSt
          have hfn := H_hfk.out n e he
          have hfn' : F n = (stF e ⟨nm, ws, rt⟩ && (decide (i = 0) || upF rt (upZ E e.parent) G)) := hfn
          obtain ⟨sf, hsf⟩ : ∃ u, stF e ⟨nm, ws, rt⟩ = u := ⟨_, rfl⟩
          rw [hsf] at cSt' hfn'
          have gn : IntKind.i64.wrap ((n : Int) + 1) = ((n + 1 : Nat) : Int) := IntWalk.i64_in _ (by omega)
          have gnl : (n : Int) < (N : Int) := by omega
          have hpq := par_ok H_g.out he
          clear cSt hfn
          have H_cSt' := Lib.hid cSt'
          clear cSt'
          have H_hfn' := Lib.hid hfn'
          clear hfn'
          have H_hsf := Lib.hid hsf
          clear hsf
          have H_he := Lib.hid he
          clear he
          have H_h1 := Lib.hid h1
          clear h1
          have H_h2 := Lib.hid h2
          clear h2
          have H_h3 := Lib.hid h3
          clear h3
          have H_h4 := Lib.hid h4
          clear h4
          have H_hpq := Lib.hid hpq
          clear hpq
          go_wp2_with fail
          refine (H_cSt'.out _ hMw).mono ?_
          rintro _ w5 ⟨rfl, hb5⟩
          have hM5 : Below wo'.heap.size wo' w5 := hM.trans (hb5.mono (Nat.le_of_lt hMl))
          have hM5w : Below w.heap.size w w5 := hB.trans (hM5.mono hzr)
          have hMl5 : wo'.heap.size < w5.heap.size := Nat.lt_of_lt_of_le hMl hb5.size
          have hr5 := H_m.out.of_block (hb5.block _ hMl)
          have c05 : w5.cell? ⟨b, 0, none⟩ = some (.slice (some ⟨gd, 0, none⟩) N cap) := (hM5w.cell (p := ⟨b, 0, none⟩) hbl).trans c0
          clear hb5 H_m c0m q2 q4 s0 s1 s2
          cases sf with
          | false =>
            have hrn := hr5.congr fun j _ => congrArg Value.bool (mid_next (F := F) (n := n) (acc := false) (by rw [H_hfn'.out]; rfl) j)
            have H_hr5 := Lib.hid hr5
            clear hr5
            have H_hrn := Lib.hid hrn
            clear hrn
            go_wp2_with fail
            go_roundw
            case rel => exact ⟨n + 1, by omega, by go_num, hM5, hMl5, H_hrn⟩
            case measure => simp [intOf]; omega
          | true =>
            have hc5 := hr5.cell hnlt
            have hf5 := hr5.frozen n
            by_cases hi0 : i = 0
            · have g0 : ((i : Int) == 0) = true := by rw [hi0]; rfl
              have hrn := (row_set hr5).congr fun j _ => congrArg Value.bool (mid_next (F := F) (n := n) (acc := true) (by rw [H_hfn'.out, decide_eq_true hi0]; rfl) j)
              have H_hr5 := Lib.hid hr5
              clear hr5
              have H_hrn := Lib.hid hrn
              clear hrn
              have H_hi0 := Lib.hid hi0
              clear hi0
              go_wp2_with fail
              go_roundw
              case rel => exact ⟨n + 1, by omega, by go_num, hM5.setCell (p := ⟨wo'.heap.size, n, none⟩) (Nat.le_refl _) _, by rw [World.size_setCell]; exact hMl5, H_hrn⟩
              case measure => simp [intOf]; omega
            · have g0 : ((i : Int) == 0) = false := by rw [beq_eq_false_iff_ne]; omega
              obtain ⟨_, _, q2, _, _⟩ := H_hC.out w5 hM5w n hnl
              rw [H_h3.out] at q2
              have hfn2 : F n = upF rt (upZ E e.parent) G := by rw [H_hfn'.out, decide_eq_false hi0]; rfl
              obtain ⟨z, hz⟩ : ∃ u, e.parent = u := ⟨_, rfl⟩
              have hpq' := H_hpq.out
              rw [hz] at q2 hfn2 hpq'
              have H_hr5 := Lib.hid hr5
              clear hr5
              have H_hi0 := Lib.hid hi0
              clear hi0
              have H_hz := Lib.hid hz
              clear hz
              have H_hfn2 := Lib.hid hfn2
              clear hfn2
              have H_hpq' := Lib.hid hpq'
              clear hpq'
              clear hc5 hf5
              go_wp2_with fail
              go_loopw [10] (fun t10 wi => ∃ (y : Int) (acc : Bool), t10 = .int .i64 y ∧ Below wo'.heap.size wo' wi ∧ wo'.heap.size < wi.heap.size ∧ RowKit.Hid (parOk E y ∧ F n = (acc || upF rt (upZ E y) G)) ∧ RowKit.Hid (wi.rowIs wo'.heap.size 4 N (bR (mid F n acc)))) (fun t10 _ => if 0 ≤ intOf t10 then d (intOf t10).toNat else 0)
              case atStart => exact ⟨z, false, rfl, hM5, hMl5, Lib.hid ⟨H_hpq'.out.1, by rw [H_hfn2.out]; rfl⟩, H_hr5⟩
              case round =>
                obtain ⟨y, acc, rfl, hI, hIl, H_y, H_r⟩ := hrel
                have hIw : Below w.heap.size w wr := hB.trans (hI.mono hzr)
                have c0i : wr.cell? ⟨b, 0, none⟩ = some (.slice (some ⟨gd, 0, none⟩) N cap) := (hIw.cell (p := ⟨b, 0, none⟩) hbl).trans c0
                rcases H_y.out.1 with rfl | ⟨p, f, rfl, hfp⟩
                · have hacc : F n = acc := by rw [H_y.out.2, upZ_neg, upF_nil, Bool.or_false]
                  have hrn := H_r.out.congr fun j _ => congrArg Value.bool (mid_next (F := F) (n := n) (acc := acc) hacc j)
                  have H_hrn := Lib.hid hrn
                  clear hrn
                  have H_hacc := Lib.hid hacc
                  clear hacc
                  go_wp2_with fail
                  go_roundw
                  case rel => exact ⟨n + 1, by omega, by go_num, hI, hIl, H_hrn⟩
                  case measure => simp [intOf]; omega
                · have hpN : p < N := by have := H_hEn.out p f hfp; rw [H_hN.out] at this; exact this
                  have hpl : p < l.length := by rw [H_hN.out]; exact hpN
                  have hp0 : (0 : Int) ≤ (p : Int) := by omega
                  have gpN : (p : Int) < (N : Int) := by omega
                  obtain ⟨f', hf', _, _, k3, _⟩ := H_hE.out p hpl
                  obtain rfl : f = f' := by rw [hfp] at hf'; injection hf'
                  have hfit : wr.cell? ⟨gf, p, none⟩ = some (.bool (G p)) := (H_f.out.of_block (hI.block gf hgfw)).cell hpN
                  have hFn := H_y.out.2
                  rw [upZ_nat, ups_eq H_g.out hfp] at hFn
                  have hpp := par_ok H_g.out hfp
                  have hcr := H_r.out.cell hnlt
                  have hfr := H_r.out.frozen n
                  have hset := row_set H_r.out
                  have hI9 : Below wo'.heap.size wo' (wr.setCell ⟨wo'.heap.size, n, none⟩ (.bool true)) := hI.setCell (p := ⟨wo'.heap.size, n, none⟩) (Nat.le_refl _) _
                  have hI9w : Below w.heap.size w (wr.setCell ⟨wo'.heap.size, n, none⟩ (.bool true)) := hB.trans (hI9.mono hzr)
                  have hIl9 : wo'.heap.size < (wr.setCell ⟨wo'.heap.size, n, none⟩ (.bool true)).heap.size := by rw [World.size_setCell]; exact hIl
                  obtain ⟨_, _, u2, _, _⟩ := H_hC.out wr hIw p hpl
                  obtain ⟨_, _, v2, _, _⟩ := H_hC.out _ hI9w p hpl
                  obtain ⟨_, _, s2⟩ := H_hcs'.out wr hIw
                  obtain ⟨_, _, s9⟩ := H_hcs'.out _ hI9w
                  have c09 : (wr.setCell ⟨wo'.heap.size, n, none⟩ (.bool true)).cell? ⟨b, 0, none⟩ = some (.slice (some ⟨gd, 0, none⟩) N cap) := (hI9w.cell (p := ⟨b, 0, none⟩) hbl).trans c0
                  obtain ⟨z', hz'⟩ : ∃ u, f.parent = u := ⟨_, rfl⟩
                  rw [k3, hz'] at u2 v2
                  rw [hz'] at hFn hpp
                  obtain ⟨gp, hgp⟩ : ∃ u, G p = u := ⟨_, rfl⟩
                  rw [hgp] at hfit
                  cases gp with
                  | true =>
                    have hFt : F n = true := by rw [hFn, upF_yes hgp, Bool.or_true]
                    cases rt with
                    | true =>
                      have hrn := hset.congr fun j _ => congrArg Value.bool (mid_next (F := F) (n := n) (acc := true) hFt j)
                      have H_hset := Lib.hid hset
                      clear hset
                      have H_hrn := Lib.hid hrn
                      clear hrn
                      have H_hFt := Lib.hid hFt
                      clear hFt
                      have H_hFn := Lib.hid hFn
                      clear hFn
                      have H_hpp := Lib.hid hpp
                      clear hpp
                      have H_k3 := Lib.hid k3
                      clear k3
                      have H_hgp := Lib.hid hgp
                      clear hgp
                      have H_hz' := Lib.hid hz'
                      clear hz'
                      have H_hfp := Lib.hid hfp
                      clear hfp
                      go_wp2_with fail
                      go_roundw
                      case rel => exact ⟨n + 1, by omega, by go_num, hI9, hIl9, H_hrn⟩
                      case measure => simp [intOf]; omega
                    | false =>
                      have hF2 : F n = (true || upF false (upZ E z') G) := by rw [hFt]; rfl
                      have H_hset := Lib.hid hset
                      clear hset
                      have H_hFt := Lib.hid hFt
                      clear hFt
                      have H_hF2 := Lib.hid hF2
                      clear hF2
                      have H_hFn := Lib.hid hFn
                      clear hFn
                      have H_hpp := Lib.hid hpp
                      clear hpp
                      have H_k3 := Lib.hid k3
                      clear k3
                      have H_hgp := Lib.hid hgp
                      clear hgp
                      have H_hz' := Lib.hid hz'
                      clear hz'
                      have H_hfp := Lib.hid hfp
                      clear hfp
                      go_wp2_with fail
                      go_roundw
                      case rel => exact ⟨z', true, rfl, hI9, hIl9, Lib.hid ⟨H_hpp.out.1, H_hF2.out⟩, H_hset⟩
                      case measure =>
                        have h := H_hpp.out.2
                        by_cases h0 : 0 ≤ z'
                        · simp only [h0, if_true] at h; simpa [intOf, h0] using h
                        · simp only [h0, if_false] at h; simpa [intOf, h0] using h
                  | false =>
                    cases rt with
                    | true =>
                      have hFa : F n = acc := by rw [hFn, upF_one hgp, Bool.or_false]
                      have hrn := H_r.out.congr fun j _ => congrArg Value.bool (mid_next (F := F) (n := n) (acc := acc) hFa j)
                      have H_hset := Lib.hid hset
                      clear hset
                      have H_hrn := Lib.hid hrn
                      clear hrn
                      have H_hFa := Lib.hid hFa
                      clear hFa
                      have H_hFn := Lib.hid hFn
                      clear hFn
                      have H_hpp := Lib.hid hpp
                      clear hpp
                      have H_k3 := Lib.hid k3
                      clear k3
                      have H_hgp := Lib.hid hgp
                      clear hgp
                      have H_hz' := Lib.hid hz'
                      clear hz'
                      have H_hfp := Lib.hid hfp
                      clear hfp
                      go_wp2_with fail
                      go_roundw
                      case rel => exact ⟨n + 1, by omega, by go_num, hI, hIl, H_hrn⟩
                      case measure => simp [intOf]; omega
                    | false =>
                      have hF2 : F n = (acc || upF false (upZ E z') G) := by rw [hFn, upF_on hgp]
                      have H_hset := Lib.hid hset
                      clear hset
                      have H_hF2 := Lib.hid hF2
                      clear hF2
                      have H_hFn := Lib.hid hFn
                      clear hFn
                      have H_hpp := Lib.hid hpp
                      clear hpp
                      have H_k3 := Lib.hid k3
                      clear k3
                      have H_hgp := Lib.hid hgp
                      clear hgp
                      have H_hz' := Lib.hid hz'
                      clear hz'
                      have H_hfp := Lib.hid hfp
                      clear hfp
                      go_wp2_with fail
                      go_roundw
                      case rel => exact ⟨z', acc, rfl, hI, hIl, Lib.hid ⟨H_hpp.out.1, H_hF2.out⟩, H_r⟩
                      case measure =>
                        have h := H_hpp.out.2
                        by_cases h0 : 0 ≤ z'
                        · simp only [h0, if_true] at h; simpa [intOf, h0] using h
                        · simp only [h0, if_false] at h; simpa [intOf, h0] using h
        · obtain rfl : n = N := by omega
          have hfin : wr.rowIs wo'.heap.size 4 n (bR F) := H_m.out.congr fun j hj => by unfold bR mid; rw [decide_eq_true hj]; simp
          rw [← H_hF.out] at hfin
          have H_hfin := Lib.hid hfin
          clear hfin
          go_wp2_with fail
          go_roundw
          case rel => exact ⟨i + 1, wo'.heap.size, by omega, by go_num, rfl, hzr, hMl, H_hfin, hMw⟩
          case measure => simp [intOf]; omega
    · obtain rfl : i = ll := by omega
      go_wp2_with fail
      go_returns
      exact ⟨gf, rfl, hgf, hgfw, H_f.out, hB⟩
end Go.Proofs.YteaipondofbecaaGreatDoor
