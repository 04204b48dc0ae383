/-
  Walks over package style: Read.
-/
import Derived.Test.YteaipondofbecaaGreatDoorSy4
import Derived.Test.YteaipondofbecaaGreatDoorPa
namespace Lead.Sy
open Go Go.RowKit Lead Lead.Dc Lead.Pk
/-- What style.Read answers. -/
def ReadSh (TS TW TR T F : TypeId) (ea : Nat → Addr) (s : By) (w : World) (en : Ending) (w' : World) : Prop :=
  ∃ v x, en = .returned (.tuple #[v, x]) ∧ ErrAt T F ea w.heap.size w' x (shC s) ∧ ((shC s).1 = 0 → ShOk TS TW TR w.heap.size w' v (shU s)) ∧ ((shC s).1 ≠ 0 → v = .slice none 0 0) ∧ Below w.heap.size w w'
theorem two_new (w : World) (o : Obj) (vs : Array Value) (t : TypeId) (j : Nat) : ((w.alloc o).alloc (.cells vs t)).drew.cell? ⟨w.heap.size + 1, j, none⟩ = vs[j]? := by
  have h := World.cell?_alloc_new (w.alloc o) vs t j
  rw [World.size_alloc] at h; exact h
theorem ShOk.base {TS TW TR : TypeId} {base base' : Nat} {W : World} {v : Value} {us : List Ru} (h : ShOk TS TW TR base W v us) (hb : base' ≤ base) : ShOk TS TW TR base' W v us := by
  obtain ⟨xs, h1, h2, h3⟩ := h
  refine ⟨xs, h1.base hb, fun x hx => ?_, h3⟩
  obtain ⟨ys, q1, q2, q3⟩ := h2 x hx
  exact ⟨ys, q1.base hb, fun y hy => (q2 y hy).base hb, q3⟩
theorem ShW.len {TS TW TR : TypeId} {base : Nat} {W : World} {v : Value} {xs : List RuX} (h : ShW TS TW TR base W v xs) : ∃ o c, v = .slice o xs.length c := ow_form h.own
end Lead.Sy
namespace Go.Proofs.YteaipondofbecaaGreatDoor
open Go.RowKit Lead Lead.Dc Lead.Pk Lead.Sy
theorem infoRu : (Tryz.prog.info? 140).map (fun i => (i.zero, i.size, i.bytes)) = some (some (.agg #[.slice none 0 0, .string ⟨#[]⟩, .string ⟨#[]⟩, .string ⟨#[]⟩]), 4, 72) := by kernel_rfl
theorem splitl_any (s : By) (m : Int) (w : World) (hl : s.length ≤ 100000) (hm : w.cell? ⟨12, 0, none⟩ = some (.int .i64 m)) :
    Calls Tryz.prog 79 #[.string (bs s), .string ⟨#[10]⟩] w fun e w' =>
      ∃ g, e = .returned (.slice (some ⟨g, 0, none⟩) (cutL 10 s).length (cutL 10 s).length) ∧ g < w'.heap.size ∧ w.heap.size ≤ g ∧ (∀ i (h : i < (cutL 10 s).length), w'.cell? ⟨g, i, none⟩ = some (.string (bs (cutL 10 s)[i]))) ∧ Below w.heap.size w w' := by
  refine (Tryz.strings_Split (bs s) ⟨#[10]⟩ m w (by rw [bs_size]; omega) hm (by decide)).mono ?_
  rintro e w' ⟨rfl, rfl⟩
  have hlen := cutL_len 10 (bs s)
  rw [bs_list] at hlen
  refine ⟨w.heap.size, by rw [hlen], by simp, Nat.le_refl _, fun i hi => ?_, (Below.refl _ _).alloc (Nat.le_refl _) _⟩
  have hc := splitB_cells 10 (bs s)
  rw [bs_list] at hc
  rw [hc, World.cell?_alloc_new]
  simp [hi, bs]
set_option maxHeartbeats 8000000 in
set_option maxRecDepth 100000 in
theorem sread_any (ea : Nat → Addr) (m : Int) (s : By) (w : World) (hl : s.length ≤ 100000) (hE : w.cell? ⟨8, 0, none⟩ = some (.iface 330 (.pointer (some (ea 1))))) (hE2 : w.cell? ⟨1, 0, none⟩ = some (.iface 330 (.pointer (some (ea 2))))) (hE7 : w.cell? ⟨4, 0, none⟩ = some (.iface 330 (.pointer (some (ea 7))))) (hm : w.cell? ⟨12, 0, none⟩ = some (.int .i64 m)) :
    Calls Tryz.prog 27 #[.string (bs s)] w (ReadSh 252 259 140 330 143 ea s w) := by
  have cS := fun (W : World) (hb : Below w.heap.size w W) => splitl_any s m W hl (gkeep hb hm rfl)
  have hsz : (bs s).size = s.length := rfl
  obtain ⟨S, hS⟩ : ∃ u, bs s = u := ⟨_, rfl⟩
  rw [hS] at cS hsz
  rw [hS]
  by_cases hbig : 10000 < s.length
  · have g0 : (10000 : Int) < (S.size : Int) := by omega
    have hc := shC_long hbig
    have H_cS := Lib.hid cS
    clear cS
    have H_hS := Lib.hid hS
    clear hS
    have H_hm := Lib.hid hm
    clear hm
    have H_hc := Lib.hid hc
    clear hc
    have H_hsz := Lib.hid hsz
    clear hsz
    go_enter Tryz.func27, Tryz.ntmps27
    go_wp2_with fail
    go_region
    all_goals
      go_wp2_with fail
      go_returns
      refine ⟨_, _, rfl, ?_, (fun h0 => ?_), (fun _ => rfl), by repeat' (first | (with_reducible first | exact bwR _ _ | assumption | refine bdn ?_ | refine bwA ?_ ?_ _ | refine bwD ?_ | refine bwS ?_ ?_ _) | omega | (simp <;> omega))⟩
      · rw [H_hc.out]; exact (evl_n (by decide)).symm
      · rw [H_hc.out] at h0; exact absurd (show (2 : Nat) = 0 from h0) (by decide)
  have g0 : ¬ (10000 : Int) < (S.size : Int) := by omega
  have H_cS := Lib.hid cS
  clear cS
  have H_hS := Lib.hid hS
  clear hS
  have H_hm := Lib.hid hm
  clear hm
  have H_hsz := Lib.hid hsz
  clear hsz
  go_enter Tryz.func27, Tryz.ntmps27
  go_wp2_with fail
  refine (H_cS.out _ (by repeat' (first | (with_reducible first | exact bwR _ _ | assumption | refine bdn ?_ | refine bwA ?_ ?_ _ | refine bwD ?_ | refine bwS ?_ ?_ _) | omega | (simp <;> omega)))).mono ?_
  rintro _ w1 ⟨g, rfl, hg1, hg2, hwords, hb1⟩
  have hB1 : Below w.heap.size w w1 := below_via (by repeat' (first | (with_reducible first | exact bwR _ _ | assumption | refine bdn ?_ | refine bwA ?_ ?_ _ | refine bwD ?_ | refine bwS ?_ ?_ _) | omega | (simp <;> omega))) hb1
  have s1 := hB1.size
  clear hg2 hb1
  have hsm : ∀ x ∈ cutL 10 s, x.length ≤ 100000 := fun x hx => Nat.le_trans (cutL_small hx) hl
  have hcount := cutL_count 10 s
  have hlk := cutL_length s
  obtain ⟨K, hK⟩ : ∃ u, (cutF 10 s).1.length = u := ⟨_, rfl⟩
  rw [hK] at hlk
  rw [hlk] at hcount ⊢
  obtain ⟨i0, hi0, hz0, hz1, hz2⟩ := info_parts infoRu
  have hW1 := ShW.nil 252 259 140 w1.heap.size w1
  have gK : IntKind.i64.wrap (((K + 1 : Nat) : Int) - 1) = (K : Int) := by
    rw [show (((K + 1 : Nat) : Int) - 1) = (K : Int) by omega]; exact IntWalk.i64_in _ (by omega)
  obtain ⟨N, hN⟩ : ∃ u, K + 1 = u := ⟨_, rfl⟩
  rw [hN] at gK ⊢
  have H_hW1 := Lib.hid hW1
  clear hW1
  have H_hwords := Lib.hid hwords
  clear hwords
  have H_hK := Lib.hid hK
  clear hK
  have H_hlk := Lib.hid hlk
  clear hlk
  have H_hsm := Lib.hid hsm
  clear hsm
  have H_hi0 := Lib.hid hi0
  clear hi0
  have H_hz0 := Lib.hid hz0
  clear hz0
  have H_hz1 := Lib.hid hz1
  clear hz1
  have H_hz2 := Lib.hid hz2
  clear hz2
  have H_hcount := Lib.hid hcount
  clear hcount
  go_wp2_with fail
  go_loopw [4, 18] (fun t4 t18 wr => ∃ (i : Nat) (v : Value) (xs : List RuX), i ≤ K ∧ t4 = v ∧ t18 = .int .i64 i ∧ RowKit.Hid (shT (cutF 10 s).1 i = some (xs.map RuX.u)) ∧ RowKit.Hid (ShW 252 259 140 w1.heap.size wr v xs) ∧ Below w1.heap.size w1 wr) (fun _ t18 _ => N - (intOf t18).toNat)
  case atStart => exact ⟨0, _, [], Nat.zero_le _, rfl, rfl, Lib.hid rfl, H_hW1, Below.refl _ _⟩
  case round =>
    obtain ⟨i, v, xs, hi, rfl, rfl, H_rd, H_W, hB⟩ := hrel
    have hBw : Below w.heap.size w wr := hB1.trans (hB.mono s1)
    have sr := hB.size
    obtain ⟨ov, cv, rfl⟩ := ow_form H_W.out.own
    have gE : wr.cell? ⟨8, 0, none⟩ = some (.iface 330 (.pointer (some (ea 1)))) := gkeep hBw hE rfl
    have gE7 : wr.cell? ⟨4, 0, none⟩ = some (.iface 330 (.pointer (some (ea 7)))) := gkeep hBw hE7 rfl
    have hlt : i < N := by omega
    have hlt' : i < (cutL 10 s).length := by rw [H_hlk.out]; omega
    have hwl := H_hsm.out _ (List.getElem_mem hlt')
    have hwc : wr.cell? ⟨g, i, none⟩ = some (.string (bs (cutL 10 s)[i])) := (hB.cell (p := ⟨g, i, none⟩) hg1).trans (H_hwords.out i hlt')
    have hget : (cutL 10 s)[i] = (cutL 10 s).getD i [] := by rw [List.getD_eq_getElem?_getD, List.getElem?_eq_getElem hlt']; rfl
    obtain ⟨wd, hwd⟩ : ∃ u, (cutL 10 s)[i] = u := ⟨_, rfl⟩
    rw [hwd] at hwc hwl hget
    have cL := fun (W : World) (hb : Below wr.heap.size wr W) => line_any ea m wd W hwl (gkeep hb gE rfl) (gkeep hb (gkeep hBw H_hm.out rfl) rfl)
    have hq := bs_eqL wd []
    have gi : IntKind.i64.wrap ((i : Int) + 1) = ((i + 1 : Nat) : Int) := IntWalk.i64_in _ (by have := H_hcount.out; omega)
    by_cases hiK : i = K
    · subst hiK
      have hlv : wd = (cutF 10 s).2 := hget.trans (by rw [← H_hK.out]; exact cutL_get_last s)
      by_cases hnil : wd = []
      · rw [decide_eq_true hnil] at hq
        have hend := shC_end (by omega) (by rw [H_hK.out]; exact H_rd.out) (hlv.symm.trans hnil)
        rw [List.length_map] at hend
        by_cases h40 : 40 < xs.length
        · have g40 : (40 : Int) < (xs.length : Int) := by omega
          rw [if_pos h40] at hend
          have H_hend := Lib.hid hend
          clear hend
          have H_hget := Lib.hid hget
          clear hget
          have H_hwd := Lib.hid hwd
          clear hwd
          have H_hlv := Lib.hid hlv
          clear hlv
          have H_hnil := Lib.hid hnil
          clear hnil
          have H_cL := Lib.hid cL
          clear cL
          go_wp2_with fail
          go_region
          all_goals
            go_wp2_with fail
            go_returns
            refine ⟨_, _, rfl, ?_, (fun h0 => ?_), (fun _ => rfl), by repeat' (first | (with_reducible first | exact bwR _ _ | assumption | refine bdn ?_ | refine bwA ?_ ?_ _ | refine bwD ?_ | refine bwS ?_ ?_ _) | omega | (simp <;> omega))⟩
            · rw [H_hend.out.1]; exact (evl_n (by decide)).symm
            · rw [H_hend.out.1] at h0; exact absurd (show (7 : Nat) = 0 from h0) (by decide)
        · have g40 : ¬ (40 : Int) < (xs.length : Int) := by omega
          rw [if_neg h40] at hend
          have H_hend := Lib.hid hend
          clear hend
          have H_hget := Lib.hid hget
          clear hget
          have H_hwd := Lib.hid hwd
          clear hwd
          have H_hlv := Lib.hid hlv
          clear hlv
          have H_hnil := Lib.hid hnil
          clear hnil
          have H_cL := Lib.hid cL
          clear cL
          go_wp2_with fail
          go_returns
          refine ⟨_, _, rfl, ?_, (fun _ => ?_), (fun h0 => ?_), by repeat' (first | (with_reducible first | exact bwR _ _ | assumption | refine bdn ?_ | refine bwA ?_ ?_ _ | refine bwD ?_ | refine bwS ?_ ?_ _) | omega | (simp <;> omega))⟩
          · rw [H_hend.out.1]; exact (evl_0 rfl).symm
          · rw [H_hend.out.2]; exact (H_W.out.done).base s1
          · rw [H_hend.out.1] at h0; exact absurd rfl h0
      · rw [decide_eq_false hnil] at hq
        have hend := shC_last (by omega) (by rw [H_hK.out]; exact H_rd.out) (fun e => hnil (hlv.trans e))
        rw [H_hK.out] at hend
        have H_cL := Lib.hid cL
        clear cL
        have H_hget := Lib.hid hget
        clear hget
        have H_hwd := Lib.hid hwd
        clear hwd
        have H_hlv := Lib.hid hlv
        clear hlv
        have H_hnil := Lib.hid hnil
        clear hnil
        go_wp2_with fail
        refine (H_cL.out _ (by repeat' (first | (with_reducible first | exact bwR _ _ | assumption | refine bdn ?_ | refine bwA ?_ ?_ _ | refine bwD ?_ | refine bwS ?_ ?_ _) | omega | (simp <;> omega)))).mono ?_
        rintro en w5 ⟨hb5, so, sl, sc, tx, nm, vl, ok, rfl, hmt⟩
        have hB5 : Below w.heap.size w w5 := below_via hBw hb5
        have s5 := hb5.size
        have gE5 : w5.cell? ⟨8, 0, none⟩ = some (.iface 330 (.pointer (some (ea 1)))) := gkeep hB5 hE rfl
        have zE5 := zlt gE5
        clear hmt
        cases ok with
        | true =>
          have H_hend := Lib.hid hend
          clear hend
          go_wp2_with fail
          go_region
          all_goals
            go_wp2_with fail
            go_returns
            refine ⟨_, _, rfl, ?_, (fun h0 => ?_), (fun _ => rfl), by repeat' (first | (with_reducible first | exact bwR _ _ | assumption | refine bdn ?_ | refine bwA ?_ ?_ _ | refine bwD ?_ | refine bwS ?_ ?_ _) | omega | (simp <;> omega))⟩
            · rw [H_hend.out]
              refine ⟨(show (1 : Nat) ≠ 0 by decide), _, ?_, rfl, ?_, ?_⟩
              · show w.heap.size ≤ _
                first | omega | (simp; omega)
              · exact (two_new _ _ _ _ _).trans rfl
              · exact (two_new _ _ _ _ _).trans rfl
            · rw [H_hend.out] at h0
              exact absurd (show (1 : Nat) = 0 from h0) (by decide)
        | false =>
          have H_hend := Lib.hid hend
          clear hend
          go_wp2_with fail
          go_region
          all_goals
            go_wp2_with fail
            go_returns
            refine ⟨_, _, rfl, ?_, (fun h0 => ?_), (fun _ => rfl), by repeat' (first | (with_reducible first | exact bwR _ _ | assumption | refine bdn ?_ | refine bwA ?_ ?_ _ | refine bwD ?_ | refine bwS ?_ ?_ _) | omega | (simp <;> omega))⟩
            · rw [H_hend.out]
              refine ⟨(show (1 : Nat) ≠ 0 by decide), _, ?_, rfl, ?_, ?_⟩
              · show w.heap.size ≤ _
                first | omega | (simp; omega)
              · exact (two_new _ _ _ _ _).trans rfl
              · exact (two_new _ _ _ _ _).trans rfl
            · rw [H_hend.out] at h0
              exact absurd (show (1 : Nat) = 0 from h0) (by decide)
    · have hlt2 : i < (cutF 10 s).1.length := by rw [H_hK.out]; omega
      have hlv := hget.trans (cutL_get_lt hlt2)
      have gne : ((i : Int) == (K : Int)) = false := by rw [beq_eq_false_iff_ne]; omega
      obtain ⟨O, hO⟩ : ∃ u, lineP wd = u := ⟨_, rfl⟩
      rw [hO] at cL
      have H_cL := Lib.hid cL
      clear cL
      have H_hget := Lib.hid hget
      clear hget
      have H_hwd := Lib.hid hwd
      clear hwd
      have H_hlv := Lib.hid hlv
      clear hlv
      go_wp2_with fail
      refine (H_cL.out _ (by repeat' (first | (with_reducible first | exact bwR _ _ | assumption | refine bdn ?_ | refine bwA ?_ ?_ _ | refine bwD ?_ | refine bwS ?_ ?_ _) | omega | (simp <;> omega)))).mono ?_
      rintro en w5 ⟨hb5, so, sl, sc, tx, nm, vl, ok, rfl, hmt⟩
      have hB5 : Below w.heap.size w w5 := below_via hBw hb5
      have s5 := hb5.size
      have gE5 : w5.cell? ⟨8, 0, none⟩ = some (.iface 330 (.pointer (some (ea 1)))) := gkeep hB5 hE rfl
      have zE5 := zlt gE5
      cases O with
      | none =>
        obtain rfl : ok = false := hmt
        have hend := shC_bad (by omega) H_rd.out hlt2 (by rw [← H_hlv.out]; exact hO)
        have H_hend := Lib.hid hend
        clear hend
        go_wp2_with fail
        go_region
        all_goals
          go_wp2_with fail
          go_returns
          refine ⟨_, _, rfl, ?_, (fun h0 => ?_), (fun _ => rfl), by repeat' (first | (with_reducible first | exact bwR _ _ | assumption | refine bdn ?_ | refine bwA ?_ ?_ _ | refine bwD ?_ | refine bwS ?_ ?_ _) | omega | (simp <;> omega))⟩
          · rw [H_hend.out]
            refine ⟨(show (1 : Nat) ≠ 0 by decide), _, ?_, rfl, ?_, ?_⟩
            · show w.heap.size ≤ _
              first | omega | (simp; omega)
            · exact (two_new _ _ _ _ _).trans rfl
            · exact (two_new _ _ _ _ _).trans rfl
          · rw [H_hend.out] at h0
            exact absurd (show (1 : Nat) = 0 from h0) (by decide)
      | some u =>
        obtain ⟨rfl, rfl, rfl, rfl, hsel⟩ := hmt
        have hrn : shT (cutF 10 s).1 (i + 1) = some (xs.map RuX.u ++ [u]) := shT_next H_rd.out (by rw [← H_hlv.out]; exact hO)
        have hW5 := H_W.out.step hb5
        have hW6 := hW5.step (((Below.refl w5.heap.size w5).alloc (Nat.le_refl _) (.cells #[.slice so sl sc, .string (bs u.tx), .string (bs u.nm), .string (bs u.vl)] 140)).alloc (by simp) (.cells #[.slice so sl sc, .string (bs u.tx), .string (bs u.nm), .string (bs u.vl)] 140))
        have hsel6 : SelQ 252 259 (fun b => (Value.slice ov xs.length cv).ownBlock ≠ some b) w1.heap.size ((w5.alloc (.cells #[.slice so sl sc, .string (bs u.tx), .string (bs u.nm), .string (bs u.vl)] 140)).alloc (.cells #[.slice so sl sc, .string (bs u.tx), .string (bs u.nm), .string (bs u.vl)] 140)) (RuX.sv ⟨so, sl, sc, u⟩) u.st :=
          (hsel.mono (base' := w1.heap.size) sr (fun b hb _ _ e => by have := (H_W.out.own.lt b e).2; omega)).kept (fun b hb _ => by rw [Below.heap_alloc _ _ _ (by simp; omega), Below.heap_alloc _ _ _ hb])
        have hxl := (shT_all H_rd.out).1
        rw [List.length_map] at hxl
        have hxc : xs.length + 1 ≤ 1000000 := by have := H_hcount.out; omega
        have hB6 : Below w1.heap.size w1 w5 := below_via hB hb5
        clear hsel hO
        have H_hW5 := Lib.hid hW5
        clear hW5
        have H_hW6 := Lib.hid hW6
        clear hW6
        have H_hsel6 := Lib.hid hsel6
        clear hsel6
        have H_hrn := Lib.hid hrn
        clear hrn
        have H_hxl := Lib.hid hxl
        clear hxl
        go_wp2_with (at_builtin; refine wp_append_told rfl (.tmp 51) (.tmp 53) 68 rfl ERu w1.heap.size 140 i0 _ 72 Tryz.underlying68 H_hi0.out H_hz0.out H_hz1.out H_hz2.out rfl (by decide) _ xs rfl _ _ 1 1 [⟨so, sl, sc, u⟩] rfl rfl ?a1 ?a2 ?a3 ?a4 ?_)
        case a1 => exact hxc
        case a2 => exact H_hW6.out.own
        case a3 => exact row_one (vs := #[.slice so sl sc, .string (bs u.tx), .string (bs u.nm), .string (bs u.vl)]) rfl (fun j => by have h := World.cell?_alloc_new (w5.alloc (.cells #[.slice so sl sc, .string (bs u.tx), .string (bs u.nm), .string (bs u.vl)] 140)) #[.slice so sl sc, .string (bs u.tx), .string (bs u.nm), .string (bs u.vl)] 140 j; rw [World.size_alloc] at h; exact h)
        case a4 => exact Nat.le_trans sr (Nat.le_trans s5 (by simp; omega))
        intro v3 w6 hv3 hA3 hg3 ho3
        obtain ⟨o3, c3, rfl⟩ := ow_form hv3
        have hW7 := H_hW6.out.app (x := ⟨so, sl, sc, u⟩) H_hsel6.out hv3 hg3 (by rw [World.size_alloc, World.size_alloc]; exact ho3)
        have hB7 : Below w1.heap.size w1 w6 := ((hB6.alloc (by omega) _).alloc (by simp; omega) _).trans hA3
        clear hv3 hA3 hg3 ho3
        have H_hW7 := Lib.hid hW7
        clear hW7
        go_wp2_with fail
        go_roundw
        case rel => exact ⟨i + 1, .slice o3 (xs ++ [(⟨so, sl, sc, u⟩ : RuX)]).length c3, xs ++ [⟨so, sl, sc, u⟩], by omega, rfl, by go_num, Lib.hid (by rw [List.map_append]; exact H_hrn.out), H_hW7, hB7⟩
        case measure => simp [intOf]; omega
end Go.Proofs.YteaipondofbecaaGreatDoor
