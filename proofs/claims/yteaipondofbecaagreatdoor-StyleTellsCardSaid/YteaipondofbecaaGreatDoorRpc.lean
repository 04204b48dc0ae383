/-
  Walks over the reference's selectors: StepsOf.
-/
import Derived.Test.YteaipondofbecaaGreatDoorRpb
import Derived.Test.YteaipondofbecaaGreatDoorPk7
import Derived.Test.YteaipondofbecaaGreatDoorPkg
import Derived.Test.YteaipondofbecaaGreatDoorPk9
namespace Lead.Rc
open Go Go.RowKit Lead Lead.Dc Lead.Pk
/-- A step's wants as a slice. -/
def SrX.sl (x : SrX) : Value := .slice x.wo x.wl x.wc
/-- The rows of StepsOf, while it reads: w the call's world, w1 behind Cut. -/
structure StsW (TS TW : TypeId) (w w1 W : World) (v : Value) (xs : List SrX) : Prop where
  bel : Below w.heap.size w W
  one : w.heap.size ≤ w1.heap.size
  size : w1.heap.size ≤ W.heap.size
  old : ∀ k, k < w1.heap.size → W.heap[k]? = w1.heap[k]?
  own : OwnR ESr W w1.heap.size TS v xs
  wants : ∀ x ∈ xs, OwnR EWs W w1.heap.size TW x.sl x.ws ∧ ∀ b, x.sl.ownBlock = some b → v.ownBlock ≠ some b
variable {TS TW : TypeId} {w w1 W W' : World} {v : Value} {xs : List SrX}
theorem StsW.start (hb : Below w.heap.size w w1) : StsW TS TW w w1 w1 (.slice none 0 0) [] :=
  ⟨hb, hb.size, Nat.le_refl _, fun _ _ => rfl, OwnR.nil _ _ _ _, fun x hx => by cases hx⟩
theorem StsW.step (h : StsW TS TW w w1 W v xs) (hb : Below W.heap.size W W') : StsW TS TW w w1 W' v xs :=
  ⟨below_via h.bel hb, h.one, Nat.le_trans h.size hb.size, fun k hk => (hb.block k (Nat.lt_of_lt_of_le hk h.size)).trans (h.old k hk), h.own.keep hb, fun x hx => ⟨(h.wants x hx).1.keep hb, (h.wants x hx).2⟩⟩
theorem StsW.app {w3 : World} {v3 : Value} {x : SrX} (h : StsW TS TW w w1 W v xs) (hx : OwnR EWs W w1.heap.size TW x.sl x.ws) (hxv : ∀ b, x.sl.ownBlock = some b → v.ownBlock ≠ some b)
    (hv : OwnR ESr w3 w1.heap.size TS v3 (xs ++ [x])) (hg : W.grownBy w3 v.ownBlock) (ho : v3.ownBlock = v.ownBlock ∨ v3.ownBlock = some W.heap.size) : StsW TS TW w w1 w3 v3 (xs ++ [x]) := by
  have hno : ∀ k, v.ownBlock = some k → w1.heap.size ≤ k := fun k hk => (h.own.lt k hk).1
  have h1 := h.one
  have hs := h.size
  have keepW : ∀ (y : SrX), OwnR EWs W w1.heap.size TW y.sl y.ws → (∀ b, y.sl.ownBlock = some b → v.ownBlock ≠ some b) → OwnR EWs w3 w1.heap.size TW y.sl y.ws ∧ ∀ b, y.sl.ownBlock = some b → v3.ownBlock ≠ some b := fun y hy hyv => by
    refine ⟨own_kept hy (fun b hb => hg.block b (hy.lt b hb).2 (fun e => hyv b hb e.symm)), fun b hb => ?_⟩
    rcases ho with ho | ho
    · rw [ho]; exact hyv b hb
    · rw [ho]; intro e; injection e with e; have := (hy.lt b hb).2; omega
  refine ⟨h.bel.grown hg h.bel.size (fun k hk => by have := hno k hk; omega), h1, Nat.le_trans hs hg.size, fun k hk => (hg.block k (by omega) (fun e => by have := hno k e.symm; omega)).trans (h.old k hk), hv, fun y hy => ?_⟩
  rcases List.mem_append.1 hy with hy | hy
  · exact keepW y (h.wants y hy).1 (h.wants y hy).2
  · rw [List.mem_singleton.1 hy]; exact keepW x hx hxv
/-- What StepsOf answers. -/
def StepsR (TS TW : TypeId) (o : Option (List St)) (w : World) (en : Ending) (w' : World) : Prop := Below w.heap.size w w' ∧ match o with
  | some l => ∃ (v : Value) (xs : List SrX), en = .returned (.tuple #[v, .bool true]) ∧ OwnR ESr w' w.heap.size TS v xs ∧ (∀ x ∈ xs, OwnR EWs w' w.heap.size TW x.sl x.ws) ∧ xs.map SrX.st = l
  | none => ∃ (o' : Option Addr) (n' c' : Nat), en = .returned (.tuple #[.slice o' n' c', .bool false])
theorem steps_form {o : Option (List St)} {en : Ending} (h : StepsR TS TW o w en w1) : Below w.heap.size w w1 ∧ ∃ (so : Option Addr) (sl sc : Nat), en = .returned (.tuple #[.slice so sl sc, .bool o.isSome]) ∧
    ∀ l, o = some l → ∃ xs : List SrX, OwnR ESr w1 w.heap.size TS (.slice so sl sc) xs ∧ (∀ x ∈ xs, OwnR EWs w1 w.heap.size TW x.sl x.ws) ∧ xs.map SrX.st = l := by
  obtain ⟨hb, h⟩ := h
  refine ⟨hb, ?_⟩
  cases o with
  | none =>
    obtain ⟨a, b, c, h⟩ := h
    exact ⟨a, b, c, h, fun l h => by cases h⟩
  | some l =>
    obtain ⟨v, xs, h1, h2, h3, h4⟩ := h
    obtain ⟨a, c, rfl⟩ := Pk.ow_form h2
    exact ⟨a, _, c, h1, fun l' hl => by cases hl; exact ⟨xs, h2, h3, h4⟩⟩
end Lead.Rc
namespace Go.Proofs.YteaipondofbecaaGreatDoor
open Go.RowKit Lead Lead.Dc Lead.Pk Lead.Rc
theorem infoSr : (Tryz.prog.info? 213).map (fun i => (i.zero, i.size, i.bytes)) = some (some (.agg #[.string ⟨#[]⟩, .slice none 0 0, .bool false]), 3, 48) := by kernel_rfl
theorem rstepof_any (S : ByteArray) (s : By) (hSs : S.data.toList = s) (w : World) (hs : S.size ≤ 100000) :
    Calls Tryz.prog 166 #[.string S] w (StepRs 9 (stepP s) w) := by
  by_cases hb : badH s
  · refine (rstepof_bad S s hSs w hs hb).mono ?_
    rintro en w' ⟨rfl, h⟩
    refine ⟨h, ?_⟩
    rw [stepP_badH hb]
  · exact rstepof_good S s hSs w hs hb
set_option maxHeartbeats 8000000 in
set_option maxRecDepth 100000 in
theorem rsteps_any (S : ByteArray) (s : By) (hSs : S.data.toList = s) (w : World) (hs : S.size ≤ 100000) :
    Calls Tryz.prog 127 #[.string S] w (StepsR 213 9 (readP s) w) := by
  have hl : s.length ≤ 100000 := by rw [← hSs]; simpa using hs
  have cS := fun (W : World) => rcut_any S 32 W hs
  rw [hSs] at cS
  obtain ⟨i0, hi0, hz0, hz1, hz2⟩ := info_parts infoSr
  have H_cS := Lib.hid cS
  clear cS
  have H_hSs := Lib.hid hSs
  clear hSs
  have H_hi0 := Lib.hid hi0
  clear hi0
  have H_hz0 := Lib.hid hz0
  clear hz0
  have H_hz1 := Lib.hid hz1
  clear hz1
  have H_hz2 := Lib.hid hz2
  clear hz2
  go_enter Tryz.func127, Tryz.ntmps127
  go_wp2_with fail
  refine (H_cS.out _).mono ?_
  rintro _ w1 ⟨vw, rfl, hOw, hb1⟩
  have hO1 := ownS_row hOw
  obtain ⟨ow, cw, rfl⟩ := Pk.ow_form hO1
  have hSl := Pk.sla_of hO1
  have hB1 : Below w.heap.size w w1 := hb1
  clear hb1 hOw hO1
  have hsm : ∀ x ∈ cutL 32 s, x.length ≤ 100000 := fun x hx => Nat.le_trans (cutL_small hx) hl
  have hcount := cutL_count 32 s
  have hpos := cutL_pos 32 s
  have hwords : ∀ (W : World), (∀ k, k < w1.heap.size → W.heap[k]? = w1.heap[k]?) → ∀ i (h : i < (cutL 32 s).length), ∃ g off, ow = some ⟨g, off, none⟩ ∧ W.cell? ⟨g, off + i, none⟩ = some (.string (bs (cutL 32 s)[i])) := fun W hW i h => by
    obtain ⟨g, off, rfl, hg, hr⟩ := hSl.2.2.2.resolve_left (by intro h'; rw [h'] at h; simp at h)
    refine ⟨g, off, rfl, ?_⟩
    rw [World.cell?_of_block (w := w1) (w' := W) (a := ⟨g, off + i, none⟩) (hW g hg)]
    have h2 := hr i h 0 _ rfl
    simpa [ESs, bs] using h2
  have hwm : (cutL 32 s).length ≤ cw ∧ cw ≤ maxLen := ⟨hSl.2.1, hSl.2.2.1⟩
  have hgD : ∀ i (h : i < (cutL 32 s).length), (cutL 32 s).getD i [] = (cutL 32 s)[i] := fun i h => by rw [List.getD_eq_getElem?_getD, List.getElem?_eq_getElem h]; rfl
  have hW1 : StsW 213 9 w w1 w1 (.slice none 0 0) [] := StsW.start hB1
  obtain ⟨n, hn⟩ : ∃ u, (cutL 32 s).length = u := ⟨_, rfl⟩
  rw [hn] at hcount hpos hwm ⊢
  clear hSl hB1 
  have H_hW1 := Lib.hid hW1
  clear hW1
  have H_hwords := Lib.hid hwords
  clear hwords
  have H_hn := Lib.hid hn
  clear hn
  have H_hsm := Lib.hid hsm
  clear hsm
  have H_hgD := Lib.hid hgD
  clear hgD
  go_wp2_with fail
  go_loopw [5, 6, 7, 8, 9] (fun t5 t6 _ _ _ wr => ∃ (i : Nat) (v : Value) (xs : List SrX), i ≤ n ∧ t5 = v ∧ t6 = .int .i64 i ∧ RowKit.Hid (rdT (cutL 32 s) i = some (false, xs.map SrX.st)) ∧ RowKit.Hid (StsW 213 9 w w1 wr v xs)) (fun _ t6 _ _ _ _ => n - (intOf t6).toNat)
  case atStart => exact ⟨0, _, [], Nat.zero_le _, rfl, rfl, Lib.hid rfl, H_hW1⟩
  case round =>
    obtain ⟨i, v, xs, hi, rfl, rfl, H_rd, H_W⟩ := hrel
    obtain ⟨ov, cv, rfl⟩ := Pk.ow_form H_W.out.own
    by_cases hlt : i < n
    · have hlt' : i < (cutL 32 s).length := by rw [H_hn.out]; exact hlt
      obtain ⟨g, off, rfl, d0⟩ := H_hwords.out wr H_W.out.old i hlt'
      have gi : IntKind.i64.wrap ((i : Int) + 1) = ((i + 1 : Nat) : Int) := IntWalk.i64_in _ (by omega)
      have hgd := H_hgD.out i hlt'
      by_cases h62 : (cutL 32 s)[i] = [62]
      · rw [h62] at d0 hgd
        have hq : ((bs [62]).toList == [62]) = true := by rw [ByteArray.toList_eq]; rfl
        by_cases h0 : i = 0
        · have g0 : ((i : Int) == 0) = true := by rw [h0]; rfl
          have hre : readP s = none := rs_first (by rw [← h0]; exact hgd) (by omega)
          have hB := H_W.out.bel
          have H_hre := Lib.hid hre
          clear hre
          have H_h0 := Lib.hid h0
          clear h0
          have H_hgd := Lib.hid hgd
          clear hgd
          have H_h62 := Lib.hid h62
          clear h62
          go_wp2_with fail
          go_returns
          refine ⟨by repeat' (first | (with_reducible first | exact bwR _ _ | assumption | refine bdn ?_ | refine bwA ?_ ?_ _ | refine bwD ?_ | refine bwS ?_ ?_ _) | omega | (simp <;> omega)), ?_⟩
          rw [H_hre.out]
          exact ⟨_, _, _, rfl⟩
        · have g0 : ((i : Int) == 0) = false := by rw [beq_eq_false_iff_ne]; omega
          by_cases hL : i + 1 = n
          · have g1 : ((i + 1 : Int) == (n : Int)) = true := by rw [beq_iff_eq]; omega
            have g2 : (((i + 1 : Nat) : Int) == (n : Int)) = true := by rw [beq_iff_eq]; omega
            have hre : readP s = none := rs_last H_rd.out hgd (by omega) (by rw [H_hn.out]; exact hL)
            have hB := H_W.out.bel
            have H_hre := Lib.hid hre
            clear hre
            have H_h0 := Lib.hid h0
            clear h0
            have H_hgd := Lib.hid hgd
            clear hgd
            have H_h62 := Lib.hid h62
            clear h62
            have H_hL := Lib.hid hL
            clear hL
            go_wp2_with fail
            go_returns
            refine ⟨by repeat' (first | (with_reducible first | exact bwR _ _ | assumption | refine bdn ?_ | refine bwA ?_ ?_ _ | refine bwD ?_ | refine bwS ?_ ?_ _) | omega | (simp <;> omega)), ?_⟩
            rw [H_hre.out]
            exact ⟨_, _, _, rfl⟩
          · have g1 : ((i + 1 : Int) == (n : Int)) = false := by rw [beq_eq_false_iff_ne]; omega
            have g2 : (((i + 1 : Nat) : Int) == (n : Int)) = false := by rw [beq_eq_false_iff_ne]; omega
            have hlt2 : i + 1 < (cutL 32 s).length := by rw [H_hn.out]; omega
            obtain ⟨g', off', he, d1⟩ := H_hwords.out wr H_W.out.old (i + 1) hlt2
            injection he with he
            injection he with he1 he2 _
            subst he1 he2
            have gi2 : IntKind.i64.wrap (((i + 1 : Nat) : Int) + 1) = ((i + 2 : Nat) : Int) := IntWalk.i64_in _ (by omega)
            have gl2 : i + 1 < n := by omega
            have hwl := H_hsm.out _ (List.getElem_mem hlt2)
            obtain ⟨wd, hwd⟩ : ∃ u, (cutL 32 s)[i + 1] = u := ⟨_, rfl⟩
            have hgd2 := H_hgD.out (i + 1) hlt2
            rw [hwd] at d1 hwl hgd2
            have cC := fun W => rstepof_any (bs wd) wd rfl W (by rw [bs_size]; exact hwl)
            have hrg := rs_gt H_rd.out hgd (by omega)
            rw [hgd2] at hrg
            have hno : stepP wd = none → readP s = none := fun h => rs_none2 H_rd.out hgd (by omega) hlt2 (by rw [hgd2]; exact h)
            clear hgd2
            have H_h0 := Lib.hid h0
            clear h0
            have H_hgd := Lib.hid hgd
            clear hgd
            have H_h62 := Lib.hid h62
            clear h62
            have H_hL := Lib.hid hL
            clear hL
            have H_hrg := Lib.hid hrg
            clear hrg
            have H_hno := Lib.hid hno
            clear hno
            cases hsp : stepP wd with
            | none =>
              rw [hsp] at cC
              have hre := H_hno.out hsp
              have H_cC := Lib.hid cC
              clear cC
              have H_hre := Lib.hid hre
              clear hre
              have H_hsp := Lib.hid hsp
              clear hsp
              have H_hwd := Lib.hid hwd
              clear hwd
              go_wp2_with fail
              refine (H_cC.out _).mono ?_
              rintro en w5 ⟨hb5, rfl⟩
              have hB5 := below_via H_W.out.bel hb5
              have hz5 := hB5.size
              clear hb5 d0
              go_wp2_with fail
              go_returns
              refine ⟨by repeat' (first | (with_reducible first | exact bwR _ _ | assumption | refine bdn ?_ | refine bwA ?_ ?_ _ | refine bwD ?_ | refine bwS ?_ ?_ _) | omega | (simp <;> omega)), ?_⟩
              rw [H_hre.out]
              exact ⟨_, _, _, rfl⟩
            | some z =>
              obtain ⟨nm, wn⟩ := z
              rw [hsp] at cC
              have hrn : rdT (cutL 32 s) (i + 2) = some (false, xs.map SrX.st ++ [⟨nm, wn, true⟩]) := by rw [H_hrg.out, hsp]; rfl
              have H_cC := Lib.hid cC
              clear cC
              have H_hsp := Lib.hid hsp
              clear hsp
              have H_hwd := Lib.hid hwd
              clear hwd
              have H_hrn := Lib.hid hrn
              clear hrn
              go_wp2_with fail
              refine (H_cC.out _).mono ?_
              rintro en w5 ⟨hb5, v8, rfl, hv8⟩
              obtain ⟨o8, c8, rfl⟩ := Pk.ow_form hv8
              have hW5 := H_W.out.step hb5
              have hwr := H_W.out.size
              clear hb5 d0
              have hxl := rdT_len i H_rd.out
              rw [List.length_map] at hxl
              have hbk : Below w5.heap.size w5 (((w5.alloc (.cells #[.string (bs nm), .slice o8 wn.length c8, .bool true] 213))).alloc (.cells #[.string (bs nm), .slice o8 wn.length c8, .bool true] 213)) := ((Below.refl w5.heap.size w5).alloc (Nat.le_refl _) _).alloc (by simp) _
              have hW6 := hW5.step hbk
              have hx6 := (hv8.keep hbk).base hwr
              have hxv : ∀ b, (Value.slice o8 wn.length c8).ownBlock = some b → (Value.slice ov xs.length cv).ownBlock ≠ some b := fun b hb e => by
                have h1 := (hv8.lt b hb).1
                have h2 := (H_W.out.own.lt b e).2
                omega
              have H_hW5 := Lib.hid hW5
              clear hW5
              have H_hv8 := Lib.hid hv8
              clear hv8
              have H_hW6 := Lib.hid hW6
              clear hW6
              have H_hx6 := Lib.hid hx6
              clear hx6
              have H_hxv := Lib.hid hxv
              clear hxv
              have H_hxl := Lib.hid hxl
              clear hxl
              have H_hbk := Lib.hid hbk
              clear hbk
              go_wp2_with (at_builtin; refine wp_append_told rfl (.tmp 46) (.tmp 48) 148 rfl ESr w1.heap.size 213 i0 _ 48 Tryz.underlying148 H_hi0.out H_hz0.out H_hz1.out H_hz2.out rfl (by decide) _ xs rfl _ _ 1 1 [⟨nm, o8, wn.length, c8, wn, true⟩] rfl rfl ?a1 ?a2 ?a3 ?a4 ?_)
              case a1 => have := H_hxl.out; show xs.length + 1 ≤ 1000000; omega
              case a2 => exact H_hW6.out.own
              case a3 => exact row_one (vs := #[.string (bs nm), .slice o8 wn.length c8, .bool true]) rfl (fun j => by have h := World.cell?_alloc_new (w5.alloc (.cells #[.string (bs nm), .slice o8 wn.length c8, .bool true] 213)) #[.string (bs nm), .slice o8 wn.length c8, .bool true] 213 j; rw [World.size_alloc] at h; exact h)
              case a4 => exact H_hW6.out.size
              intro v3 w6 hv3 hA3 hg3 ho3
              obtain ⟨o3, c3, rfl⟩ := Pk.ow_form hv3
              have hW7 := H_hW6.out.app (x := ⟨nm, o8, wn.length, c8, wn, true⟩) H_hx6.out H_hxv.out hv3 hg3 (by rw [World.size_alloc, World.size_alloc]; exact ho3)
              clear hv3 hA3 hg3 ho3
              have H_hW7 := Lib.hid hW7
              clear hW7
              go_wp2_with fail
              go_roundw
              case rel => exact ⟨(i + 2), _, xs ++ [⟨nm, o8, wn.length, c8, wn, true⟩], by omega, rfl, by go_num, Lib.hid (by rw [List.map_append]; exact H_hrn.out), H_hW7⟩
              case measure => simp [intOf]; omega
      · have hne : (cutL 32 s).getD i [] ≠ [62] := by rw [hgd]; exact h62
        have hwl := H_hsm.out _ (List.getElem_mem hlt')
        obtain ⟨wd, hwd⟩ : ∃ u, (cutL 32 s)[i] = u := ⟨_, rfl⟩
        rw [hwd] at d0 hwl h62 hgd
        have hq : ((bs wd).toList == [62]) = false := by
          rw [ByteArray.toList_eq, bs_list, beq_eq_false_iff_ne]; exact h62
        have cC := fun W => rstepof_any (bs wd) wd rfl W (by rw [bs_size]; exact hwl)
        have hrg := rs_word H_rd.out hne
        rw [hgd] at hrg
        have hno : stepP wd = none → readP s = none := fun h => rs_none H_rd.out hne hlt' (by rw [hgd]; exact h)
        have H_hgd := Lib.hid hgd
        clear hgd
        have H_h62 := Lib.hid h62
        clear h62
        have H_hrg := Lib.hid hrg
        clear hrg
        have H_hno := Lib.hid hno
        clear hno
        have H_hne := Lib.hid hne
        clear hne
        cases hsp : stepP wd with
        | none =>
          rw [hsp] at cC
          have hre := H_hno.out hsp
          have H_cC := Lib.hid cC
          clear cC
          have H_hre := Lib.hid hre
          clear hre
          have H_hsp := Lib.hid hsp
          clear hsp
          have H_hwd := Lib.hid hwd
          clear hwd
          go_wp2_with fail
          refine (H_cC.out _).mono ?_
          rintro en w5 ⟨hb5, rfl⟩
          have hB5 := below_via H_W.out.bel hb5
          have hz5 := hB5.size
          clear hb5 d0
          go_wp2_with fail
          go_returns
          refine ⟨by repeat' (first | (with_reducible first | exact bwR _ _ | assumption | refine bdn ?_ | refine bwA ?_ ?_ _ | refine bwD ?_ | refine bwS ?_ ?_ _) | omega | (simp <;> omega)), ?_⟩
          rw [H_hre.out]
          exact ⟨_, _, _, rfl⟩
        | some z =>
          obtain ⟨nm, wn⟩ := z
          rw [hsp] at cC
          have hrn : rdT (cutL 32 s) (i + 1) = some (false, xs.map SrX.st ++ [⟨nm, wn, false⟩]) := by rw [H_hrg.out, hsp]; rfl
          have H_cC := Lib.hid cC
          clear cC
          have H_hsp := Lib.hid hsp
          clear hsp
          have H_hwd := Lib.hid hwd
          clear hwd
          have H_hrn := Lib.hid hrn
          clear hrn
          go_wp2_with fail
          refine (H_cC.out _).mono ?_
          rintro en w5 ⟨hb5, v8, rfl, hv8⟩
          obtain ⟨o8, c8, rfl⟩ := Pk.ow_form hv8
          have hW5 := H_W.out.step hb5
          have hwr := H_W.out.size
          clear hb5 d0
          have hxl := rdT_len i H_rd.out
          rw [List.length_map] at hxl
          have hbk : Below w5.heap.size w5 (((w5.alloc (.cells #[.string (bs nm), .slice o8 wn.length c8, .bool false] 213))).alloc (.cells #[.string (bs nm), .slice o8 wn.length c8, .bool false] 213)) := ((Below.refl w5.heap.size w5).alloc (Nat.le_refl _) _).alloc (by simp) _
          have hW6 := hW5.step hbk
          have hx6 := (hv8.keep hbk).base hwr
          have hxv : ∀ b, (Value.slice o8 wn.length c8).ownBlock = some b → (Value.slice ov xs.length cv).ownBlock ≠ some b := fun b hb e => by
            have h1 := (hv8.lt b hb).1
            have h2 := (H_W.out.own.lt b e).2
            omega
          have H_hW5 := Lib.hid hW5
          clear hW5
          have H_hv8 := Lib.hid hv8
          clear hv8
          have H_hW6 := Lib.hid hW6
          clear hW6
          have H_hx6 := Lib.hid hx6
          clear hx6
          have H_hxv := Lib.hid hxv
          clear hxv
          have H_hxl := Lib.hid hxl
          clear hxl
          have H_hbk := Lib.hid hbk
          clear hbk
          go_wp2_with (at_builtin; refine wp_append_told rfl (.tmp 46) (.tmp 48) 148 rfl ESr w1.heap.size 213 i0 _ 48 Tryz.underlying148 H_hi0.out H_hz0.out H_hz1.out H_hz2.out rfl (by decide) _ xs rfl _ _ 1 1 [⟨nm, o8, wn.length, c8, wn, false⟩] rfl rfl ?a1 ?a2 ?a3 ?a4 ?_)
          case a1 => have := H_hxl.out; show xs.length + 1 ≤ 1000000; omega
          case a2 => exact H_hW6.out.own
          case a3 => exact row_one (vs := #[.string (bs nm), .slice o8 wn.length c8, .bool false]) rfl (fun j => by have h := World.cell?_alloc_new (w5.alloc (.cells #[.string (bs nm), .slice o8 wn.length c8, .bool false] 213)) #[.string (bs nm), .slice o8 wn.length c8, .bool false] 213 j; rw [World.size_alloc] at h; exact h)
          case a4 => exact H_hW6.out.size
          intro v3 w6 hv3 hA3 hg3 ho3
          obtain ⟨o3, c3, rfl⟩ := Pk.ow_form hv3
          have hW7 := H_hW6.out.app (x := ⟨nm, o8, wn.length, c8, wn, false⟩) H_hx6.out H_hxv.out hv3 hg3 (by rw [World.size_alloc, World.size_alloc]; exact ho3)
          clear hv3 hA3 hg3 ho3
          have H_hW7 := Lib.hid hW7
          clear hW7
          go_wp2_with fail
          go_roundw
          case rel => exact ⟨(i + 1), _, xs ++ [⟨nm, o8, wn.length, c8, wn, false⟩], by omega, rfl, by go_num, Lib.hid (by rw [List.map_append]; exact H_hrn.out), H_hW7⟩
          case measure => simp [intOf]; omega
    · obtain rfl : n = i := by omega
      have hre := rs_done (by rw [H_hn.out]; exact H_rd.out)
      rw [List.length_map] at hre
      have hB := H_W.out.bel
      have hone := H_W.out.one
      by_cases h5 : 5 < xs.length
      · have g5 : ¬ ((xs.length : Int) ≤ 5) := by omega
        rw [if_pos h5] at hre
        have H_hre := Lib.hid hre
        clear hre
        go_wp2_with fail
        go_returns
        refine ⟨by repeat' (first | (with_reducible first | exact bwR _ _ | assumption | refine bdn ?_ | refine bwA ?_ ?_ _ | refine bwD ?_ | refine bwS ?_ ?_ _) | omega | (simp <;> omega)), ?_⟩
        rw [H_hre.out]
        exact ⟨_, _, _, rfl⟩
      · have g5 : (xs.length : Int) ≤ 5 := by omega
        rw [if_neg h5] at hre
        have H_hre := Lib.hid hre
        clear hre
        go_wp2_with fail
        go_returns
        refine ⟨by repeat' (first | (with_reducible first | exact bwR _ _ | assumption | refine bdn ?_ | refine bwA ?_ ?_ _ | refine bwD ?_ | refine bwS ?_ ?_ _) | omega | (simp <;> omega)), ?_⟩
        rw [H_hre.out]
        exact ⟨_, xs, rfl, H_W.out.own.base hone, fun x hx => (H_W.out.wants x hx).1.base hone, rfl⟩
end Go.Proofs.YteaipondofbecaaGreatDoor
