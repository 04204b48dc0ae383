/-
  Walks over package doc: Set.
-/
import Derived.Test.YtndlmmpheecleaaGreatDoorUb
namespace Go.Proofs.YtndlmmpheecleaaGreatDoor
open Go.RowKit Go.WideMaps Go.Maps Lead Lead.Dc Lead.Rc
theorem infoAtP : (Tryz.prog.info? 59).map (fun i => (i.zero, i.size, i.bytes)) = some (some (.agg #[.string ⟨#[]⟩, .string ⟨#[]⟩]), 2, 32) := by kernel_rfl
set_option maxHeartbeats 1000000 in
theorem pset_none (ea : Nat → Addr) (bd next : Nat) (z : Int) (nm vl : ByteArray) (F : Nat → Prop) (E : Els) (d : Nat → Nat) (w : World) (hD : DokG Tryz.prog TT w bd F E next d) (hG : DGs ea w) (hz : I64 z) (h : atZ E z = none) :
    Calls Tryz.prog 18 #[.pointer (some ⟨bd, 0, none⟩), .int .i64 z, .string nm, .string vl] w (ErrIs 264 ea 5 w) := by
  have hNone := hG.c5
  have zhNone := zlt hNone
  have xhNone := zlts hNone
  have yhNone := zne hNone
  obtain ⟨⟨pl, bm, cnt, D, hA, hc, hF⟩, hg, hbig, hlen⟩ := hD
  have hA1 := hA.keep (w' := w.alloc (.cells #[.string nm] 9)) ((Below.refl _ _).alloc (Nat.le_refl _) _)
  have c0 := hA.c0
  have hm := atZ_none h
  have zw := hA.ltD
  have H_hA := Lib.hid hA
  clear hA
  have H_hm := Lib.hid hm
  clear hm
  have H_h := Lib.hid h
  clear h
  have H_hz := Lib.hid hz
  clear hz
  have H_hG := Lib.hid hG
  clear hG
  have H_hA1 := Lib.hid hA1
  clear hA1
  clear hc hF hg
  go_enter Tryz.func18, Tryz.ntmps18
  go_wp2_with (at_lookup; refine wp_miss_ok (T := TT) TK rfl _ _ rfl rfl rfl H_hA1.out H_hm.out H_hz.out ?_)
  go_returns
  exact ⟨rfl, by repeat' (first | (with_reducible first | exact bwR _ _ | assumption | refine bdn ?_ | refine bwA ?_ ?_ _ | refine bwD ?_ | refine bwS ?_ ?_ _) | omega | (simp <;> omega))⟩
set_option maxHeartbeats 4000000 in
set_option maxRecDepth 100000 in
theorem pset_bad (ea : Nat → Addr) (bd next n : Nat) (nm vl : ByteArray) (F : Nat → Prop) (E : Els) (d : Nat → Nat) (e : El) (w : World) (hD : DokG Tryz.prog TT w bd F E next d) (hG : DGs ea w) (he : elAt E n = some e) (hc : setC E (n : Int) nm vl ≠ 0) :
    Calls Tryz.prog 18 #[.pointer (some ⟨bd, 0, none⟩), .int .i64 (n : Int), .string nm, .string vl] w (ErrIs 264 ea (setC E (n : Int) nm vl) w) := by
  have hC : setC E (n : Int) nm vl = if nmOk nm = false then 4 else if vlOk vl = false then 10 else if idxA nm e.attrs = none ∧ 12 ≤ e.attrs.length then 7 else 0 := by
    unfold setC; rw [atZ_nat, he]
  have hName := hG.c4
  have hValue := hG.c10
  have hFull := hG.c7
  have zhName := zlt hName
  have xhName := zlts hName
  have yhName := zne hName
  have zhValue := zlt hValue
  have xhValue := zlts hValue
  have yhValue := zne hValue
  have zhFull := zlt hFull
  have xhFull := zlts hFull
  have yhFull := zne hFull
  obtain ⟨⟨pl, bm, cnt, D, hA, hcn, hF⟩, hg, hbig, hlen⟩ := hD
  have hnI : I64 (n : Int) := i64_nat (by have := hg.lt n e he; omega)
  have hA1 := hA.keep (w' := w.alloc (.cells #[.string nm] 9)) ((Below.refl _ _).alloc (Nat.le_refl _) _)
  have hel := hA1.els n e he
  have c0 := hA.c0
  have zw := hA.ltD
  obtain ⟨oa, la, ca, hav, hS⟩ := hel.attrs.sl
  have cI := ixa_set nm w.heap.size oa la ca e.attrs _ hS (World.cell?_alloc_new w #[.string nm] 9 0)
  have cN := fun (W : World) => mname_any nm W
  have cV := fun (W : World) => mval_any vl W
  have hb1 : Below w.heap.size w (w.alloc (.cells #[.string nm] 9)) := (Below.refl _ _).alloc (Nat.le_refl _) _
  have hz1 : (w.alloc (.cells #[.string nm] 9)).heap.size = w.heap.size + 1 := by simp
  have hQ0 : (w.alloc (.cells #[.string nm] 9)).cell? ⟨w.heap.size, 0, none⟩ = some (.string nm) := World.cell?_alloc_new w #[.string nm] 9 0
  have e1 := hel.e1
  have ef := hel.fr
  rw [hav] at e1
  have hbl := hel.lt
  have hQ : ∀ W, Below (w.alloc (.cells #[.string nm] 9)).heap.size (w.alloc (.cells #[.string nm] 9)) W → W.cell? ⟨w.heap.size, 0, none⟩ = some (.string nm) ∧ W.cell? ⟨(pl n).blk, 1, none⟩ = some (.slice oa la ca) ∧ (∀ j, W.frozen? ⟨(pl n).blk, j, none⟩ = false) := fun W hW =>
    ⟨(hW.cell (p := ⟨w.heap.size, 0, none⟩) (by rw [hz1]; exact Nat.lt_succ_self _)).trans hQ0, (hW.cell (p := ⟨(pl n).blk, 1, none⟩) hbl).trans e1, fun j => (hW.frozen (p := ⟨(pl n).blk, j, none⟩) hbl).trans (ef j)⟩
  have hblw : (pl n).blk < w.heap.size := (hA.els n e he).lt
  obtain ⟨r, hr⟩ : ∃ u, optI (idxA nm e.attrs) = u := ⟨_, rfl⟩
  rw [hr] at cI
  cases hk : nmOk nm with
  | false =>
    rw [hk, if_pos rfl] at hC
    rw [hC]
    simp only [hk] at cN
    have H_hA1 := Lib.hid hA1
    clear hA1
    have H_he := Lib.hid he
    clear he
    have H_hnI := Lib.hid hnI
    clear hnI
    have H_cI := Lib.hid cI
    clear cI
    have H_cN := Lib.hid cN
    clear cN
    have H_cV := Lib.hid cV
    clear cV
    have H_hQ := Lib.hid hQ
    clear hQ
    have H_hA := Lib.hid hA
    clear hA
    have H_hel := Lib.hid hel
    clear hel
    have H_hav := Lib.hid hav
    clear hav
    have H_hS := Lib.hid hS
    clear hS
    have H_hG := Lib.hid hG
    clear hG
    have H_hC := Lib.hid hC
    clear hC
    have H_hk := Lib.hid hk
    clear hk
    have H_hr := Lib.hid hr
    clear hr
    have H_hc := Lib.hid hc
    clear hc
    clear hF hg hQ0
    go_enter Tryz.func18, Tryz.ntmps18
    go_wp2_with (at_lookup; refine wp_hit_ok (T := TT) TK rfl _ _ rfl rfl rfl H_hA1.out H_he.out H_hnI.out ?_)
    refine (H_cI.out).mono ?_
    rintro _ w2 ⟨rfl, hb2⟩
    have hQ2 : Below (w.alloc (.cells #[.string nm] 9)).heap.size (w.alloc (.cells #[.string nm] 9)) w2 := hb2
    clear hb2
    obtain ⟨a0, a1, af⟩ := H_hQ.out _ hQ2
    go_wp2_with fail
    refine (H_cN.out _).mono ?_
    rintro _ w3 ⟨rfl, hb3⟩
    have hQ3 : Below (w.alloc (.cells #[.string nm] 9)).heap.size (w.alloc (.cells #[.string nm] 9)) w3 := below_via hQ2 hb3
    have hB3 : Below w.heap.size w w3 := below_via hb1 hQ3
    clear hb3 a0 a1 af
    obtain ⟨a0, a1, af⟩ := H_hQ.out _ hQ3
    have hX := gkeep hB3 hName rfl
    have zX := zlt hX
    go_wp2_with fail
    go_returns
    exact ⟨rfl, hB3⟩
  | true =>
    rw [hk, if_neg (by decide)] at hC
    simp only [hk] at cN
    cases hk2 : vlOk vl with
    | false =>
      rw [hk2, if_pos rfl] at hC
      rw [hC]
      simp only [hk2] at cV
      have H_hA1 := Lib.hid hA1
      clear hA1
      have H_he := Lib.hid he
      clear he
      have H_hnI := Lib.hid hnI
      clear hnI
      have H_cI := Lib.hid cI
      clear cI
      have H_cN := Lib.hid cN
      clear cN
      have H_cV := Lib.hid cV
      clear cV
      have H_hQ := Lib.hid hQ
      clear hQ
      have H_hA := Lib.hid hA
      clear hA
      have H_hel := Lib.hid hel
      clear hel
      have H_hav := Lib.hid hav
      clear hav
      have H_hS := Lib.hid hS
      clear hS
      have H_hG := Lib.hid hG
      clear hG
      have H_hC := Lib.hid hC
      clear hC
      have H_hk := Lib.hid hk
      clear hk
      have H_hk2 := Lib.hid hk2
      clear hk2
      have H_hr := Lib.hid hr
      clear hr
      have H_hc := Lib.hid hc
      clear hc
      clear hF hg hQ0
      go_enter Tryz.func18, Tryz.ntmps18
      go_wp2_with (at_lookup; refine wp_hit_ok (T := TT) TK rfl _ _ rfl rfl rfl H_hA1.out H_he.out H_hnI.out ?_)
      refine (H_cI.out).mono ?_
      rintro _ w2 ⟨rfl, hb2⟩
      have hQ2 : Below (w.alloc (.cells #[.string nm] 9)).heap.size (w.alloc (.cells #[.string nm] 9)) w2 := hb2
      clear hb2
      obtain ⟨a0, a1, af⟩ := H_hQ.out _ hQ2
      go_wp2_with fail
      refine (H_cN.out _).mono ?_
      rintro _ w3 ⟨rfl, hb3⟩
      have hQ3 : Below (w.alloc (.cells #[.string nm] 9)).heap.size (w.alloc (.cells #[.string nm] 9)) w3 := below_via hQ2 hb3
      have hB3 : Below w.heap.size w w3 := below_via hb1 hQ3
      clear hb3 a0 a1 af
      obtain ⟨a0, a1, af⟩ := H_hQ.out _ hQ3
      go_wp2_with fail
      refine (H_cV.out _).mono ?_
      rintro _ w4 ⟨rfl, hb4⟩
      have hQ4 : Below (w.alloc (.cells #[.string nm] 9)).heap.size (w.alloc (.cells #[.string nm] 9)) w4 := below_via hQ3 hb4
      have hB4 : Below w.heap.size w w4 := below_via hb1 hQ4
      clear hb4 a0 a1 af
      obtain ⟨a0, a1, af⟩ := H_hQ.out _ hQ4
      have hX := gkeep hB4 hValue rfl
      have zX := zlt hX
      go_wp2_with fail
      go_returns
      exact ⟨rfl, hB4⟩
    | true =>
      rw [hk2, if_neg (by decide)] at hC
      simp only [hk2] at cV
      by_cases hf : idxA nm e.attrs = none ∧ 12 ≤ e.attrs.length
      · rw [if_pos hf] at hC
        rw [hC]
        have hr1 : r = -1 := by rw [← hr, hf.1]; rfl
        subst hr1
        have gL : (12 : Int) ≤ (la : Int) := by have := hS.1; have := hf.2; omega
        have H_hA1 := Lib.hid hA1
        clear hA1
        have H_he := Lib.hid he
        clear he
        have H_hnI := Lib.hid hnI
        clear hnI
        have H_cI := Lib.hid cI
        clear cI
        have H_cN := Lib.hid cN
        clear cN
        have H_cV := Lib.hid cV
        clear cV
        have H_hQ := Lib.hid hQ
        clear hQ
        have H_hA := Lib.hid hA
        clear hA
        have H_hel := Lib.hid hel
        clear hel
        have H_hav := Lib.hid hav
        clear hav
        have H_hS := Lib.hid hS
        clear hS
        have H_hG := Lib.hid hG
        clear hG
        have H_hC := Lib.hid hC
        clear hC
        have H_hk := Lib.hid hk
        clear hk
        have H_hk2 := Lib.hid hk2
        clear hk2
        have H_hr := Lib.hid hr
        clear hr
        have H_hc := Lib.hid hc
        clear hc
        have H_hf := Lib.hid hf
        clear hf
        clear hF hg hQ0
        go_enter Tryz.func18, Tryz.ntmps18
        go_wp2_with (at_lookup; refine wp_hit_ok (T := TT) TK rfl _ _ rfl rfl rfl H_hA1.out H_he.out H_hnI.out ?_)
        refine (H_cI.out).mono ?_
        rintro _ w2 ⟨rfl, hb2⟩
        have hQ2 : Below (w.alloc (.cells #[.string nm] 9)).heap.size (w.alloc (.cells #[.string nm] 9)) w2 := hb2
        clear hb2
        obtain ⟨a0, a1, af⟩ := H_hQ.out _ hQ2
        go_wp2_with fail
        refine (H_cN.out _).mono ?_
        rintro _ w3 ⟨rfl, hb3⟩
        have hQ3 : Below (w.alloc (.cells #[.string nm] 9)).heap.size (w.alloc (.cells #[.string nm] 9)) w3 := below_via hQ2 hb3
        have hB3 : Below w.heap.size w w3 := below_via hb1 hQ3
        clear hb3 a0 a1 af
        obtain ⟨a0, a1, af⟩ := H_hQ.out _ hQ3
        go_wp2_with fail
        refine (H_cV.out _).mono ?_
        rintro _ w4 ⟨rfl, hb4⟩
        have hQ4 : Below (w.alloc (.cells #[.string nm] 9)).heap.size (w.alloc (.cells #[.string nm] 9)) w4 := below_via hQ3 hb4
        have hB4 : Below w.heap.size w w4 := below_via hb1 hQ4
        clear hb4 a0 a1 af
        obtain ⟨a0, a1, af⟩ := H_hQ.out _ hQ4
        have hX := gkeep hB4 hFull rfl
        have zX := zlt hX
        go_wp2_with fail
        go_returns
        exact ⟨rfl, hB4⟩
      · rw [if_neg hf] at hC
        exact absurd hC hc
set_option maxHeartbeats 4000000 in
set_option maxRecDepth 100000 in
theorem pset_ok (bd next n : Nat) (nm vl : ByteArray) (F : Nat → Prop) (E : Els) (d : Nat → Nat) (e : El) (w : World) (hD : DokG Tryz.prog TT w bd F E next d) (he : elAt E n = some e) (hc : setC E (n : Int) nm vl = 0) (hal9 : e.attrs.length ≤ 1000) :
    Calls Tryz.prog 18 #[.pointer (some ⟨bd, 0, none⟩), .int .i64 (n : Int), .string nm, .string vl] w fun en w' => en = .returned .nilIface ∧ Became Tryz.prog TT w w' bd F (atsE E n (setA nm vl e.attrs)) next := by
  have hok : nmOk nm = true ∧ vlOk vl = true ∧ ¬ (idxA nm e.attrs = none ∧ 12 ≤ e.attrs.length) := by
    unfold setC at hc
    rw [atZ_nat, he] at hc
    dsimp only at hc
    split at hc
    · exact absurd hc (by decide)
    · next h1 =>
      split at hc
      · exact absurd hc (by decide)
      · next h2 =>
        split at hc
        · exact absurd hc (by decide)
        · next h3 => exact ⟨by cases hh : nmOk nm <;> simp_all, by cases hh : vlOk vl <;> simp_all, h3⟩
  obtain ⟨hk, hk2, hf⟩ := hok
  obtain ⟨⟨pl, bm, cnt, D, hA, hcn, hF⟩, hg, hbig, hlen⟩ := hD
  have hnI : I64 (n : Int) := i64_nat (by have := hg.lt n e he; omega)
  have hA1 := hA.keep (w' := w.alloc (.cells #[.string nm] 9)) ((Below.refl _ _).alloc (Nat.le_refl _) _)
  have hel := hA1.els n e he
  have c0 := hA.c0
  have zw := hA.ltD
  obtain ⟨oa, la, ca, hav, hS⟩ := hel.attrs.sl
  have cI := ixa_set nm w.heap.size oa la ca e.attrs _ hS (World.cell?_alloc_new w #[.string nm] 9 0)
  have cN := fun (W : World) => mname_any nm W
  have cV := fun (W : World) => mval_any vl W
  have hb1 : Below w.heap.size w (w.alloc (.cells #[.string nm] 9)) := (Below.refl _ _).alloc (Nat.le_refl _) _
  have hz1 : (w.alloc (.cells #[.string nm] 9)).heap.size = w.heap.size + 1 := by simp
  have hQ0 : (w.alloc (.cells #[.string nm] 9)).cell? ⟨w.heap.size, 0, none⟩ = some (.string nm) := World.cell?_alloc_new w #[.string nm] 9 0
  have e1 := hel.e1
  have ef := hel.fr
  rw [hav] at e1
  have hbl := hel.lt
  have hQ : ∀ W, Below (w.alloc (.cells #[.string nm] 9)).heap.size (w.alloc (.cells #[.string nm] 9)) W → W.cell? ⟨w.heap.size, 0, none⟩ = some (.string nm) ∧ W.cell? ⟨(pl n).blk, 1, none⟩ = some (.slice oa la ca) ∧ (∀ j, W.frozen? ⟨(pl n).blk, j, none⟩ = false) := fun W hW =>
    ⟨(hW.cell (p := ⟨w.heap.size, 0, none⟩) (by rw [hz1]; exact Nat.lt_succ_self _)).trans hQ0, (hW.cell (p := ⟨(pl n).blk, 1, none⟩) hbl).trans e1, fun j => (hW.frozen (p := ⟨(pl n).blk, j, none⟩) hbl).trans (ef j)⟩
  have hblw : (pl n).blk < w.heap.size := (hA.els n e he).lt
  simp only [hk] at cN
  simp only [hk2] at cV
  have hkeys := hg.keys
  have hla := hS.1
  cases hi : idxA nm e.attrs with
  | some k =>
    obtain ⟨hkl, hkn, _⟩ := idxA_name hi
    rw [hi] at cI
    simp only [show optI (some k) = (k : Int) from rfl] at cI
    have hset : setA nm vl e.attrs = e.attrs.set k (nm, vl) := by unfold setA; rw [hi]
    have hno := hA1.els n e he
    obtain ⟨ho, hrb⟩ : OwnR EAt (w.alloc (.cells #[.string nm] 9)) 0 59 (pl n).av e.attrs ∧ (pl n).av.ownBlock = rowB (pl n).av := by
      rcases hno.attrs.cases with h1 | ⟨_, _, h2⟩
      · exact h1
      · rw [h2] at hkl; simp at hkl
    obtain ⟨ga, ca', hav', _, hga, _, _, hrow⟩ := ho.form.resolve_left (by rintro ⟨_, h2⟩; rw [h2] at hkl; simp at hkl)
    have hav2 := hav
    rw [hav'] at hav2
    injection hav2 with hx1 hx2 hx3
    subst hx1 hx2 hx3
    have hfz : ∀ j, (w.alloc (.cells #[.string nm] 9)).frozen? ⟨ga, j, none⟩ = false := by
      obtain ⟨_, ⟨h3, _⟩ | ⟨g, cap, cur, h3, _, h5, _⟩⟩ := ho
      · rw [hav'] at h3; cases h3
      · rw [hav'] at h3
        injection h3 with h3
        injection h3 with h3
        injection h3 with h3
        subst h3
        exact fun _ => Dc.hfree h5
    have q1 : (w.alloc (.cells #[.string nm] 9)).cell? ⟨ga, k * 2 + 1, none⟩ = some (.string e.attrs[k].2) := by have h := hrow k hkl 1 _ rfl; rw [Nat.zero_add] at h; exact h
    have hrbw : rowB (pl n).av = some ga := by rw [← hrb, hav']; rfl
    have hgaw : ga < w.heap.size := (hF.lt ga (hF.av n e he ga hrbw))
    have hfin := fun (W : World) (hW : Below (w.alloc (.cells #[.string nm] 9)).heap.size (w.alloc (.cells #[.string nm] 9)) W) => hA1.keep hW
    have gk0 : (0 : Int) ≤ (k : Int) := by omega
    have gkl : (k : Int) < (e.attrs.length : Int) := by omega
    have gk1 : ¬ (k : Int) < 0 := by omega
    obtain ⟨K, hK⟩ : ∃ u, e.attrs.length = u := ⟨_, rfl⟩
    obtain ⟨AV, hAV⟩ : ∃ u, e.attrs[k].2 = u := ⟨_, rfl⟩
    rw [hAV] at q1
    have hQ2 : ∀ W, Below (w.alloc (.cells #[.string nm] 9)).heap.size (w.alloc (.cells #[.string nm] 9)) W → W.cell? ⟨ga, k * 2 + 1, none⟩ = some (.string AV) ∧ ∀ j, W.frozen? ⟨ga, j, none⟩ = false := fun W hW =>
      ⟨(hW.cell (p := ⟨ga, k * 2 + 1, none⟩) hga).trans q1, fun j => (hW.frozen (p := ⟨ga, j, none⟩) hga).trans (hfz j)⟩
    rw [hK] at gkl hkl e1
    simp only [hK] at hQ cI
    have hF1 := hF.keep (w' := w.alloc (.cells #[.string nm] 9)) hb1.size
    clear hQ0
    have H_hA1 := Lib.hid hA1
    clear hA1
    have H_he := Lib.hid he
    clear he
    have H_hnI := Lib.hid hnI
    clear hnI
    have H_cI := Lib.hid cI
    clear cI
    have H_cN := Lib.hid cN
    clear cN
    have H_cV := Lib.hid cV
    clear cV
    have H_hQ := Lib.hid hQ
    clear hQ
    have H_hA := Lib.hid hA
    clear hA
    have H_hel := Lib.hid hel
    clear hel
    have H_hav := Lib.hid hav
    clear hav
    have H_hS := Lib.hid hS
    clear hS
    have H_hk := Lib.hid hk
    clear hk
    have H_hk2 := Lib.hid hk2
    clear hk2
    have H_hc := Lib.hid hc
    clear hc
    have H_hf := Lib.hid hf
    clear hf
    have H_hset := Lib.hid hset
    clear hset
    have H_hno := Lib.hid hno
    clear hno
    have H_ho := Lib.hid ho
    clear ho
    have H_hrb := Lib.hid hrb
    clear hrb
    have H_hrow := Lib.hid hrow
    clear hrow
    have H_hfz := Lib.hid hfz
    clear hfz
    have H_hrbw := Lib.hid hrbw
    clear hrbw
    have H_hfin := Lib.hid hfin
    clear hfin
    have H_hQ2 := Lib.hid hQ2
    clear hQ2
    have H_hF1 := Lib.hid hF1
    clear hF1
    have H_hkeys := Lib.hid hkeys
    clear hkeys
    have H_hi := Lib.hid hi
    clear hi
    have H_hkn := Lib.hid hkn
    clear hkn
    have H_hK := Lib.hid hK
    clear hK
    have H_hAV := Lib.hid hAV
    clear hAV
    have H_hav' := Lib.hid hav'
    clear hav'
    have H_hF := Lib.hid hF
    clear hF
    have H_hg := Lib.hid hg
    clear hg
    have H_hla := Lib.hid hla
    clear hla
    clear q1
    go_enter Tryz.func18, Tryz.ntmps18
    go_wp2_with (at_lookup; refine wp_hit_ok (T := TT) TK rfl _ _ rfl rfl rfl H_hA1.out H_he.out H_hnI.out ?_)
    refine (H_cI.out).mono ?_
    rintro _ w2 ⟨rfl, hb2⟩
    have hQ2 : Below (w.alloc (.cells #[.string nm] 9)).heap.size (w.alloc (.cells #[.string nm] 9)) w2 := hb2
    clear hb2
    obtain ⟨a0, a1, af⟩ := H_hQ.out _ hQ2
    go_wp2_with fail
    refine (H_cN.out _).mono ?_
    rintro _ w3 ⟨rfl, hb3⟩
    have hQ3 : Below (w.alloc (.cells #[.string nm] 9)).heap.size (w.alloc (.cells #[.string nm] 9)) w3 := below_via hQ2 hb3
    have hB3 : Below w.heap.size w w3 := below_via hb1 hQ3
    clear hb3 a0 a1 af
    obtain ⟨a0, a1, af⟩ := H_hQ.out _ hQ3
    go_wp2_with fail
    refine (H_cV.out _).mono ?_
    rintro _ w4 ⟨rfl, hb4⟩
    have hQ4 : Below (w.alloc (.cells #[.string nm] 9)).heap.size (w.alloc (.cells #[.string nm] 9)) w4 := below_via hQ3 hb4
    have hB4 : Below w.heap.size w w4 := below_via hb1 hQ4
    clear hb4 a0 a1 af
    obtain ⟨a0, a1, af⟩ := H_hQ.out _ hQ4
    obtain ⟨p1, pf⟩ := H_hQ2.out _ hQ4
    go_wp2_with fail
    go_returns
    refine ⟨rfl, ?_⟩
    have hA4 := H_hA1.out.keep hQ4
    have hF4 := H_hF1.out.keep (w' := w4) hQ4.size
    have ho4 := H_ho.out.keep hQ4
    rw [H_hav'.out] at ho4
    have hkl' : k < e.attrs.length := by rw [H_hK.out]; exact hkl
    have hst := own_set (En := EAt) (y := (nm, vl)) (q := 1) (u := .string vl) ho4 hkl' (by decide) (by show [Value.string nm, Value.string vl] = [Value.string e.attrs[k].1, Value.string vl]; rw [H_hkn.out])
    rw [← H_hset.out] at hst
    have hst2 : OwnR EAt (w4.setCell ⟨ga, k * 2 + 1, none⟩ (.string vl)) 0 59 (pl n).av (setA nm vl e.attrs) := by
      rw [H_hav'.out]
      unfold OwnR at hst ⊢
      have hl : (setA nm vl e.attrs).length = e.attrs.length := by rw [H_hset.out, List.length_set]
      rw [hl]; rw [hl] at hst; exact hst
    have hfin2 := hA4.atsv TK hF4 H_he.out (w1 := w4.setCell ⟨ga, k * 2 + 1, none⟩ (.string vl)) ⟨rfl, rfl, rfl⟩ (by rw [World.size_setCell]; exact Nat.le_refl _) (fun j _ hj => heap_setCell_other _ _ _ _ (fun e => hj (by rw [H_hrbw.out]; exact congrArg some e.symm))) hst2
    rw [atsE_upd H_hkeys.out H_he.out] at hfin2
    refine ⟨F, fun _ h => .inl h, ⟨_, _, _, _, hfin2.1, hcn, hfin2.2.1⟩, ?_⟩
    exact (Turn.of_below hB4).trans (F' := F) hfin2.2.2 (fun _ _ h => h)
  | none =>
    have hl12 : e.attrs.length < 12 := by
      rcases Nat.lt_or_ge e.attrs.length 12 with h' | h'
      · exact h'
      · exact absurd ⟨hi, h'⟩ hf
    rw [hi] at cI
    simp only [show optI none = -1 from rfl] at cI
    have hset : setA nm vl e.attrs = e.attrs ++ [(nm, vl)] := by unfold setA; rw [hi]
    have hq1 : OwnQ EAt (w.alloc (.cells #[.string nm] 9)) 0 59 (.slice oa la ca) e.attrs := by rw [← hav]; exact hel.attrs
    have gL : ¬ (12 : Int) ≤ (la : Int) := by omega
    have hF1 := hF.keep (w' := w.alloc (.cells #[.string nm] 9)) hb1.size
    obtain ⟨iR, hiR, hzR0, hzR1, hzR2⟩ := info_parts infoAtP
    clear hQ0
    have H_hA1 := Lib.hid hA1
    clear hA1
    have H_he := Lib.hid he
    clear he
    have H_hnI := Lib.hid hnI
    clear hnI
    have H_cI := Lib.hid cI
    clear cI
    have H_cN := Lib.hid cN
    clear cN
    have H_cV := Lib.hid cV
    clear cV
    have H_hQ := Lib.hid hQ
    clear hQ
    have H_hA := Lib.hid hA
    clear hA
    have H_hel := Lib.hid hel
    clear hel
    have H_hav := Lib.hid hav
    clear hav
    have H_hS := Lib.hid hS
    clear hS
    have H_hk := Lib.hid hk
    clear hk
    have H_hk2 := Lib.hid hk2
    clear hk2
    have H_hc := Lib.hid hc
    clear hc
    have H_hf := Lib.hid hf
    clear hf
    have H_hset := Lib.hid hset
    clear hset
    have H_hq1 := Lib.hid hq1
    clear hq1
    have H_hF1 := Lib.hid hF1
    clear hF1
    have H_hkeys := Lib.hid hkeys
    clear hkeys
    have H_hi := Lib.hid hi
    clear hi
    have H_hF := Lib.hid hF
    clear hF
    have H_hg := Lib.hid hg
    clear hg
    have H_hla := Lib.hid hla
    clear hla
    have H_hiR := Lib.hid hiR
    clear hiR
    have H_hzR0 := Lib.hid hzR0
    clear hzR0
    have H_hzR1 := Lib.hid hzR1
    clear hzR1
    have H_hzR2 := Lib.hid hzR2
    clear hzR2
    go_enter Tryz.func18, Tryz.ntmps18
    go_wp2_with (at_lookup; refine wp_hit_ok (T := TT) TK rfl _ _ rfl rfl rfl H_hA1.out H_he.out H_hnI.out ?_)
    refine (H_cI.out).mono ?_
    rintro _ w2 ⟨rfl, hb2⟩
    have hQ2 : Below (w.alloc (.cells #[.string nm] 9)).heap.size (w.alloc (.cells #[.string nm] 9)) w2 := hb2
    clear hb2
    obtain ⟨a0, a1, af⟩ := H_hQ.out _ hQ2
    go_wp2_with fail
    refine (H_cN.out _).mono ?_
    rintro _ w3 ⟨rfl, hb3⟩
    have hQ3 : Below (w.alloc (.cells #[.string nm] 9)).heap.size (w.alloc (.cells #[.string nm] 9)) w3 := below_via hQ2 hb3
    have hB3 : Below w.heap.size w w3 := below_via hb1 hQ3
    clear hb3 a0 a1 af
    obtain ⟨a0, a1, af⟩ := H_hQ.out _ hQ3
    go_wp2_with fail
    refine (H_cV.out _).mono ?_
    rintro _ w4 ⟨rfl, hb4⟩
    have hQ4 : Below (w.alloc (.cells #[.string nm] 9)).heap.size (w.alloc (.cells #[.string nm] 9)) w4 := below_via hQ3 hb4
    have hB4 : Below w.heap.size w w4 := below_via hb1 hQ4
    clear hb4 a0 a1 af
    obtain ⟨a0, a1, af⟩ := H_hQ.out _ hQ4
    have hA4 := H_hA1.out.keep hQ4
    have hF4 := H_hF1.out.keep (w' := w4) hQ4.size
    have hq4 := H_hq1.out.keep hQ4
    have hbne : (pl n).blk < w4.heap.size := Nat.lt_of_lt_of_le hblw hB4.size
    have hq4' : ∀ W, Below w4.heap.size w4 W → OwnQ EAt W 0 59 (.slice oa la ca) e.attrs := fun W hW => hq4.keep hW
    have hend := fun (wa w7 : World) (o7 : Option Addr) (l7 c7 : Nat) (hba : Below w4.heap.size w4 wa) (hv7 : OwnR EAt w7 0 59 (.slice o7 l7 c7) (e.attrs ++ [(nm, vl)])) (hq : QGrown wa w7 (.slice oa la ca) (.slice o7 l7 c7)) =>
      (show (w7.cell? ⟨(pl n).blk, 1, none⟩ = some (.slice oa la ca) ∧ w7.frozen? ⟨(pl n).blk, 1, none⟩ = false) ∧ Became Tryz.prog TT w (w7.setCell ⟨(pl n).blk, 1, none⟩ (.slice o7 l7 c7)) bd F (atsE E n (setA nm vl e.attrs)) next from by
        have hs4 := hba.size
        have hw : ∀ k, k < w4.heap.size → rowB (pl n).av ≠ some k → w7.heap[k]? = w4.heap[k]? := fun k hk hn => (hq.block k (Nat.lt_of_lt_of_le hk hs4) (by rw [← H_hav.out]; exact hn)).trans (hba.block k hk)
        have hbw : rowB (pl n).av ≠ some (pl n).blk := fun hb => by
          obtain ⟨_, _, cur, hcq⟩ := H_hel.out.attrs.rowB hb
          exact H_hel.out.blk_ne hcq TK.h4 rfl
        have hfin := hA4.atts TK hF4 H_he.out (w1 := w7) (v' := .slice o7 l7 c7) ⟨hq.os.trans hba.os, hq.tape.trans hba.tape, hq.output.trans hba.output⟩ (Nat.le_trans hs4 hq.size) hw hv7 (fun b hb => (hq.row b hb).imp (fun h => by rw [H_hav.out]; exact h) (fun h => Nat.le_trans hs4 h))
        rw [atsE_upd H_hkeys.out H_he.out, ← H_hset.out] at hfin
        refine ⟨⟨(World.cell?_of_block (w := w4) (a := ⟨(pl n).blk, 1, none⟩) (hw _ hbne hbw)).trans a1, (World.frozen?_of_block (w := w4) (a := ⟨(pl n).blk, 1, none⟩) (hw _ hbne hbw)).trans (af 1)⟩, _, fun j hj => ?_, ⟨_, _, _, _, hfin.1, hcn, hfin.2.1⟩, (Turn.of_below hB4).trans (F' := F) hfin.2.2 (fun _ _ h => h)⟩
        rcases hj with h | h
        · exact .inl h
        · rcases hq.row j h with h | h
          · exact .inl (H_hF.out.av n e H_he.out j (by rw [H_hav.out]; exact h))
          · exact .inr (Nat.le_trans hB4.size (Nat.le_trans hs4 h)))
    clear hq4 hA4 hF4
    have H_hq4' := Lib.hid hq4'
    clear hq4'
    have H_hend := Lib.hid hend
    clear hend
    go_wp2_with fail
    go_region_law (first | ((refine step_append_q rfl (.tmp 59) (.tmp 63) 22 rfl EAt 59 iR _ 32 Tryz.underlying22 H_hiR.out H_hzR0.out H_hzR1.out H_hzR2.out rfl (by decide) (.slice oa la ca) e.attrs rfl _ 0 1 1 [(nm, vl)] rfl rfl ?a1 ?a2 ?a3 ?a4 ?_); (case a1 => exact Nat.one_pos); (case a2 => show e.attrs.length + 1 ≤ 1000000; omega); (case a3 => exact H_hq4'.out _ (by repeat' (first | (with_reducible first | exact bwR _ _ | assumption | refine bdn ?_ | refine bwA ?_ ?_ _ | refine bwD ?_ | refine bwS ?_ ?_ _) | omega | (simp <;> omega)))); (case a4 => first | exact row_one (vs := #[.string nm, .string vl]) rfl (fun j => World.cell?_alloc_new _ _ _ _) | exact row_one (vs := #[.string nm, .string vl]) rfl (fun j => by rw [World.cell?_drew]; exact World.cell?_alloc_new _ _ _ _)); intro v7 w7 hv7 hq7; obtain ⟨o7, c7, h7⟩ := Rc.ow_form hv7; obtain ⟨l7, hl7⟩ : ∃ u, (e.attrs ++ [(nm, vl)]).length = u := ⟨_, rfl⟩; rw [hl7] at h7; subst h7; obtain ⟨⟨e7, f7⟩, hbc⟩ := H_hend.out _ w7 o7 l7 c7 (by repeat' (first | (with_reducible first | exact bwR _ _ | assumption | refine bdn ?_ | refine bwA ?_ ?_ _ | refine bwD ?_ | refine bwS ?_ ?_ _) | omega | (simp <;> omega))) hv7 hq7; have H_bc := Lib.hid hbc; clear hbc hv7 hq7 hl7))
    all_goals
      go_wp2_with fail
      go_returns
      exact ⟨rfl, H_bc.out⟩
end Go.Proofs.YtndlmmpheecleaaGreatDoor
