/-
  Several texts as one: Do4, Do5, Do6, Do8, Pk8.
-/
import Derived.Test.YtndlmmpheecleaaGreatDoorDq
import Derived.Test.YtndlmmpheecleaaGreatDoorDn
import Derived.Test.YtndlmmpheecleaaGreatDoorKm
/-
  Walks over package doc: Add.
-/
namespace Lead.Dc
open Go Go.RowKit Lead
/-- A document turned into another: its blocks are those that it had, or new ones. -/
def Became (P : Program) (T : Tys) (w w' : World) (bd : Nat) (F : Nat → Prop) (E' : Els) (next' : Nat) : Prop :=
  ∃ F', (∀ k, F' k → F k ∨ w.heap.size ≤ k) ∧ Dok P T w' bd F' E' next' ∧ Turn F w w'
theorem addC_no {E : Els} {d : Nat → Nat} {p i : Int} {nm : ByteArray} (h : atZ E p = none) : addC E d p i nm = 5 := by
  unfold addC
  have : (if 0 ≤ p then elAt E p.toNat else none) = none := h
  rw [this]
theorem addC_el {E : Els} {d : Nat → Nat} {q : Nat} {i : Int} {nm : ByteArray} {pe : El} (h : elAt E q = some pe) : addC E d (q : Int) i nm = (if i < 0 ∨ (pe.kids.length : Int) < i then 2 else if nmOk nm = false then 4 else if 10 ≤ d q then 8 else if 100 ≤ E.length then 7 else 0) := by
  unfold addC
  rw [if_pos (Int.natCast_nonneg q), Int.toNat_natCast, h]
end Lead.Dc
namespace Go.Proofs.YtndlmmpheecleaaGreatDoor
open Go.RowKit Go.WideMaps Go.Maps Lead Lead.Dc
/-- An error of Add's. -/
def AddNo (ea : Nat → Addr) (c : Nat) (w : World) (en : Ending) (w' : World) : Prop := en = .returned (.tuple #[.int .i64 0, .iface 264 (.pointer (some (ea c)))]) ∧ Below w.heap.size w w'
set_option maxHeartbeats 1000000 in
theorem add_none (ea : Nat → Addr) (bd next : Nat) (z i : Int) (nm : ByteArray) (F : Nat → Prop) (E : Els) (d : Nat → Nat) (w : World) (hD : DokG Tryz.prog TT w bd F E next d) (hG : DGs ea w) (hz : I64 z) (h : atZ E z = none) :
    Calls Tryz.prog 11 #[.pointer (some ⟨bd, 0, none⟩), .int .i64 z, .int .i64 i, .string nm] w (AddNo ea 5 w) := by
  have hBound := hG.c2
  have hName := hG.c4
  have hNone := hG.c5
  have hFull := hG.c7
  have hDeep := hG.c8
  have zhBound := zlt hBound
  have xhBound := zlts hBound
  have yhBound := zne hBound
  have zhName := zlt hName
  have xhName := zlts hName
  have yhName := zne hName
  have zhNone := zlt hNone
  have xhNone := zlts hNone
  have yhNone := zne hNone
  have zhFull := zlt hFull
  have xhFull := zlts hFull
  have yhFull := zne hFull
  have zhDeep := zlt hDeep
  have xhDeep := zlts hDeep
  have yhDeep := zne hDeep
  have hDG := hD
  obtain ⟨⟨pl, bm, cnt, D, hA, hc, hF⟩, hg, hbig, hlen⟩ := hD
  have c0 := hA.c0
  have hm := atZ_none h
  have H_hA := Lib.hid hA
  clear hA
  have H_hm := Lib.hid hm
  clear hm
  have H_h := Lib.hid h
  clear h
  have H_hz := Lib.hid hz
  clear hz
  have H_hDG := Lib.hid hDG
  clear hDG
  have H_hG := Lib.hid hG
  clear hG
  clear hc hF hg
  go_enter Tryz.func11, Tryz.ntmps11
  go_wp2_with (at_lookup; refine wp_miss_ok (T := TT) TK rfl _ _ rfl rfl rfl H_hA.out H_hm.out H_hz.out ?_)
  go_region
  all_goals
    go_wp2_with fail
    go_returns
    exact ⟨rfl, by repeat' (first | (with_reducible first | exact bwR _ _ | assumption | refine bdn ?_ | refine bwA ?_ ?_ _ | refine bwD ?_ | refine bwS ?_ ?_ _) | omega | (simp <;> omega))⟩
set_option maxHeartbeats 1000000 in
theorem add_bad (ea : Nat → Addr) (bd next q : Nat) (i : Int) (nm : ByteArray) (F : Nat → Prop) (E : Els) (d : Nat → Nat) (pe : El) (w : World) (hD : DokG Tryz.prog TT w bd F E next d) (hG : DGs ea w) (_hi : I64 i) (he : elAt E q = some pe) (h : i < 0 ∨ (pe.kids.length : Int) < i) :
    Calls Tryz.prog 11 #[.pointer (some ⟨bd, 0, none⟩), .int .i64 (q : Int), .int .i64 i, .string nm] w (AddNo ea 2 w) := by
  have hBound := hG.c2
  have hName := hG.c4
  have hNone := hG.c5
  have hFull := hG.c7
  have hDeep := hG.c8
  have zhBound := zlt hBound
  have xhBound := zlts hBound
  have yhBound := zne hBound
  have zhName := zlt hName
  have xhName := zlts hName
  have yhName := zne hName
  have zhNone := zlt hNone
  have xhNone := zlts hNone
  have yhNone := zne hNone
  have zhFull := zlt hFull
  have xhFull := zlts hFull
  have yhFull := zne hFull
  have zhDeep := zlt hDeep
  have xhDeep := zlts hDeep
  have yhDeep := zne hDeep
  have hDG := hD
  obtain ⟨⟨pl, bm, cnt, D, hA, hc, hF⟩, hg, hbig, hlen⟩ := hD
  have c0 := hA.c0
  have hnI : I64 (q : Int) := i64_nat (by have := hg.lt q pe he; omega)
  have hE := hA.els q pe he
  have e3 := hE.e3
  obtain ⟨oa, len, cap, hkv, hS⟩ := hE.kids.sl
  rw [hkv] at e3
  have hlk : len = pe.kids.length := hS.1
  have hkl := hg.kids_len he
  have hb0 := hE.lt
  rw [← hlk] at h
  rcases h with h | h
  all_goals
    have H_hA := Lib.hid hA
    clear hA
    have H_hE := Lib.hid hE
    clear hE
    have H_he := Lib.hid he
    clear he
    have H_hkv := Lib.hid hkv
    clear hkv
    have H_hS := Lib.hid hS
    clear hS
    have H_hnI := Lib.hid hnI
    clear hnI
    have H_hDG := Lib.hid hDG
    clear hDG
    have H_hG := Lib.hid hG
    clear hG
    have H_hlk := Lib.hid hlk
    clear hlk
    clear hc hF hg
    go_enter Tryz.func11, Tryz.ntmps11
    go_wp2_with (at_lookup; refine wp_hit_ok (T := TT) TK rfl _ _ rfl rfl rfl H_hA.out H_he.out H_hnI.out ?_)
    all_goals
      go_region
      all_goals
        go_wp2_with fail
        go_returns
        exact ⟨rfl, by repeat' (first | (with_reducible first | exact bwR _ _ | assumption | refine bdn ?_ | refine bwA ?_ ?_ _ | refine bwD ?_ | refine bwS ?_ ?_ _) | omega | (simp <;> omega))⟩
set_option maxHeartbeats 1000000 in
theorem add_name (ea : Nat → Addr) (bd next q k : Nat) (nm : ByteArray) (F : Nat → Prop) (E : Els) (d : Nat → Nat) (pe : El) (w : World) (hD : DokG Tryz.prog TT w bd F E next d) (hG : DGs ea w) (he : elAt E q = some pe) (hk0 : k ≤ pe.kids.length) (hnm : nmOk nm = false) :
    Calls Tryz.prog 11 #[.pointer (some ⟨bd, 0, none⟩), .int .i64 (q : Int), .int .i64 (k : Int), .string nm] w (AddNo ea 4 w) := by
  have hBound := hG.c2
  have hName := hG.c4
  have hNone := hG.c5
  have hFull := hG.c7
  have hDeep := hG.c8
  have zhBound := zlt hBound
  have xhBound := zlts hBound
  have yhBound := zne hBound
  have zhName := zlt hName
  have xhName := zlts hName
  have yhName := zne hName
  have zhNone := zlt hNone
  have xhNone := zlts hNone
  have yhNone := zne hNone
  have zhFull := zlt hFull
  have xhFull := zlts hFull
  have yhFull := zne hFull
  have zhDeep := zlt hDeep
  have xhDeep := zlts hDeep
  have yhDeep := zne hDeep
  have hDG := hD
  obtain ⟨⟨pl, bm, cnt, D, hA, hc, hF⟩, hg, hbig, hlen⟩ := hD
  have c0 := hA.c0
  have hnI : I64 (q : Int) := i64_nat (by have := hg.lt q pe he; omega)
  have hE := hA.els q pe he
  have e3 := hE.e3
  obtain ⟨oa, len, cap, hkv, hS⟩ := hE.kids.sl
  rw [hkv] at e3
  have hlk : len = pe.kids.length := hS.1
  have hkl := hg.kids_len he
  have hb0 := hE.lt
  have hk : ¬ (k : Int) < 0 := by omega
  have hk2 : ¬ (len : Int) < (k : Int) := by omega
  have H_hA := Lib.hid hA
  clear hA
  have H_hE := Lib.hid hE
  clear hE
  have H_he := Lib.hid he
  clear he
  have H_hkv := Lib.hid hkv
  clear hkv
  have H_hS := Lib.hid hS
  clear hS
  have H_hnI := Lib.hid hnI
  clear hnI
  have H_hDG := Lib.hid hDG
  clear hDG
  have H_hG := Lib.hid hG
  clear hG
  have H_hlk := Lib.hid hlk
  clear hlk
  clear hc hF hg
  have H_hnm := Lib.hid hnm
  clear hnm
  go_enter Tryz.func11, Tryz.ntmps11
  go_wp2_with (at_lookup; refine wp_hit_ok (T := TT) TK rfl _ _ rfl rfl rfl H_hA.out H_he.out H_hnI.out ?_)
  refine call_bel (w := w) (by repeat' (first | (with_reducible first | exact bwR _ _ | assumption | refine bdn ?_ | refine bwA ?_ ?_ _ | refine bwD ?_ | refine bwS ?_ ?_ _) | omega | (simp <;> omega))) (fun HB => mname_any nm _) ?_
  intro w1 hb1 hz1 c1 d1 hW1
  rw [H_hnm.out]
  have hBound_1 := gkeep hb1 hBound rfl
  have hName_1 := gkeep hb1 hName rfl
  have hDeep_1 := gkeep hb1 hDeep rfl
  have hFull_1 := gkeep hb1 hFull rfl
  have t1 := hb1.size
  clear hz1 c1 d1 hW1
  go_wp2_with fail
  go_region
  all_goals
    go_wp2_with fail
    go_returns
    exact ⟨rfl, by repeat' (first | (with_reducible first | exact bwR _ _ | assumption | refine bdn ?_ | refine bwA ?_ ?_ _ | refine bwD ?_ | refine bwS ?_ ?_ _) | omega | (simp <;> omega))⟩
set_option maxHeartbeats 1000000 in
theorem add_deep (ea : Nat → Addr) (bd next q k : Nat) (nm : ByteArray) (F : Nat → Prop) (E : Els) (d : Nat → Nat) (pe : El) (w : World) (hD : DokG Tryz.prog TT w bd F E next d) (hG : DGs ea w) (he : elAt E q = some pe) (hk0 : k ≤ pe.kids.length) (hnm : nmOk nm = true) (hdp : 10 ≤ d q) :
    Calls Tryz.prog 11 #[.pointer (some ⟨bd, 0, none⟩), .int .i64 (q : Int), .int .i64 (k : Int), .string nm] w (AddNo ea 8 w) := by
  have hBound := hG.c2
  have hName := hG.c4
  have hNone := hG.c5
  have hFull := hG.c7
  have hDeep := hG.c8
  have zhBound := zlt hBound
  have xhBound := zlts hBound
  have yhBound := zne hBound
  have zhName := zlt hName
  have xhName := zlts hName
  have yhName := zne hName
  have zhNone := zlt hNone
  have xhNone := zlts hNone
  have yhNone := zne hNone
  have zhFull := zlt hFull
  have xhFull := zlts hFull
  have yhFull := zne hFull
  have zhDeep := zlt hDeep
  have xhDeep := zlts hDeep
  have yhDeep := zne hDeep
  have hDG := hD
  obtain ⟨⟨pl, bm, cnt, D, hA, hc, hF⟩, hg, hbig, hlen⟩ := hD
  have c0 := hA.c0
  have hnI : I64 (q : Int) := i64_nat (by have := hg.lt q pe he; omega)
  have hE := hA.els q pe he
  have e3 := hE.e3
  obtain ⟨oa, len, cap, hkv, hS⟩ := hE.kids.sl
  rw [hkv] at e3
  have hlk : len = pe.kids.length := hS.1
  have hkl := hg.kids_len he
  have hb0 := hE.lt
  have hk : ¬ (k : Int) < 0 := by omega
  have hk2 : ¬ (len : Int) < (k : Int) := by omega
  have H_hA := Lib.hid hA
  clear hA
  have H_hE := Lib.hid hE
  clear hE
  have H_he := Lib.hid he
  clear he
  have H_hkv := Lib.hid hkv
  clear hkv
  have H_hS := Lib.hid hS
  clear hS
  have H_hnI := Lib.hid hnI
  clear hnI
  have H_hDG := Lib.hid hDG
  clear hDG
  have H_hG := Lib.hid hG
  clear hG
  have H_hlk := Lib.hid hlk
  clear hlk
  clear hc hF hg
  have H_hnm := Lib.hid hnm
  clear hnm
  go_enter Tryz.func11, Tryz.ntmps11
  go_wp2_with (at_lookup; refine wp_hit_ok (T := TT) TK rfl _ _ rfl rfl rfl H_hA.out H_he.out H_hnI.out ?_)
  refine call_bel (w := w) (by repeat' (first | (with_reducible first | exact bwR _ _ | assumption | refine bdn ?_ | refine bwA ?_ ?_ _ | refine bwD ?_ | refine bwS ?_ ?_ _) | omega | (simp <;> omega))) (fun HB => mname_any nm _) ?_
  intro w1 hb1 hz1 c1 d1 hW1
  rw [H_hnm.out]
  have hBound_1 := gkeep hb1 hBound rfl
  have hName_1 := gkeep hb1 hName rfl
  have hDeep_1 := gkeep hb1 hDeep rfl
  have hFull_1 := gkeep hb1 hFull rfl
  have t1 := hb1.size
  clear hz1 c1 d1 hW1
  go_wp2_with fail
  refine call_bel (w := w) (by repeat' (first | (with_reducible first | exact bwR _ _ | assumption | refine bdn ?_ | refine bwA ?_ ?_ _ | refine bwD ?_ | refine bwS ?_ ?_ _) | omega | (simp <;> omega))) (fun HB => deep_any bd next q F E d pe _ (H_hDG.out.keep HB) H_he.out) ?_
  intro w2 hb2 hz2 c2 d2 hW2
  have hDeep_2 := gkeep hb2 hDeep rfl
  have hFull_2 := gkeep hb2 hFull rfl
  have t2 := hb2.size
  clear hz2 c2 d2 hW2
  go_wp2_with fail
  go_region
  all_goals
    go_wp2_with fail
    go_returns
    exact ⟨rfl, by repeat' (first | (with_reducible first | exact bwR _ _ | assumption | refine bdn ?_ | refine bwA ?_ ?_ _ | refine bwD ?_ | refine bwS ?_ ?_ _) | omega | (simp <;> omega))⟩
set_option maxHeartbeats 1000000 in
theorem add_full (ea : Nat → Addr) (bd next q k : Nat) (nm : ByteArray) (F : Nat → Prop) (E : Els) (d : Nat → Nat) (pe : El) (w : World) (hD : DokG Tryz.prog TT w bd F E next d) (hG : DGs ea w) (he : elAt E q = some pe) (hk0 : k ≤ pe.kids.length) (hnm : nmOk nm = true) (hdp : d q < 10) (hfu : 100 ≤ E.length) :
    Calls Tryz.prog 11 #[.pointer (some ⟨bd, 0, none⟩), .int .i64 (q : Int), .int .i64 (k : Int), .string nm] w (AddNo ea 7 w) := by
  have hBound := hG.c2
  have hName := hG.c4
  have hNone := hG.c5
  have hFull := hG.c7
  have hDeep := hG.c8
  have zhBound := zlt hBound
  have xhBound := zlts hBound
  have yhBound := zne hBound
  have zhName := zlt hName
  have xhName := zlts hName
  have yhName := zne hName
  have zhNone := zlt hNone
  have xhNone := zlts hNone
  have yhNone := zne hNone
  have zhFull := zlt hFull
  have xhFull := zlts hFull
  have yhFull := zne hFull
  have zhDeep := zlt hDeep
  have xhDeep := zlts hDeep
  have yhDeep := zne hDeep
  have hDG := hD
  obtain ⟨⟨pl, bm, cnt, D, hA, hc, hF⟩, hg, hbig, hlen⟩ := hD
  have c0 := hA.c0
  have hnI : I64 (q : Int) := i64_nat (by have := hg.lt q pe he; omega)
  have hE := hA.els q pe he
  have e3 := hE.e3
  obtain ⟨oa, len, cap, hkv, hS⟩ := hE.kids.sl
  rw [hkv] at e3
  have hlk : len = pe.kids.length := hS.1
  have hkl := hg.kids_len he
  have hb0 := hE.lt
  have hk : ¬ (k : Int) < 0 := by omega
  have hk2 : ¬ (len : Int) < (k : Int) := by omega
  have H_hA := Lib.hid hA
  clear hA
  have H_hE := Lib.hid hE
  clear hE
  have H_he := Lib.hid he
  clear he
  have H_hkv := Lib.hid hkv
  clear hkv
  have H_hS := Lib.hid hS
  clear hS
  have H_hnI := Lib.hid hnI
  clear hnI
  have H_hDG := Lib.hid hDG
  clear hDG
  have H_hG := Lib.hid hG
  clear hG
  have H_hlk := Lib.hid hlk
  clear hlk
  clear hc hF hg
  have H_hnm := Lib.hid hnm
  clear hnm
  go_enter Tryz.func11, Tryz.ntmps11
  go_wp2_with (at_lookup; refine wp_hit_ok (T := TT) TK rfl _ _ rfl rfl rfl H_hA.out H_he.out H_hnI.out ?_)
  refine call_bel (w := w) (by repeat' (first | (with_reducible first | exact bwR _ _ | assumption | refine bdn ?_ | refine bwA ?_ ?_ _ | refine bwD ?_ | refine bwS ?_ ?_ _) | omega | (simp <;> omega))) (fun HB => mname_any nm _) ?_
  intro w1 hb1 hz1 c1 d1 hW1
  rw [H_hnm.out]
  have hBound_1 := gkeep hb1 hBound rfl
  have hName_1 := gkeep hb1 hName rfl
  have hDeep_1 := gkeep hb1 hDeep rfl
  have hFull_1 := gkeep hb1 hFull rfl
  have t1 := hb1.size
  clear hz1 c1 d1 hW1
  go_wp2_with fail
  refine call_bel (w := w) (by repeat' (first | (with_reducible first | exact bwR _ _ | assumption | refine bdn ?_ | refine bwA ?_ ?_ _ | refine bwD ?_ | refine bwS ?_ ?_ _) | omega | (simp <;> omega))) (fun HB => deep_any bd next q F E d pe _ (H_hDG.out.keep HB) H_he.out) ?_
  intro w2 hb2 hz2 c2 d2 hW2
  have hDeep_2 := gkeep hb2 hDeep rfl
  have hFull_2 := gkeep hb2 hFull rfl
  have t2 := hb2.size
  clear hz2 c2 d2 hW2
  have hA2 := H_hA.out.keep hb2
  have c0_2 := hA2.c0
  have c1_2 := hA2.c1
  have y0_2 := hA2.fr 0
  have y1_2 := hA2.fr 1
  have hds : Maps.size D = E.length := hA2.md.size
  have zd2 := hA2.ltD
  have hmap2 := hA2.map
  have hd100 : 100 ≤ Maps.size D := by omega
  have H_hA2 := Lib.hid hA2
  clear hA2
  have H_hmap2 := Lib.hid hmap2
  clear hmap2
  have H_hds := Lib.hid hds
  clear hds
  go_wp2_with (at_len; refine wpList_len_own _ rfl _ 97 rfl 3 105 Tryz.underlying97 pElem bm cnt D rfl H_hmap2.out ?_)
  go_region
  all_goals
    go_wp2_with fail
    go_returns
    exact ⟨rfl, by repeat' (first | (with_reducible first | exact bwR _ _ | assumption | refine bdn ?_ | refine bwA ?_ ?_ _ | refine bwD ?_ | refine bwS ?_ ?_ _) | omega | (simp <;> omega))⟩
set_option maxHeartbeats 2000000 in
set_option maxRecDepth 100000 in
theorem add_ok (ea : Nat → Addr) (bd next q k : Nat) (nm : ByteArray) (F : Nat → Prop) (E : Els) (d : Nat → Nat) (pe : El) (w : World) (hD : DokG Tryz.prog TT w bd F E next d) (hG : DGs ea w) (he : elAt E q = some pe) (hk0 : k ≤ pe.kids.length) (hnm : nmOk nm = true) (hdp : d q < 10) (hfu : E.length < 100) :
    Calls Tryz.prog 11 #[.pointer (some ⟨bd, 0, none⟩), .int .i64 (q : Int), .int .i64 (k : Int), .string nm] w fun en w' => en = .returned (.tuple #[.int .i64 (next : Int), .nilIface]) ∧ Became Tryz.prog TT w w' bd F (addE E next q k nm) (next + 1) := by
  have hBound := hG.c2
  have hName := hG.c4
  have hNone := hG.c5
  have hFull := hG.c7
  have hDeep := hG.c8
  have zhBound := zlt hBound
  have xhBound := zlts hBound
  have yhBound := zne hBound
  have zhName := zlt hName
  have xhName := zlts hName
  have yhName := zne hName
  have zhNone := zlt hNone
  have xhNone := zlts hNone
  have yhNone := zne hNone
  have zhFull := zlt hFull
  have xhFull := zlts hFull
  have yhFull := zne hFull
  have zhDeep := zlt hDeep
  have xhDeep := zlts hDeep
  have yhDeep := zne hDeep
  have hDG := hD
  obtain ⟨⟨pl, bm, cnt, D, hA, hc, hF⟩, hg, hbig, hlen⟩ := hD
  have c0 := hA.c0
  have hnI : I64 (q : Int) := i64_nat (by have := hg.lt q pe he; omega)
  have hE := hA.els q pe he
  have e3 := hE.e3
  obtain ⟨oa, len, cap, hkv, hS⟩ := hE.kids.sl
  rw [hkv] at e3
  have hlk : len = pe.kids.length := hS.1
  have hkl := hg.kids_len he
  have hb0 := hE.lt
  have hqn : q ≠ next := by have := hg.lt q pe he; omega
  have hnew := hg.new
  have hkey := hg.new_key
  have hnd := hg.keys
  have hcb : cnt ≤ 1000000 := by omega
  have hnxI : I64 (next : Int) := i64_nat (by omega)
  have hk : ¬ (k : Int) < 0 := by omega
  have hk2 : ¬ (len : Int) < (k : Int) := by omega
  have H_hA := Lib.hid hA
  clear hA
  have H_hE := Lib.hid hE
  clear hE
  have H_he := Lib.hid he
  clear he
  have H_hkv := Lib.hid hkv
  clear hkv
  have H_hS := Lib.hid hS
  clear hS
  have H_hnI := Lib.hid hnI
  clear hnI
  have H_hDG := Lib.hid hDG
  clear hDG
  have H_hG := Lib.hid hG
  clear hG
  have H_hlk := Lib.hid hlk
  clear hlk
  clear hg
  have H_hnm := Lib.hid hnm
  clear hnm
  have H_hF := Lib.hid hF
  clear hF
  have H_hnew := Lib.hid hnew
  clear hnew
  have H_hkey := Lib.hid hkey
  clear hkey
  have H_hnd := Lib.hid hnd
  clear hnd
  have H_hnxI := Lib.hid hnxI
  clear hnxI
  go_enter Tryz.func11, Tryz.ntmps11
  go_wp2_with (at_lookup; refine wp_hit_ok (T := TT) TK rfl _ _ rfl rfl rfl H_hA.out H_he.out H_hnI.out ?_)
  refine call_bel (w := w) (by repeat' (first | (with_reducible first | exact bwR _ _ | assumption | refine bdn ?_ | refine bwA ?_ ?_ _ | refine bwD ?_ | refine bwS ?_ ?_ _) | omega | (simp <;> omega))) (fun HB => mname_any nm _) ?_
  intro w1 hb1 hz1 c1 d1 hW1
  rw [H_hnm.out]
  have hBound_1 := gkeep hb1 hBound rfl
  have hName_1 := gkeep hb1 hName rfl
  have hDeep_1 := gkeep hb1 hDeep rfl
  have hFull_1 := gkeep hb1 hFull rfl
  have t1 := hb1.size
  clear hz1 c1 d1 hW1
  go_wp2_with fail
  refine call_bel (w := w) (by repeat' (first | (with_reducible first | exact bwR _ _ | assumption | refine bdn ?_ | refine bwA ?_ ?_ _ | refine bwD ?_ | refine bwS ?_ ?_ _) | omega | (simp <;> omega))) (fun HB => deep_any bd next q F E d pe _ (H_hDG.out.keep HB) H_he.out) ?_
  intro w2 hb2 hz2 c2 d2 hW2
  have hDeep_2 := gkeep hb2 hDeep rfl
  have hFull_2 := gkeep hb2 hFull rfl
  have t2 := hb2.size
  clear hz2 c2 d2 hW2
  have hA2 := H_hA.out.keep hb2
  have c0_2 := hA2.c0
  have c1_2 := hA2.c1
  have y0_2 := hA2.fr 0
  have y1_2 := hA2.fr 1
  have hds : Maps.size D = E.length := hA2.md.size
  have zd2 := hA2.ltD
  have hmap2 := hA2.map
  have hd100 : Maps.size D < 100 := by omega
  have H_hA2 := Lib.hid hA2
  clear hA2
  have H_hmap2 := Lib.hid hmap2
  clear hmap2
  have H_hds := Lib.hid hds
  clear hds
  go_wp2_with (first
    | (at_len; refine wpList_len_own _ rfl _ 97 rfl 3 105 Tryz.underlying97 pElem bm cnt D rfl H_hmap2.out ?_)
    | (at_mapUpdate; go_loud (refine wpList_mapUpdate_own _ rfl _ _ _ 97 rfl 3 105 (int_keyed Tryz.underlying3) Tryz.underlying97 pElem bm cnt D rfl ?own (by unfold maxLen; omega) _ _ _ rfl rfl (key_of TK H_hnxI.out) (.lit (.int .i64 (w2.heap.size : Int))) [] rfl ?_)))
  case own => exact ((H_hA2.out.bump TK (next + 1) (by go_num)).keep ((Below.refl _ _).alloc (Nat.le_refl _) _)).map
  intro w5 hown5 hgrow5
  have hA3 := H_hA2.out.bump TK (next + 1) (v := .int .i64 ((next : Int) + 1)) (by go_num)
  obtain ⟨w3, hw3⟩ : ∃ u, w2.setCell ⟨bd, 1, none⟩ (.int .i64 ((next : Int) + 1)) = u := ⟨_, rfl⟩
  have hz3 : w3.heap.size = w2.heap.size := by rw [← hw3]; simp
  have hT3 : Turn F w2 w3 := by rw [← hw3]; exact Turn.set H_hF.out.d
  rw [hw3] at hA3 hgrow5
  obtain ⟨w4, hw4⟩ : ∃ u, w3.alloc (.cells #[.string nm, .slice none 0 0, .int .i64 (q : Int), .slice none 0 0] 108) = u := ⟨_, rfl⟩
  have hB4 : Below w3.heap.size w3 w4 := by rw [← hw4]; exact (Below.refl _ _).alloc (Nat.le_refl _) _
  have hz4 : w4.heap.size = w2.heap.size + 1 := by rw [← hw4, ← hz3]; simp
  have hn4 : w4.heap[w2.heap.size]? = some (.cells #[.string nm, .slice none 0 0, .int .i64 (q : Int), .slice none 0 0] 108 (0, 0)) := by rw [← hw4, ← hz3]; exact heap_alloc_new _ _
  rw [hw4] at hgrow5
  have hA4 := hA3.keep hB4
  have hE4 : ElIn TT.E TT.A TT.I 0 w4 ⟨nm, [], (q : Int), []⟩ ⟨w2.heap.size, .slice none 0 0, .slice none 0 0⟩ := ⟨Nat.zero_le _, hn4, .inl (OwnR.nil _ _ _ _), .inl (OwnR.nil _ _ _ _)⟩
  have hA5 := hA4.put (w' := w5) H_hnew.out hE4 (fun m f hf => ⟨by have := (H_hA2.out.els m f hf).lt; show w2.heap.size ≠ _; omega, (fun b hb => by cases hb), (fun b hb => by cases hb)⟩) hown5 hgrow5
  have hF2 : Foot w2 F bd bm E pl := H_hF.out.keep hb2.size
  have hF5 := hF2.put (w' := w5) (n := next) (e := ⟨nm, [], (q : Int), []⟩) (p := ⟨w2.heap.size, .slice none 0 0, .slice none 0 0⟩) H_hkey.out (by have := hgrow5.size; omega) (by have := hgrow5.size; show w2.heap.size < _; omega) (fun b hb => by cases hb) (fun b hb => by cases hb)
  have hT5 : Turn F w w5 := ((Turn.of_below hb2).goOn hT3 (fun _ h => .inl h)).goOn ((Turn.of_below (F := F) hB4).goOn (Turn.grown hgrow5 H_hF.out.m) (fun _ h => .inl h)) (fun _ h => .inl h)
  have he5 : elAt (E ++ [(next, (⟨nm, [], (q : Int), []⟩ : El))]) q = some pe := by rw [elAt_append E next _ H_hkey.out, if_neg hqn]; exact H_he.out
  have hq5 := hA5.els q pe he5
  rw [if_neg hqn] at hq5
  have e3_5 := hq5.e3
  rw [H_hkv.out] at e3_5
  have hlt5 := hq5.lt
  have hkq : OwnQ EIn w5 0 3 (.slice oa len cap) pe.kids := by have h := hq5.kids; rw [H_hkv.out] at h; exact h
  obtain ⟨pl5, hpl5⟩ : ∃ u, (fun x => if x = next then (⟨w2.heap.size, .slice none 0 0, .slice none 0 0⟩ : Plc) else pl x) = u := ⟨_, rfl⟩
  have hp5 : pl5 q = pl q := by rw [← hpl5]; exact if_neg hqn
  rw [hpl5] at hA5 hF5
  have z45 : w2.heap.size + 1 ≤ w5.heap.size := by have := hgrow5.size; omega
  obtain ⟨D5, hD5⟩ : ∃ u, D.put (.int .i64 (next : Int)) (.lit (.int .i64 (w2.heap.size : Int))) = u := ⟨_, rfl⟩
  have hA5' : DAt Tryz.prog TT w5 bd (E ++ [(next, ⟨nm, [], (q : Int), []⟩)]) (next + 1) pl5 bm (cnt + 1) D5 := by rw [← hD5]; exact hA5
  have hblk : (pl q).blk = (pl5 q).blk := by rw [hp5]
  have hkv5 : (pl5 q).kv = .slice oa len cap := by rw [hp5]; exact H_hkv.out
  rw [hblk] at e3_5 hlt5
  obtain ⟨bq, hbq⟩ : ∃ u, (pl5 q).blk = u := ⟨_, rfl⟩
  rw [hbq] at e3_5 hlt5
  have hbq0 : (pl q).blk = bq := hblk.trans hbq
  rw [hbq0]
  clear hA5 hq5 hA4 hE4 hA3 hn4 hw4 hw3 hown5 hgrow5 hblk hp5 hpl5 hD5 hF2 hT3 hB4
  have H_hA5' := Lib.hid hA5'
  clear hA5'
  have H_hF5 := Lib.hid hF5
  clear hF5
  have H_hT5 := Lib.hid hT5
  clear hT5
  have H_he5 := Lib.hid he5
  clear he5
  have H_hkq := Lib.hid hkq
  clear hkq
  have H_hkv5 := Lib.hid hkv5
  clear hkv5
  have H_hbq := Lib.hid hbq
  clear hbq
  have H_hbq0 := Lib.hid hbq0
  clear hbq0
  go_wp2_with fail
  have hkq6 : OwnQ EIn (w5.alloc (.cells #[.int .i64 (next : Int)] 3)) 0 3 (.slice oa len cap) pe.kids := H_hkq.out.keep ((Below.refl _ _).alloc (Nat.le_refl _) _)
  refine (ins_any (ρ := Tryz.insI_ren) Tryz.insI (base := 0) (kv := .slice oa len cap) (kids := pe.kids) (vb := w5.heap.size) (i := k) (n := next) (tv := 3) hkq6 hk0 (heap_alloc_new _ _) (fun hb => by
    obtain ⟨_, h, _⟩ := H_hkq.out.rowB hb
    omega) (by omega) (Nat.zero_le _)).mono ?_
  rintro _ w7 ⟨v7, rfl, hv7, hrt, hvb7⟩
  obtain ⟨o7, l7, c7, rfl⟩ := own_form hv7
  have z7 := hrt.size
  rw [World.size_alloc] at z7
  have hw7 : ∀ j, j < w5.heap.size → rowB (.slice oa len cap) ≠ some j → w7.heap[j]? = w5.heap[j]? := fun j hj hn => (hrt.block j (by rw [World.size_alloc]; omega) hn).trans (Below.heap_alloc _ _ _ hj)
  have hbne : rowB (.slice oa len cap) ≠ some bq := fun hb => by
    obtain ⟨_, _, cur, hcq⟩ := H_hkq.out.rowB hb
    exact (H_hA5'.out.els q pe H_he5.out).blk_ne hcq TK.h5 H_hbq.out.symm
  have hcell7 : w7.heap[bq]? = w5.heap[bq]? := hw7 bq hlt5 hbne
  have hcq := (H_hA5'.out.els q pe H_he5.out).cell
  rw [H_hbq.out, ← hcell7] at hcq
  have e3_7 : w7.cell? ⟨bq, 3, none⟩ = some (pl5 q).kv := hcell hcq rfl
  have y3_7 : w7.frozen? ⟨bq, 3, none⟩ = false := hfree hcq
  have hfin := H_hA5'.out.kids TK H_hF5.out H_he5.out (w1 := w7) (v' := .slice o7 l7 c7) (l' := insK pe.kids k next) ⟨hrt.os, hrt.tape, hrt.output⟩ (by omega) (fun j hj hn => hw7 j hj (by rw [← H_hkv5.out]; exact hn)) hv7 (fun b hb => by
    rcases hvb7 b hb with h | h
    · rw [H_hkv5.out]; exact .inl h
    · rw [World.size_alloc] at h; exact .inr (by omega))
  rw [H_hbq.out] at hfin
  have hvlt : ∀ b, rowB (.slice o7 l7 c7) = some b → F b ∨ w.heap.size ≤ b := fun b hb => by
    rcases hvb7 b hb with h | h
    · exact .inl (H_hF.out.kv q pe H_he.out b (by rw [H_hkv.out]; exact h))
    · rw [World.size_alloc] at h; exact .inr (by omega)
  clear hcq hcell7 hw7 hrt hvb7 hv7
  have H_hfin := Lib.hid hfin
  clear hfin
  have H_hvlt := Lib.hid hvlt
  clear hvlt
  go_wp2_with fail
  go_returns
  have hEq : upd (E ++ [(next, (⟨nm, [], (q : Int), []⟩ : El))]) q (fun _ => { pe with kids := insK pe.kids k next }) = addE E next q k nm := by
    rw [upd_app', upd_one q next _ _ (fun h => hqn h.symm), upd_const H_hnd.out H_he.out (fun e => { e with kids := insK e.kids k next })]
    rfl
  have hfin := H_hfin.out
  rw [hEq] at hfin
  refine ⟨rfl, _, fun j hj => ?_, ⟨_, _, _, _, hfin.1, by omega, hfin.2.1⟩, H_hT5.out.goOn hfin.2.2 (fun j hj => ?_)⟩
  · rcases hj with (h | h | h | h) | h
    · exact .inl h
    · right; rw [h]; exact t2
    · cases h
    · cases h
    · exact H_hvlt.out j h
  · rcases hj with h | h | h | h
    · exact .inl h
    · right; rw [h]; exact t2
    · cases h
    · cases h
end Go.Proofs.YtndlmmpheecleaaGreatDoor

/-
  Walks over package doc: off, Remove.
-/
namespace Lead.Dc
open Go Go.RowKit Lead
variable {E : Els} {next : Nat} {d : Nat → Nat}
/-- n is no child of p any more. -/
def offE (E : Els) (n p : Nat) : Els := upd E p (fun e => { e with kids := offK e.kids n })
theorem Good.below_trans (g : Good E next d) {n : Nat} : ∀ (f x y : Nat), x ∈ below E 10 n → y ∈ below E f x → y ∈ below E 10 n := by
  intro f
  induction f with
  | zero => intro x y hx hy; rw [List.mem_singleton.1 hy]; exact hx
  | succ f ih =>
    intro x y hx hy
    rcases List.mem_cons.1 hy with rfl | hy
    · exact hx
    · obtain ⟨k, hk, hy⟩ := List.mem_flatMap.1 hy
      exact ih k y (g.below_kid 10 n x k (by omega) hx hk) hy
theorem offE_at (n p x : Nat) (h : x ≠ p) : elAt (offE E n p) x = elAt E x := by unfold offE; rw [elAt_upd, if_neg h]
theorem offE_kids (n p x : Nat) (h : x ≠ p) : kidsAt (offE E n p) x = kidsAt E x := by unfold kidsAt; rw [offE_at n p x h]
theorem Good.off_p (g : Good E next d) {n p : Nat} {e : El} (hn : elAt E n = some e) (h0 : n ≠ 0) (hp : e.parent = (p : Int)) : p ∉ below E 10 n ∧ ∃ pe, elAt E p = some pe ∧ n ∈ pe.kids := by
  obtain ⟨q, pe, hq, hpe, hd, hk, _⟩ := g.par hn h0
  obtain rfl : p = q := by rw [hp] at hq; exact Int.ofNat_inj.1 hq
  exact ⟨fun h => by have := (g.below_d 10 n p h).1; omega, pe, hpe, hk⟩
theorem Good.wk_off (g : Good E next d) (hl : E.length ≤ 1000000) {n p : Nat} {e : El} (hn : elAt E n = some e) (h0 : n ≠ 0) (hp : e.parent = (p : Int)) :
    Wk (offE E n p) next d (fun x => x ∈ below E 10 n) ∧ below (offE E n p) 10 n = below E 10 n := by
  obtain ⟨hpb, _⟩ := g.off_p hn h0 hp
  have hne : ∀ x ∈ below E 10 n, x ≠ p := fun x hx h => hpb (h ▸ hx)
  have hin : ∀ x ∈ below E 10 n, ∃ e, elAt E x = some e := fun x hx => g.below_in 10 n x ⟨e, hn⟩ hx
  have hbe : ∀ x ∈ below E 10 n, below (offE E n p) 10 x = below E 10 x := fun x hx => below_congr 10 x fun y hy => offE_kids n p y (hne y (g.below_trans 10 x y hx hy))
  refine ⟨⟨fun x hx => ?_, fun x hx => ?_, fun x hx k hk => ?_, fun x hx => ?_, fun x hx => ?_, fun x hx => ?_⟩, hbe n (self_below 10 n)⟩
  · rw [offE_at n p x (hne x hx)]; exact hin x hx
  · obtain ⟨ex, hex⟩ := hin x hx; exact g.lt x ex hex
  · rw [offE_kids n p x (hne x hx)] at hk
    exact ⟨g.below_kid 10 n x k (by omega) hx hk, (g.kid hk).1⟩
  · obtain ⟨ex, hex⟩ := hin x hx; exact g.dm x ex hex
  · rw [hbe x hx]
    obtain ⟨ex, hex⟩ := hin x hx
    exact Nat.le_trans (g.below_len hex) hl
  · rw [offE_kids n p x (hne x hx)]
    obtain ⟨ex, hex⟩ := hin x hx
    rw [kidsAt_some hex]
    exact Nat.le_trans (g.kids_len hex) hl
/-- Those that are not among some. -/
def notIn (E : Els) (l : List Nat) : Els := E.filter fun x => !l.contains x.1
theorem notIn_nil (E : Els) : notIn E [] = E := by unfold notIn; simp
theorem notIn_at (E : Els) (l : List Nat) (x : Nat) : elAt (notIn E l) x = if x ∈ l then none else elAt E x := by
  unfold notIn
  rw [elAt_filter (p := fun x => !l.contains x)]
  by_cases h : x ∈ l
  · rw [if_pos h, if_neg (by simp [h])]
  · rw [if_neg h, if_pos (by simp [h])]
theorem notIn_step (E : Els) (l : List Nat) (k : Nat) (hk : k < l.length) : dropE (notIn E (l.take k)) l[k] = notIn E (l.take (k + 1)) := by
  unfold dropE notIn
  rw [List.filter_filter]
  refine List.filter_congr fun x _ => ?_
  rw [List.take_succ_eq_append_getElem hk]
  simp only [List.contains_eq_mem, List.mem_append, List.mem_singleton]
  by_cases h1 : x.1 = l[k]
  · simp [h1]
  · by_cases h2 : x.1 ∈ l.take k <;> simp [h1, h2]
theorem notIn_keys {E : Els} (h : (E.map (·.1)).Nodup) (l : List Nat) : ((notIn E l).map (·.1)).Nodup := by
  unfold notIn
  exact h.sublist (List.Sublist.map _ List.filter_sublist)
variable {P : Program} {T : Tys} {w w' : World} {bd bm cnt : Nat} {pl : Nat → Plc} {F : Nat → Prop} {D : DataW Unit}
theorem Foot.drop (h : Foot w F bd bm E pl) (hs : w.heap.size ≤ w'.heap.size) (n : Nat) : Foot w' F bd bm (dropE E n) pl := by
  have old : ∀ x ex, elAt (dropE E n) x = some ex → elAt E x = some ex := fun x ex hex => by
    rw [dropE_at] at hex
    split at hex
    · cases hex
    · exact hex
  exact ⟨h.d, h.m, fun x ex hx => h.el x ex (old x ex hx), fun x ex hx => h.av x ex (old x ex hx), fun x ex hx => h.kv x ex (old x ex hx), fun k hk => Nat.lt_of_lt_of_le (h.lt k hk) hs⟩
def eqN (n x : Nat) : Bool := ((x : Int) == (n : Int))
theorem off_filter (l : List Nat) (n : Nat) : (l.filter fun x => !eqN n x) = offK l n := by
  unfold offK eqN
  refine List.filter_congr fun x _ => ?_
  rw [Bool.eq_iff_iff]
  simp
  omega
end Lead.Dc
namespace Go.Proofs.YtndlmmpheecleaaGreatDoor
open Go.RowKit Go.WideMaps Go.Maps Lead Lead.Dc
theorem off_pred (n B : Nat) (W : World) (x : Nat) (hc : W.cell? ⟨B, 0, none⟩ = some (.int .i64 (n : Int))) :
    Go.Proofs.FnGives Tryz.prog 100 #[.pointer (some ⟨B, 0, none⟩)] #[encN x] (.bool (eqN n x)) W := by
  have hq : eqN n x = ((x : Int) == (n : Int)) := rfl
  show Calls Tryz.prog 100 #[.int .i64 (x : Int), .pointer (some ⟨B, 0, none⟩)] W _
  rw [hq]
  obtain ⟨r, hr⟩ : ∃ r, ((x : Int) == (n : Int)) = r := ⟨_, rfl⟩
  rw [hr]
  clear hq
  go_enter Tryz.func100, Tryz.ntmps100
  go_wp2_with fail
  go_returns
  exact ⟨rfl, 0, rfl⟩
theorem zInt (w : World) : (zeroValue 3).run Tryz.prog w = .ok (.int .i64 0) w := by kernel_rfl
set_option maxHeartbeats 600000 in
set_option maxRecDepth 100000 in
theorem off_any (bd next n p bm cnt : Nat) (F : Nat → Prop) (E : Els) (_d : Nat → Nat) (pl : Nat → Plc) (D : DataW Unit) (e pe : El) (w : World) (hA : DAt Tryz.prog TT w bd E next pl bm cnt D) (hF : Foot w F bd bm E pl) (he : elAt E n = some e) (hp : e.parent = (p : Int)) (hpe : elAt E p = some pe) (hk : n ∈ pe.kids) (hn : n ≤ 1000000) (hpn : p ≤ 1000000) :
    Calls Tryz.prog 54 #[.pointer (some ⟨bd, 0, none⟩), .int .i64 (n : Int)] w fun en w' => en = .returned (.tuple #[]) ∧ ∃ (kv' : Value) (F' : Nat → Prop), (∀ k, F' k → F k ∨ w.heap.size ≤ k) ∧
      DAt Tryz.prog TT w' bd (Dc.upd E p (fun _ => { pe with kids := offK pe.kids n })) next (fun x => if x = p then ⟨(pl p).blk, (pl p).av, kv'⟩ else pl x) bm cnt D ∧
      Foot w' F' bd bm (Dc.upd E p (fun _ => { pe with kids := offK pe.kids n })) (fun x => if x = p then ⟨(pl p).blk, (pl p).av, kv'⟩ else pl x) ∧ Turn F w w' := by
  have hnI : I64 (n : Int) := i64_nat (by omega)
  have hpI : I64 (p : Int) := i64_nat (by omega)
  have zw := hA.ltD
  obtain ⟨w1, hw1⟩ : ∃ u, w.alloc (.cells #[.int .i64 (n : Int)] 3) = u := ⟨_, rfl⟩
  have hB1 : Below w.heap.size w w1 := by rw [← hw1]; exact (Below.refl _ _).alloc (Nat.le_refl _) _
  have hz1 : w1.heap.size = w.heap.size + 1 := by rw [← hw1]; simp
  have hbox : w1.heap[w.heap.size]? = some (.cells #[.int .i64 (n : Int)] 3 (0, 0)) := by rw [← hw1]; exact heap_alloc_new _ _
  have hA1 := hA.keep hB1
  have c0 := hA1.c0
  have b0 : w1.cell? ⟨w.heap.size, 0, none⟩ = some (.int .i64 (n : Int)) := hcell hbox rfl
  have hn1 := hA1.els n e he
  have e2 := hn1.e2
  rw [hp] at e2
  have hp1 := hA1.els p pe hpe
  have e3 := hp1.e3
  have y3 := hp1.fr 3
  obtain ⟨o3, l3, k3, hkv3, hS3⟩ := hp1.kids.sl
  rw [hkv3] at e3
  have hl0 : 0 < pe.kids.length := List.length_pos_of_mem hk
  have hF1 := hF.keep (w' := w1) hB1.size
  obtain rfl : l3 = pe.kids.length := hS3.1
  have H_hA := Lib.hid hA
  clear hA
  have H_hF := Lib.hid hF
  clear hF
  have H_he := Lib.hid he
  clear he
  have H_hpe := Lib.hid hpe
  clear hpe
  have H_hnI := Lib.hid hnI
  clear hnI
  have H_hpI := Lib.hid hpI
  clear hpI
  have H_hA1 := Lib.hid hA1
  clear hA1
  have H_hn1 := Lib.hid hn1
  clear hn1
  have H_hp1 := Lib.hid hp1
  clear hp1
  have H_hkv3 := Lib.hid hkv3
  clear hkv3
  have H_hS3 := Lib.hid hS3
  clear hS3
  have H_hF1 := Lib.hid hF1
  clear hF1
  have H_hbox := Lib.hid hbox
  clear hbox
  have H_hB1 := Lib.hid hB1
  clear hB1
  have H_hp := Lib.hid hp
  clear hp
  have H_hw1 := Lib.hid hw1
  clear hw1
  go_enter Tryz.func54, Tryz.ntmps54
  go_wp2_with fail
  rw [H_hw1.out]
  have hAd := H_hA1.out.keep (Below.refl w1.heap.size w1).drew
  have hl1 : (Instr.lookup 97 (.map (some bm)) (.int .i64 (n : Int)) false).run Tryz.prog w1.drew = .ok (.pointer (some ⟨(pl n).blk, 0, none⟩)) w1.drew := (hAd.hit TK H_he.out H_hnI.out).1
  have hl2 : (Instr.lookup 97 (.map (some bm)) (.int .i64 (p : Int)) false).run Tryz.prog w1.drew = .ok (.pointer (some ⟨(pl p).blk, 0, none⟩)) w1.drew := (hAd.hit TK H_hpe.out H_hpI.out).1
  have H_hAd := Lib.hid hAd
  clear hAd
  go_region
  all_goals
    clear hl1 hl2
    go_wp2_with fail
    have hB2 : Below w1.heap.size w1 w1.drew := (Below.refl _ _).drew
    refine (del_any (ρ := Tryz.dfI_ren) Tryz.dfI (base := 0) (kids := pe.kids) (p := eqN n) (g0 := 100) (lb := #[.pointer (some ⟨w.heap.size, 0, none⟩)]) (t := 3) (enters_of Tryz.func100 (by kernel_rfl) rfl) zInt (kv := .slice o3 pe.kids.length k3) (by have h := H_hp1.out.kids; rw [H_hkv3.out] at h; exact h.keep hB2) hl0 ?hp).mono ?_
    case hp =>
      intro W' x hW
      refine off_pred n w.heap.size W' x ?_
      have h := hW w.heap.size (by show w.heap.size < w1.heap.size; omega) (fun hb => by
        have h2 := H_hp1.out.kids
        rw [H_hkv3.out] at h2
        obtain ⟨_, _, cur, hc⟩ := (show OwnQ EIn w 0 3 (.slice o3 pe.kids.length k3) pe.kids by have h3 := (H_hA.out.els p pe H_hpe.out).kids; rw [H_hkv3.out] at h3; exact h3).rowB hb
        exact absurd (hlt hc) (Nat.lt_irrefl _))
      exact hcell (h.trans H_hbox.out) rfl
    rintro _ w3 ⟨v3, rfl, hv3, hrt, hvb⟩
    obtain ⟨o7, l7, c7, rfl⟩ := own_form hv3
    rw [off_filter] at hv3
    have z3 : w1.heap.size ≤ w3.heap.size := hrt.size
    have hw3 : ∀ j, j < w1.heap.size → rowB (.slice o3 pe.kids.length k3) ≠ some j → w3.heap[j]? = w1.heap[j]? := fun j hj hn => hrt.block j hj hn
    have hq := H_hp1.out.kids
    rw [H_hkv3.out] at hq
    have hbne : rowB (.slice o3 pe.kids.length k3) ≠ some (pl p).blk := fun hb => by
      obtain ⟨_, _, cur, hcq⟩ := hq.rowB hb
      exact H_hp1.out.blk_ne hcq TK.h5 rfl
    have hcq := H_hp1.out.cell
    rw [← hw3 _ H_hp1.out.lt hbne] at hcq
    have e3_3 : w3.cell? ⟨(pl p).blk, 3, none⟩ = some (pl p).kv := hcell hcq rfl
    have y3_3 : w3.frozen? ⟨(pl p).blk, 3, none⟩ = false := hfree hcq
    have hfin := H_hA1.out.kids TK H_hF1.out H_hpe.out (w1 := w3) (v' := .slice o7 l7 c7) (l' := offK pe.kids n) ⟨hrt.os, hrt.tape, hrt.output⟩ z3 (fun j hj hn => hw3 j hj (by rw [← H_hkv3.out]; exact hn)) hv3 (fun b hb => by rw [H_hkv3.out]; exact hvb b hb)
    have hvlt : ∀ b, rowB (.slice o7 l7 c7) = some b → F b ∨ w.heap.size ≤ b := fun b hb => by
      rcases hvb b hb with h | h
      · exact .inl (H_hF.out.kv p pe H_hpe.out b (by rw [H_hkv3.out]; exact h))
      · right
        have : w1.heap.size ≤ b := h
        omega
    clear hcq hw3 hrt hvb hv3 hq
    have H_hfin := Lib.hid hfin
    clear hfin
    have H_hvlt := Lib.hid hvlt
    clear hvlt
    go_wp2_with fail
    go_returns
    refine ⟨rfl, .slice o7 l7 c7, _, fun j hj => ?_, H_hfin.out.1, H_hfin.out.2.1, ((Turn.of_below H_hB1.out).goOn H_hfin.out.2.2 (fun j hj => .inl hj))⟩
    rcases hj with h | h
    · exact .inl h
    · exact H_hvlt.out j h
/-- Remove's errors. -/
def ErrIs (T : TypeId) (ea : Nat → Addr) (c : Nat) (w : World) (en : Ending) (w' : World) : Prop := en = .returned (.iface T (.pointer (some (ea c)))) ∧ Below w.heap.size w w'
set_option maxHeartbeats 1000000 in
theorem rem_none (ea : Nat → Addr) (bd next : Nat) (z : Int) (F : Nat → Prop) (E : Els) (d : Nat → Nat) (w : World) (hD : DokG Tryz.prog TT w bd F E next d) (hG : DGs ea w) (hz : I64 z) (h : atZ E z = none) :
    Calls Tryz.prog 14 #[.pointer (some ⟨bd, 0, none⟩), .int .i64 z] w (ErrIs 264 ea 5 w) := by
  have hNone := hG.c5
  have zhNone := zlt hNone
  have xhNone := zlts hNone
  have yhNone := zne hNone
  obtain ⟨⟨pl, bm, cnt, D, hA, hc, hF⟩, hg, hbig, hlen⟩ := hD
  have c0 := hA.c0
  have hm := atZ_none h
  have H_hA := Lib.hid hA
  clear hA
  have H_hm := Lib.hid hm
  clear hm
  have H_h := Lib.hid h
  clear h
  have H_hz := Lib.hid hz
  clear hz
  have H_hG := Lib.hid hG
  clear hG
  clear hc hF hg
  go_enter Tryz.func14, Tryz.ntmps14
  go_wp2_with (at_lookup; refine wp_miss_ok (T := TT) TK rfl _ _ rfl rfl rfl H_hA.out H_hm.out H_hz.out ?_)
  go_returns
  exact ⟨rfl, by repeat' (first | (with_reducible first | exact bwR _ _ | assumption | refine bdn ?_ | refine bwA ?_ ?_ _ | refine bwD ?_ | refine bwS ?_ ?_ _) | omega | (simp <;> omega))⟩
set_option maxHeartbeats 1000000 in
theorem rem_root (ea : Nat → Addr) (bd next : Nat) (F : Nat → Prop) (E : Els) (d : Nat → Nat) (w : World) (hD : DokG Tryz.prog TT w bd F E next d) (hG : DGs ea w) :
    Calls Tryz.prog 14 #[.pointer (some ⟨bd, 0, none⟩), .int .i64 0] w (ErrIs 264 ea 3 w) := by
  have hShape := hG.c3
  have zhShape := zlt hShape
  have xhShape := zlts hShape
  have yhShape := zne hShape
  obtain ⟨⟨pl, bm, cnt, D, hA, hc, hF⟩, hg, hbig, hlen⟩ := hD
  have c0 := hA.c0
  obtain ⟨e, he, _⟩ := hg.root
  have hnI : I64 ((0 : Nat) : Int) := i64_nat (by omega)
  have H_hA := Lib.hid hA
  clear hA
  have H_hG := Lib.hid hG
  clear hG
  have H_he := Lib.hid he
  clear he
  have H_hnI := Lib.hid hnI
  clear hnI
  clear hc hF hg
  go_enter Tryz.func14, Tryz.ntmps14
  go_wp2_with (at_lookup; refine wp_hit_ok (T := TT) (n := 0) TK rfl _ _ rfl rfl rfl H_hA.out H_he.out H_hnI.out ?_)
  go_returns
  exact ⟨rfl, by repeat' (first | (with_reducible first | exact bwR _ _ | assumption | refine bdn ?_ | refine bwA ?_ ?_ _ | refine bwD ?_ | refine bwS ?_ ?_ _) | omega | (simp <;> omega))⟩
set_option maxHeartbeats 2000000 in
set_option maxRecDepth 100000 in
theorem rem_ok (_ea : Nat → Addr) (bd next n p : Nat) (F : Nat → Prop) (E : Els) (d : Nat → Nat) (e : El) (w : World) (hD : DokG Tryz.prog TT w bd F E next d) (he : elAt E n = some e) (h0 : n ≠ 0) (hp : e.parent = (p : Int)) :
    Calls Tryz.prog 14 #[.pointer (some ⟨bd, 0, none⟩), .int .i64 (n : Int)] w fun en w' => en = .returned .nilIface ∧ Became Tryz.prog TT w w' bd F (removeE E n p) next := by
  obtain ⟨⟨pl, bm, cnt, D, hA, hc, hF⟩, hg, hbig, hlen⟩ := hD
  have c0 := hA.c0
  obtain ⟨hpb, pe, hpe, hk⟩ := hg.off_p he h0 hp
  have hnn : n < next := hg.lt n e he
  have hpn : p < next := hg.lt p pe hpe
  have hnI : I64 (n : Int) := i64_nat (by omega)
  obtain ⟨hwk, hbw⟩ := hg.wk_off hlen he h0 hp
  have hbn := hg.below_nodup 10 n
  have hbl := hg.below_len he
  have hbin : ∀ x ∈ below E 10 n, x < next ∧ ∃ ex, elAt (offE E n p) x = some ex := fun x hx => ⟨hwk.lt x hx, hwk.here x hx⟩
  have hnd : ((offE E n p).map (·.1)).Nodup := by unfold offE; rw [upd_keys]; exact hg.keys
  have hoe : Dc.upd E p (fun _ => { pe with kids := offK pe.kids n }) = offE E n p := upd_const hg.keys hpe (fun e => { e with kids := offK e.kids n })
  have hcon := off_any bd next n p bm cnt F E d pl D e pe w hA hF he hp hpe hk (by omega) (by omega)
  rw [hoe] at hcon
  have hnz : ((n : Int) == 0) = false := by rw [beq_eq_false_iff_ne]; omega
  have hdn := hg.dm n e he
  have H_hA := Lib.hid hA
  clear hA
  have H_he := Lib.hid he
  clear he
  have H_hpe := Lib.hid hpe
  clear hpe
  have H_hp := Lib.hid hp
  clear hp
  have H_hwk := Lib.hid hwk
  clear hwk
  have H_hbw := Lib.hid hbw
  clear hbw
  have H_hbn := Lib.hid hbn
  clear hbn
  have H_hbl := Lib.hid hbl
  clear hbl
  have H_hbin := Lib.hid hbin
  clear hbin
  have H_hnd := Lib.hid hnd
  clear hnd
  have H_hoe := Lib.hid hoe
  clear hoe
  have H_hcon := Lib.hid hcon
  clear hcon
  have H_hF := Lib.hid hF
  clear hF
  have H_hnI := Lib.hid hnI
  clear hnI
  clear hg
  go_enter Tryz.func14, Tryz.ntmps14
  go_wp2_with (at_lookup; refine wp_hit_ok (T := TT) TK rfl _ _ rfl rfl rfl H_hA.out H_he.out H_hnI.out ?_)
  refine H_hcon.out.mono ?_
  rintro _ w1 ⟨rfl, kv', F1, hF1, hA1, hFt1, hT1⟩
  obtain ⟨pl1, hpl1⟩ : ∃ u, (fun x => if x = p then (⟨(pl p).blk, (pl p).av, kv'⟩ : Plc) else pl x) = u := ⟨_, rfl⟩
  rw [hpl1] at hA1 hFt1
  have z1 := hT1.size
  have hD1 : Dok Tryz.prog TT w1 bd F1 (offE E n p) next := ⟨_, _, _, _, hA1, hc, hFt1⟩
  have H_hA1 := Lib.hid hA1
  clear hA1
  have H_hFt1 := Lib.hid hFt1
  clear hFt1
  have H_hT1 := Lib.hid hT1
  clear hT1
  have H_hF1 := Lib.hid hF1
  clear hF1
  have H_hD1 := Lib.hid hD1
  clear hD1
  clear hpl1
  go_wp2_with fail
  refine (below_wk bd next F1 (offE E n p) d _ H_hwk.out hbig 10 n w1 H_hD1.out (self_below 10 n) (by omega)).mono ?_
  rintro _ w2 ⟨v2, rfl, ho2, hb2⟩
  rw [H_hbw.out] at ho2
  have t2 := hb2.size
  obtain ⟨l, hl⟩ : ∃ u, below E 10 n = u := ⟨_, rfl⟩
  have hself := self_below (E := E) 10 n
  rw [hl] at ho2 hself
  obtain ⟨g, cp, rfl, hg0, hg1, _, _, hr2⟩ : ∃ g cp, v2 = .slice (some ⟨g, 0, none⟩) l.length cp ∧ w1.heap.size ≤ g ∧ g < w2.heap.size ∧ l.length ≤ cp ∧ l.length ≤ maxLen ∧ RowIn EIn w2 g 0 l := by
    rcases ho2.form with ⟨_, h⟩ | h
    · rw [h] at hself; cases hself
    · exact h
  have hA2 := H_hA1.out.keep hb2
  have hFt2 := H_hFt1.out.keep (w' := w2) hb2.size
  have hT2 : Turn F w w2 := H_hT1.out.goOn (Turn.of_below (F := F) hb2) (fun j h => .inl h)
  have hl2 : l.length ≤ 1000000 := by have := H_hbl.out; rw [hl] at this; omega
  have hgF : ¬ F1 g := fun h => by have := H_hFt1.out.lt g h; omega
  rw [hl] at H_hbn H_hbin
  have H_hl := Lib.hid hl
  clear hl
  have H_hr2 := Lib.hid hr2
  clear hr2
  have H_hA2 := Lib.hid hA2
  clear hA2
  have H_hFt2 := Lib.hid hFt2
  clear hFt2
  have H_hT2 := Lib.hid hT2
  clear hT2
  have H_hgF := Lib.hid hgF
  clear hgF
  clear ho2 hself
  go_wp2_with fail
  go_loopw [31] (fun t31 wr => ∃ (k : Nat) (D' : DataW Unit), k ≤ l.length ∧ t31 = .int .i64 k ∧ RowKit.Hid (DAt Tryz.prog TT wr bd (notIn (offE E n p) (l.take k)) next pl1 bm cnt D') ∧ RowKit.Hid (Foot wr F1 bd bm (notIn (offE E n p) (l.take k)) pl1) ∧ RowKit.Hid (Turn F1 w2 wr)) (fun t31 _ => l.length - (intOf t31).toNat)
  case atStart => exact ⟨0, D, Nat.zero_le _, rfl, (by rw [List.take_zero, notIn_nil]; exact H_hA2), (by rw [List.take_zero, notIn_nil]; exact H_hFt2), Turn.refl _ _⟩
  case round =>
    obtain ⟨k, D', hk2, rfl, hAr, hFr, hTr⟩ := hrel
    have H_Ar : RowKit.Hid (DAt Tryz.prog TT wr bd (notIn (offE E n p) (l.take k)) next pl1 bm cnt D') := hAr
    have H_Fr : RowKit.Hid (Foot wr F1 bd bm (notIn (offE E n p) (l.take k)) pl1) := hFr
    have H_Tr : RowKit.Hid (Turn F1 w2 wr) := hTr
    clear hAr hFr hTr
    by_cases hlt : k < l.length
    · have hrw := H_Tr.out.row H_hr2.out hg1 H_hgF.out
      have q0 : wr.cell? ⟨g, k, none⟩ = some (.int .i64 (l[k] : Int)) := by
        have h := hrw k hlt 0 _ rfl
        simpa [EIn] using h
      have c0r := H_Ar.out.c0
      have hx := H_hbin.out l[k] (List.getElem_mem hlt)
      have hkI : I64 (l[k] : Int) := i64_nat (by omega)
      have hni : l[k] ∉ l.take k := fun hm => by
        obtain ⟨i, hi, he⟩ := List.mem_take_iff_getElem.1 hm
        exact List.pairwise_iff_getElem.1 H_hbn.out i k (by omega) hlt (by omega) he
      obtain ⟨ex, hex⟩ := hx.2
      have hat : elAt (notIn (offE E n p) (l.take k)) l[k] = some ex := by rw [notIn_at, if_neg hni]; exact hex
      have hstep := notIn_step (offE E n p) l k hlt
      have hmapr := H_Ar.out.map
      obtain ⟨c, hce⟩ : ∃ c, l[k] = c := ⟨_, rfl⟩
      rw [hce] at q0 hkI hat hstep
      clear hrw hx hni hex hce
      have H_hat := Lib.hid hat
      clear hat
      have H_hkI := Lib.hid hkI
      clear hkI
      have H_hstep := Lib.hid hstep
      clear hstep
      have H_hmapr := Lib.hid hmapr
      clear hmapr
      go_wp2_with (at_delete; refine wpList_delete_own _ rfl _ _ 97 3 rfl 105 (int_keyed Tryz.underlying3) Tryz.underlying97 pElem bm cnt D' rfl H_hmapr.out _ _ rfl (key_of TK H_hkI.out) ?_)
      intro w5 hown5 hturn5
      have hgrow5 := hturn5.grown
      have hA5 := H_Ar.out.del (w' := w5) (notIn_keys H_hnd.out _) H_hat.out hown5 hgrow5
      have hF5 := H_Fr.out.drop (w' := w5) hgrow5.size c
      rw [H_hstep.out] at hA5 hF5
      have hT5 : Turn F1 w2 w5 := H_Tr.out.goOn (Turn.grown hgrow5 H_hFt1.out.m) (fun j h => .inl h)
      clear hown5 hturn5 hgrow5
      have H_hA5 := Lib.hid hA5
      clear hA5
      have H_hF5 := Lib.hid hF5
      clear hF5
      have H_hT5 := Lib.hid hT5
      clear hT5
      go_wp2_with fail
      go_roundw
      case rel => exact ⟨k + 1, _, by omega, by go_num, H_hA5, H_hF5, H_hT5⟩
      case measure => simp [intOf]; omega
    · obtain rfl : k = l.length := by omega
      rw [List.take_length] at H_Ar H_Fr
      have hre : notIn (offE E n p) l = removeE E n p := by rw [← H_hl.out]; rfl
      rw [hre] at H_Ar H_Fr
      clear hre
      go_wp2_with fail
      go_returns
      exact ⟨rfl, F1, H_hF1.out, ⟨_, _, _, _, H_Ar.out, hc, H_Fr.out⟩, H_hT2.out.trans H_Tr.out (fun j hj hf => (H_hF1.out j hf).resolve_right (by omega))⟩
end Go.Proofs.YtndlmmpheecleaaGreatDoor

/-
  Walks over package doc: Move.
-/
namespace Lead.Dc
open Go Go.RowKit Lead
variable {E : Els} {next : Nat} {d : Nat → Nat}
theorem move_eq (E : Els) {a b p : Nat} (j : Nat) (hap : a ≠ p) (hab : a ≠ b) : upd (upd (offE E a p) a (fun e => { e with parent := (b : Int) })) b (fun e => { e with kids := insK e.kids j a }) = moveE E a b j p := by
  unfold offE upd moveE
  rw [List.map_map, List.map_map]
  refine List.map_congr_left fun x _ => ?_
  obtain ⟨k, e⟩ := x
  unfold mvEl
  simp only [Function.comp]
  by_cases h1 : k = p
  · subst h1
    have h2 : ¬ k = a := fun h => hap h.symm
    by_cases h3 : k = b
    · subst h3; simp [h2]
    · simp [h2, h3]
  · by_cases h2 : k = a
    · subst h2; simp [h1, hab]
    · by_cases h3 : k = b
      · subst h3; simp [h1, h2]
      · simp [h1, h2, h3]
theorem offK_len {l : List Nat} {n : Nat} (h : l.Nodup) (hn : n ∈ l) : (offK l n).length + 1 = l.length := (insK_offK h hn).2.2
def toI (l : List Nat) : List Int := l.map fun n : Nat => (n : Int)
theorem toI_contains (l : List Nat) (b : Nat) : (toI l).contains (b : Int) = decide (b ∈ l) := by
  rw [Bool.eq_iff_iff, List.contains_iff_mem, decide_eq_true_iff]
  unfold toI
  rw [List.mem_map]
  constructor
  · rintro ⟨x, hx, h⟩
    have : x = b := by omega
    exact this ▸ hx
  · intro h; exact ⟨b, h, rfl⟩
theorem toI_cells {w : World} {g : Nat} {l : List Nat} (h : RowIn EIn w g 0 l) : ∀ j, j < (toI l).length → w.cell? ⟨g, 0 + j, none⟩ = some (.int .i64 ((toI l).getD j 0)) := by
  intro j hj
  unfold toI at hj ⊢
  rw [List.length_map] at hj
  have h1 := h j hj 0 _ rfl
  rw [List.getD_eq_getElem?_getD, List.getElem?_map, List.getElem?_eq_getElem hj]
  simpa [EIn] using h1
end Lead.Dc
namespace Go.Proofs.YtndlmmpheecleaaGreatDoor
open Go.RowKit Go.WideMaps Go.Maps Lead Lead.Dc
set_option maxHeartbeats 1000000 in
set_option maxRecDepth 100000 in
theorem mov_none1 (ea : Nat → Addr) (bd next : Nat) (z y i : Int) (F : Nat → Prop) (E : Els) (d : Nat → Nat) (w : World) (hD : DokG Tryz.prog TT w bd F E next d) (hG : DGs ea w) (hz : I64 z) (hy : I64 y) (h : atZ E z = none) :
    Calls Tryz.prog 16 #[.pointer (some ⟨bd, 0, none⟩), .int .i64 z, .int .i64 y, .int .i64 i] w (ErrIs 264 ea 5 w) := by
  have hNone := hG.c5
  have hShape := hG.c3
  have hCycle := hG.c9
  have hBound := hG.c2
  have hDeep := hG.c8
  have zhNone := zlt hNone
  have xhNone := zlts hNone
  have yhNone := zne hNone
  have zhShape := zlt hShape
  have xhShape := zlts hShape
  have yhShape := zne hShape
  have zhCycle := zlt hCycle
  have xhCycle := zlts hCycle
  have yhCycle := zne hCycle
  have zhBound := zlt hBound
  have xhBound := zlts hBound
  have yhBound := zne hBound
  have zhDeep := zlt hDeep
  have xhDeep := zlts hDeep
  have yhDeep := zne hDeep
  have hDG := hD
  obtain ⟨⟨pl, bm, cnt, D, hA, hc, hF⟩, hg, hbig, hlen⟩ := hD
  have c0 := hA.c0
  have hm := atZ_none h
  cases hb : atZ E y with
  | none =>
    have hm2 := atZ_none hb
    have H_hA := Lib.hid hA
    clear hA
    have H_hm := Lib.hid hm
    clear hm
    have H_hm2 := Lib.hid hm2
    clear hm2
    have H_hb := Lib.hid hb
    clear hb
    have H_h := Lib.hid h
    clear h
    have H_hz := Lib.hid hz
    clear hz
    have H_hy := Lib.hid hy
    clear hy
    have H_hDG := Lib.hid hDG
    clear hDG
    have H_hG := Lib.hid hG
    clear hG
    clear hc hF hg
    go_enter Tryz.func16, Tryz.ntmps16
    go_wp2_with (first | (at_lookup; refine wp_miss_ok (T := TT) TK rfl _ _ rfl rfl rfl H_hA.out H_hm.out H_hz.out ?_) | (at_lookup; refine wp_miss_ok (T := TT) TK rfl _ _ rfl rfl rfl H_hA.out H_hm2.out H_hy.out ?_))
    go_returns
    exact ⟨rfl, by repeat' (first | (with_reducible first | exact bwR _ _ | assumption | refine bdn ?_ | refine bwA ?_ ?_ _ | refine bwD ?_ | refine bwS ?_ ?_ _) | omega | (simp <;> omega))⟩
  | some me =>
    obtain ⟨b, rfl, hbm⟩ := atZ_some hb
    have H_hA := Lib.hid hA
    clear hA
    have H_hm := Lib.hid hm
    clear hm
    have H_hbm := Lib.hid hbm
    clear hbm
    have H_hb := Lib.hid hb
    clear hb
    have H_h := Lib.hid h
    clear h
    have H_hz := Lib.hid hz
    clear hz
    have H_hy := Lib.hid hy
    clear hy
    have H_hDG := Lib.hid hDG
    clear hDG
    have H_hG := Lib.hid hG
    clear hG
    clear hc hF hg
    go_enter Tryz.func16, Tryz.ntmps16
    go_wp2_with (first | (at_lookup; refine wp_miss_ok (T := TT) TK rfl _ _ rfl rfl rfl H_hA.out H_hm.out H_hz.out ?_) | (at_lookup; refine wp_hit_ok (T := TT) TK rfl _ _ rfl rfl rfl H_hA.out H_hbm.out H_hy.out ?_))
    go_returns
    exact ⟨rfl, by repeat' (first | (with_reducible first | exact bwR _ _ | assumption | refine bdn ?_ | refine bwA ?_ ?_ _ | refine bwD ?_ | refine bwS ?_ ?_ _) | omega | (simp <;> omega))⟩
set_option maxHeartbeats 1000000 in
set_option maxRecDepth 100000 in
theorem mov_none2 (ea : Nat → Addr) (bd next a : Nat) (y i : Int) (F : Nat → Prop) (E : Els) (d : Nat → Nat) (e : El) (w : World) (hD : DokG Tryz.prog TT w bd F E next d) (hG : DGs ea w) (he : elAt E a = some e) (hy : I64 y) (h : atZ E y = none) :
    Calls Tryz.prog 16 #[.pointer (some ⟨bd, 0, none⟩), .int .i64 (a : Int), .int .i64 y, .int .i64 i] w (ErrIs 264 ea 5 w) := by
  have hNone := hG.c5
  have hShape := hG.c3
  have hCycle := hG.c9
  have hBound := hG.c2
  have hDeep := hG.c8
  have zhNone := zlt hNone
  have xhNone := zlts hNone
  have yhNone := zne hNone
  have zhShape := zlt hShape
  have xhShape := zlts hShape
  have yhShape := zne hShape
  have zhCycle := zlt hCycle
  have xhCycle := zlts hCycle
  have yhCycle := zne hCycle
  have zhBound := zlt hBound
  have xhBound := zlts hBound
  have yhBound := zne hBound
  have zhDeep := zlt hDeep
  have xhDeep := zlts hDeep
  have yhDeep := zne hDeep
  have hDG := hD
  obtain ⟨⟨pl, bm, cnt, D, hA, hc, hF⟩, hg, hbig, hlen⟩ := hD
  have c0 := hA.c0
  have hm := atZ_none h
  have haI : I64 (a : Int) := i64_nat (by have := hg.lt a e he; omega)
  have H_hA := Lib.hid hA
  clear hA
  have H_hm := Lib.hid hm
  clear hm
  have H_he := Lib.hid he
  clear he
  have H_h := Lib.hid h
  clear h
  have H_haI := Lib.hid haI
  clear haI
  have H_hy := Lib.hid hy
  clear hy
  have H_hDG := Lib.hid hDG
  clear hDG
  have H_hG := Lib.hid hG
  clear hG
  clear hc hF hg
  go_enter Tryz.func16, Tryz.ntmps16
  go_wp2_with (first | (at_lookup; refine wp_hit_ok (T := TT) TK rfl _ _ rfl rfl rfl H_hA.out H_he.out H_haI.out ?_) | (at_lookup; refine wp_miss_ok (T := TT) TK rfl _ _ rfl rfl rfl H_hA.out H_hm.out H_hy.out ?_))
  go_returns
  exact ⟨rfl, by repeat' (first | (with_reducible first | exact bwR _ _ | assumption | refine bdn ?_ | refine bwA ?_ ?_ _ | refine bwD ?_ | refine bwS ?_ ?_ _) | omega | (simp <;> omega))⟩
set_option maxHeartbeats 1000000 in
set_option maxRecDepth 100000 in
theorem mov_root (ea : Nat → Addr) (bd next b : Nat) (i : Int) (F : Nat → Prop) (E : Els) (d : Nat → Nat) (me : El) (w : World) (hD : DokG Tryz.prog TT w bd F E next d) (hG : DGs ea w) (hm : elAt E b = some me) :
    Calls Tryz.prog 16 #[.pointer (some ⟨bd, 0, none⟩), .int .i64 0, .int .i64 (b : Int), .int .i64 i] w (ErrIs 264 ea 3 w) := by
  have hNone := hG.c5
  have hShape := hG.c3
  have hCycle := hG.c9
  have hBound := hG.c2
  have hDeep := hG.c8
  have zhNone := zlt hNone
  have xhNone := zlts hNone
  have yhNone := zne hNone
  have zhShape := zlt hShape
  have xhShape := zlts hShape
  have yhShape := zne hShape
  have zhCycle := zlt hCycle
  have xhCycle := zlts hCycle
  have yhCycle := zne hCycle
  have zhBound := zlt hBound
  have xhBound := zlts hBound
  have yhBound := zne hBound
  have zhDeep := zlt hDeep
  have xhDeep := zlts hDeep
  have yhDeep := zne hDeep
  have hDG := hD
  obtain ⟨⟨pl, bm, cnt, D, hA, hc, hF⟩, hg, hbig, hlen⟩ := hD
  have c0 := hA.c0
  obtain ⟨e, he, _⟩ := hg.root
  have hgb := hg.lt b me hm
  have haI : I64 ((0 : Nat) : Int) := i64_nat (by omega)
  have hbI : I64 (b : Int) := i64_nat (by omega)
  have H_hA := Lib.hid hA
  clear hA
  have H_hm := Lib.hid hm
  clear hm
  have H_he := Lib.hid he
  clear he
  have H_haI := Lib.hid haI
  clear haI
  have H_hbI := Lib.hid hbI
  clear hbI
  have H_hDG := Lib.hid hDG
  clear hDG
  have H_hG := Lib.hid hG
  clear hG
  clear hc hF hg
  go_enter Tryz.func16, Tryz.ntmps16
  go_wp2_with (first | (at_lookup; refine wp_hit_ok (T := TT) (n := 0) TK rfl _ _ rfl rfl rfl H_hA.out H_he.out H_haI.out ?_) | (at_lookup; refine wp_hit_ok (T := TT) (n := b) TK rfl _ _ rfl rfl rfl H_hA.out H_hm.out H_hbI.out ?_))
  go_returns
  exact ⟨rfl, by repeat' (first | (with_reducible first | exact bwR _ _ | assumption | refine bdn ?_ | refine bwA ?_ ?_ _ | refine bwD ?_ | refine bwS ?_ ?_ _) | omega | (simp <;> omega))⟩
set_option maxHeartbeats 1000000 in
set_option maxRecDepth 100000 in
theorem mov_cycle (ea : Nat → Addr) (bd next a b p : Nat) (i : Int) (F : Nat → Prop) (E : Els) (d : Nat → Nat) (e me : El) (w : World) (hD : DokG Tryz.prog TT w bd F E next d) (hG : DGs ea w) (he : elAt E a = some e) (hm : elAt E b = some me) (h0 : a ≠ 0) (hp : e.parent = (p : Int)) (hcy : decide (b ∈ below E 10 a) = true) :
    Calls Tryz.prog 16 #[.pointer (some ⟨bd, 0, none⟩), .int .i64 (a : Int), .int .i64 (b : Int), .int .i64 i] w (ErrIs 264 ea 9 w) := by
  have hNone := hG.c5
  have hShape := hG.c3
  have hCycle := hG.c9
  have hBound := hG.c2
  have hDeep := hG.c8
  have zhNone := zlt hNone
  have xhNone := zlts hNone
  have yhNone := zne hNone
  have zhShape := zlt hShape
  have xhShape := zlts hShape
  have yhShape := zne hShape
  have zhCycle := zlt hCycle
  have xhCycle := zlts hCycle
  have yhCycle := zne hCycle
  have zhBound := zlt hBound
  have xhBound := zlts hBound
  have yhBound := zne hBound
  have zhDeep := zlt hDeep
  have xhDeep := zlts hDeep
  have yhDeep := zne hDeep
  have hDG := hD
  obtain ⟨⟨pl, bm, cnt, D, hA, hc, hF⟩, hg, hbig, hlen⟩ := hD
  have c0 := hA.c0
  have hga := hg.lt a e he
  have hgb := hg.lt b me hm
  have haI : I64 (a : Int) := i64_nat (by omega)
  have hbI : I64 (b : Int) := i64_nat (by omega)
  have hEa := hA.els a e he
  have hEb := hA.els b me hm
  have e2 := hEa.e2
  rw [hp] at e2
  have e3 := hEb.e3
  obtain ⟨oa, len, cap, hkv, hS⟩ := hEb.kids.sl
  obtain rfl : len = me.kids.length := hS.1
  rw [hkv] at e3
  have hkl := hg.kids_len hm
  have hnz : ((a : Int) == 0) = false := by rw [beq_eq_false_iff_ne]; omega
  have hbl := hg.below_len he
  have hblw := hEb.lt
  have hbla := hEa.lt
  have hself := self_below (E := E) 10 a
  obtain ⟨l, hl⟩ : ∃ u, below E 10 a = u := ⟨_, rfl⟩
  have hbelow := below_any bd next F E d 10 a e w hDG he (by omega)
  rw [hl] at hbelow hself hbl
  have hml : decide (b ∈ l) = decide (b ∈ below E 10 a) := by rw [hl]
  have H_hA := Lib.hid hA
  clear hA
  have H_hm := Lib.hid hm
  clear hm
  have H_he := Lib.hid he
  clear he
  have H_haI := Lib.hid haI
  clear haI
  have H_hbI := Lib.hid hbI
  clear hbI
  have H_hDG := Lib.hid hDG
  clear hDG
  have H_hG := Lib.hid hG
  clear hG
  have H_hEa := Lib.hid hEa
  clear hEa
  have H_hEb := Lib.hid hEb
  clear hEb
  have H_hkv := Lib.hid hkv
  clear hkv
  have H_hS := Lib.hid hS
  clear hS
  have H_hl := Lib.hid hl
  clear hl
  have H_hbelow := Lib.hid hbelow
  clear hbelow
  have H_hml := Lib.hid hml
  clear hml
  have H_hp := Lib.hid hp
  clear hp
  clear hc hF hg
  have H_hcy := Lib.hid hcy
  clear hcy
  by_cases hpb : p = b
  · have hpb' : ((p : Int) == (b : Int)) = true := by rw [hpb]; simp
    have H_hpb := Lib.hid hpb
    clear hpb
    go_enter Tryz.func16, Tryz.ntmps16
    go_wp2_with (first | (at_lookup; refine wp_hit_ok (T := TT) (n := a) TK rfl _ _ rfl rfl rfl H_hA.out H_he.out H_haI.out ?_) | (at_lookup; refine wp_hit_ok (T := TT) (n := b) TK rfl _ _ rfl rfl rfl H_hA.out H_hm.out H_hbI.out ?_))
    refine H_hbelow.out.mono ?_
    rintro _ w1 ⟨v1, rfl, ho1, hb1⟩
    obtain ⟨g, cp, rfl, hg0, hg1, _, _, hr1⟩ : ∃ g cp, v1 = .slice (some ⟨g, 0, none⟩) l.length cp ∧ w.heap.size ≤ g ∧ g < w1.heap.size ∧ l.length ≤ cp ∧ l.length ≤ maxLen ∧ RowIn EIn w1 g 0 l := by
      rcases ho1.form with ⟨_, h⟩ | h
      · rw [h] at hself; cases hself
      · exact h
    have hCycle_1 := gkeep hb1 hCycle rfl
    have hBound_1 := gkeep hb1 hBound rfl
    have hDeep_1 := gkeep hb1 hDeep rfl
    have t1 := hb1.size
    have hll : l.length ≤ 1000000 := by omega
    clear ho1 hself
    have H_hr1 := Lib.hid hr1
    clear hr1
    go_wp2_with fail
    refine (Tryz.slices_Contains_int g 0 l.length cp (toI l) (b : Int) w1 (by unfold toI; rw [List.length_map]; exact Nat.le_refl _) (by omega) (toI_cells H_hr1.out)).mono ?_
    rintro _ _ ⟨rfl, rfl⟩
    rw [List.take_of_length_le (by unfold toI; rw [List.length_map]; exact Nat.le_refl _), toI_contains, H_hml.out, H_hcy.out]
    go_wp2_with fail
    go_returns
    exact ⟨rfl, by repeat' (first | (with_reducible first | exact bwR _ _ | assumption | refine bdn ?_ | refine bwA ?_ ?_ _ | refine bwD ?_ | refine bwS ?_ ?_ _) | omega | (simp <;> omega))⟩
  · have hpb' : ((p : Int) == (b : Int)) = false := by rw [beq_eq_false_iff_ne]; omega
    have H_hpb := Lib.hid hpb
    clear hpb
    go_enter Tryz.func16, Tryz.ntmps16
    go_wp2_with (first | (at_lookup; refine wp_hit_ok (T := TT) (n := a) TK rfl _ _ rfl rfl rfl H_hA.out H_he.out H_haI.out ?_) | (at_lookup; refine wp_hit_ok (T := TT) (n := b) TK rfl _ _ rfl rfl rfl H_hA.out H_hm.out H_hbI.out ?_))
    refine H_hbelow.out.mono ?_
    rintro _ w1 ⟨v1, rfl, ho1, hb1⟩
    obtain ⟨g, cp, rfl, hg0, hg1, _, _, hr1⟩ : ∃ g cp, v1 = .slice (some ⟨g, 0, none⟩) l.length cp ∧ w.heap.size ≤ g ∧ g < w1.heap.size ∧ l.length ≤ cp ∧ l.length ≤ maxLen ∧ RowIn EIn w1 g 0 l := by
      rcases ho1.form with ⟨_, h⟩ | h
      · rw [h] at hself; cases hself
      · exact h
    have hCycle_1 := gkeep hb1 hCycle rfl
    have hBound_1 := gkeep hb1 hBound rfl
    have hDeep_1 := gkeep hb1 hDeep rfl
    have t1 := hb1.size
    have hll : l.length ≤ 1000000 := by omega
    clear ho1 hself
    have H_hr1 := Lib.hid hr1
    clear hr1
    go_wp2_with fail
    refine (Tryz.slices_Contains_int g 0 l.length cp (toI l) (b : Int) w1 (by unfold toI; rw [List.length_map]; exact Nat.le_refl _) (by omega) (toI_cells H_hr1.out)).mono ?_
    rintro _ _ ⟨rfl, rfl⟩
    rw [List.take_of_length_le (by unfold toI; rw [List.length_map]; exact Nat.le_refl _), toI_contains, H_hml.out, H_hcy.out]
    go_wp2_with fail
    go_returns
    exact ⟨rfl, by repeat' (first | (with_reducible first | exact bwR _ _ | assumption | refine bdn ?_ | refine bwA ?_ ?_ _ | refine bwD ?_ | refine bwS ?_ ?_ _) | omega | (simp <;> omega))⟩
set_option maxHeartbeats 1000000 in
set_option maxRecDepth 100000 in
theorem mov_bound (ea : Nat → Addr) (bd next a b p : Nat) (i : Int) (F : Nat → Prop) (E : Els) (d : Nat → Nat) (e me : El) (w : World) (hD : DokG Tryz.prog TT w bd F E next d) (hG : DGs ea w) (he : elAt E a = some e) (hm : elAt E b = some me) (h0 : a ≠ 0) (hp : e.parent = (p : Int)) (hcy : decide (b ∈ below E 10 a) = false) (hi : I64 i)
    (hat : i < 0 ∨ ((if p = b then me.kids.length - 1 else me.kids.length : Nat) : Int) < i) :
    Calls Tryz.prog 16 #[.pointer (some ⟨bd, 0, none⟩), .int .i64 (a : Int), .int .i64 (b : Int), .int .i64 i] w (ErrIs 264 ea 2 w) := by
  have hpk : p = b → 0 < me.kids.length := fun h => by
    obtain ⟨_, pe, hpe, hk⟩ := hD.good.off_p he h0 hp
    rw [h, hm] at hpe
    obtain rfl := Option.some.inj hpe
    exact List.length_pos_of_mem hk
  have hNone := hG.c5
  have hShape := hG.c3
  have hCycle := hG.c9
  have hBound := hG.c2
  have hDeep := hG.c8
  have zhNone := zlt hNone
  have xhNone := zlts hNone
  have yhNone := zne hNone
  have zhShape := zlt hShape
  have xhShape := zlts hShape
  have yhShape := zne hShape
  have zhCycle := zlt hCycle
  have xhCycle := zlts hCycle
  have yhCycle := zne hCycle
  have zhBound := zlt hBound
  have xhBound := zlts hBound
  have yhBound := zne hBound
  have zhDeep := zlt hDeep
  have xhDeep := zlts hDeep
  have yhDeep := zne hDeep
  have hDG := hD
  obtain ⟨⟨pl, bm, cnt, D, hA, hc, hF⟩, hg, hbig, hlen⟩ := hD
  have c0 := hA.c0
  have hga := hg.lt a e he
  have hgb := hg.lt b me hm
  have haI : I64 (a : Int) := i64_nat (by omega)
  have hbI : I64 (b : Int) := i64_nat (by omega)
  have hEa := hA.els a e he
  have hEb := hA.els b me hm
  have e2 := hEa.e2
  rw [hp] at e2
  have e3 := hEb.e3
  obtain ⟨oa, len, cap, hkv, hS⟩ := hEb.kids.sl
  obtain rfl : len = me.kids.length := hS.1
  rw [hkv] at e3
  have hkl := hg.kids_len hm
  have hnz : ((a : Int) == 0) = false := by rw [beq_eq_false_iff_ne]; omega
  have hbl := hg.below_len he
  have hblw := hEb.lt
  have hbla := hEa.lt
  have hself := self_below (E := E) 10 a
  obtain ⟨l, hl⟩ : ∃ u, below E 10 a = u := ⟨_, rfl⟩
  have hbelow := below_any bd next F E d 10 a e w hDG he (by omega)
  rw [hl] at hbelow hself hbl
  have hml : decide (b ∈ l) = decide (b ∈ below E 10 a) := by rw [hl]
  have H_hA := Lib.hid hA
  clear hA
  have H_hm := Lib.hid hm
  clear hm
  have H_he := Lib.hid he
  clear he
  have H_haI := Lib.hid haI
  clear haI
  have H_hbI := Lib.hid hbI
  clear hbI
  have H_hDG := Lib.hid hDG
  clear hDG
  have H_hG := Lib.hid hG
  clear hG
  have H_hEa := Lib.hid hEa
  clear hEa
  have H_hEb := Lib.hid hEb
  clear hEb
  have H_hkv := Lib.hid hkv
  clear hkv
  have H_hS := Lib.hid hS
  clear hS
  have H_hl := Lib.hid hl
  clear hl
  have H_hbelow := Lib.hid hbelow
  clear hbelow
  have H_hml := Lib.hid hml
  clear hml
  have H_hp := Lib.hid hp
  clear hp
  clear hc hF hg
  have H_hcy := Lib.hid hcy
  clear hcy
  by_cases hpb : p = b
  · have hpb' : ((p : Int) == (b : Int)) = true := by rw [hpb]; simp
    rw [if_pos hpb] at hat
    have hpk' := hpk hpb
    have H_hpb := Lib.hid hpb
    clear hpb
    clear hpk
    rcases hat with hat | hat
    all_goals
      go_enter Tryz.func16, Tryz.ntmps16
      go_wp2_with (first | (at_lookup; refine wp_hit_ok (T := TT) (n := a) TK rfl _ _ rfl rfl rfl H_hA.out H_he.out H_haI.out ?_) | (at_lookup; refine wp_hit_ok (T := TT) (n := b) TK rfl _ _ rfl rfl rfl H_hA.out H_hm.out H_hbI.out ?_))
      refine H_hbelow.out.mono ?_
      rintro _ w1 ⟨v1, rfl, ho1, hb1⟩
      obtain ⟨g, cp, rfl, hg0, hg1, _, _, hr1⟩ : ∃ g cp, v1 = .slice (some ⟨g, 0, none⟩) l.length cp ∧ w.heap.size ≤ g ∧ g < w1.heap.size ∧ l.length ≤ cp ∧ l.length ≤ maxLen ∧ RowIn EIn w1 g 0 l := by
        rcases ho1.form with ⟨_, h⟩ | h
        · rw [h] at hself; cases hself
        · exact h
      have hCycle_1 := gkeep hb1 hCycle rfl
      have hBound_1 := gkeep hb1 hBound rfl
      have hDeep_1 := gkeep hb1 hDeep rfl
      have t1 := hb1.size
      have hll : l.length ≤ 1000000 := by omega
      clear ho1 hself
      have H_hr1 := Lib.hid hr1
      clear hr1
      go_wp2_with fail
      refine (Tryz.slices_Contains_int g 0 l.length cp (toI l) (b : Int) w1 (by unfold toI; rw [List.length_map]; exact Nat.le_refl _) (by omega) (toI_cells H_hr1.out)).mono ?_
      rintro _ _ ⟨rfl, rfl⟩
      rw [List.take_of_length_le (by unfold toI; rw [List.length_map]; exact Nat.le_refl _), toI_contains, H_hml.out, H_hcy.out]
      go_wp2_with fail
      go_returns
      exact ⟨rfl, by repeat' (first | (with_reducible first | exact bwR _ _ | assumption | refine bdn ?_ | refine bwA ?_ ?_ _ | refine bwD ?_ | refine bwS ?_ ?_ _) | omega | (simp <;> omega))⟩
  · have hpb' : ((p : Int) == (b : Int)) = false := by rw [beq_eq_false_iff_ne]; omega
    rw [if_neg hpb] at hat
    have H_hpb := Lib.hid hpb
    clear hpb
    clear hpk
    rcases hat with hat | hat
    all_goals
      go_enter Tryz.func16, Tryz.ntmps16
      go_wp2_with (first | (at_lookup; refine wp_hit_ok (T := TT) (n := a) TK rfl _ _ rfl rfl rfl H_hA.out H_he.out H_haI.out ?_) | (at_lookup; refine wp_hit_ok (T := TT) (n := b) TK rfl _ _ rfl rfl rfl H_hA.out H_hm.out H_hbI.out ?_))
      refine H_hbelow.out.mono ?_
      rintro _ w1 ⟨v1, rfl, ho1, hb1⟩
      obtain ⟨g, cp, rfl, hg0, hg1, _, _, hr1⟩ : ∃ g cp, v1 = .slice (some ⟨g, 0, none⟩) l.length cp ∧ w.heap.size ≤ g ∧ g < w1.heap.size ∧ l.length ≤ cp ∧ l.length ≤ maxLen ∧ RowIn EIn w1 g 0 l := by
        rcases ho1.form with ⟨_, h⟩ | h
        · rw [h] at hself; cases hself
        · exact h
      have hCycle_1 := gkeep hb1 hCycle rfl
      have hBound_1 := gkeep hb1 hBound rfl
      have hDeep_1 := gkeep hb1 hDeep rfl
      have t1 := hb1.size
      have hll : l.length ≤ 1000000 := by omega
      clear ho1 hself
      have H_hr1 := Lib.hid hr1
      clear hr1
      go_wp2_with fail
      refine (Tryz.slices_Contains_int g 0 l.length cp (toI l) (b : Int) w1 (by unfold toI; rw [List.length_map]; exact Nat.le_refl _) (by omega) (toI_cells H_hr1.out)).mono ?_
      rintro _ _ ⟨rfl, rfl⟩
      rw [List.take_of_length_le (by unfold toI; rw [List.length_map]; exact Nat.le_refl _), toI_contains, H_hml.out, H_hcy.out]
      go_wp2_with fail
      go_returns
      exact ⟨rfl, by repeat' (first | (with_reducible first | exact bwR _ _ | assumption | refine bdn ?_ | refine bwA ?_ ?_ _ | refine bwD ?_ | refine bwS ?_ ?_ _) | omega | (simp <;> omega))⟩
set_option maxHeartbeats 1000000 in
set_option maxRecDepth 100000 in
theorem mov_deep (ea : Nat → Addr) (bd next a b p j : Nat) (F : Nat → Prop) (E : Els) (d : Nat → Nat) (e me : El) (w : World) (hD : DokG Tryz.prog TT w bd F E next d) (hG : DGs ea w) (he : elAt E a = some e) (hm : elAt E b = some me) (h0 : a ≠ 0) (hp : e.parent = (p : Int)) (hcy : decide (b ∈ below E 10 a) = false)
    (hat : j ≤ (if p = b then me.kids.length - 1 else me.kids.length)) (hdh : 10 < d b + high E 10 a) :
    Calls Tryz.prog 16 #[.pointer (some ⟨bd, 0, none⟩), .int .i64 (a : Int), .int .i64 (b : Int), .int .i64 (j : Int)] w (ErrIs 264 ea 8 w) := by
  have hpk : p = b → 0 < me.kids.length := fun h => by
    obtain ⟨_, pe, hpe, hk⟩ := hD.good.off_p he h0 hp
    rw [h, hm] at hpe
    obtain rfl := Option.some.inj hpe
    exact List.length_pos_of_mem hk
  have hNone := hG.c5
  have hShape := hG.c3
  have hCycle := hG.c9
  have hBound := hG.c2
  have hDeep := hG.c8
  have zhNone := zlt hNone
  have xhNone := zlts hNone
  have yhNone := zne hNone
  have zhShape := zlt hShape
  have xhShape := zlts hShape
  have yhShape := zne hShape
  have zhCycle := zlt hCycle
  have xhCycle := zlts hCycle
  have yhCycle := zne hCycle
  have zhBound := zlt hBound
  have xhBound := zlts hBound
  have yhBound := zne hBound
  have zhDeep := zlt hDeep
  have xhDeep := zlts hDeep
  have yhDeep := zne hDeep
  have hDG := hD
  obtain ⟨⟨pl, bm, cnt, D, hA, hc, hF⟩, hg, hbig, hlen⟩ := hD
  have c0 := hA.c0
  have hga := hg.lt a e he
  have hgb := hg.lt b me hm
  have haI : I64 (a : Int) := i64_nat (by omega)
  have hbI : I64 (b : Int) := i64_nat (by omega)
  have hEa := hA.els a e he
  have hEb := hA.els b me hm
  have e2 := hEa.e2
  rw [hp] at e2
  have e3 := hEb.e3
  obtain ⟨oa, len, cap, hkv, hS⟩ := hEb.kids.sl
  obtain rfl : len = me.kids.length := hS.1
  rw [hkv] at e3
  have hkl := hg.kids_len hm
  have hnz : ((a : Int) == 0) = false := by rw [beq_eq_false_iff_ne]; omega
  have hbl := hg.below_len he
  have hblw := hEb.lt
  have hbla := hEa.lt
  have hself := self_below (E := E) 10 a
  obtain ⟨l, hl⟩ : ∃ u, below E 10 a = u := ⟨_, rfl⟩
  have hbelow := below_any bd next F E d 10 a e w hDG he (by omega)
  rw [hl] at hbelow hself hbl
  have hml : decide (b ∈ l) = decide (b ∈ below E 10 a) := by rw [hl]
  have H_hA := Lib.hid hA
  clear hA
  have H_hm := Lib.hid hm
  clear hm
  have H_he := Lib.hid he
  clear he
  have H_haI := Lib.hid haI
  clear haI
  have H_hbI := Lib.hid hbI
  clear hbI
  have H_hDG := Lib.hid hDG
  clear hDG
  have H_hG := Lib.hid hG
  clear hG
  have H_hEa := Lib.hid hEa
  clear hEa
  have H_hEb := Lib.hid hEb
  clear hEb
  have H_hkv := Lib.hid hkv
  clear hkv
  have H_hS := Lib.hid hS
  clear hS
  have H_hl := Lib.hid hl
  clear hl
  have H_hbelow := Lib.hid hbelow
  clear hbelow
  have H_hml := Lib.hid hml
  clear hml
  have H_hp := Lib.hid hp
  clear hp
  have hd1 := hg.dm b me H_hm.out
  have hd2 := hg.high_small H_he.out
  clear hc hF hg
  have H_hcy := Lib.hid hcy
  clear hcy
  by_cases hpb : p = b
  · have hpb' : ((p : Int) == (b : Int)) = true := by rw [hpb]; simp
    rw [if_pos hpb] at hat
    have hpk' := hpk hpb
    have H_hpb := Lib.hid hpb
    clear hpb
    clear hpk
    go_enter Tryz.func16, Tryz.ntmps16
    go_wp2_with (first | (at_lookup; refine wp_hit_ok (T := TT) (n := a) TK rfl _ _ rfl rfl rfl H_hA.out H_he.out H_haI.out ?_) | (at_lookup; refine wp_hit_ok (T := TT) (n := b) TK rfl _ _ rfl rfl rfl H_hA.out H_hm.out H_hbI.out ?_))
    refine H_hbelow.out.mono ?_
    rintro _ w1 ⟨v1, rfl, ho1, hb1⟩
    obtain ⟨g, cp, rfl, hg0, hg1, _, _, hr1⟩ : ∃ g cp, v1 = .slice (some ⟨g, 0, none⟩) l.length cp ∧ w.heap.size ≤ g ∧ g < w1.heap.size ∧ l.length ≤ cp ∧ l.length ≤ maxLen ∧ RowIn EIn w1 g 0 l := by
      rcases ho1.form with ⟨_, h⟩ | h
      · rw [h] at hself; cases hself
      · exact h
    have hCycle_1 := gkeep hb1 hCycle rfl
    have hBound_1 := gkeep hb1 hBound rfl
    have hDeep_1 := gkeep hb1 hDeep rfl
    have t1 := hb1.size
    have hll : l.length ≤ 1000000 := by omega
    clear ho1 hself
    have H_hr1 := Lib.hid hr1
    clear hr1
    go_wp2_with fail
    refine (Tryz.slices_Contains_int g 0 l.length cp (toI l) (b : Int) w1 (by unfold toI; rw [List.length_map]; exact Nat.le_refl _) (by omega) (toI_cells H_hr1.out)).mono ?_
    rintro _ _ ⟨rfl, rfl⟩
    rw [List.take_of_length_le (by unfold toI; rw [List.length_map]; exact Nat.le_refl _), toI_contains, H_hml.out, H_hcy.out]
    go_wp2_with fail
    refine call_bel (w := w) (by repeat' (first | (with_reducible first | exact bwR _ _ | assumption | refine bdn ?_ | refine bwA ?_ ?_ _ | refine bwD ?_ | refine bwS ?_ ?_ _) | omega | (simp <;> omega))) (fun HB => deep_any bd next b F E d me _ (H_hDG.out.keep HB) H_hm.out) ?_
    intro w2 hb2 hz2 c2 d2 hW2
    have hDeep_2 := gkeep hb2 hDeep rfl
    have t2 := hb2.size
    clear hz2 c2 d2 hW2
    go_wp2_with fail
    refine call_bel (w := w) (by repeat' (first | (with_reducible first | exact bwR _ _ | assumption | refine bdn ?_ | refine bwA ?_ ?_ _ | refine bwD ?_ | refine bwS ?_ ?_ _) | omega | (simp <;> omega))) (fun HB => high_any bd next F E d H_hDG.out.good 10 a e _ (H_hDG.out.keep HB) H_he.out (by omega)) ?_
    intro w3 hb3 hz3 c3 d3 hW3
    have hDeep_3 := gkeep hb3 hDeep rfl
    have t3 := hb3.size
    clear hz3 c3 d3 hW3
    go_wp2_with fail
    go_returns
    exact ⟨rfl, by repeat' (first | (with_reducible first | exact bwR _ _ | assumption | refine bdn ?_ | refine bwA ?_ ?_ _ | refine bwD ?_ | refine bwS ?_ ?_ _) | omega | (simp <;> omega))⟩
  · have hpb' : ((p : Int) == (b : Int)) = false := by rw [beq_eq_false_iff_ne]; omega
    rw [if_neg hpb] at hat
    have H_hpb := Lib.hid hpb
    clear hpb
    clear hpk
    go_enter Tryz.func16, Tryz.ntmps16
    go_wp2_with (first | (at_lookup; refine wp_hit_ok (T := TT) (n := a) TK rfl _ _ rfl rfl rfl H_hA.out H_he.out H_haI.out ?_) | (at_lookup; refine wp_hit_ok (T := TT) (n := b) TK rfl _ _ rfl rfl rfl H_hA.out H_hm.out H_hbI.out ?_))
    refine H_hbelow.out.mono ?_
    rintro _ w1 ⟨v1, rfl, ho1, hb1⟩
    obtain ⟨g, cp, rfl, hg0, hg1, _, _, hr1⟩ : ∃ g cp, v1 = .slice (some ⟨g, 0, none⟩) l.length cp ∧ w.heap.size ≤ g ∧ g < w1.heap.size ∧ l.length ≤ cp ∧ l.length ≤ maxLen ∧ RowIn EIn w1 g 0 l := by
      rcases ho1.form with ⟨_, h⟩ | h
      · rw [h] at hself; cases hself
      · exact h
    have hCycle_1 := gkeep hb1 hCycle rfl
    have hBound_1 := gkeep hb1 hBound rfl
    have hDeep_1 := gkeep hb1 hDeep rfl
    have t1 := hb1.size
    have hll : l.length ≤ 1000000 := by omega
    clear ho1 hself
    have H_hr1 := Lib.hid hr1
    clear hr1
    go_wp2_with fail
    refine (Tryz.slices_Contains_int g 0 l.length cp (toI l) (b : Int) w1 (by unfold toI; rw [List.length_map]; exact Nat.le_refl _) (by omega) (toI_cells H_hr1.out)).mono ?_
    rintro _ _ ⟨rfl, rfl⟩
    rw [List.take_of_length_le (by unfold toI; rw [List.length_map]; exact Nat.le_refl _), toI_contains, H_hml.out, H_hcy.out]
    go_wp2_with fail
    refine call_bel (w := w) (by repeat' (first | (with_reducible first | exact bwR _ _ | assumption | refine bdn ?_ | refine bwA ?_ ?_ _ | refine bwD ?_ | refine bwS ?_ ?_ _) | omega | (simp <;> omega))) (fun HB => deep_any bd next b F E d me _ (H_hDG.out.keep HB) H_hm.out) ?_
    intro w2 hb2 hz2 c2 d2 hW2
    have hDeep_2 := gkeep hb2 hDeep rfl
    have t2 := hb2.size
    clear hz2 c2 d2 hW2
    go_wp2_with fail
    refine call_bel (w := w) (by repeat' (first | (with_reducible first | exact bwR _ _ | assumption | refine bdn ?_ | refine bwA ?_ ?_ _ | refine bwD ?_ | refine bwS ?_ ?_ _) | omega | (simp <;> omega))) (fun HB => high_any bd next F E d H_hDG.out.good 10 a e _ (H_hDG.out.keep HB) H_he.out (by omega)) ?_
    intro w3 hb3 hz3 c3 d3 hW3
    have hDeep_3 := gkeep hb3 hDeep rfl
    have t3 := hb3.size
    clear hz3 c3 d3 hW3
    go_wp2_with fail
    go_returns
    exact ⟨rfl, by repeat' (first | (with_reducible first | exact bwR _ _ | assumption | refine bdn ?_ | refine bwA ?_ ?_ _ | refine bwD ?_ | refine bwS ?_ ?_ _) | omega | (simp <;> omega))⟩
set_option maxHeartbeats 3000000 in
set_option maxRecDepth 100000 in
theorem mov_ok (ea : Nat → Addr) (bd next a b p j : Nat) (F : Nat → Prop) (E : Els) (d : Nat → Nat) (e me : El) (w : World) (hD : DokG Tryz.prog TT w bd F E next d) (hG : DGs ea w) (he : elAt E a = some e) (hm : elAt E b = some me) (h0 : a ≠ 0) (hp : e.parent = (p : Int)) (hcy : decide (b ∈ below E 10 a) = false)
    (hat : j ≤ (if p = b then me.kids.length - 1 else me.kids.length)) (hdh : d b + high E 10 a ≤ 10) :
    Calls Tryz.prog 16 #[.pointer (some ⟨bd, 0, none⟩), .int .i64 (a : Int), .int .i64 (b : Int), .int .i64 (j : Int)] w fun en w' => en = .returned .nilIface ∧ Became Tryz.prog TT w w' bd F (moveE E a b j p) next := by
  obtain ⟨hpnb, pe, hpe, hk⟩ := hD.good.off_p he h0 hp
  have hap : a ≠ p := fun h => hpnb (h ▸ self_below 10 a)
  have hab : a ≠ b := fun h => by
    have h1 := of_decide_eq_false hcy
    exact h1 (h ▸ self_below 10 a)
  have hpk : p = b → 0 < me.kids.length := fun h => by
    rw [h, hm] at hpe
    obtain rfl := Option.some.inj hpe
    exact List.length_pos_of_mem hk
  have hgp := hD.good.lt p pe hpe
  have keys := hD.good.keys
  have hkl0 := hD.good.kids_len hm
  obtain ⟨me5, hm4, hj5, hl5⟩ : ∃ me5, elAt (offE E a p) b = some me5 ∧ j ≤ me5.kids.length ∧ me5.kids.length ≤ me.kids.length := by
    by_cases h : b = p
    · subst h
      rw [if_pos rfl] at hat
      rw [hm] at hpe
      obtain rfl := Option.some.inj hpe
      have := offK_len (hD.good.nd b me hm) hk
      unfold offE
      rw [elAt_upd, if_pos rfl, hm]
      exact ⟨_, rfl, by show j ≤ (offK me.kids a).length; omega, List.length_filter_le _ _⟩
    · rw [if_neg (fun h' => h h'.symm)] at hat
      rw [offE_at a p b h]
      exact ⟨me, hm, hat, Nat.le_refl _⟩
  have he4 : elAt (offE E a p) a = some e := by rw [offE_at a p a hap]; exact he
  have hkeys4 : ((offE E a p).map (·.1)).Nodup := by unfold offE; rw [upd_keys]; exact keys
  have hpe5 : Dc.upd (offE E a p) a (fun _ => { e with parent := (b : Int) }) = Dc.upd (offE E a p) a (fun e => { e with parent := (b : Int) }) := upd_const hkeys4 he4 (fun e => { e with parent := (b : Int) })
  obtain ⟨E5, hE5⟩ : ∃ u, Dc.upd (offE E a p) a (fun e => { e with parent := (b : Int) }) = u := ⟨_, rfl⟩
  have hm5 : elAt E5 b = some me5 := by rw [← hE5, elAt_upd, if_neg (fun h => hab h.symm)]; exact hm4
  have hins : Dc.upd E5 b (fun _ => { me5 with kids := insK me5.kids j a }) = moveE E a b j p := by
    rw [upd_const (by rw [← hE5, upd_keys]; exact hkeys4) hm5 (fun e => { e with kids := insK e.kids j a }), ← hE5]
    exact move_eq E j hap hab
  rw [hE5] at hpe5
  have hNone := hG.c5
  have hShape := hG.c3
  have hCycle := hG.c9
  have hBound := hG.c2
  have hDeep := hG.c8
  have zhNone := zlt hNone
  have xhNone := zlts hNone
  have yhNone := zne hNone
  have zhShape := zlt hShape
  have xhShape := zlts hShape
  have yhShape := zne hShape
  have zhCycle := zlt hCycle
  have xhCycle := zlts hCycle
  have yhCycle := zne hCycle
  have zhBound := zlt hBound
  have xhBound := zlts hBound
  have yhBound := zne hBound
  have zhDeep := zlt hDeep
  have xhDeep := zlts hDeep
  have yhDeep := zne hDeep
  have hDG := hD
  obtain ⟨⟨pl, bm, cnt, D, hA, hc, hF⟩, hg, hbig, hlen⟩ := hD
  have c0 := hA.c0
  have hga := hg.lt a e he
  have hgb := hg.lt b me hm
  have haI : I64 (a : Int) := i64_nat (by omega)
  have hbI : I64 (b : Int) := i64_nat (by omega)
  have hEa := hA.els a e he
  have hEb := hA.els b me hm
  have e2 := hEa.e2
  rw [hp] at e2
  have e3 := hEb.e3
  obtain ⟨oa, len, cap, hkv, hS⟩ := hEb.kids.sl
  obtain rfl : len = me.kids.length := hS.1
  rw [hkv] at e3
  have hkl := hg.kids_len hm
  have hnz : ((a : Int) == 0) = false := by rw [beq_eq_false_iff_ne]; omega
  have hbl := hg.below_len he
  have hblw := hEb.lt
  have hbla := hEa.lt
  have hself := self_below (E := E) 10 a
  obtain ⟨l, hl⟩ : ∃ u, below E 10 a = u := ⟨_, rfl⟩
  have hbelow := below_any bd next F E d 10 a e w hDG he (by omega)
  rw [hl] at hbelow hself hbl
  have hml : decide (b ∈ l) = decide (b ∈ below E 10 a) := by rw [hl]
  have H_hA := Lib.hid hA
  clear hA
  have H_hm := Lib.hid hm
  clear hm
  have H_he := Lib.hid he
  clear he
  have H_haI := Lib.hid haI
  clear haI
  have H_hbI := Lib.hid hbI
  clear hbI
  have H_hDG := Lib.hid hDG
  clear hDG
  have H_hG := Lib.hid hG
  clear hG
  have H_hEa := Lib.hid hEa
  clear hEa
  have H_hEb := Lib.hid hEb
  clear hEb
  have H_hkv := Lib.hid hkv
  clear hkv
  have H_hS := Lib.hid hS
  clear hS
  have H_hl := Lib.hid hl
  clear hl
  have H_hbelow := Lib.hid hbelow
  clear hbelow
  have H_hml := Lib.hid hml
  clear hml
  have H_hp := Lib.hid hp
  clear hp
  have hd1 := hg.dm b me H_hm.out
  have hd2 := hg.high_small H_he.out
  clear hg hE5 hkeys4
  have H_hcy := Lib.hid hcy
  clear hcy
  have H_hpe := Lib.hid hpe
  clear hpe
  have H_keys := Lib.hid keys
  clear keys
  have H_hF := Lib.hid hF
  clear hF
  have H_hm4 := Lib.hid hm4
  clear hm4
  have H_he4 := Lib.hid he4
  clear he4
  have H_hpe5 := Lib.hid hpe5
  clear hpe5
  have H_hm5 := Lib.hid hm5
  clear hm5
  have H_hins := Lib.hid hins
  clear hins
  by_cases hpb : p = b
  · have hpb' : ((p : Int) == (b : Int)) = true := by rw [hpb]; simp
    rw [if_pos hpb] at hat
    have hpk' := hpk hpb
    have H_hpb := Lib.hid hpb
    clear hpb
    clear hpk
    go_enter Tryz.func16, Tryz.ntmps16
    go_wp2_with (first | (at_lookup; refine wp_hit_ok (T := TT) (n := a) TK rfl _ _ rfl rfl rfl H_hA.out H_he.out H_haI.out ?_) | (at_lookup; refine wp_hit_ok (T := TT) (n := b) TK rfl _ _ rfl rfl rfl H_hA.out H_hm.out H_hbI.out ?_))
    refine H_hbelow.out.mono ?_
    rintro _ w1 ⟨v1, rfl, ho1, hb1⟩
    obtain ⟨g, cp, rfl, hg0, hg1, _, _, hr1⟩ : ∃ g cp, v1 = .slice (some ⟨g, 0, none⟩) l.length cp ∧ w.heap.size ≤ g ∧ g < w1.heap.size ∧ l.length ≤ cp ∧ l.length ≤ maxLen ∧ RowIn EIn w1 g 0 l := by
      rcases ho1.form with ⟨_, h⟩ | h
      · rw [h] at hself; cases hself
      · exact h
    have hCycle_1 := gkeep hb1 hCycle rfl
    have hBound_1 := gkeep hb1 hBound rfl
    have hDeep_1 := gkeep hb1 hDeep rfl
    have t1 := hb1.size
    have hll : l.length ≤ 1000000 := by omega
    clear ho1 hself
    have H_hr1 := Lib.hid hr1
    clear hr1
    go_wp2_with fail
    refine (Tryz.slices_Contains_int g 0 l.length cp (toI l) (b : Int) w1 (by unfold toI; rw [List.length_map]; exact Nat.le_refl _) (by omega) (toI_cells H_hr1.out)).mono ?_
    rintro _ _ ⟨rfl, rfl⟩
    rw [List.take_of_length_le (by unfold toI; rw [List.length_map]; exact Nat.le_refl _), toI_contains, H_hml.out, H_hcy.out]
    go_wp2_with fail
    refine call_bel (w := w) (by repeat' (first | (with_reducible first | exact bwR _ _ | assumption | refine bdn ?_ | refine bwA ?_ ?_ _ | refine bwD ?_ | refine bwS ?_ ?_ _) | omega | (simp <;> omega))) (fun HB => deep_any bd next b F E d me _ (H_hDG.out.keep HB) H_hm.out) ?_
    intro w2 hb2 hz2 c2 d2 hW2
    have hDeep_2 := gkeep hb2 hDeep rfl
    have t2 := hb2.size
    clear hz2 c2 d2 hW2
    go_wp2_with fail
    refine call_bel (w := w) (by repeat' (first | (with_reducible first | exact bwR _ _ | assumption | refine bdn ?_ | refine bwA ?_ ?_ _ | refine bwD ?_ | refine bwS ?_ ?_ _) | omega | (simp <;> omega))) (fun HB => high_any bd next F E d H_hDG.out.good 10 a e _ (H_hDG.out.keep HB) H_he.out (by omega)) ?_
    intro w3 hb3 hz3 c3 d3 hW3
    have hDeep_3 := gkeep hb3 hDeep rfl
    have t3 := hb3.size
    clear hz3 c3 d3 hW3
    go_wp2_with fail
    have hA3 := H_hA.out.keep hb3
    have hF3 := H_hF.out.keep (w' := w3) hb3.size
    have hT3 : Turn F w w3 := Turn.of_below hb3
    refine (off_any bd next a p bm cnt F E d pl D e pe w3 hA3 hF3 H_he.out H_hp.out H_hpe.out hk (by omega) (by omega)).mono ?_
    rintro _ w4 ⟨rfl, kv4, F4, hF4n, hA4, hF4, hT4⟩
    have hoe : Dc.upd E p (fun _ => { pe with kids := offK pe.kids a }) = offE E a p := upd_const H_keys.out H_hpe.out (fun e => { e with kids := offK e.kids a })
    rw [hoe] at hA4 hF4
    obtain ⟨pl4, hpl4⟩ : ∃ u, (fun x => if x = p then (⟨(pl p).blk, (pl p).av, kv4⟩ : Plc) else pl x) = u := ⟨_, rfl⟩
    have hp4a : pl4 a = pl a := by rw [← hpl4]; exact if_neg hap
    have hp4b : (pl4 b).blk = (pl b).blk := by
      rw [← hpl4]
      show (if b = p then (⟨(pl p).blk, (pl p).av, kv4⟩ : Plc) else pl b).blk = _
      by_cases h : b = p
      · rw [if_pos h, h]
      · rw [if_neg h]
    rw [hpl4] at hA4 hF4
    have hT04 : Turn F w w4 := hT3.goOn hT4 (fun j h => .inl h)
    have hn4 := hA4.els a e H_he4.out
    rw [hp4a] at hn4
    have x2 := hn4.e2
    rw [H_hp.out] at x2
    have y2 := hn4.fr 2
    have zla := hn4.lt
    have z4 := hT04.size
    have hq4 := hA4.els b me5 H_hm4.out
    obtain ⟨o5, l5, k5, hkv4, hS4⟩ := hq4.kids.sl
    obtain rfl : l5 = me5.kids.length := hS4.1
    have u3 := hq4.e3
    rw [hkv4, hp4b] at u3
    have zlb := hq4.lt
    rw [hp4b] at zlb
    have hnab : ¬ (pl a).blk = (pl b).blk := fun h => (H_hA.out.ne a b e me hab H_he.out H_hm.out).1 h
    have hnba : ¬ (pl b).blk = (pl a).blk := fun h => hnab h.symm
    obtain ⟨hA5, hF5, hT5⟩ := hA4.par TK hF4 H_he4.out (b : Int)
    rw [hp4a] at hA5 hF5 hT5
    rw [H_hpe5.out] at hA5 hF5
    obtain ⟨w5, hw5⟩ : ∃ u, w4.setCell ⟨(pl a).blk, 2, none⟩ (.int .i64 (b : Int)) = u := ⟨_, rfl⟩
    have hz5 : w5.heap.size = w4.heap.size := by rw [← hw5]; simp
    obtain ⟨pl5, hpl5⟩ : ∃ u, (fun x => if x = a then pl a else pl4 x) = u := ⟨_, rfl⟩
    have hp5b : pl5 b = pl4 b := by
      rw [← hpl5]
      exact if_neg (fun h => hab h.symm)
    rw [hw5, hpl5] at hA5 hF5
    rw [hw5] at hT5
    have hF4w : ∀ j, F4 j → F j ∨ w.heap.size ≤ j := fun j hj => (hF4n j hj).imp id (fun h => by omega)
    have hT05 : Turn F w w5 := hT04.goOn hT5 hF4w
    have hq5 := hA5.els b me5 H_hm5.out
    have hkq := hq5.kids
    rw [hp5b, hkv4] at hkq
    have hkv5 : (pl5 b).kv = .slice o5 me5.kids.length k5 := by rw [hp5b]; exact hkv4
    have hbk5 : (pl5 b).blk = (pl b).blk := by rw [hp5b]; exact hp4b
    have H_hA5 := Lib.hid hA5
    clear hA5
    have H_hF5 := Lib.hid hF5
    clear hF5
    have H_hT05 := Lib.hid hT05
    clear hT05
    have H_hkv5 := Lib.hid hkv5
    clear hkv5
    have H_hkq := Lib.hid hkq
    clear hkq
    have H_hq5 := Lib.hid hq5
    clear hq5
    have H_hw5 := Lib.hid hw5
    clear hw5
    have H_hF4w := Lib.hid hF4w
    clear hF4w
    have H_hbk5 := Lib.hid hbk5
    clear hbk5
    clear hT3 hT4 hT5 hA4 hF4 hn4 hS4 hA3 hF3 hoe hpl4 hpl5 hq4 hkv4 hp4a hp4b hp5b hF4n hT04
    go_wp2_with fail
    rw [H_hw5.out]
    have hkq6 : OwnQ EIn (w5.alloc (.cells #[.int .i64 (a : Int)] 3)) 0 3 (.slice o5 me5.kids.length k5) me5.kids := H_hkq.out.keep ((Below.refl _ _).alloc (Nat.le_refl _) _)
    have hle5 : w4.heap.size ≤ w5.heap.size := Nat.le_of_eq hz5.symm
    rw [show w4.heap.size = w5.heap.size from hz5.symm]
    clear hz5
    refine (ins_any (ρ := Tryz.insI_ren) Tryz.insI (base := 0) (kv := .slice o5 me5.kids.length k5) (kids := me5.kids) (vb := w5.heap.size) (i := j) (n := a) (tv := 3) hkq6 hj5 (heap_alloc_new _ _) (fun hb => by
      obtain ⟨_, h, _⟩ := H_hkq.out.rowB hb
      omega) (by omega) (Nat.zero_le _)).mono ?_
    rintro _ w7 ⟨v7, rfl, hv7, hrt, hvb7⟩
    obtain ⟨o7, l7, c7, rfl⟩ := own_form hv7
    have z7 := hrt.size
    rw [World.size_alloc] at z7
    have hw7 : ∀ j, j < w5.heap.size → rowB (.slice o5 me5.kids.length k5) ≠ some j → w7.heap[j]? = w5.heap[j]? := fun j hj hn => (hrt.block j (by rw [World.size_alloc]; omega) hn).trans (Below.heap_alloc _ _ _ hj)
    have hbne : rowB (.slice o5 me5.kids.length k5) ≠ some (pl b).blk := fun hb => by
      obtain ⟨_, _, cur, hcq⟩ := H_hkq.out.rowB hb
      exact H_hq5.out.blk_ne hcq TK.h5 H_hbk5.out.symm
    have hcq := H_hq5.out.cell
    have hlb5 := H_hq5.out.lt
    rw [H_hbk5.out] at hcq hlb5
    rw [← hw7 _ hlb5 hbne] at hcq
    have e3_7 : w7.cell? ⟨(pl b).blk, 3, none⟩ = some (pl5 b).kv := hcell hcq rfl
    have y3_7 : w7.frozen? ⟨(pl b).blk, 3, none⟩ = false := hfree hcq
    have hfin := H_hA5.out.kids TK H_hF5.out H_hm5.out (w1 := w7) (v' := .slice o7 l7 c7) (l' := insK me5.kids j a) ⟨hrt.os, hrt.tape, hrt.output⟩ (by omega) (fun j hj hn => hw7 j hj (by rw [← H_hkv5.out]; exact hn)) hv7 (fun b hb => by
      rcases hvb7 b hb with h | h
      · rw [H_hkv5.out]; exact .inl h
      · rw [World.size_alloc] at h; exact .inr (by omega))
    rw [H_hbk5.out] at hfin
    have hvlt : ∀ x, rowB (.slice o7 l7 c7) = some x → F x ∨ w.heap.size ≤ x := fun x hx => by
      rcases hvb7 x hx with h | h
      · exact H_hF4w.out x (H_hF5.out.kv b me5 H_hm5.out x (by rw [H_hkv5.out]; exact h))
      · rw [World.size_alloc] at h; exact .inr (by omega)
    rw [H_hins.out] at hfin
    clear hcq hw7 hrt hvb7 hv7
    have H_hfin := Lib.hid hfin
    clear hfin
    have H_hvlt := Lib.hid hvlt
    clear hvlt
    go_wp2_with fail
    go_returns
    refine ⟨rfl, _, fun x hx => ?_, ⟨_, _, _, _, H_hfin.out.1, hc, H_hfin.out.2.1⟩, H_hT05.out.goOn H_hfin.out.2.2 H_hF4w.out⟩
    rcases hx with h | h
    · exact H_hF4w.out x h
    · exact H_hvlt.out x h
  · have hpb' : ((p : Int) == (b : Int)) = false := by rw [beq_eq_false_iff_ne]; omega
    rw [if_neg hpb] at hat
    have H_hpb := Lib.hid hpb
    clear hpb
    clear hpk
    go_enter Tryz.func16, Tryz.ntmps16
    go_wp2_with (first | (at_lookup; refine wp_hit_ok (T := TT) (n := a) TK rfl _ _ rfl rfl rfl H_hA.out H_he.out H_haI.out ?_) | (at_lookup; refine wp_hit_ok (T := TT) (n := b) TK rfl _ _ rfl rfl rfl H_hA.out H_hm.out H_hbI.out ?_))
    refine H_hbelow.out.mono ?_
    rintro _ w1 ⟨v1, rfl, ho1, hb1⟩
    obtain ⟨g, cp, rfl, hg0, hg1, _, _, hr1⟩ : ∃ g cp, v1 = .slice (some ⟨g, 0, none⟩) l.length cp ∧ w.heap.size ≤ g ∧ g < w1.heap.size ∧ l.length ≤ cp ∧ l.length ≤ maxLen ∧ RowIn EIn w1 g 0 l := by
      rcases ho1.form with ⟨_, h⟩ | h
      · rw [h] at hself; cases hself
      · exact h
    have hCycle_1 := gkeep hb1 hCycle rfl
    have hBound_1 := gkeep hb1 hBound rfl
    have hDeep_1 := gkeep hb1 hDeep rfl
    have t1 := hb1.size
    have hll : l.length ≤ 1000000 := by omega
    clear ho1 hself
    have H_hr1 := Lib.hid hr1
    clear hr1
    go_wp2_with fail
    refine (Tryz.slices_Contains_int g 0 l.length cp (toI l) (b : Int) w1 (by unfold toI; rw [List.length_map]; exact Nat.le_refl _) (by omega) (toI_cells H_hr1.out)).mono ?_
    rintro _ _ ⟨rfl, rfl⟩
    rw [List.take_of_length_le (by unfold toI; rw [List.length_map]; exact Nat.le_refl _), toI_contains, H_hml.out, H_hcy.out]
    go_wp2_with fail
    refine call_bel (w := w) (by repeat' (first | (with_reducible first | exact bwR _ _ | assumption | refine bdn ?_ | refine bwA ?_ ?_ _ | refine bwD ?_ | refine bwS ?_ ?_ _) | omega | (simp <;> omega))) (fun HB => deep_any bd next b F E d me _ (H_hDG.out.keep HB) H_hm.out) ?_
    intro w2 hb2 hz2 c2 d2 hW2
    have hDeep_2 := gkeep hb2 hDeep rfl
    have t2 := hb2.size
    clear hz2 c2 d2 hW2
    go_wp2_with fail
    refine call_bel (w := w) (by repeat' (first | (with_reducible first | exact bwR _ _ | assumption | refine bdn ?_ | refine bwA ?_ ?_ _ | refine bwD ?_ | refine bwS ?_ ?_ _) | omega | (simp <;> omega))) (fun HB => high_any bd next F E d H_hDG.out.good 10 a e _ (H_hDG.out.keep HB) H_he.out (by omega)) ?_
    intro w3 hb3 hz3 c3 d3 hW3
    have hDeep_3 := gkeep hb3 hDeep rfl
    have t3 := hb3.size
    clear hz3 c3 d3 hW3
    go_wp2_with fail
    have hA3 := H_hA.out.keep hb3
    have hF3 := H_hF.out.keep (w' := w3) hb3.size
    have hT3 : Turn F w w3 := Turn.of_below hb3
    refine (off_any bd next a p bm cnt F E d pl D e pe w3 hA3 hF3 H_he.out H_hp.out H_hpe.out hk (by omega) (by omega)).mono ?_
    rintro _ w4 ⟨rfl, kv4, F4, hF4n, hA4, hF4, hT4⟩
    have hoe : Dc.upd E p (fun _ => { pe with kids := offK pe.kids a }) = offE E a p := upd_const H_keys.out H_hpe.out (fun e => { e with kids := offK e.kids a })
    rw [hoe] at hA4 hF4
    obtain ⟨pl4, hpl4⟩ : ∃ u, (fun x => if x = p then (⟨(pl p).blk, (pl p).av, kv4⟩ : Plc) else pl x) = u := ⟨_, rfl⟩
    have hp4a : pl4 a = pl a := by rw [← hpl4]; exact if_neg hap
    have hp4b : (pl4 b).blk = (pl b).blk := by
      rw [← hpl4]
      show (if b = p then (⟨(pl p).blk, (pl p).av, kv4⟩ : Plc) else pl b).blk = _
      by_cases h : b = p
      · rw [if_pos h, h]
      · rw [if_neg h]
    rw [hpl4] at hA4 hF4
    have hT04 : Turn F w w4 := hT3.goOn hT4 (fun j h => .inl h)
    have hn4 := hA4.els a e H_he4.out
    rw [hp4a] at hn4
    have x2 := hn4.e2
    rw [H_hp.out] at x2
    have y2 := hn4.fr 2
    have zla := hn4.lt
    have z4 := hT04.size
    have hq4 := hA4.els b me5 H_hm4.out
    obtain ⟨o5, l5, k5, hkv4, hS4⟩ := hq4.kids.sl
    obtain rfl : l5 = me5.kids.length := hS4.1
    have u3 := hq4.e3
    rw [hkv4, hp4b] at u3
    have zlb := hq4.lt
    rw [hp4b] at zlb
    have hnab : ¬ (pl a).blk = (pl b).blk := fun h => (H_hA.out.ne a b e me hab H_he.out H_hm.out).1 h
    have hnba : ¬ (pl b).blk = (pl a).blk := fun h => hnab h.symm
    obtain ⟨hA5, hF5, hT5⟩ := hA4.par TK hF4 H_he4.out (b : Int)
    rw [hp4a] at hA5 hF5 hT5
    rw [H_hpe5.out] at hA5 hF5
    obtain ⟨w5, hw5⟩ : ∃ u, w4.setCell ⟨(pl a).blk, 2, none⟩ (.int .i64 (b : Int)) = u := ⟨_, rfl⟩
    have hz5 : w5.heap.size = w4.heap.size := by rw [← hw5]; simp
    obtain ⟨pl5, hpl5⟩ : ∃ u, (fun x => if x = a then pl a else pl4 x) = u := ⟨_, rfl⟩
    have hp5b : pl5 b = pl4 b := by
      rw [← hpl5]
      exact if_neg (fun h => hab h.symm)
    rw [hw5, hpl5] at hA5 hF5
    rw [hw5] at hT5
    have hF4w : ∀ j, F4 j → F j ∨ w.heap.size ≤ j := fun j hj => (hF4n j hj).imp id (fun h => by omega)
    have hT05 : Turn F w w5 := hT04.goOn hT5 hF4w
    have hq5 := hA5.els b me5 H_hm5.out
    have hkq := hq5.kids
    rw [hp5b, hkv4] at hkq
    have hkv5 : (pl5 b).kv = .slice o5 me5.kids.length k5 := by rw [hp5b]; exact hkv4
    have hbk5 : (pl5 b).blk = (pl b).blk := by rw [hp5b]; exact hp4b
    have H_hA5 := Lib.hid hA5
    clear hA5
    have H_hF5 := Lib.hid hF5
    clear hF5
    have H_hT05 := Lib.hid hT05
    clear hT05
    have H_hkv5 := Lib.hid hkv5
    clear hkv5
    have H_hkq := Lib.hid hkq
    clear hkq
    have H_hq5 := Lib.hid hq5
    clear hq5
    have H_hw5 := Lib.hid hw5
    clear hw5
    have H_hF4w := Lib.hid hF4w
    clear hF4w
    have H_hbk5 := Lib.hid hbk5
    clear hbk5
    clear hT3 hT4 hT5 hA4 hF4 hn4 hS4 hA3 hF3 hoe hpl4 hpl5 hq4 hkv4 hp4a hp4b hp5b hF4n hT04
    go_wp2_with fail
    rw [H_hw5.out]
    have hkq6 : OwnQ EIn (w5.alloc (.cells #[.int .i64 (a : Int)] 3)) 0 3 (.slice o5 me5.kids.length k5) me5.kids := H_hkq.out.keep ((Below.refl _ _).alloc (Nat.le_refl _) _)
    have hle5 : w4.heap.size ≤ w5.heap.size := Nat.le_of_eq hz5.symm
    rw [show w4.heap.size = w5.heap.size from hz5.symm]
    clear hz5
    refine (ins_any (ρ := Tryz.insI_ren) Tryz.insI (base := 0) (kv := .slice o5 me5.kids.length k5) (kids := me5.kids) (vb := w5.heap.size) (i := j) (n := a) (tv := 3) hkq6 hj5 (heap_alloc_new _ _) (fun hb => by
      obtain ⟨_, h, _⟩ := H_hkq.out.rowB hb
      omega) (by omega) (Nat.zero_le _)).mono ?_
    rintro _ w7 ⟨v7, rfl, hv7, hrt, hvb7⟩
    obtain ⟨o7, l7, c7, rfl⟩ := own_form hv7
    have z7 := hrt.size
    rw [World.size_alloc] at z7
    have hw7 : ∀ j, j < w5.heap.size → rowB (.slice o5 me5.kids.length k5) ≠ some j → w7.heap[j]? = w5.heap[j]? := fun j hj hn => (hrt.block j (by rw [World.size_alloc]; omega) hn).trans (Below.heap_alloc _ _ _ hj)
    have hbne : rowB (.slice o5 me5.kids.length k5) ≠ some (pl b).blk := fun hb => by
      obtain ⟨_, _, cur, hcq⟩ := H_hkq.out.rowB hb
      exact H_hq5.out.blk_ne hcq TK.h5 H_hbk5.out.symm
    have hcq := H_hq5.out.cell
    have hlb5 := H_hq5.out.lt
    rw [H_hbk5.out] at hcq hlb5
    rw [← hw7 _ hlb5 hbne] at hcq
    have e3_7 : w7.cell? ⟨(pl b).blk, 3, none⟩ = some (pl5 b).kv := hcell hcq rfl
    have y3_7 : w7.frozen? ⟨(pl b).blk, 3, none⟩ = false := hfree hcq
    have hfin := H_hA5.out.kids TK H_hF5.out H_hm5.out (w1 := w7) (v' := .slice o7 l7 c7) (l' := insK me5.kids j a) ⟨hrt.os, hrt.tape, hrt.output⟩ (by omega) (fun j hj hn => hw7 j hj (by rw [← H_hkv5.out]; exact hn)) hv7 (fun b hb => by
      rcases hvb7 b hb with h | h
      · rw [H_hkv5.out]; exact .inl h
      · rw [World.size_alloc] at h; exact .inr (by omega))
    rw [H_hbk5.out] at hfin
    have hvlt : ∀ x, rowB (.slice o7 l7 c7) = some x → F x ∨ w.heap.size ≤ x := fun x hx => by
      rcases hvb7 x hx with h | h
      · exact H_hF4w.out x (H_hF5.out.kv b me5 H_hm5.out x (by rw [H_hkv5.out]; exact h))
      · rw [World.size_alloc] at h; exact .inr (by omega)
    rw [H_hins.out] at hfin
    clear hcq hw7 hrt hvb7 hv7
    have H_hfin := Lib.hid hfin
    clear hfin
    have H_hvlt := Lib.hid hvlt
    clear hvlt
    go_wp2_with fail
    go_returns
    refine ⟨rfl, _, fun x hx => ?_, ⟨_, _, _, _, H_hfin.out.1, hc, H_hfin.out.2.1⟩, H_hT05.out.goOn H_hfin.out.2.2 H_hF4w.out⟩
    rcases hx with h | h
    · exact H_hF4w.out x h
    · exact H_hvlt.out x h
end Go.Proofs.YtndlmmpheecleaaGreatDoor

/-
  Walks over package doc: Add, Remove, Move, each in one contract.
-/
namespace Lead.Dc
open Go Go.RowKit Go.Maps Lead
/-- Behind a call: the document is right; its blocks are those that it had, or new ones; no others have turned. -/
def Step (P : Program) (T : Tys) (F : Nat → Prop) (bd : Nat) (w w' : World) (E : Els) (next : Nat) (d : Nat → Nat) : Prop := ∃ F', (∀ k, F' k → F k ∨ w.heap.size ≤ k) ∧ DokG P T w' bd F' E next d ∧ Turn F w w'
variable {P : Program} {T : Tys} {w w' : World} {bd next next' : Nat} {E E' : Els} {d d' : Nat → Nat} {F : Nat → Prop}
theorem Step.of_became (h : Became P T w w' bd F E' next') (hg : Good E' next' d') (hb : next' ≤ 1000000) (hl : E'.length ≤ 1000000) : Step P T F bd w w' E' next' d' := by
  obtain ⟨F', h1, h2, h3⟩ := h
  exact ⟨F', h1, ⟨h2, hg, hb, hl⟩, h3⟩
theorem Step.same (h : DokG P T w bd F E next d) (hb : Below w.heap.size w w') : Step P T F bd w w' E next d := ⟨F, fun _ hk => .inl hk, h.keep hb, Turn.of_below hb⟩
theorem atZ_cases (E : Els) (z : Int) : atZ E z = none ∨ ∃ (q : Nat) (e : El), z = (q : Int) ∧ elAt E q = some e := by
  cases h : atZ E z with
  | none => exact .inl rfl
  | some e => obtain ⟨n, h1, h2⟩ := atZ_some h; exact .inr ⟨n, e, h1, h2⟩
theorem remC_no {n : Int} (h : atZ E n = none) : remC E n = 5 := by
  unfold remC
  have : (if 0 ≤ n then elAt E n.toNat else none) = none := h
  rw [this]
theorem remC_el {q : Nat} {e : El} (h : elAt E q = some e) : remC E (q : Int) = if q = 0 then 3 else 0 := by
  unfold remC
  rw [if_pos (Int.natCast_nonneg q), Int.toNat_natCast, h]
  dsimp only
  by_cases h0 : q = 0
  · rw [if_pos h0, if_pos (by omega)]
  · rw [if_neg h0, if_neg (by omega)]
theorem movC_no1 {n m i : Int} (h : atZ E n = none) : movC E d n m i = 5 := by
  unfold movC
  have : (if 0 ≤ n then elAt E n.toNat else none) = none := h
  rw [this]
theorem movC_no2 {n m i : Int} (h : atZ E m = none) : movC E d n m i = 5 := by
  unfold movC
  have : (if 0 ≤ m then elAt E m.toNat else none) = none := h
  rw [this]
  split <;> simp_all
theorem addE_len (p at' : Nat) (nm : ByteArray) : (addE E next p at' nm).length = E.length + 1 := by simp [addE, upd]
theorem removeE_len (n p : Nat) : (removeE E n p).length ≤ E.length := by
  unfold removeE upd
  refine Nat.le_trans (List.length_filter_le _ _) ?_
  rw [List.length_map]
  exact Nat.le_refl _
theorem moveE_len (n m i p : Nat) : (moveE E n m i p).length = E.length := by simp [moveE]
end Lead.Dc
namespace Go.Proofs.YtndlmmpheecleaaGreatDoor
open Go.RowKit Go.WideMaps Go.Maps Lead Lead.Dc
def AddIs (ea : Nat → Addr) (F : Nat → Prop) (bd : Nat) (E : Els) (next : Nat) (d : Nat → Nat) (p i : Int) (nm : ByteArray) (w : World) (en : Ending) (w' : World) : Prop :=
  if addC E d p i nm = 0 then en = .returned (.tuple #[.int .i64 (next : Int), .nilIface]) ∧ Step Tryz.prog TT F bd w w' (addE E next p.toNat i.toNat nm) (next + 1) (fun x => if x = next then d p.toNat + 1 else d x)
  else en = .returned (.tuple #[.int .i64 0, .iface 264 (.pointer (some (ea (addC E d p i nm))))]) ∧ Step Tryz.prog TT F bd w w' E next d
theorem add_any (ea : Nat → Addr) (bd next : Nat) (p i : Int) (nm : ByteArray) (F : Nat → Prop) (E : Els) (d : Nat → Nat) (w : World) (hD : DokG Tryz.prog TT w bd F E next d) (hG : DGs ea w) (hn : next < 1000000) (hp : I64 p) (hi : I64 i) :
    Calls Tryz.prog 11 #[.pointer (some ⟨bd, 0, none⟩), .int .i64 p, .int .i64 i, .string nm] w (AddIs ea F bd E next d p i nm w) := by
  have no : ∀ c, c ≠ 0 → addC E d p i nm = c → ∀ en w', AddNo ea c w en w' → AddIs ea F bd E next d p i nm w en w' := by
    rintro c hc0 hc en w' ⟨rfl, hb⟩
    unfold AddIs
    rw [hc, if_neg hc0]
    exact ⟨rfl, Step.same hD hb⟩
  rcases atZ_cases E p with h | ⟨q, pe, rfl, he⟩
  · exact (add_none ea bd next p i nm F E d w hD hG hp h).mono (no 5 (by decide) (addC_no h))
  · have hc := addC_el (d := d) (i := i) (nm := nm) he
    by_cases h1 : i < 0 ∨ (pe.kids.length : Int) < i
    · rw [if_pos h1] at hc
      exact (add_bad ea bd next q i nm F E d pe w hD hG hi he h1).mono (no 2 (by decide) hc)
    · rw [if_neg h1] at hc
      obtain ⟨k, rfl⟩ := Int.eq_ofNat_of_zero_le (show 0 ≤ i by omega)
      have hk : k ≤ pe.kids.length := by omega
      by_cases h2 : nmOk nm = false
      · rw [if_pos h2] at hc
        exact (add_name ea bd next q k nm F E d pe w hD hG he hk h2).mono (no 4 (by decide) hc)
      · rw [if_neg h2] at hc
        have h2' : nmOk nm = true := by simpa using h2
        by_cases h3 : 10 ≤ d q
        · rw [if_pos h3] at hc
          exact (add_deep ea bd next q k nm F E d pe w hD hG he hk h2' h3).mono (no 8 (by decide) hc)
        · rw [if_neg h3] at hc
          by_cases h4 : 100 ≤ E.length
          · rw [if_pos h4] at hc
            exact (add_full ea bd next q k nm F E d pe w hD hG he hk h2' (Nat.lt_of_not_le h3) h4).mono (no 7 (by decide) hc)
          · rw [if_neg h4] at hc
            refine (add_ok ea bd next q k nm F E d pe w hD hG he hk h2' (Nat.lt_of_not_le h3) (Nat.lt_of_not_le h4)).mono ?_
            rintro en w' ⟨rfl, hb⟩
            unfold AddIs
            rw [if_pos hc]
            exact ⟨rfl, Step.of_became hb (hD.good.add nm he (Nat.lt_of_not_le h3)) (by omega) (by show (addE E next q k nm).length ≤ _; rw [addE_len]; have h5 : List.length E < 100 := Nat.lt_of_not_le h4; omega)⟩
def RemIs (ea : Nat → Addr) (F : Nat → Prop) (bd : Nat) (E : Els) (next : Nat) (d : Nat → Nat) (n : Int) (w : World) (en : Ending) (w' : World) : Prop :=
  if remC E n = 0 then en = .returned .nilIface ∧ Step Tryz.prog TT F bd w w' (removeE E n.toNat (parZ E n).toNat) next d
  else en = .returned (.iface 264 (.pointer (some (ea (remC E n))))) ∧ Step Tryz.prog TT F bd w w' E next d
theorem rem_any (ea : Nat → Addr) (bd next : Nat) (n : Int) (F : Nat → Prop) (E : Els) (d : Nat → Nat) (w : World) (hD : DokG Tryz.prog TT w bd F E next d) (hG : DGs ea w) (hn : I64 n) :
    Calls Tryz.prog 14 #[.pointer (some ⟨bd, 0, none⟩), .int .i64 n] w (RemIs ea F bd E next d n w) := by
  have no : ∀ c, c ≠ 0 → remC E n = c → ∀ en w', ErrIs 264 ea c w en w' → RemIs ea F bd E next d n w en w' := by
    rintro c hc0 hc en w' ⟨rfl, hb⟩
    unfold RemIs
    rw [hc, if_neg hc0]
    exact ⟨rfl, Step.same hD hb⟩
  rcases atZ_cases E n with h | ⟨q, e, rfl, he⟩
  · exact (rem_none ea bd next n F E d w hD hG hn h).mono (no 5 (by decide) (remC_no h))
  · have hc := remC_el he
    by_cases h0 : q = 0
    · subst h0
      rw [if_pos rfl] at hc
      exact (rem_root ea bd next F E d w hD hG).mono (no 3 (by decide) hc)
    · rw [if_neg h0] at hc
      obtain ⟨p, pe, hp, _, _⟩ := hD.good.up q e he h0
      refine (rem_ok ea bd next q p F E d e w hD he h0 hp).mono ?_
      rintro en w' ⟨rfl, hb⟩
      unfold RemIs
      rw [if_pos hc, parZ_nat he, hp, Int.toNat_natCast, Int.toNat_natCast]
      exact ⟨rfl, Step.of_became hb (hD.good.remove he h0 hp) hD.big (Nat.le_trans (removeE_len q p) hD.len)⟩
def MovIs (ea : Nat → Addr) (F : Nat → Prop) (bd : Nat) (E : Els) (next : Nat) (d : Nat → Nat) (n m i : Int) (w : World) (en : Ending) (w' : World) : Prop :=
  if movC E d n m i = 0 then en = .returned .nilIface ∧ Step Tryz.prog TT F bd w w' (moveE E n.toNat m.toNat i.toNat (parZ E n).toNat) next (fun x => if x ∈ below E 10 n.toNat then d x - d n.toNat + d m.toNat + 1 else d x)
  else en = .returned (.iface 264 (.pointer (some (ea (movC E d n m i))))) ∧ Step Tryz.prog TT F bd w w' E next d
theorem mov_any (ea : Nat → Addr) (bd next : Nat) (n m i : Int) (F : Nat → Prop) (E : Els) (d : Nat → Nat) (w : World) (hD : DokG Tryz.prog TT w bd F E next d) (hG : DGs ea w) (hn : I64 n) (hm : I64 m) (hi : I64 i) :
    Calls Tryz.prog 16 #[.pointer (some ⟨bd, 0, none⟩), .int .i64 n, .int .i64 m, .int .i64 i] w (MovIs ea F bd E next d n m i w) := by
  have no : ∀ c, c ≠ 0 → movC E d n m i = c → ∀ en w', ErrIs 264 ea c w en w' → MovIs ea F bd E next d n m i w en w' := by
    rintro c hc0 hc en w' ⟨rfl, hb⟩
    unfold MovIs
    rw [hc, if_neg hc0]
    exact ⟨rfl, Step.same hD hb⟩
  rcases atZ_cases E n with h | ⟨a, e, rfl, he⟩
  · exact (mov_none1 ea bd next n m i F E d w hD hG hn hm h).mono (no 5 (by decide) (movC_no1 h))
  · rcases atZ_cases E m with h | ⟨b, me, rfl, hb⟩
    · exact (mov_none2 ea bd next a m i F E d e w hD hG he hm h).mono (no 5 (by decide) (movC_no2 h))
    · have hc := movC_at (d := d) (i := i) he hb
      by_cases h0 : a = 0
      · subst h0
        rw [if_pos rfl] at hc
        exact (mov_root ea bd next b i F E d me w hD hG hb).mono (no 3 (by decide) hc)
      · rw [if_neg h0] at hc
        obtain ⟨p, pe, hp, _, _⟩ := hD.good.up a e he h0
        have hif : (if e.parent = (b : Int) then me.kids.length - 1 else me.kids.length) = (if p = b then me.kids.length - 1 else me.kids.length) := by
          by_cases hpb : p = b
          · rw [if_pos hpb, if_pos (by rw [hp, hpb])]
          · rw [if_neg hpb, if_neg (by rw [hp]; omega)]
        rw [hif] at hc
        by_cases h1 : b ∈ below E 10 a
        · rw [if_pos h1] at hc
          exact (mov_cycle ea bd next a b p i F E d e me w hD hG he hb h0 hp (decide_eq_true h1)).mono (no 9 (by decide) hc)
        · rw [if_neg h1] at hc
          have h1' := decide_eq_false h1
          by_cases h2 : i < 0 ∨ ((if p = b then me.kids.length - 1 else me.kids.length : Nat) : Int) < i
          · rw [if_pos h2] at hc
            exact (mov_bound ea bd next a b p i F E d e me w hD hG he hb h0 hp h1' hi h2).mono (no 2 (by decide) hc)
          · rw [if_neg h2] at hc
            obtain ⟨j, rfl⟩ := Int.eq_ofNat_of_zero_le (show 0 ≤ i by omega)
            have hj : j ≤ (if p = b then me.kids.length - 1 else me.kids.length) := by omega
            by_cases h3 : 10 < d b + high E 10 a
            · rw [if_pos h3] at hc
              exact (mov_deep ea bd next a b p j F E d e me w hD hG he hb h0 hp h1' hj h3).mono (no 8 (by decide) hc)
            · rw [if_neg h3] at hc
              refine (mov_ok ea bd next a b p j F E d e me w hD hG he hb h0 hp h1' hj (by omega)).mono ?_
              rintro en w' ⟨rfl, hbc⟩
              unfold MovIs
              rw [if_pos hc, parZ_nat he, hp, Int.toNat_natCast, Int.toNat_natCast, Int.toNat_natCast, Int.toNat_natCast]
              exact ⟨rfl, Step.of_became hbc (hD.good.move he h0 hp hb h1 (by omega)) hD.big (by rw [moveE_len]; exact hD.len)⟩
theorem AddIs.any {ea : Nat → Addr} {F : Nat → Prop} {bd next : Nat} {E : Els} {d : Nat → Nat} {p i : Int} {nm : ByteArray} {w w' : World} {en : Ending} (h : AddIs ea F bd E next d p i nm w en w') : ∃ x y E' next' d', en = .returned (.tuple #[x, y]) ∧ next' ≤ next + 1 ∧ Step Tryz.prog TT F bd w w' E' next' d' := by
  unfold AddIs at h
  split at h
  · exact ⟨_, _, _, _, _, h.1, Nat.le_refl _, h.2⟩
  · exact ⟨_, _, _, _, _, h.1, Nat.le_succ _, h.2⟩
theorem RemIs.any {ea : Nat → Addr} {F : Nat → Prop} {bd next : Nat} {E : Els} {d : Nat → Nat} {n : Int} {w w' : World} {en : Ending} (h : RemIs ea F bd E next d n w en w') : ∃ x E' d', en = .returned x ∧ Step Tryz.prog TT F bd w w' E' next d' := by
  unfold RemIs at h
  split at h
  · exact ⟨_, _, _, h.1, h.2⟩
  · exact ⟨_, _, _, h.1, h.2⟩
end Go.Proofs.YtndlmmpheecleaaGreatDoor

/-
  Walks over package doc: Attr.
-/
namespace Lead.Dc
open Go Go.RowKit Lead
/-- An attribute's value. -/
def attrV (nm : ByteArray) : List (ByteArray × ByteArray) → Option ByteArray
  | [] => none
  | a :: r => if a.1 = nm then some a.2 else attrV nm r
theorem attrV_drop {nm : ByteArray} {l : List (ByteArray × ByteArray)} {k : Nat} (h : k < l.length) : attrV nm (l.drop k) = if l[k].1 = nm then some l[k].2 else attrV nm (l.drop (k + 1)) := by
  rw [List.drop_eq_getElem_cons h, attrV]
def attrEnd (o : Option ByteArray) : Value := match o with
  | some v => .tuple #[.string v, .bool true]
  | none => .tuple #[.string ⟨#[]⟩, .bool false]
end Lead.Dc
namespace Go.Proofs.YtndlmmpheecleaaGreatDoor
open Go.RowKit Go.WideMaps Go.Maps Lead Lead.Dc
set_option maxHeartbeats 1000000 in
theorem attr_any (bd next n : Nat) (nm : ByteArray) (F : Nat → Prop) (E : Els) (d : Nat → Nat) (e : El) (w : World) (hD : DokG Tryz.prog TT w bd F E next d) (he : elAt E n = some e) :
    Calls Tryz.prog 22 #[.pointer (some ⟨bd, 0, none⟩), .int .i64 (n : Int), .string nm] w fun en w' => en = .returned (attrEnd (attrV nm e.attrs)) ∧ Below w.heap.size w w' := by
  obtain ⟨⟨pl, bm, cnt, D, hA, hc, hF⟩, hg, hbig, hlen⟩ := hD
  have hz : I64 (n : Int) := i64_nat (by have := hg.lt n e he; omega)
  have c0 := hA.c0
  have hE := hA.els n e he
  have e1 := hE.e1
  obtain ⟨oa, len, cap, hav, hS⟩ := hE.attrs.sl
  rw [hav] at e1
  have hm : len ≤ 9223372036854775807 := by have h := hS.2.2.1; have h' := hS.2.1; unfold maxLen at h; omega
  have H_hA := Lib.hid hA
  clear hA
  have H_hE := Lib.hid hE
  clear hE
  have H_he := Lib.hid he
  clear he
  have H_hz := Lib.hid hz
  clear hz
  have H_hS := Lib.hid hS
  clear hS
  have H_hav := Lib.hid hav
  clear hav
  clear hc hF hg
  go_enter Tryz.func22, Tryz.ntmps22
  go_wp2_with (at_lookup; refine wp_hit_ok (T := TT) TK rfl _ _ rfl rfl rfl H_hA.out H_he.out H_hz.out ?_)
  go_loopw [27] (fun t27 wr => ∃ k : Nat, k ≤ len ∧ t27 = .int .i64 k ∧ RowKit.Hid (attrV nm e.attrs = attrV nm (e.attrs.drop k)) ∧ Below w.heap.size w wr) (fun t27 _ => len - (intOf t27).toNat)
  case atStart => exact ⟨0, Nat.zero_le _, rfl, Lib.hid (by rw [List.drop_zero]), Below.refl _ _⟩
  case round =>
    obtain ⟨k, hk, rfl, H_at, hB⟩ := hrel
    have hzr := hB.size
    by_cases hlt : k < len
    · have hk' : k < e.attrs.length := by have := H_hS.out.1; omega
      obtain ⟨b, off, rfl, hbw, hr⟩ := H_hS.out.2.2.2.resolve_left (by intro h; rw [h] at hk'; simp at hk')
      have hrr := hr.keep hB hbw
      have q0 : wr.cell? ⟨b, off + k * 2, none⟩ = some (.string e.attrs[k].1) := by
        have h := hrr k hk' 0 _ rfl
        simpa [EAt] using h
      have q1 : wr.cell? ⟨b, off + k * 2 + 1, none⟩ = some (.string e.attrs[k].2) := by
        have h := hrr k hk' 1 _ rfl
        simpa [EAt] using h
      have hst := attrV_drop (nm := nm) hk'
      have hat := H_at.out
      obtain ⟨a, ha⟩ : ∃ a, e.attrs[k] = a := ⟨_, rfl⟩
      rw [ha] at q0 q1 hst
      obtain ⟨an, av⟩ := a
      by_cases hn : an = nm
      · have g1 : (an.toList == nm.toList) = true := by rw [hn]; simp
        rw [if_pos hn] at hst
        have hfin := hat.trans hst
        have H_hst := Lib.hid hst
        clear hst
        have H_hat := Lib.hid hat
        clear hat
        have H_hfin := Lib.hid hfin
        clear hfin
        have H_ha := Lib.hid ha
        clear ha
        have H_hrr := Lib.hid hrr
        clear hrr
        have H_hr := Lib.hid hr
        clear hr
        have H_hn := Lib.hid hn
        clear hn
        go_wp2_with fail
        go_returns
        exact ⟨by rw [H_hfin.out]; rfl, by repeat' (first | (with_reducible first | exact bwR _ _ | assumption | refine bdn ?_ | refine bwA ?_ ?_ _ | refine bwD ?_ | refine bwS ?_ ?_ _) | omega | (simp <;> omega))⟩
      · have g1 : (an.toList == nm.toList) = false := by
          rw [beq_eq_false_iff_ne, ByteArray.toList_eq, ByteArray.toList_eq]
          intro h
          exact hn (ByteArray.ext (Array.ext' h))
        rw [if_neg hn] at hst
        have hfin := hat.trans hst
        have H_hst := Lib.hid hst
        clear hst
        have H_hat := Lib.hid hat
        clear hat
        have H_hfin := Lib.hid hfin
        clear hfin
        have H_ha := Lib.hid ha
        clear ha
        have H_hrr := Lib.hid hrr
        clear hrr
        have H_hr := Lib.hid hr
        clear hr
        have H_hn := Lib.hid hn
        clear hn
        go_wp2_with fail
        go_roundw
        case rel => exact ⟨k + 1, by omega, by go_num, H_hfin, by repeat' (first | (with_reducible first | exact bwR _ _ | assumption | refine bdn ?_ | refine bwA ?_ ?_ _ | refine bwD ?_ | refine bwS ?_ ?_ _) | omega | (simp <;> omega))⟩
        case measure => simp [intOf]; omega
    · obtain rfl : k = len := by omega
      have hat := H_at.out
      rw [List.drop_of_length_le (by have := H_hS.out.1; omega)] at hat
      have H_hat := Lib.hid hat
      clear hat
      go_wp2_with fail
      go_returns
      exact ⟨by rw [H_hat.out]; rfl, hB⟩
end Go.Proofs.YtndlmmpheecleaaGreatDoor
