/-
  Walks over package doc: Add.
-/
import Derived.Test.YtbcoccgfoionlaaDoorDo2
import Derived.Test.YtbcoccgfoionlaaDoorDn
import Derived.Test.YtbcoccgfoionlaaDoorKm3
namespace Lead.Dc
open Go Go.RowKit Lead
/-- A document turned into another: its blocks are those that it had, or new ones. -/
def Became (P : Program) (T : Tys) (w w' : World) (bd : Nat) (F : Nat → Prop) (E' : Els) (next' : Nat) : Prop :=
  ∃ F', (∀ k, F' k → F k ∨ w.heap.size ≤ k) ∧ Dok P T w' bd F' E' next' ∧ Turn F w w'
theorem addC_no {E : Els} {d : Nat → Nat} {p i : Int} {nm : ByteArray} (h : atZ E p = none) : addC E d p i nm = 5 := by
  unfold addC
  have : (if 0 ≤ p then elAt E p.toNat else none) = none := h
  rw [this]
theorem addC_el {E : Els} {d : Nat → Nat} {q : Nat} {i : Int} {nm : ByteArray} {pe : El} (h : elAt E q = some pe) : addC E d (q : Int) i nm = (if i < 0 ∨ (pe.kids.length : Int) < i then 2 else if nmOk nm = false then 4 else if 10 ≤ d q then 8 else if 100 ≤ E.length then 7 else 0) := by
  unfold addC
  rw [if_pos (Int.natCast_nonneg q), Int.toNat_natCast, h]
end Lead.Dc
namespace Go.Proofs.YtbcoccgfoionlaaDoor
open Go.RowKit Go.WideMaps Go.Maps Lead Lead.Dc
/-- An error of Add's. -/
def AddNo (ea : Nat → Addr) (c : Nat) (w : World) (en : Ending) (w' : World) : Prop := en = .returned (.tuple #[.int .i64 0, .iface 168 (.pointer (some (ea c)))]) ∧ Below w.heap.size w w'
set_option maxHeartbeats 1000000 in
theorem add_none (ea : Nat → Addr) (bd next : Nat) (z i : Int) (nm : ByteArray) (F : Nat → Prop) (E : Els) (d : Nat → Nat) (w : World) (hD : DokG Tryd.prog TT w bd F E next d) (hG : DGs ea w) (hz : I64 z) (h : atZ E z = none) :
    Calls Tryd.prog 13 #[.pointer (some ⟨bd, 0, none⟩), .int .i64 z, .int .i64 i, .string nm] w (AddNo ea 5 w) := by
  have hBound := hG.c2
  have hName := hG.c4
  have hNone := hG.c5
  have hFull := hG.c7
  have hDeep := hG.c8
  have zhBound := zlt hBound
  have xhBound := zlts hBound
  have yhBound := zne hBound
  have zhName := zlt hName
  have xhName := zlts hName
  have yhName := zne hName
  have zhNone := zlt hNone
  have xhNone := zlts hNone
  have yhNone := zne hNone
  have zhFull := zlt hFull
  have xhFull := zlts hFull
  have yhFull := zne hFull
  have zhDeep := zlt hDeep
  have xhDeep := zlts hDeep
  have yhDeep := zne hDeep
  have hDG := hD
  obtain ⟨⟨pl, bm, cnt, D, hA, hc, hF⟩, hg, hbig, hlen⟩ := hD
  have c0 := hA.c0
  have hm := atZ_none h
  have H_hA := Lib.hid hA
  clear hA
  have H_hm := Lib.hid hm
  clear hm
  have H_h := Lib.hid h
  clear h
  have H_hz := Lib.hid hz
  clear hz
  have H_hDG := Lib.hid hDG
  clear hDG
  have H_hG := Lib.hid hG
  clear hG
  clear hc hF hg
  go_enter Tryd.func13, Tryd.ntmps13
  go_wp2_with (at_lookup; refine wp_miss_ok (T := TT) TK rfl _ _ rfl rfl rfl H_hA.out H_hm.out H_hz.out ?_)
  go_region
  all_goals
    go_wp2_with fail
    go_returns
    exact ⟨rfl, by repeat' (first | (with_reducible first | exact bwR _ _ | assumption | refine bdn ?_ | refine bwA ?_ ?_ _ | refine bwD ?_ | refine bwS ?_ ?_ _) | omega | (simp <;> omega))⟩
set_option maxHeartbeats 1000000 in
theorem add_bad (ea : Nat → Addr) (bd next q : Nat) (i : Int) (nm : ByteArray) (F : Nat → Prop) (E : Els) (d : Nat → Nat) (pe : El) (w : World) (hD : DokG Tryd.prog TT w bd F E next d) (hG : DGs ea w) (_hi : I64 i) (he : elAt E q = some pe) (h : i < 0 ∨ (pe.kids.length : Int) < i) :
    Calls Tryd.prog 13 #[.pointer (some ⟨bd, 0, none⟩), .int .i64 (q : Int), .int .i64 i, .string nm] w (AddNo ea 2 w) := by
  have hBound := hG.c2
  have hName := hG.c4
  have hNone := hG.c5
  have hFull := hG.c7
  have hDeep := hG.c8
  have zhBound := zlt hBound
  have xhBound := zlts hBound
  have yhBound := zne hBound
  have zhName := zlt hName
  have xhName := zlts hName
  have yhName := zne hName
  have zhNone := zlt hNone
  have xhNone := zlts hNone
  have yhNone := zne hNone
  have zhFull := zlt hFull
  have xhFull := zlts hFull
  have yhFull := zne hFull
  have zhDeep := zlt hDeep
  have xhDeep := zlts hDeep
  have yhDeep := zne hDeep
  have hDG := hD
  obtain ⟨⟨pl, bm, cnt, D, hA, hc, hF⟩, hg, hbig, hlen⟩ := hD
  have c0 := hA.c0
  have hnI : I64 (q : Int) := i64_nat (by have := hg.lt q pe he; omega)
  have hE := hA.els q pe he
  have e3 := hE.e3
  obtain ⟨oa, len, cap, hkv, hS⟩ := hE.kids.sl
  rw [hkv] at e3
  have hlk : len = pe.kids.length := hS.1
  have hkl := hg.kids_len he
  have hb0 := hE.lt
  rw [← hlk] at h
  rcases h with h | h
  all_goals
    have H_hA := Lib.hid hA
    clear hA
    have H_hE := Lib.hid hE
    clear hE
    have H_he := Lib.hid he
    clear he
    have H_hkv := Lib.hid hkv
    clear hkv
    have H_hS := Lib.hid hS
    clear hS
    have H_hnI := Lib.hid hnI
    clear hnI
    have H_hDG := Lib.hid hDG
    clear hDG
    have H_hG := Lib.hid hG
    clear hG
    have H_hlk := Lib.hid hlk
    clear hlk
    clear hc hF hg
    go_enter Tryd.func13, Tryd.ntmps13
    go_wp2_with (at_lookup; refine wp_hit_ok (T := TT) TK rfl _ _ rfl rfl rfl H_hA.out H_he.out H_hnI.out ?_)
    all_goals
      go_region
      all_goals
        go_wp2_with fail
        go_returns
        exact ⟨rfl, by repeat' (first | (with_reducible first | exact bwR _ _ | assumption | refine bdn ?_ | refine bwA ?_ ?_ _ | refine bwD ?_ | refine bwS ?_ ?_ _) | omega | (simp <;> omega))⟩
set_option maxHeartbeats 1000000 in
theorem add_name (ea : Nat → Addr) (bd next q k : Nat) (nm : ByteArray) (F : Nat → Prop) (E : Els) (d : Nat → Nat) (pe : El) (w : World) (hD : DokG Tryd.prog TT w bd F E next d) (hG : DGs ea w) (he : elAt E q = some pe) (hk0 : k ≤ pe.kids.length) (hnm : nmOk nm = false) :
    Calls Tryd.prog 13 #[.pointer (some ⟨bd, 0, none⟩), .int .i64 (q : Int), .int .i64 (k : Int), .string nm] w (AddNo ea 4 w) := by
  have hBound := hG.c2
  have hName := hG.c4
  have hNone := hG.c5
  have hFull := hG.c7
  have hDeep := hG.c8
  have zhBound := zlt hBound
  have xhBound := zlts hBound
  have yhBound := zne hBound
  have zhName := zlt hName
  have xhName := zlts hName
  have yhName := zne hName
  have zhNone := zlt hNone
  have xhNone := zlts hNone
  have yhNone := zne hNone
  have zhFull := zlt hFull
  have xhFull := zlts hFull
  have yhFull := zne hFull
  have zhDeep := zlt hDeep
  have xhDeep := zlts hDeep
  have yhDeep := zne hDeep
  have hDG := hD
  obtain ⟨⟨pl, bm, cnt, D, hA, hc, hF⟩, hg, hbig, hlen⟩ := hD
  have c0 := hA.c0
  have hnI : I64 (q : Int) := i64_nat (by have := hg.lt q pe he; omega)
  have hE := hA.els q pe he
  have e3 := hE.e3
  obtain ⟨oa, len, cap, hkv, hS⟩ := hE.kids.sl
  rw [hkv] at e3
  have hlk : len = pe.kids.length := hS.1
  have hkl := hg.kids_len he
  have hb0 := hE.lt
  have hk : ¬ (k : Int) < 0 := by omega
  have hk2 : ¬ (len : Int) < (k : Int) := by omega
  have H_hA := Lib.hid hA
  clear hA
  have H_hE := Lib.hid hE
  clear hE
  have H_he := Lib.hid he
  clear he
  have H_hkv := Lib.hid hkv
  clear hkv
  have H_hS := Lib.hid hS
  clear hS
  have H_hnI := Lib.hid hnI
  clear hnI
  have H_hDG := Lib.hid hDG
  clear hDG
  have H_hG := Lib.hid hG
  clear hG
  have H_hlk := Lib.hid hlk
  clear hlk
  clear hc hF hg
  have H_hnm := Lib.hid hnm
  clear hnm
  go_enter Tryd.func13, Tryd.ntmps13
  go_wp2_with (at_lookup; refine wp_hit_ok (T := TT) TK rfl _ _ rfl rfl rfl H_hA.out H_he.out H_hnI.out ?_)
  refine call_bel (w := w) (by repeat' (first | (with_reducible first | exact bwR _ _ | assumption | refine bdn ?_ | refine bwA ?_ ?_ _ | refine bwD ?_ | refine bwS ?_ ?_ _) | omega | (simp <;> omega))) (fun HB => mname_any nm _) ?_
  intro w1 hb1 hz1 c1 d1 hW1
  rw [H_hnm.out]
  have hBound_1 := gkeep hb1 hBound rfl
  have hName_1 := gkeep hb1 hName rfl
  have hDeep_1 := gkeep hb1 hDeep rfl
  have hFull_1 := gkeep hb1 hFull rfl
  have t1 := hb1.size
  clear hz1 c1 d1 hW1
  go_wp2_with fail
  go_region
  all_goals
    go_wp2_with fail
    go_returns
    exact ⟨rfl, by repeat' (first | (with_reducible first | exact bwR _ _ | assumption | refine bdn ?_ | refine bwA ?_ ?_ _ | refine bwD ?_ | refine bwS ?_ ?_ _) | omega | (simp <;> omega))⟩
set_option maxHeartbeats 1000000 in
theorem add_deep (ea : Nat → Addr) (bd next q k : Nat) (nm : ByteArray) (F : Nat → Prop) (E : Els) (d : Nat → Nat) (pe : El) (w : World) (hD : DokG Tryd.prog TT w bd F E next d) (hG : DGs ea w) (he : elAt E q = some pe) (hk0 : k ≤ pe.kids.length) (hnm : nmOk nm = true) (hdp : 10 ≤ d q) :
    Calls Tryd.prog 13 #[.pointer (some ⟨bd, 0, none⟩), .int .i64 (q : Int), .int .i64 (k : Int), .string nm] w (AddNo ea 8 w) := by
  have hBound := hG.c2
  have hName := hG.c4
  have hNone := hG.c5
  have hFull := hG.c7
  have hDeep := hG.c8
  have zhBound := zlt hBound
  have xhBound := zlts hBound
  have yhBound := zne hBound
  have zhName := zlt hName
  have xhName := zlts hName
  have yhName := zne hName
  have zhNone := zlt hNone
  have xhNone := zlts hNone
  have yhNone := zne hNone
  have zhFull := zlt hFull
  have xhFull := zlts hFull
  have yhFull := zne hFull
  have zhDeep := zlt hDeep
  have xhDeep := zlts hDeep
  have yhDeep := zne hDeep
  have hDG := hD
  obtain ⟨⟨pl, bm, cnt, D, hA, hc, hF⟩, hg, hbig, hlen⟩ := hD
  have c0 := hA.c0
  have hnI : I64 (q : Int) := i64_nat (by have := hg.lt q pe he; omega)
  have hE := hA.els q pe he
  have e3 := hE.e3
  obtain ⟨oa, len, cap, hkv, hS⟩ := hE.kids.sl
  rw [hkv] at e3
  have hlk : len = pe.kids.length := hS.1
  have hkl := hg.kids_len he
  have hb0 := hE.lt
  have hk : ¬ (k : Int) < 0 := by omega
  have hk2 : ¬ (len : Int) < (k : Int) := by omega
  have H_hA := Lib.hid hA
  clear hA
  have H_hE := Lib.hid hE
  clear hE
  have H_he := Lib.hid he
  clear he
  have H_hkv := Lib.hid hkv
  clear hkv
  have H_hS := Lib.hid hS
  clear hS
  have H_hnI := Lib.hid hnI
  clear hnI
  have H_hDG := Lib.hid hDG
  clear hDG
  have H_hG := Lib.hid hG
  clear hG
  have H_hlk := Lib.hid hlk
  clear hlk
  clear hc hF hg
  have H_hnm := Lib.hid hnm
  clear hnm
  go_enter Tryd.func13, Tryd.ntmps13
  go_wp2_with (at_lookup; refine wp_hit_ok (T := TT) TK rfl _ _ rfl rfl rfl H_hA.out H_he.out H_hnI.out ?_)
  refine call_bel (w := w) (by repeat' (first | (with_reducible first | exact bwR _ _ | assumption | refine bdn ?_ | refine bwA ?_ ?_ _ | refine bwD ?_ | refine bwS ?_ ?_ _) | omega | (simp <;> omega))) (fun HB => mname_any nm _) ?_
  intro w1 hb1 hz1 c1 d1 hW1
  rw [H_hnm.out]
  have hBound_1 := gkeep hb1 hBound rfl
  have hName_1 := gkeep hb1 hName rfl
  have hDeep_1 := gkeep hb1 hDeep rfl
  have hFull_1 := gkeep hb1 hFull rfl
  have t1 := hb1.size
  clear hz1 c1 d1 hW1
  go_wp2_with fail
  refine call_bel (w := w) (by repeat' (first | (with_reducible first | exact bwR _ _ | assumption | refine bdn ?_ | refine bwA ?_ ?_ _ | refine bwD ?_ | refine bwS ?_ ?_ _) | omega | (simp <;> omega))) (fun HB => deep_any bd next q F E d pe _ (H_hDG.out.keep HB) H_he.out) ?_
  intro w2 hb2 hz2 c2 d2 hW2
  have hDeep_2 := gkeep hb2 hDeep rfl
  have hFull_2 := gkeep hb2 hFull rfl
  have t2 := hb2.size
  clear hz2 c2 d2 hW2
  go_wp2_with fail
  go_region
  all_goals
    go_wp2_with fail
    go_returns
    exact ⟨rfl, by repeat' (first | (with_reducible first | exact bwR _ _ | assumption | refine bdn ?_ | refine bwA ?_ ?_ _ | refine bwD ?_ | refine bwS ?_ ?_ _) | omega | (simp <;> omega))⟩
set_option maxHeartbeats 1000000 in
theorem add_full (ea : Nat → Addr) (bd next q k : Nat) (nm : ByteArray) (F : Nat → Prop) (E : Els) (d : Nat → Nat) (pe : El) (w : World) (hD : DokG Tryd.prog TT w bd F E next d) (hG : DGs ea w) (he : elAt E q = some pe) (hk0 : k ≤ pe.kids.length) (hnm : nmOk nm = true) (hdp : d q < 10) (hfu : 100 ≤ E.length) :
    Calls Tryd.prog 13 #[.pointer (some ⟨bd, 0, none⟩), .int .i64 (q : Int), .int .i64 (k : Int), .string nm] w (AddNo ea 7 w) := by
  have hBound := hG.c2
  have hName := hG.c4
  have hNone := hG.c5
  have hFull := hG.c7
  have hDeep := hG.c8
  have zhBound := zlt hBound
  have xhBound := zlts hBound
  have yhBound := zne hBound
  have zhName := zlt hName
  have xhName := zlts hName
  have yhName := zne hName
  have zhNone := zlt hNone
  have xhNone := zlts hNone
  have yhNone := zne hNone
  have zhFull := zlt hFull
  have xhFull := zlts hFull
  have yhFull := zne hFull
  have zhDeep := zlt hDeep
  have xhDeep := zlts hDeep
  have yhDeep := zne hDeep
  have hDG := hD
  obtain ⟨⟨pl, bm, cnt, D, hA, hc, hF⟩, hg, hbig, hlen⟩ := hD
  have c0 := hA.c0
  have hnI : I64 (q : Int) := i64_nat (by have := hg.lt q pe he; omega)
  have hE := hA.els q pe he
  have e3 := hE.e3
  obtain ⟨oa, len, cap, hkv, hS⟩ := hE.kids.sl
  rw [hkv] at e3
  have hlk : len = pe.kids.length := hS.1
  have hkl := hg.kids_len he
  have hb0 := hE.lt
  have hk : ¬ (k : Int) < 0 := by omega
  have hk2 : ¬ (len : Int) < (k : Int) := by omega
  have H_hA := Lib.hid hA
  clear hA
  have H_hE := Lib.hid hE
  clear hE
  have H_he := Lib.hid he
  clear he
  have H_hkv := Lib.hid hkv
  clear hkv
  have H_hS := Lib.hid hS
  clear hS
  have H_hnI := Lib.hid hnI
  clear hnI
  have H_hDG := Lib.hid hDG
  clear hDG
  have H_hG := Lib.hid hG
  clear hG
  have H_hlk := Lib.hid hlk
  clear hlk
  clear hc hF hg
  have H_hnm := Lib.hid hnm
  clear hnm
  go_enter Tryd.func13, Tryd.ntmps13
  go_wp2_with (at_lookup; refine wp_hit_ok (T := TT) TK rfl _ _ rfl rfl rfl H_hA.out H_he.out H_hnI.out ?_)
  refine call_bel (w := w) (by repeat' (first | (with_reducible first | exact bwR _ _ | assumption | refine bdn ?_ | refine bwA ?_ ?_ _ | refine bwD ?_ | refine bwS ?_ ?_ _) | omega | (simp <;> omega))) (fun HB => mname_any nm _) ?_
  intro w1 hb1 hz1 c1 d1 hW1
  rw [H_hnm.out]
  have hBound_1 := gkeep hb1 hBound rfl
  have hName_1 := gkeep hb1 hName rfl
  have hDeep_1 := gkeep hb1 hDeep rfl
  have hFull_1 := gkeep hb1 hFull rfl
  have t1 := hb1.size
  clear hz1 c1 d1 hW1
  go_wp2_with fail
  refine call_bel (w := w) (by repeat' (first | (with_reducible first | exact bwR _ _ | assumption | refine bdn ?_ | refine bwA ?_ ?_ _ | refine bwD ?_ | refine bwS ?_ ?_ _) | omega | (simp <;> omega))) (fun HB => deep_any bd next q F E d pe _ (H_hDG.out.keep HB) H_he.out) ?_
  intro w2 hb2 hz2 c2 d2 hW2
  have hDeep_2 := gkeep hb2 hDeep rfl
  have hFull_2 := gkeep hb2 hFull rfl
  have t2 := hb2.size
  clear hz2 c2 d2 hW2
  have hA2 := H_hA.out.keep hb2
  have c0_2 := hA2.c0
  have c1_2 := hA2.c1
  have y0_2 := hA2.fr 0
  have y1_2 := hA2.fr 1
  have hds : Maps.size D = E.length := hA2.md.size
  have zd2 := hA2.ltD
  have hmap2 := hA2.map
  have hd100 : 100 ≤ Maps.size D := by omega
  have H_hA2 := Lib.hid hA2
  clear hA2
  have H_hmap2 := Lib.hid hmap2
  clear hmap2
  have H_hds := Lib.hid hds
  clear hds
  go_wp2_with (at_len; refine wpList_len_own _ rfl _ 61 rfl 3 65 Tryd.underlying61 pElem bm cnt D rfl H_hmap2.out ?_)
  go_region
  all_goals
    go_wp2_with fail
    go_returns
    exact ⟨rfl, by repeat' (first | (with_reducible first | exact bwR _ _ | assumption | refine bdn ?_ | refine bwA ?_ ?_ _ | refine bwD ?_ | refine bwS ?_ ?_ _) | omega | (simp <;> omega))⟩
set_option maxHeartbeats 2000000 in
set_option maxRecDepth 100000 in
theorem add_ok (ea : Nat → Addr) (bd next q k : Nat) (nm : ByteArray) (F : Nat → Prop) (E : Els) (d : Nat → Nat) (pe : El) (w : World) (hD : DokG Tryd.prog TT w bd F E next d) (hG : DGs ea w) (he : elAt E q = some pe) (hk0 : k ≤ pe.kids.length) (hnm : nmOk nm = true) (hdp : d q < 10) (hfu : E.length < 100) :
    Calls Tryd.prog 13 #[.pointer (some ⟨bd, 0, none⟩), .int .i64 (q : Int), .int .i64 (k : Int), .string nm] w fun en w' => en = .returned (.tuple #[.int .i64 (next : Int), .nilIface]) ∧ Became Tryd.prog TT w w' bd F (addE E next q k nm) (next + 1) := by
  have hBound := hG.c2
  have hName := hG.c4
  have hNone := hG.c5
  have hFull := hG.c7
  have hDeep := hG.c8
  have zhBound := zlt hBound
  have xhBound := zlts hBound
  have yhBound := zne hBound
  have zhName := zlt hName
  have xhName := zlts hName
  have yhName := zne hName
  have zhNone := zlt hNone
  have xhNone := zlts hNone
  have yhNone := zne hNone
  have zhFull := zlt hFull
  have xhFull := zlts hFull
  have yhFull := zne hFull
  have zhDeep := zlt hDeep
  have xhDeep := zlts hDeep
  have yhDeep := zne hDeep
  have hDG := hD
  obtain ⟨⟨pl, bm, cnt, D, hA, hc, hF⟩, hg, hbig, hlen⟩ := hD
  have c0 := hA.c0
  have hnI : I64 (q : Int) := i64_nat (by have := hg.lt q pe he; omega)
  have hE := hA.els q pe he
  have e3 := hE.e3
  obtain ⟨oa, len, cap, hkv, hS⟩ := hE.kids.sl
  rw [hkv] at e3
  have hlk : len = pe.kids.length := hS.1
  have hkl := hg.kids_len he
  have hb0 := hE.lt
  have hqn : q ≠ next := by have := hg.lt q pe he; omega
  have hnew := hg.new
  have hkey := hg.new_key
  have hnd := hg.keys
  have hcb : cnt ≤ 1000000 := by omega
  have hnxI : I64 (next : Int) := i64_nat (by omega)
  have hk : ¬ (k : Int) < 0 := by omega
  have hk2 : ¬ (len : Int) < (k : Int) := by omega
  have H_hA := Lib.hid hA
  clear hA
  have H_hE := Lib.hid hE
  clear hE
  have H_he := Lib.hid he
  clear he
  have H_hkv := Lib.hid hkv
  clear hkv
  have H_hS := Lib.hid hS
  clear hS
  have H_hnI := Lib.hid hnI
  clear hnI
  have H_hDG := Lib.hid hDG
  clear hDG
  have H_hG := Lib.hid hG
  clear hG
  have H_hlk := Lib.hid hlk
  clear hlk
  clear hg
  have H_hnm := Lib.hid hnm
  clear hnm
  have H_hF := Lib.hid hF
  clear hF
  have H_hnew := Lib.hid hnew
  clear hnew
  have H_hkey := Lib.hid hkey
  clear hkey
  have H_hnd := Lib.hid hnd
  clear hnd
  have H_hnxI := Lib.hid hnxI
  clear hnxI
  go_enter Tryd.func13, Tryd.ntmps13
  go_wp2_with (at_lookup; refine wp_hit_ok (T := TT) TK rfl _ _ rfl rfl rfl H_hA.out H_he.out H_hnI.out ?_)
  refine call_bel (w := w) (by repeat' (first | (with_reducible first | exact bwR _ _ | assumption | refine bdn ?_ | refine bwA ?_ ?_ _ | refine bwD ?_ | refine bwS ?_ ?_ _) | omega | (simp <;> omega))) (fun HB => mname_any nm _) ?_
  intro w1 hb1 hz1 c1 d1 hW1
  rw [H_hnm.out]
  have hBound_1 := gkeep hb1 hBound rfl
  have hName_1 := gkeep hb1 hName rfl
  have hDeep_1 := gkeep hb1 hDeep rfl
  have hFull_1 := gkeep hb1 hFull rfl
  have t1 := hb1.size
  clear hz1 c1 d1 hW1
  go_wp2_with fail
  refine call_bel (w := w) (by repeat' (first | (with_reducible first | exact bwR _ _ | assumption | refine bdn ?_ | refine bwA ?_ ?_ _ | refine bwD ?_ | refine bwS ?_ ?_ _) | omega | (simp <;> omega))) (fun HB => deep_any bd next q F E d pe _ (H_hDG.out.keep HB) H_he.out) ?_
  intro w2 hb2 hz2 c2 d2 hW2
  have hDeep_2 := gkeep hb2 hDeep rfl
  have hFull_2 := gkeep hb2 hFull rfl
  have t2 := hb2.size
  clear hz2 c2 d2 hW2
  have hA2 := H_hA.out.keep hb2
  have c0_2 := hA2.c0
  have c1_2 := hA2.c1
  have y0_2 := hA2.fr 0
  have y1_2 := hA2.fr 1
  have hds : Maps.size D = E.length := hA2.md.size
  have zd2 := hA2.ltD
  have hmap2 := hA2.map
  have hd100 : Maps.size D < 100 := by omega
  have H_hA2 := Lib.hid hA2
  clear hA2
  have H_hmap2 := Lib.hid hmap2
  clear hmap2
  have H_hds := Lib.hid hds
  clear hds
  go_wp2_with (first
    | (at_len; refine wpList_len_own _ rfl _ 61 rfl 3 65 Tryd.underlying61 pElem bm cnt D rfl H_hmap2.out ?_)
    | (at_mapUpdate; go_loud (refine wpList_mapUpdate_own _ rfl _ _ _ 61 rfl 3 65 (int_keyed Tryd.underlying3) Tryd.underlying61 pElem bm cnt D rfl ?own (by unfold maxLen; omega) _ _ _ rfl rfl (key_of TK H_hnxI.out) (.lit (.int .i64 (w2.heap.size : Int))) [] rfl ?_)))
  case own => exact ((H_hA2.out.bump TK (next + 1) (by go_num)).keep ((Below.refl _ _).alloc (Nat.le_refl _) _)).map
  intro w5 hown5 hgrow5
  have hA3 := H_hA2.out.bump TK (next + 1) (v := .int .i64 ((next : Int) + 1)) (by go_num)
  obtain ⟨w3, hw3⟩ : ∃ u, w2.setCell ⟨bd, 1, none⟩ (.int .i64 ((next : Int) + 1)) = u := ⟨_, rfl⟩
  have hz3 : w3.heap.size = w2.heap.size := by rw [← hw3]; simp
  have hT3 : Turn F w2 w3 := by rw [← hw3]; exact Turn.set H_hF.out.d
  rw [hw3] at hA3 hgrow5
  obtain ⟨w4, hw4⟩ : ∃ u, w3.alloc (.cells #[.string nm, .slice none 0 0, .int .i64 (q : Int), .slice none 0 0] 72) = u := ⟨_, rfl⟩
  have hB4 : Below w3.heap.size w3 w4 := by rw [← hw4]; exact (Below.refl _ _).alloc (Nat.le_refl _) _
  have hz4 : w4.heap.size = w2.heap.size + 1 := by rw [← hw4, ← hz3]; simp
  have hn4 : w4.heap[w2.heap.size]? = some (.cells #[.string nm, .slice none 0 0, .int .i64 (q : Int), .slice none 0 0] 72 (0, 0)) := by rw [← hw4, ← hz3]; exact heap_alloc_new _ _
  rw [hw4] at hgrow5
  have hA4 := hA3.keep hB4
  have hE4 : ElIn TT.E TT.A TT.I 0 w4 ⟨nm, [], (q : Int), []⟩ ⟨w2.heap.size, .slice none 0 0, .slice none 0 0⟩ := ⟨Nat.zero_le _, hn4, .inl (OwnR.nil _ _ _ _), .inl (OwnR.nil _ _ _ _)⟩
  have hA5 := hA4.put (w' := w5) H_hnew.out hE4 (fun m f hf => ⟨by have := (H_hA2.out.els m f hf).lt; show w2.heap.size ≠ _; omega, (fun b hb => by cases hb), (fun b hb => by cases hb)⟩) hown5 hgrow5
  have hF2 : Foot w2 F bd bm E pl := H_hF.out.keep hb2.size
  have hF5 := hF2.put (w' := w5) (n := next) (e := ⟨nm, [], (q : Int), []⟩) (p := ⟨w2.heap.size, .slice none 0 0, .slice none 0 0⟩) H_hkey.out (by have := hgrow5.size; omega) (by have := hgrow5.size; show w2.heap.size < _; omega) (fun b hb => by cases hb) (fun b hb => by cases hb)
  have hT5 : Turn F w w5 := ((Turn.of_below hb2).goOn hT3 (fun _ h => .inl h)).goOn ((Turn.of_below (F := F) hB4).goOn (Turn.grown hgrow5 H_hF.out.m) (fun _ h => .inl h)) (fun _ h => .inl h)
  have he5 : elAt (E ++ [(next, (⟨nm, [], (q : Int), []⟩ : El))]) q = some pe := by rw [elAt_append E next _ H_hkey.out, if_neg hqn]; exact H_he.out
  have hq5 := hA5.els q pe he5
  rw [if_neg hqn] at hq5
  have e3_5 := hq5.e3
  rw [H_hkv.out] at e3_5
  have hlt5 := hq5.lt
  have hkq : OwnQ EIn w5 0 3 (.slice oa len cap) pe.kids := by have h := hq5.kids; rw [H_hkv.out] at h; exact h
  obtain ⟨pl5, hpl5⟩ : ∃ u, (fun x => if x = next then (⟨w2.heap.size, .slice none 0 0, .slice none 0 0⟩ : Plc) else pl x) = u := ⟨_, rfl⟩
  have hp5 : pl5 q = pl q := by rw [← hpl5]; exact if_neg hqn
  rw [hpl5] at hA5 hF5
  have z45 : w2.heap.size + 1 ≤ w5.heap.size := by have := hgrow5.size; omega
  obtain ⟨D5, hD5⟩ : ∃ u, D.put (.int .i64 (next : Int)) (.lit (.int .i64 (w2.heap.size : Int))) = u := ⟨_, rfl⟩
  have hA5' : DAt Tryd.prog TT w5 bd (E ++ [(next, ⟨nm, [], (q : Int), []⟩)]) (next + 1) pl5 bm (cnt + 1) D5 := by rw [← hD5]; exact hA5
  have hblk : (pl q).blk = (pl5 q).blk := by rw [hp5]
  have hkv5 : (pl5 q).kv = .slice oa len cap := by rw [hp5]; exact H_hkv.out
  rw [hblk] at e3_5 hlt5
  obtain ⟨bq, hbq⟩ : ∃ u, (pl5 q).blk = u := ⟨_, rfl⟩
  rw [hbq] at e3_5 hlt5
  have hbq0 : (pl q).blk = bq := hblk.trans hbq
  rw [hbq0]
  clear hA5 hq5 hA4 hE4 hA3 hn4 hw4 hw3 hown5 hgrow5 hblk hp5 hpl5 hD5 hF2 hT3 hB4
  have H_hA5' := Lib.hid hA5'
  clear hA5'
  have H_hF5 := Lib.hid hF5
  clear hF5
  have H_hT5 := Lib.hid hT5
  clear hT5
  have H_he5 := Lib.hid he5
  clear he5
  have H_hkq := Lib.hid hkq
  clear hkq
  have H_hkv5 := Lib.hid hkv5
  clear hkv5
  have H_hbq := Lib.hid hbq
  clear hbq
  have H_hbq0 := Lib.hid hbq0
  clear hbq0
  go_wp2_with fail
  have hkq6 : OwnQ EIn (w5.alloc (.cells #[.int .i64 (next : Int)] 3)) 0 3 (.slice oa len cap) pe.kids := H_hkq.out.keep ((Below.refl _ _).alloc (Nat.le_refl _) _)
  refine (ins_any (ρ := Tryd.insI_ren) Tryd.insI (base := 0) (kv := .slice oa len cap) (kids := pe.kids) (vb := w5.heap.size) (i := k) (n := next) (tv := 3) hkq6 hk0 (heap_alloc_new _ _) (fun hb => by
    obtain ⟨_, h, _⟩ := H_hkq.out.rowB hb
    omega) (by omega) (Nat.zero_le _)).mono ?_
  rintro _ w7 ⟨v7, rfl, hv7, hrt, hvb7⟩
  obtain ⟨o7, l7, c7, rfl⟩ := own_form hv7
  have z7 := hrt.size
  rw [World.size_alloc] at z7
  have hw7 : ∀ j, j < w5.heap.size → rowB (.slice oa len cap) ≠ some j → w7.heap[j]? = w5.heap[j]? := fun j hj hn => (hrt.block j (by rw [World.size_alloc]; omega) hn).trans (Below.heap_alloc _ _ _ hj)
  have hbne : rowB (.slice oa len cap) ≠ some bq := fun hb => by
    obtain ⟨_, _, cur, hcq⟩ := H_hkq.out.rowB hb
    exact (H_hA5'.out.els q pe H_he5.out).blk_ne hcq TK.h5 H_hbq.out.symm
  have hcell7 : w7.heap[bq]? = w5.heap[bq]? := hw7 bq hlt5 hbne
  have hcq := (H_hA5'.out.els q pe H_he5.out).cell
  rw [H_hbq.out, ← hcell7] at hcq
  have e3_7 : w7.cell? ⟨bq, 3, none⟩ = some (pl5 q).kv := hcell hcq rfl
  have y3_7 : w7.frozen? ⟨bq, 3, none⟩ = false := hfree hcq
  have hfin := H_hA5'.out.kids TK H_hF5.out H_he5.out (w1 := w7) (v' := .slice o7 l7 c7) (l' := insK pe.kids k next) ⟨hrt.os, hrt.tape, hrt.output⟩ (by omega) (fun j hj hn => hw7 j hj (by rw [← H_hkv5.out]; exact hn)) hv7 (fun b hb => by
    rcases hvb7 b hb with h | h
    · rw [H_hkv5.out]; exact .inl h
    · rw [World.size_alloc] at h; exact .inr (by omega))
  rw [H_hbq.out] at hfin
  have hvlt : ∀ b, rowB (.slice o7 l7 c7) = some b → F b ∨ w.heap.size ≤ b := fun b hb => by
    rcases hvb7 b hb with h | h
    · exact .inl (H_hF.out.kv q pe H_he.out b (by rw [H_hkv.out]; exact h))
    · rw [World.size_alloc] at h; exact .inr (by omega)
  clear hcq hcell7 hw7 hrt hvb7 hv7
  have H_hfin := Lib.hid hfin
  clear hfin
  have H_hvlt := Lib.hid hvlt
  clear hvlt
  go_wp2_with fail
  go_returns
  have hEq : upd (E ++ [(next, (⟨nm, [], (q : Int), []⟩ : El))]) q (fun _ => { pe with kids := insK pe.kids k next }) = addE E next q k nm := by
    rw [upd_app', upd_one q next _ _ (fun h => hqn h.symm), upd_const H_hnd.out H_he.out (fun e => { e with kids := insK e.kids k next })]
    rfl
  have hfin := H_hfin.out
  rw [hEq] at hfin
  refine ⟨rfl, _, fun j hj => ?_, ⟨_, _, _, _, hfin.1, by omega, hfin.2.1⟩, H_hT5.out.goOn hfin.2.2 (fun j hj => ?_)⟩
  · rcases hj with (h | h | h | h) | h
    · exact .inl h
    · right; rw [h]; exact t2
    · cases h
    · cases h
    · exact H_hvlt.out j h
  · rcases hj with h | h | h | h
    · exact .inl h
    · right; rw [h]; exact t2
    · cases h
    · cases h
end Go.Proofs.YtbcoccgfoionlaaDoor
