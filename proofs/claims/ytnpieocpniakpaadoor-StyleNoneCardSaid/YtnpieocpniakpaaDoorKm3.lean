/-
  Walks over package mark: check, Check.
-/
import Derived.Test.YtnpieocpniakpaaDoorKm2
namespace Lead.Dc
open Go Go.RowKit Lead
/-- The error that the check hands back. -/
def chkE (r : Nat × Nat) : Nat × Option Nat := if r.2 = 0 then (0, none) else (r.2, some r.1)
theorem chkE_0 {r : Nat × Nat} (h : r.2 = 0) : chkE r = (0, none) := if_pos h
theorem chkE_n {r : Nat × Nat} (h : r.2 ≠ 0) : chkE r = (r.2, some r.1) := if_neg h
theorem chk_top (nm : ByteArray) (ats : List (ByteArray × ByteArray)) (ks : List RT) (i deep : Nat) : chkN (.mk nm ats ks) i deep = if nodeE nm ats i deep ≠ 0 then (i, nodeE nm ats i deep) else chkL ks (i + 1) (deep + 1) := by rw [chkN]
theorem chk_kid {ks : List NT} {k i deep : Nat} (hk : k < ks.length) (h : (chkL (NT.rtL (ks.take k)) i deep).2 = 0) : chkL (NT.rtL (ks.take (k + 1))) i deep = chkN ks[k].rt (chkL (NT.rtL (ks.take k)) i deep).1 deep := by
  rw [List.take_succ_eq_append_getElem hk, rtL_map, List.map_append, List.map_cons, List.map_nil, ← rtL_map]
  exact chkL_next h
theorem chk_stop {ks : List NT} {k i deep : Nat} (h : (chkL (NT.rtL (ks.take k)) i deep).2 ≠ 0) : chkL (NT.rtL ks) i deep = chkL (NT.rtL (ks.take k)) i deep := by
  have e : NT.rtL ks = NT.rtL (ks.take k) ++ NT.rtL (ks.drop k) := by rw [rtL_map, rtL_map, rtL_map, ← List.map_append, List.take_append_drop]
  rw [e]; exact chkL_stop h
end Lead.Dc
namespace Go.Proofs.YtnpieocpniakpaaDoor
open Go.RowKit Lead Lead.Dc
set_option maxHeartbeats 2000000 in
theorem check_step (ea : Nat → Addr) (nm : ByteArray) (ao : Option Addr) (al ac : Nat) (ats : List (ByteArray × ByteArray)) (ko : Option Addr) (kl kc : Nat) (ks : List NT) (i deep : Nat) (w : World) (h1 : SlA EAt w ao al ac ats) (h2 : SlA ENd w ko kl kc ks) (h3 : ∀ k ∈ ks, NodeOk w k) (hG : CGs ea w) (hi : i ≤ 100) (hdp : deep ≤ 11)
    (ih : ∀ k ∈ ks, ∀ (i' : Nat) (w' : World), i' ≤ 100 → deep ≤ 10 → NodeOk w' k → CGs ea w' → Calls Tryd.prog 22 #[.agg k.vals.toArray, .int .i64 i', .int .i64 ((deep + 1 : Nat) : Int)] w' (RetNE 132 63 ea (chkE (chkN k.rt i' (deep + 1))) (chkN k.rt i' (deep + 1)).1 w')) :
    Calls Tryd.prog 22 #[.agg #[.string nm, .slice ao al ac, .slice ko kl kc], .int .i64 i, .int .i64 deep] w (RetNE 132 63 ea (chkE (chkN (.mk nm ats (NT.rtL ks)) i deep)) (chkN (.mk nm ats (NT.rtL ks)) i deep).1 w) := by
  have hFull := hG.c7
  have hName := hG.c4
  have hDeep := hG.c8
  have zhFull := zlt hFull
  have xhFull := zlts hFull
  have yhFull := zne hFull
  have zhName := zlt hName
  have xhName := zlts hName
  have yhName := zne hName
  have zhDeep := zlt hDeep
  have xhDeep := zlts hDeep
  have yhDeep := zne hDeep
  obtain ⟨c, hc⟩ : ∃ c, atE ats = c := ⟨_, rfl⟩
  have htop := chk_top nm ats (NT.rtL ks) i deep
  obtain ⟨e, he⟩ : ∃ e, nodeE nm ats i deep = e := ⟨_, rfl⟩
  rw [he] at htop
  have hw3 := h2.2.2.1
  have hkm : kl ≤ 9223372036854775807 := by have := h2.2.1; unfold maxLen at hw3; omega
  by_cases hA : 10 < deep
  · obtain rfl : e = 8 := by rw [← he]; unfold nodeE; rw [if_pos hA]
    rw [if_pos (by decide)] at htop
    rw [htop]
    show Calls _ _ _ _ (RetNE 132 63 ea (8, some i) (i : Int) w)
    have H_h1 := Lib.hid h1
    clear h1
    have H_h2 := Lib.hid h2
    clear h2
    have H_h3 := Lib.hid h3
    clear h3
    have H_hG := Lib.hid hG
    clear hG
    have H_ih := Lib.hid ih
    clear ih
    have H_he := Lib.hid he
    clear he
    have H_htop := Lib.hid htop
    clear htop
    have H_hc := Lib.hid hc
    clear hc
    go_enter Tryd.func22, Tryd.ntmps22
    go_wp2_with fail
    refine call_ew (w := w) (by repeat' (first | (with_reducible first | exact bwR _ _ | assumption | refine bdn ?_ | refine bwA ?_ ?_ _ | refine bwD ?_ | refine bwS ?_ ?_ _) | omega | (simp <;> omega))) (fun HB => attrs_any ea ats ao al ac c _ (H_h1.out.keep HB rfl) (H_hG.out.keep HB rfl) H_hc.out) ?_
    intro x1 w1 hx1 hb1 hz1 c1 d1 hW1
    have t1 := hb1.size
    have hFull_1 := gkeep hb1 hFull rfl
    have zhFull_1 := zlt hFull_1
    have xhFull_1 := zlts hFull_1
    have yhFull_1 := zne hFull_1
    have hName_1 := gkeep hb1 hName rfl
    have zhName_1 := zlt hName_1
    have xhName_1 := zlts hName_1
    have yhName_1 := zne hName_1
    have hDeep_1 := gkeep hb1 hDeep rfl
    have zhDeep_1 := zlt hDeep_1
    have xhDeep_1 := zlts hDeep_1
    have yhDeep_1 := zne hDeep_1
    try simp only [szA] at hz1 c1 d1
    try simp only [szD] at hz1 c1 d1
    try simp only [szS] at hz1 c1 d1
    try simp only [World.heap_drewN] at hz1 c1 d1
    try simp only [szA] at hz1 c1 d1
    try simp only [szD] at hz1 c1 d1
    try simp only [szS] at hz1 c1 d1
    have s1_0 : w.heap.size < w1.heap.size := by omega
    have o1_0 := fun j => c1 (w.heap.size) j (by omega)
    have f1_0 := fun j => d1 (w.heap.size) j (by omega)
    clear c1 d1 hz1 hW1
    obtain rfl : x1 = _ := hx1
    go_wp2_with fail
    go_returns
    refine ⟨_, rfl, ⟨(Nat.succ_ne_zero _), _, ?_, rfl, ?_, ?_⟩, by repeat' (first | (with_reducible first | exact bwR _ _ | assumption | refine bdn ?_ | refine bwA ?_ ?_ _ | refine bwD ?_ | refine bwS ?_ ?_ _) | omega | (simp <;> omega))⟩
    · show w.heap.size ≤ _
      first | omega | (simp; omega)
    · rw [World.cell?_alloc_new]; rfl
    · rw [World.cell?_alloc_new]; rfl
  by_cases hB : 100 ≤ i
  · obtain rfl : e = 7 := by rw [← he]; unfold nodeE; rw [if_neg hA, if_pos hB]
    rw [if_pos (by decide)] at htop
    rw [htop]
    show Calls _ _ _ _ (RetNE 132 63 ea (7, some i) (i : Int) w)
    have H_h1 := Lib.hid h1
    clear h1
    have H_h2 := Lib.hid h2
    clear h2
    have H_h3 := Lib.hid h3
    clear h3
    have H_hG := Lib.hid hG
    clear hG
    have H_ih := Lib.hid ih
    clear ih
    have H_he := Lib.hid he
    clear he
    have H_htop := Lib.hid htop
    clear htop
    have H_hc := Lib.hid hc
    clear hc
    go_enter Tryd.func22, Tryd.ntmps22
    go_wp2_with fail
    refine call_ew (w := w) (by repeat' (first | (with_reducible first | exact bwR _ _ | assumption | refine bdn ?_ | refine bwA ?_ ?_ _ | refine bwD ?_ | refine bwS ?_ ?_ _) | omega | (simp <;> omega))) (fun HB => attrs_any ea ats ao al ac c _ (H_h1.out.keep HB rfl) (H_hG.out.keep HB rfl) H_hc.out) ?_
    intro x1 w1 hx1 hb1 hz1 c1 d1 hW1
    have t1 := hb1.size
    have hFull_1 := gkeep hb1 hFull rfl
    have zhFull_1 := zlt hFull_1
    have xhFull_1 := zlts hFull_1
    have yhFull_1 := zne hFull_1
    have hName_1 := gkeep hb1 hName rfl
    have zhName_1 := zlt hName_1
    have xhName_1 := zlts hName_1
    have yhName_1 := zne hName_1
    have hDeep_1 := gkeep hb1 hDeep rfl
    have zhDeep_1 := zlt hDeep_1
    have xhDeep_1 := zlts hDeep_1
    have yhDeep_1 := zne hDeep_1
    try simp only [szA] at hz1 c1 d1
    try simp only [szD] at hz1 c1 d1
    try simp only [szS] at hz1 c1 d1
    try simp only [World.heap_drewN] at hz1 c1 d1
    try simp only [szA] at hz1 c1 d1
    try simp only [szD] at hz1 c1 d1
    try simp only [szS] at hz1 c1 d1
    have s1_0 : w.heap.size < w1.heap.size := by omega
    have o1_0 := fun j => c1 (w.heap.size) j (by omega)
    have f1_0 := fun j => d1 (w.heap.size) j (by omega)
    clear c1 d1 hz1 hW1
    obtain rfl : x1 = _ := hx1
    go_wp2_with fail
    go_returns
    refine ⟨_, rfl, ⟨(Nat.succ_ne_zero _), _, ?_, rfl, ?_, ?_⟩, by repeat' (first | (with_reducible first | exact bwR _ _ | assumption | refine bdn ?_ | refine bwA ?_ ?_ _ | refine bwD ?_ | refine bwS ?_ ?_ _) | omega | (simp <;> omega))⟩
    · show w.heap.size ≤ _
      first | omega | (simp; omega)
    · rw [World.cell?_alloc_new]; rfl
    · rw [World.cell?_alloc_new]; rfl
  by_cases hC : nmOk nm = false
  · obtain rfl : e = 4 := by rw [← he]; unfold nodeE; rw [if_neg hA, if_neg hB, if_pos hC]
    rw [if_pos (by decide)] at htop
    rw [htop]
    show Calls _ _ _ _ (RetNE 132 63 ea (4, some i) (i : Int) w)
    have H_h1 := Lib.hid h1
    clear h1
    have H_h2 := Lib.hid h2
    clear h2
    have H_h3 := Lib.hid h3
    clear h3
    have H_hG := Lib.hid hG
    clear hG
    have H_ih := Lib.hid ih
    clear ih
    have H_he := Lib.hid he
    clear he
    have H_htop := Lib.hid htop
    clear htop
    have H_hc := Lib.hid hc
    clear hc
    have H_hC := Lib.hid hC
    clear hC
    go_enter Tryd.func22, Tryd.ntmps22
    go_wp2_with fail
    refine call_ew (w := w) (by repeat' (first | (with_reducible first | exact bwR _ _ | assumption | refine bdn ?_ | refine bwA ?_ ?_ _ | refine bwD ?_ | refine bwS ?_ ?_ _) | omega | (simp <;> omega))) (fun HB => attrs_any ea ats ao al ac c _ (H_h1.out.keep HB rfl) (H_hG.out.keep HB rfl) H_hc.out) ?_
    intro x1 w1 hx1 hb1 hz1 c1 d1 hW1
    have t1 := hb1.size
    have hFull_1 := gkeep hb1 hFull rfl
    have zhFull_1 := zlt hFull_1
    have xhFull_1 := zlts hFull_1
    have yhFull_1 := zne hFull_1
    have hName_1 := gkeep hb1 hName rfl
    have zhName_1 := zlt hName_1
    have xhName_1 := zlts hName_1
    have yhName_1 := zne hName_1
    have hDeep_1 := gkeep hb1 hDeep rfl
    have zhDeep_1 := zlt hDeep_1
    have xhDeep_1 := zlts hDeep_1
    have yhDeep_1 := zne hDeep_1
    try simp only [szA] at hz1 c1 d1
    try simp only [szD] at hz1 c1 d1
    try simp only [szS] at hz1 c1 d1
    try simp only [World.heap_drewN] at hz1 c1 d1
    try simp only [szA] at hz1 c1 d1
    try simp only [szD] at hz1 c1 d1
    try simp only [szS] at hz1 c1 d1
    have s1_0 : w.heap.size < w1.heap.size := by omega
    have o1_0 := fun j => c1 (w.heap.size) j (by omega)
    have f1_0 := fun j => d1 (w.heap.size) j (by omega)
    clear c1 d1 hz1 hW1
    obtain rfl : x1 = _ := hx1
    go_wp2_with fail
    refine call_bel (w := w) (by repeat' (first | (with_reducible first | exact bwR _ _ | assumption | refine bdn ?_ | refine bwA ?_ ?_ _ | refine bwD ?_ | refine bwS ?_ ?_ _) | omega | (simp <;> omega))) (fun HB => mname_any nm _) ?_
    intro w2 hb2 hz2 c2 d2 hW2
    have t2 := hb2.size
    have hFull_2 := gkeep hb2 hFull rfl
    have zhFull_2 := zlt hFull_2
    have xhFull_2 := zlts hFull_2
    have yhFull_2 := zne hFull_2
    have hName_2 := gkeep hb2 hName rfl
    have zhName_2 := zlt hName_2
    have xhName_2 := zlts hName_2
    have yhName_2 := zne hName_2
    have hDeep_2 := gkeep hb2 hDeep rfl
    have zhDeep_2 := zlt hDeep_2
    have xhDeep_2 := zlts hDeep_2
    have yhDeep_2 := zne hDeep_2
    try simp only [szA] at hz2 c2 d2
    try simp only [szD] at hz2 c2 d2
    try simp only [szS] at hz2 c2 d2
    try simp only [World.heap_drewN] at hz2 c2 d2
    try simp only [szA] at hz2 c2 d2
    try simp only [szD] at hz2 c2 d2
    try simp only [szS] at hz2 c2 d2
    have s2_0 : w.heap.size < w2.heap.size := by omega
    have o2_0 := fun j => c2 (w.heap.size) j (by omega)
    have f2_0 := fun j => d2 (w.heap.size) j (by omega)
    clear c2 d2 hz2 hW2
    rw [H_hC.out]
    go_wp2_with fail
    go_returns
    refine ⟨_, rfl, ⟨(Nat.succ_ne_zero _), _, ?_, rfl, ?_, ?_⟩, by repeat' (first | (with_reducible first | exact bwR _ _ | assumption | refine bdn ?_ | refine bwA ?_ ?_ _ | refine bwD ?_ | refine bwS ?_ ?_ _) | omega | (simp <;> omega))⟩
    · show w.heap.size ≤ _
      first | omega | (simp; omega)
    · rw [World.cell?_alloc_new]; rfl
    · rw [World.cell?_alloc_new]; rfl
  have hC' : nmOk nm = true := by simpa using hC
  have hec : e = c := by rw [← he, ← hc]; unfold nodeE; rw [if_neg hA, if_neg hB, if_neg hC]
  subst hec
  by_cases hc0 : e = 0
  · subst hc0
    rw [if_neg (by decide)] at htop
    rw [htop]
    have hx0 : evl 132 ea 0 = .nilIface := evl_0 rfl
    have H_h1 := Lib.hid h1
    clear h1
    have H_h2 := Lib.hid h2
    clear h2
    have H_h3 := Lib.hid h3
    clear h3
    have H_hG := Lib.hid hG
    clear hG
    have H_ih := Lib.hid ih
    clear ih
    have H_he := Lib.hid he
    clear he
    have H_htop := Lib.hid htop
    clear htop
    have H_hc := Lib.hid hc
    clear hc
    have H_hC' := Lib.hid hC'
    clear hC'
    have H_hx0 := Lib.hid hx0
    clear hx0
    go_enter Tryd.func22, Tryd.ntmps22
    go_wp2_with fail
    refine call_ew (w := w) (by repeat' (first | (with_reducible first | exact bwR _ _ | assumption | refine bdn ?_ | refine bwA ?_ ?_ _ | refine bwD ?_ | refine bwS ?_ ?_ _) | omega | (simp <;> omega))) (fun HB => attrs_any ea ats ao al ac 0 _ (H_h1.out.keep HB rfl) (H_hG.out.keep HB rfl) H_hc.out) ?_
    intro x1 w1 hx1 hb1 hz1 c1 d1 hW1
    have t1 := hb1.size
    have hFull_1 := gkeep hb1 hFull rfl
    have zhFull_1 := zlt hFull_1
    have xhFull_1 := zlts hFull_1
    have yhFull_1 := zne hFull_1
    have hName_1 := gkeep hb1 hName rfl
    have zhName_1 := zlt hName_1
    have xhName_1 := zlts hName_1
    have yhName_1 := zne hName_1
    have hDeep_1 := gkeep hb1 hDeep rfl
    have zhDeep_1 := zlt hDeep_1
    have xhDeep_1 := zlts hDeep_1
    have yhDeep_1 := zne hDeep_1
    try simp only [szA] at hz1 c1 d1
    try simp only [szD] at hz1 c1 d1
    try simp only [szS] at hz1 c1 d1
    try simp only [World.heap_drewN] at hz1 c1 d1
    try simp only [szA] at hz1 c1 d1
    try simp only [szD] at hz1 c1 d1
    try simp only [szS] at hz1 c1 d1
    have s1_0 : w.heap.size < w1.heap.size := by omega
    have o1_0 := fun j => c1 (w.heap.size) j (by omega)
    have f1_0 := fun j => d1 (w.heap.size) j (by omega)
    clear c1 d1 hz1 hW1
    obtain rfl : x1 = .nilIface := (show x1 = evl 132 ea 0 from hx1).trans H_hx0.out
    go_wp2_with fail
    refine call_bel (w := w) (by repeat' (first | (with_reducible first | exact bwR _ _ | assumption | refine bdn ?_ | refine bwA ?_ ?_ _ | refine bwD ?_ | refine bwS ?_ ?_ _) | omega | (simp <;> omega))) (fun HB => mname_any nm _) ?_
    intro w2 hb2 hz2 c2 d2 hW2
    have t2 := hb2.size
    have hFull_2 := gkeep hb2 hFull rfl
    have zhFull_2 := zlt hFull_2
    have xhFull_2 := zlts hFull_2
    have yhFull_2 := zne hFull_2
    have hName_2 := gkeep hb2 hName rfl
    have zhName_2 := zlt hName_2
    have xhName_2 := zlts hName_2
    have yhName_2 := zne hName_2
    have hDeep_2 := gkeep hb2 hDeep rfl
    have zhDeep_2 := zlt hDeep_2
    have xhDeep_2 := zlts hDeep_2
    have yhDeep_2 := zne hDeep_2
    try simp only [szA] at hz2 c2 d2
    try simp only [szD] at hz2 c2 d2
    try simp only [szS] at hz2 c2 d2
    try simp only [World.heap_drewN] at hz2 c2 d2
    try simp only [szA] at hz2 c2 d2
    try simp only [szD] at hz2 c2 d2
    try simp only [szS] at hz2 c2 d2
    have s2_0 : w.heap.size < w2.heap.size := by omega
    have o2_0 := fun j => c2 (w.heap.size) j (by omega)
    have f2_0 := fun j => d2 (w.heap.size) j (by omega)
    clear c2 d2 hz2 hW2
    rw [H_hC'.out]
    have r2 : w2.cell? ⟨w.heap.size, 2, none⟩ = some (.slice ko kl kc) := (o2_0 2).trans ((o1_0 2).trans (by rw [World.cell?_alloc_new]; rfl))
    have t2w : w.heap.size < w2.heap.size := s2_0
    clear o1_0 o2_0 f1_0 f2_0
    go_wp2_with fail
    go_loopw [1, 41] (fun t1 t41 wr => ∃ k j : Nat, k ≤ kl ∧ t41 = .int .i64 k ∧ t1 = .int .i64 j ∧ j ≤ 100 ∧ RowKit.Hid (chkL (NT.rtL (ks.take k)) (i + 1) (deep + 1) = (j, 0)) ∧ Below w.heap.size w wr) (fun _ t41 _ => kl - (intOf t41).toNat)
    case atStart => exact ⟨0, i + 1, Nat.zero_le _, rfl, by go_num, by omega, (by rw [List.take_zero]; rfl), hb2⟩
    case round =>
      obtain ⟨k, j, hk, rfl, rfl, hj, hat, hB⟩ := hrel
      have H_at : RowKit.Hid (chkL (NT.rtL (ks.take k)) (i + 1) (deep + 1) = (j, 0)) := hat
      have hzr := hB.size
      clear hat r2
      by_cases hlt : k < kl
      · have hk' : k < ks.length := by have := H_h2.out.1; omega
        obtain ⟨b, off, rfl, hbw, hr⟩ : ∃ b off, ko = some ⟨b, off, none⟩ ∧ b < w.heap.size ∧ RowIn ENd w b off ks := by
          refine H_h2.out.2.2.2.resolve_left ?_
          intro h; rw [h] at hk'; simp at hk'
        have hkid := (H_h3.out _ (List.getElem_mem hk')).keep hB rfl
        obtain ⟨ao', al', ac', ko', kl', kc', hv, _⟩ := hkid.attrsAt
        have hcell := fun (q : Nat) (v : Value) (hq : ks[k].vals[q]? = some v) => (hr.keep hB hbw) k hk' q v hq
        rw [hv] at hcell
        have q0 : wr.cell? ⟨b, off + k * 3, none⟩ = some (.string ks[k].name) := hcell 0 _ rfl
        have q1 : wr.cell? ⟨b, off + k * 3 + 1, none⟩ = some (.slice ao' al' ac') := hcell 1 _ rfl
        have q2 : wr.cell? ⟨b, off + k * 3 + 2, none⟩ = some (.slice ko' kl' kc') := hcell 2 _ rfl
        have hstep := chk_kid (i := i + 1) (deep := deep + 1) hk' (by rw [H_at.out])
        rw [H_at.out] at hstep
        have hcon := H_ih.out _ (List.getElem_mem hk') j (wr.alloc (.cells #[.string ks[k].name, .slice ao' al' ac', .slice ko' kl' kc'] 25)) hj (by omega) (hkid.keep ((Below.refl _ _).alloc (Nat.le_refl _) _) rfl) (H_hG.out.keep (hB.alloc hzr _) rfl)
        rw [hv] at hcon
        obtain ⟨nk, hnk⟩ : ∃ u, ks[k].name = u := ⟨_, rfl⟩
        obtain ⟨R, hR⟩ : ∃ u, chkN ks[k].rt j (deep + 1) = u := ⟨_, rfl⟩
        rw [hnk] at q0 hcon
        rw [hR] at hcon hstep
        have hkidk : (chkL (NT.rtL (ks.take (k + 1))) (i + 1) (deep + 1)).2 = 0 → R.1 ≤ 100 := fun h => by
          have h1 := chkL_ok (NT.rtL (ks.take (k + 1))) (i + 1) (deep + 1) (by omega) (by omega) h
          rw [hstep] at h1
          omega
        have hd1 : IntKind.i64.wrap ((deep : Int) + 1) = ((deep + 1 : Nat) : Int) := IntWalk.i64_in _ (by omega)
        clear hr hkid hv hcell hnk hR
        have H_hstep := Lib.hid hstep
        clear hstep
        have H_hcon := Lib.hid hcon
        clear hcon
        have H_hkidk := Lib.hid hkidk
        clear hkidk
        go_wp2_with fail
        refine H_hcon.out.mono ?_
        rintro _ w5 ⟨x5, rfl, hx5, hb5⟩
        have hB5 : Below w.heap.size w w5 := below_via (hB.alloc hzr _) hb5
        have t5 := hb5.size
        by_cases hR0 : R.2 = 0
        · have hx5' : x5 = .nilIface := hx5.nil (chkE_0 hR0)
          subst hx5'
          have hRe : R = (R.1, 0) := by rw [← hR0]
          have hR1 := H_hkidk.out (by rw [H_hstep.out]; exact hR0)
          have hstep2 : chkL (NT.rtL (ks.take (k + 1))) (i + 1) (deep + 1) = (R.1, 0) := H_hstep.out.trans hRe
          clear hx5 hRe hR0
          obtain ⟨R1, hR1e⟩ : ∃ u, R.1 = u := ⟨_, rfl⟩
          rw [hR1e] at hR1 hstep2 ⊢
          clear hR1e
          have H_hstep2 := Lib.hid hstep2
          clear hstep2
          go_wp2_with fail
          go_roundw
          case rel => exact ⟨k + 1, R1, by omega, by go_num, rfl, hR1, H_hstep2, hB5⟩
          case measure => simp [intOf]; omega
        · obtain ⟨t', a', hxe⟩ := hx5.some (by rw [chkE_n hR0]; exact hR0)
          have hfin : chkL (NT.rtL ks) (i + 1) (deep + 1) = R := (chk_stop (by rw [H_hstep.out]; exact hR0)).trans H_hstep.out
          have hx6 := hx5
          rw [hxe] at hx6 ⊢
          have H_hfin := Lib.hid hfin
          clear hfin
          have H_hx6 := Lib.hid hx6
          clear hx6
          clear hx5 hxe
          obtain ⟨R1, hR1e⟩ : ∃ u, R.1 = u := ⟨_, rfl⟩
          rw [hR1e]
          have H_hR1e := Lib.hid hR1e
          clear hR1e
          have H_hR0 := Lib.hid hR0
          clear hR0
          go_wp2_with fail
          go_returns
          refine ⟨.iface t' (.pointer (some a')), ?_, ?_, hB5⟩
          · rw [H_hfin.out, H_hR1e.out]; rfl
          · rw [H_hfin.out]
            exact H_hx6.out.keep (Below.refl _ _) rfl (by simp; omega)
      · obtain rfl : k = kl := by omega
        have hfull : ks.take k = ks := List.take_of_length_le (by have := H_h2.out.1; omega)
        rw [hfull] at H_at
        clear hfull
        go_wp2_with fail
        go_returns
        refine ⟨.nilIface, ?_, ?_, hB⟩
        · rw [H_at.out]; rfl
        · rw [H_at.out, chkE_0 rfl]; exact H_hx0.out.symm
  · rw [if_pos hc0] at htop
    rw [htop, chkE_n (show (i, e).2 ≠ 0 from hc0)]
    show Calls _ _ _ _ (RetNE 132 63 ea (e, some i) (i : Int) w)
    have hev : evl 132 ea e = .iface 132 (.pointer (some (ea e))) := evl_n hc0
    have H_h1 := Lib.hid h1
    clear h1
    have H_h2 := Lib.hid h2
    clear h2
    have H_h3 := Lib.hid h3
    clear h3
    have H_hG := Lib.hid hG
    clear hG
    have H_ih := Lib.hid ih
    clear ih
    have H_he := Lib.hid he
    clear he
    have H_htop := Lib.hid htop
    clear htop
    have H_hc := Lib.hid hc
    clear hc
    have H_hC' := Lib.hid hC'
    clear hC'
    have H_hc0 := Lib.hid hc0
    clear hc0
    go_enter Tryd.func22, Tryd.ntmps22
    go_wp2_with fail
    refine call_ew (w := w) (by repeat' (first | (with_reducible first | exact bwR _ _ | assumption | refine bdn ?_ | refine bwA ?_ ?_ _ | refine bwD ?_ | refine bwS ?_ ?_ _) | omega | (simp <;> omega))) (fun HB => attrs_any ea ats ao al ac e _ (H_h1.out.keep HB rfl) (H_hG.out.keep HB rfl) H_hc.out) ?_
    intro x1 w1 hx1 hb1 hz1 c1 d1 hW1
    have t1 := hb1.size
    have hFull_1 := gkeep hb1 hFull rfl
    have zhFull_1 := zlt hFull_1
    have xhFull_1 := zlts hFull_1
    have yhFull_1 := zne hFull_1
    have hName_1 := gkeep hb1 hName rfl
    have zhName_1 := zlt hName_1
    have xhName_1 := zlts hName_1
    have yhName_1 := zne hName_1
    have hDeep_1 := gkeep hb1 hDeep rfl
    have zhDeep_1 := zlt hDeep_1
    have xhDeep_1 := zlts hDeep_1
    have yhDeep_1 := zne hDeep_1
    try simp only [szA] at hz1 c1 d1
    try simp only [szD] at hz1 c1 d1
    try simp only [szS] at hz1 c1 d1
    try simp only [World.heap_drewN] at hz1 c1 d1
    try simp only [szA] at hz1 c1 d1
    try simp only [szD] at hz1 c1 d1
    try simp only [szS] at hz1 c1 d1
    have s1_0 : w.heap.size < w1.heap.size := by omega
    have o1_0 := fun j => c1 (w.heap.size) j (by omega)
    have f1_0 := fun j => d1 (w.heap.size) j (by omega)
    clear c1 d1 hz1 hW1
    obtain rfl : x1 = _ := hx1
    go_wp2_with fail
    refine call_bel (w := w) (by repeat' (first | (with_reducible first | exact bwR _ _ | assumption | refine bdn ?_ | refine bwA ?_ ?_ _ | refine bwD ?_ | refine bwS ?_ ?_ _) | omega | (simp <;> omega))) (fun HB => mname_any nm _) ?_
    intro w2 hb2 hz2 c2 d2 hW2
    have t2 := hb2.size
    have hFull_2 := gkeep hb2 hFull rfl
    have zhFull_2 := zlt hFull_2
    have xhFull_2 := zlts hFull_2
    have yhFull_2 := zne hFull_2
    have hName_2 := gkeep hb2 hName rfl
    have zhName_2 := zlt hName_2
    have xhName_2 := zlts hName_2
    have yhName_2 := zne hName_2
    have hDeep_2 := gkeep hb2 hDeep rfl
    have zhDeep_2 := zlt hDeep_2
    have xhDeep_2 := zlts hDeep_2
    have yhDeep_2 := zne hDeep_2
    try simp only [szA] at hz2 c2 d2
    try simp only [szD] at hz2 c2 d2
    try simp only [szS] at hz2 c2 d2
    try simp only [World.heap_drewN] at hz2 c2 d2
    try simp only [szA] at hz2 c2 d2
    try simp only [szD] at hz2 c2 d2
    try simp only [szS] at hz2 c2 d2
    have s2_0 : w.heap.size < w2.heap.size := by omega
    have o2_0 := fun j => c2 (w.heap.size) j (by omega)
    have f2_0 := fun j => d2 (w.heap.size) j (by omega)
    clear c2 d2 hz2 hW2
    rw [H_hC'.out]
    go_wp2_with fail
    go_returns
    refine ⟨_, rfl, ⟨H_hc0.out, _, ?_, rfl, ?_, ?_⟩, by repeat' (first | (with_reducible first | exact bwR _ _ | assumption | refine bdn ?_ | refine bwA ?_ ?_ _ | refine bwD ?_ | refine bwS ?_ ?_ _) | omega | (simp <;> omega))⟩
    · show w.heap.size ≤ _
      first | omega | (simp; omega)
    · rw [World.cell?_alloc_new]; rfl
    · rw [World.cell?_alloc_new]; rfl
theorem check_any (ea : Nat → Addr) : ∀ (s : Nat) (n : NT) (i deep : Nat) (w : World), SizeOf.sizeOf n < s → NodeOk w n → CGs ea w → i ≤ 100 → deep ≤ 11 →
    Calls Tryd.prog 22 #[.agg n.vals.toArray, .int .i64 i, .int .i64 deep] w (RetNE 132 63 ea (chkE (chkN n.rt i deep)) (chkN n.rt i deep).1 w) := by
  intro s
  induction s with
  | zero => intro n i deep w h; omega
  | succ s ih =>
    intro n i deep w hs hn hG hi hd
    cases hn with
    | mk h1 h2 h3 =>
      rename_i nm ao al ac ats ko kl kc ks
      rw [rt_eq]
      exact check_step ea nm ao al ac ats ko kl kc ks i deep w h1 h2 h3 hG hi hd fun k hk i' w' hi' hd' hk' hG' =>
        ih k i' (deep + 1) w' (by have := kid_less (n := .mk nm ao al ac ats ko kl kc ks) hk; omega) hk' hG' hi' (by omega)
theorem mcheck_any (ea : Nat → Addr) (n : NT) (w : World) (hn : NodeOk w n) (hG : CGs ea w) :
    Calls Tryd.prog 14 #[.agg n.vals.toArray] w (RetE 132 63 ea (chkE (chkN n.rt 0 1)) w) := by
  obtain ⟨ao, al, ac, ko, kl, kc, hv, _⟩ := hn.attrsAt
  have hcon := check_any ea (SizeOf.sizeOf n + 1) n 0 1 (w.alloc (.cells n.vals.toArray 25)) (by omega) (hn.keep ((Below.refl _ _).alloc (Nat.le_refl _) _) rfl) (hG.keep ((Below.refl _ _).alloc (Nat.le_refl _) _) rfl) (by decide) (by decide)
  rw [hv] at hcon ⊢
  obtain ⟨nk, hnk⟩ : ∃ u, n.name = u := ⟨_, rfl⟩
  obtain ⟨R, hR⟩ : ∃ u, chkN n.rt 0 1 = u := ⟨_, rfl⟩
  rw [hnk, hR] at hcon
  rw [hnk, hR]
  clear hv hn hG hnk hR
  have H_hcon := Lib.hid hcon
  clear hcon
  go_enter Tryd.func14, Tryd.ntmps14
  go_wp2_with fail
  refine H_hcon.out.mono ?_
  rintro _ w1 ⟨x1, rfl, hx1, hb1⟩
  have H_hx1 := Lib.hid hx1
  clear hx1
  have hB : Below w.heap.size w w1 := below_via ((Below.refl _ _).alloc (Nat.le_refl _) _) hb1
  go_wp2_with fail
  go_returns
  exact ⟨_, rfl, H_hx1.out.keep (Below.refl _ _) rfl (by simp), hB⟩
end Go.Proofs.YtnpieocpniakpaaDoor
