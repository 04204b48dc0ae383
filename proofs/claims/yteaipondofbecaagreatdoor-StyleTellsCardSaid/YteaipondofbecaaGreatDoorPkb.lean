/-
  Walks over package pick: has an element what is wanted.
-/
import Derived.Test.YteaipondofbecaaGreatDoorPka
import Derived.Test.YteaipondofbecaaGreatDoorPk7
namespace Lead.Pk
open Go Go.RowKit Lead Lead.Dc
theorem bs_inj {a b : By} (h : bs a = bs b) : a = b := by
  have := congrArg (fun x : ByteArray => x.data.toList) h
  exact this
theorem attrEnd_eq (o : Option ByteArray) : attrEnd o = .tuple #[.string (o.getD ⟨#[]⟩), .bool o.isSome] := by cases o <;> rfl
theorem contains_bs (ws : List By) (x : By) : Lib.containsS ((ws.map bs).take ws.length) (bs x) = decide (x ∈ ws) := by
  rw [List.take_of_length_le (by simp), Bool.eq_iff_iff, Lib.containsS_iff, decide_eq_true_eq, List.mem_map]
  constructor
  · rintro ⟨y, hy, h⟩; rw [← bs_inj h]; exact hy
  · intro h; exact ⟨x, h, rfl⟩
end Lead.Pk
namespace Go.Proofs.YteaipondofbecaaGreatDoor
open Go.RowKit Go.WideMaps Go.Maps Lead Lead.Dc Lead.Pk
theorem contains_any (g : Nat) (ws : List By) (x : By) (w : World) (hl : ws.length ≤ 1000000) (hc : ∀ i (h : i < ws.length), w.cell? ⟨g, i, none⟩ = some (.string (bs ws[i]))) :
    Calls Tryz.prog 220 #[.slice (some ⟨g, 0, none⟩) ws.length ws.length, .string (bs x)] w fun e w' => e = .returned (.bool (decide (x ∈ ws))) ∧ w' = w := by
  have h := Tryz.slices_Contains_string g 0 ws.length ws.length (ws.map bs) (bs x) w (by simp) (by omega) (fun j hj => by
    rw [List.length_map] at hj
    rw [Nat.zero_add, hc j hj, List.getD_eq_getElem?_getD, List.getElem?_map, List.getElem?_eq_getElem hj]; rfl)
  rw [contains_bs] at h
  exact h
set_option maxHeartbeats 4000000 in
set_option maxRecDepth 100000 in
theorem has_any (m : Int) (x : Wn) (bd next n : Nat) (F : Nat → Prop) (E : Els) (d : Nat → Nat) (e : El) (w : World) (hD : DokG Tryz.prog TT w bd F E next d) (he : elAt E n = some e) (hat : ∀ a ∈ e.attrs, a.2.size ≤ 100000) (hm : w.cell? ⟨12, 0, none⟩ = some (.int .i64 m)) :
    Calls Tryz.prog 208 #[.agg #[.int .u8 (x.sign.toNat : Int), .string (bs x.name)], .pointer (some ⟨bd, 0, none⟩), .int .i64 (n : Int)] w fun en w' => en = .returned (.bool (hasV e.attrs x)) ∧ Below w.heap.size w w' := by
  have cA := fun (nm : ByteArray) (W : World) (hb : Below w.heap.size w W) => attr_any bd next n nm F E d e W (hD.keep hb) he
  have hv : ∀ nm v, attrV nm e.attrs = some v → v.size ≤ 100000 := by
    intro nm v
    generalize e.attrs = l at hat
    intro h
    induction l with
    | nil => cases h
    | cons a r ih =>
      rw [attrV] at h
      split at h
      · injection h with h; rw [← h]; exact hat a List.mem_cons_self
      · exact ih (fun b hb => hat b (List.mem_cons_of_mem _ hb)) h
  obtain ⟨sg, nm⟩ := x
  have H_cA := Lib.hid cA
  clear cA
  have H_hv := Lib.hid hv
  clear hv
  have H_hm := Lib.hid hm
  clear hm
  by_cases h35 : sg = 35
  · have g1 : ((sg.toNat : Int) == 35) = true := by rw [h35]; rfl
    have hR : hasV e.attrs ⟨sg, nm⟩ = decide (attrV kId e.attrs = some (bs nm)) := by unfold hasV; rw [if_pos h35]
    rw [hR]
    obtain ⟨N, hN⟩ : ∃ u, bs nm = u := ⟨_, rfl⟩
    rw [hN]
    have cI := H_cA.out kId
    cases ha : attrV kId e.attrs with
    | none =>
      rw [ha] at cI
      simp only [attrEnd] at cI
      have H_cI := Lib.hid cI
      clear cI
      have H_h35 := Lib.hid h35
      clear h35
      have H_ha := Lib.hid ha
      clear ha
      clear hR
      go_enter Tryz.func208, Tryz.ntmps208
      go_wp2_with fail
      refine (H_cI.out _ (by repeat' (first | (with_reducible first | exact bwR _ _ | assumption | refine bdn ?_ | refine bwA ?_ ?_ _ | refine bwD ?_ | refine bwS ?_ ?_ _) | omega | (simp <;> omega)))).mono ?_
      rintro _ w1 ⟨rfl, hb1⟩
      have hB1 : Below w.heap.size w w1 := below_via (by repeat' (first | (with_reducible first | exact bwR _ _ | assumption | refine bdn ?_ | refine bwA ?_ ?_ _ | refine bwD ?_ | refine bwS ?_ ?_ _) | omega | (simp <;> omega))) hb1
      clear hb1
      go_wp2_with fail
      go_returns
      exact ⟨by simp, hB1⟩
    | some v =>
      rw [ha] at cI
      simp only [attrEnd] at cI
      have hq : (v.toList == N.toList) = decide (v = N) := by
        rw [ByteArray.toList_eq, ByteArray.toList_eq, Bool.eq_iff_iff, beq_iff_eq, decide_eq_true_eq]
        exact ⟨fun h => ByteArray.ext (Array.ext' h), fun h => by rw [h]⟩
      have hdd : decide (some v = some N) = decide (v = N) := by simp
      rw [hdd]
      have H_cI := Lib.hid cI
      clear cI
      have H_h35 := Lib.hid h35
      clear h35
      have H_ha := Lib.hid ha
      clear ha
      have H_hdd := Lib.hid hdd
      clear hdd
      clear hR
      go_enter Tryz.func208, Tryz.ntmps208
      go_wp2_with fail
      refine (H_cI.out _ (by repeat' (first | (with_reducible first | exact bwR _ _ | assumption | refine bdn ?_ | refine bwA ?_ ?_ _ | refine bwD ?_ | refine bwS ?_ ?_ _) | omega | (simp <;> omega)))).mono ?_
      rintro _ w1 ⟨rfl, hb1⟩
      have hB1 : Below w.heap.size w w1 := below_via (by repeat' (first | (with_reducible first | exact bwR _ _ | assumption | refine bdn ?_ | refine bwA ?_ ?_ _ | refine bwD ?_ | refine bwS ?_ ?_ _) | omega | (simp <;> omega))) hb1
      have b1 : w1.cell? ⟨w.heap.size, 1, none⟩ = some (.string N) := gkeep hb1 (World.cell?_alloc_new _ _ _ _) (by simp)
      clear hb1
      go_wp2_with fail
      go_returns
      exact ⟨rfl, hB1⟩
  · have g1 : ((sg.toNat : Int) == 35) = false := by
      rw [beq_eq_false_iff_ne]
      intro h
      exact h35 (UInt8.toNat.inj (by show sg.toNat = 35; omega))
    by_cases h46 : sg = 46
    · have g2 : ((sg.toNat : Int) == 46) = true := by rw [h46]; rfl
      have hR : hasV e.attrs ⟨sg, nm⟩ = decide (nm ∈ cutL 32 (((attrV kClass e.attrs).getD ⟨#[]⟩).data.toList)) := by unfold hasV; rw [if_neg h35, if_pos h46]
      rw [hR]
      have cI := H_cA.out kClass
      rw [attrEnd_eq] at cI
      have hvs : ((attrV kClass e.attrs).getD ⟨#[]⟩).size ≤ 100000 := by
        cases ha : attrV kClass e.attrs with
        | none => show 0 ≤ _; omega
        | some v => exact H_hv.out _ v ha
      obtain ⟨v, hvv⟩ : ∃ u, (attrV kClass e.attrs).getD ⟨#[]⟩ = u := ⟨_, rfl⟩
      obtain ⟨is, his⟩ : ∃ u, (attrV kClass e.attrs).isSome = u := ⟨_, rfl⟩
      rw [hvv, his] at cI
      rw [hvv] at hvs
      rw [hvv]
      have cS := fun (W : World) (hb : Below w.heap.size w W) => split_any v.data.toList m W (by rw [show v.data.toList.length = v.size from Array.length_toList]; exact hvs) (gkeep hb H_hm.out rfl)
      rw [bs_of] at cS
      have hcc := cutL_count 32 v.data.toList
      rw [show v.data.toList.length = v.size from Array.length_toList] at hcc
      obtain ⟨ws, hws⟩ : ∃ u, cutL 32 v.data.toList = u := ⟨_, rfl⟩
      rw [hws] at cS hcc
      rw [hws]
      obtain ⟨N, hN⟩ : ∃ u, bs nm = u := ⟨_, rfl⟩
      rw [hN]
      have hwl : ws.length ≤ 1000000 := by omega
      have H_cI := Lib.hid cI
      clear cI
      have H_cS := Lib.hid cS
      clear cS
      have H_h35 := Lib.hid h35
      clear h35
      have H_h46 := Lib.hid h46
      clear h46
      have H_hvv := Lib.hid hvv
      clear hvv
      have H_his := Lib.hid his
      clear his
      have H_hws := Lib.hid hws
      clear hws
      have H_hN := Lib.hid hN
      clear hN
      have H_hwl := Lib.hid hwl
      clear hwl
      have H_hcc := Lib.hid hcc
      clear hcc
      have H_hvs := Lib.hid hvs
      clear hvs
      clear hR
      go_enter Tryz.func208, Tryz.ntmps208
      go_wp2_with fail
      refine (H_cI.out _ (by repeat' (first | (with_reducible first | exact bwR _ _ | assumption | refine bdn ?_ | refine bwA ?_ ?_ _ | refine bwD ?_ | refine bwS ?_ ?_ _) | omega | (simp <;> omega)))).mono ?_
      rintro _ w1 ⟨rfl, hb1⟩
      have hB1 : Below w.heap.size w w1 := below_via (by repeat' (first | (with_reducible first | exact bwR _ _ | assumption | refine bdn ?_ | refine bwA ?_ ?_ _ | refine bwD ?_ | refine bwS ?_ ?_ _) | omega | (simp <;> omega))) hb1
      have b1 : w1.cell? ⟨w.heap.size, 1, none⟩ = some (.string N) := gkeep hb1 (World.cell?_alloc_new _ _ _ _) (by simp)
      have z1 : w.heap.size < w1.heap.size := Nat.lt_of_lt_of_le (by simp) hb1.size
      clear hb1
      go_wp2_with fail
      go_region_law (first | (go_simp; go_at_call 79; ((refine (H_cS.out _ ?hb).mono ?_); (case hb => exact (by repeat' (first | (with_reducible first | exact bwR _ _ | assumption | refine bdn ?_ | refine bwA ?_ ?_ _ | refine bwD ?_ | refine bwS ?_ ?_ _) | omega | (simp <;> omega)))); rintro _ w2 ⟨g, rfl, hg1, hg2, hw2, hb2⟩; have hB2 : Below w.heap.size w w2 := below_via (by repeat' (first | (with_reducible first | exact bwR _ _ | assumption | refine bdn ?_ | refine bwA ?_ ?_ _ | refine bwD ?_ | refine bwS ?_ ?_ _) | omega | (simp <;> omega))) hb2; have b2 : w2.cell? ⟨w.heap.size, 1, none⟩ = some (.string N) := (hb2.cell (p := ⟨w.heap.size, 1, none⟩) z1).trans b1; have H_hw2 := Lib.hid hw2; clear hg1 hg2 hw2 hb2)) | (go_simp; go_at_call 220; ((rw [← H_hN.out]); (refine (contains_any g ws nm _ H_hwl.out H_hw2.out).mono ?_); rintro _ _ ⟨rfl, rfl⟩)))
      all_goals
        go_wp2_with fail
        go_returns
        exact ⟨rfl, by repeat' (first | (with_reducible first | exact bwR _ _ | assumption | refine bdn ?_ | refine bwA ?_ ?_ _ | refine bwD ?_ | refine bwS ?_ ?_ _) | omega | (simp <;> omega))⟩
    · have g2 : ((sg.toNat : Int) == 46) = false := by
        rw [beq_eq_false_iff_ne]
        intro h
        exact h46 (UInt8.toNat.inj (by show sg.toNat = 46; omega))
      have hR : hasV e.attrs ⟨sg, nm⟩ = (attrV (bs nm) e.attrs).isSome := by unfold hasV; rw [if_neg h35, if_neg h46]
      rw [hR]
      have cI := H_cA.out (bs nm)
      rw [attrEnd_eq] at cI
      obtain ⟨v, hvv⟩ : ∃ u, (attrV (bs nm) e.attrs).getD ⟨#[]⟩ = u := ⟨_, rfl⟩
      obtain ⟨is, his⟩ : ∃ u, (attrV (bs nm) e.attrs).isSome = u := ⟨_, rfl⟩
      rw [hvv, his] at cI
      rw [his]
      obtain ⟨N, hN⟩ : ∃ u, bs nm = u := ⟨_, rfl⟩
      rw [hN] at cI ⊢
      have H_cI := Lib.hid cI
      clear cI
      have H_h35 := Lib.hid h35
      clear h35
      have H_h46 := Lib.hid h46
      clear h46
      have H_hvv := Lib.hid hvv
      clear hvv
      have H_his := Lib.hid his
      clear his
      have H_hN := Lib.hid hN
      clear hN
      clear hR
      go_enter Tryz.func208, Tryz.ntmps208
      go_wp2_with fail
      refine (H_cI.out _ (by repeat' (first | (with_reducible first | exact bwR _ _ | assumption | refine bdn ?_ | refine bwA ?_ ?_ _ | refine bwD ?_ | refine bwS ?_ ?_ _) | omega | (simp <;> omega)))).mono ?_
      rintro _ w1 ⟨rfl, hb1⟩
      have hB1 : Below w.heap.size w w1 := below_via (by repeat' (first | (with_reducible first | exact bwR _ _ | assumption | refine bdn ?_ | refine bwA ?_ ?_ _ | refine bwD ?_ | refine bwS ?_ ?_ _) | omega | (simp <;> omega))) hb1
      clear hb1
      go_wp2_with fail
      go_returns
      exact ⟨rfl, hB1⟩
end Go.Proofs.YteaipondofbecaaGreatDoor
