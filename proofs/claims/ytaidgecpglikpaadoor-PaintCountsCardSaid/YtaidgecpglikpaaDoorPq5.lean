/-
  Walks: Picture.Count.
-/
import Derived.Test.YtaidgecpglikpaaDoorPq4
import Derived.Test.YtaidgecpglikpaaDoorRow
import Derived.Test.YtaidgecpglikpaaDoorPn8
import Derived.Test.YtaidgecpglikpaaDoorApn
import Derived.Test.YtaidgecpglikpaaDoorChecked
import Derived.Test.YtaidgecpglikpaaDoorIter
import Derived.Maps.OwnOps
import Derived.Maps.Keyed
import Derived.StringKeys
import Derived.WalkKit
namespace Go.Proofs.YtaidgecpglikpaaDoor
open Go.RowKit Go.WideMaps Go.Maps Lead
theorem pq_zero (w : World) : (zeroValue 3).run Tryd.prog w = .ok (.int .i64 0) w := by kernel_rfl
def ECn : Enc Nat := ⟨fun n => [.int .i64 (n : Int)], 1, fun _ => rfl, fun x u h => by simp at h; subst h; rfl, by decide⟩
theorem hist_nil : Hist (.map []) ([] : List ByteArray) := by
  refine ⟨⟨[], rfl, List.Pairwise.nil⟩, fun s => ?_, fun s => ?_, Nat.le_refl _⟩
  · simp [has_eq]
  · rfl
/-- The two rows that Count hands back: the names, ascending, and how often each stands there. -/
def CntIs (ts ti : TypeId) (base : Nat) (w : World) (v1 v2 : Value) (cells : List ByteArray) : Prop :=
  ∃ names : List ByteArray, OwnR ESt w base ts v1 names ∧ OwnR ECn w base ti v2 (names.map (howMany cells)) ∧ (∀ s, s ∈ names ↔ s ∈ cells) ∧ names.Nodup ∧ names.Pairwise (fun a b => ¬ b.data.toList ≤ a.data.toList)
theorem infoInt : (Tryd.prog.info? 3).map (fun i => (i.zero, i.size, i.bytes)) = some (some (.int .i64 0), 1, 8) := by kernel_rfl
set_option maxHeartbeats 1000000 in
set_option maxRecDepth 100000 in
theorem count_any (cells : List ByteArray) (g pl pc : Nat) (pw ph : Int) (w : World) (hl : pl = cells.length) (hcap : pl ≤ pc) (hn : cells.length ≤ 2000) (hg : g < w.heap.size) (hsz : ∀ s ∈ cells, s.size ≤ maxLen) (hrow : RowIn ESt w g 0 cells) :
    Calls Tryd.prog 20 #[.agg #[.int .i64 pw, .int .i64 ph, .slice (some ⟨g, 0, none⟩) pl pc]] w fun e w' => ∃ v1 v2, e = .returned (.tuple #[v1, v2]) ∧ CntIs 9 3 w.heap.size w' v1 v2 cells ∧ Below w.heap.size w w' := by
  obtain ⟨i0, hi, hz0, hz1, hz2⟩ := info_parts infoInt
  have H_hi := Lib.hid hi
  clear hi
  have H_hz0 := Lib.hid hz0
  clear hz0
  have H_hz1 := Lib.hid hz1
  clear hz1
  have H_hz2 := Lib.hid hz2
  clear hz2
  have cK := fun (mb : Option Nat) (W : World) => (callsIn_wide (n := 5)).1 (Tryd.maps_Keys_39 mb W)
  have cS := fun (b nn : Nat) (D0 : DataW Unit) (R : Value → Option (DataW Unit × List MemPlace)) (W : World) (h1 : W.ownsMap Tryd.prog 9 R b nn D0) (h2 : Maps.size D0 ≤ maxLen) (h3 : Maps.size D0 * 16 ≤ 140737488355328) => (callsIn_wide (n := 5)).1 (Tryd.slices_Sorted_keys_38_39 b nn D0 R W h1 h2 h3)
  have H_cK := Lib.hid cK
  have H_cS := Lib.hid cS
  clear cK cS
  subst hl
  have hmm := @run_makeMap Tryd.prog
  have H_row := Lib.hid hrow
  have H_sz := Lib.hid hsz
  clear hrow hsz
  go_enter Tryd.func20, Tryd.ntmps20
  go_wp2
  go_loopw [13] (fun i wr => ∃ (k : Nat) (D : DataW Unit), k ≤ cells.length ∧ i = .int .i64 k ∧ RowKit.Hid (wr.ownsMap Tryd.prog 9 (plainElem Tryd.prog 3) (w.heap.size + 1) k D) ∧ RowKit.Hid (Hist D (cells.take k)) ∧ Below w.heap.size w wr) (fun i _ => cells.length - (intOf i).toNat)
  case atStart =>
    refine ⟨0, .map [], Nat.zero_le _, rfl, ?_, ?_, ?_⟩
    · refine (show RowKit.Hid _ from ?_)
      rw [show w.heap.size + 1 = (w.alloc (.cells #[.int .i64 pw, .int .i64 ph, .slice (some ⟨g, 0, none⟩) cells.length pc] 27)).heap.size by simp]
      exact World.ownsMap_made _ _ _ _
    · exact hist_nil
    · exact ((Below.refl _ w).alloc (Nat.le_refl _) _).alloc (by simp) _
  case round =>
    obtain ⟨k, D, hk, rfl, hown', hH, hB⟩ := hrel
    have hown := hown'.out
    have hcx : ∀ h : k < cells.length, wr.cell? ⟨g, 0 + k * 1 + 0, none⟩ = some (.string cells[k]) := fun h => (H_row.out.keep hB hg) k h 0 _ rfl
    by_cases hlt : k < cells.length
    · have hc0 : wr.cell? ⟨g, k, none⟩ = some (.string cells[k]) := by have := hcx hlt; simpa using this
      have hkey : keyOf Tryd.prog 9 (.string cells[k]) = some (.string cells[k].data.toList) := keyOf_string_mk Tryd.underlying9 (H_sz.out _ (List.getElem_mem hlt))
      have hltI : (k : Int) < (cells.length : Int) := by omega
      have H_Hi : RowKit.Hid (Hist D (cells.take k)) := hH
      clear hH hcx hown'
      go_wp2_with (first
        | (at_lookup; refine wpList_lookup_own_int _ rfl _ _ 86 rfl 9 3 .i64 (string_keyed Tryd.underlying9) Tryd.underlying86 Tryd.underlying3 (pq_zero _) (w.heap.size + 1) k _ rfl hown _ _ rfl hkey ?_; intro c hat hwc)
        | (at_mapUpdate; refine wpList_mapUpdate_own _ rfl _ _ _ 86 rfl 9 3 (string_keyed Tryd.underlying9) Tryd.underlying86 _ (w.heap.size + 1) k _ rfl hown (by unfold maxLen; omega) _ _ _ rfl rfl hkey _ [] (plainElem_int Tryd.underlying3 (wrap64_wf _)) ?_; intro w1 hown1 hgrow1)
        | go_in)
      have hc : c = ((howMany (cells.take k) cells[k] : Nat) : Int) := by
        have h1 := H_Hi.out.at_ cells[k]
        rw [hat] at h1
        injection h1 with h1
        injection h1
      have hle : howMany (cells.take k) cells[k] ≤ 2000 := Nat.le_trans (howMany_le _ _) (by rw [List.length_take]; omega)
      go_roundw
      case rel =>
        refine ⟨k + 1, _, by omega, by go_num, hown1, ?_, hB.grown hgrow1 hB.size (fun j hj => by cases hj; omega)⟩
        rw [List.take_succ_eq_append_getElem hlt, hc, show wrap64 (((howMany (cells.take k) cells[k] : Nat) : Int) + 1) = ((howMany (cells.take k) cells[k] : Nat) : Int) + 1 by unfold wrap64; omega]
        exact H_Hi.out.step cells[k]
      case measure => simp [intOf]; omega
    · obtain rfl : k = cells.length := by omega
      rw [List.take_length] at hH
      have H_Hi : RowKit.Hid (Hist D cells) := hH
      have H_own : RowKit.Hid (wr.ownsMap Tryd.prog 9 (plainElem Tryd.prog 3) (w.heap.size + 1) cells.length D) := hown
      have hltI : ¬ (cells.length : Int) < (cells.length : Int) := by omega
      clear hH hcx hown' hown
      go_wp2_with fail
      refine (H_cK.out _ _).mono ?_
      rintro _ _ ⟨rfl, rfl⟩
      go_wp2_with fail
      have hsz1 := H_Hi.out.size
      refine (H_cS.out _ _ _ _ _ H_own.out (by unfold maxLen; omega) (by omega)).mono ?_
      rintro _ w2 ⟨v, ss, rfl, hp, hown2, hnil, hB2⟩
      have hzb : w.heap.size + 1 < wr.heap.size := H_own.out.lt
      have H_map : RowKit.Hid (w2.ownsMap Tryd.prog 9 (plainElem Tryd.prog 3) (w.heap.size + 1) cells.length D) := map_kept H_own.out ((hB2.block _ (by simp; omega)).trans (Below.heap_alloc _ _ _ hzb))
      have hrows : OwnR ESt w2 (wr.heap.size + 1) 9 v ((ss.mergeSort (fun x y => decide (x ≤ y))).map nmB) := by
        unfold OwnR
        rw [flat_names, List.length_map, List.length_mergeSort]
        show w2.ownsRow _ _ 1 _ _ _
        simpa using hown2
      have hBw : Below w.heap.size w w2 := (hB.alloc hB.size _).trans (hB2.mono (by simp; omega))
      generalize hN : (ss.mergeSort (fun x y => decide (x ≤ y))).map nmB = names at hrows
      have H_N := Lib.hid hN
      have H_p := Lib.hid hp
      have hkeys : ∀ es, D = .map es → ∀ p ∈ es, ∃ x, p.1 = Lit.string x := by
        obtain ⟨es', hD', hko⟩ := H_map.out.keysOf
        intro es he p hp'
        rw [hD'] at he
        injection he with he
        subst he
        obtain ⟨v', hv'⟩ := hko p hp'
        obtain ⟨x, _, hx, _⟩ := Maps.keyOf_str Tryd.underlying9 hv'
        exact ⟨x, hx⟩
      have hk0 := H_Hi.out.keys hkeys H_p.out
      have hperm : ((ss.mergeSort (fun x y => decide (x ≤ y))).map nmB).Perm (ss.map nmB) := (List.mergeSort_perm ss _).map nmB
      have H_mem : RowKit.Hid (∀ s, s ∈ names ↔ s ∈ cells) := fun s => by rw [← hN]; exact hperm.mem_iff.trans (hk0.2 s)
      have H_nd : RowKit.Hid names.Nodup := by rw [← hN]; exact hperm.nodup_iff.2 hk0.1
      have hssn : ss.Nodup := (List.pairwise_map.1 hk0.1).imp (fun hne e => hne (congrArg _ e))
      have H_asc : RowKit.Hid (names.Pairwise (fun a b => ¬ b.data.toList ≤ a.data.toList)) := by rw [← hN]; exact List.pairwise_map.2 ((asc_of hssn).imp (fun h => by simpa [nmB] using h))
      have hnl : names.length ≤ 2000 := by
        have h1 : (names.map (howMany cells)).sum = cells.length := sum_howMany names H_nd.out cells (fun x hx => (H_mem.out x).2 hx)
        have h2 : ∀ (l : List ByteArray), (∀ x ∈ l, x ∈ cells) → l.length ≤ (l.map (howMany cells)).sum := by
          intro l
          induction l with
          | nil => intro _; exact Nat.le_refl _
          | cons y r ih =>
            intro hm
            have h3 := ih (fun x hx => hm x (List.mem_cons_of_mem _ hx))
            have h4 := howMany_pos (hm y List.mem_cons_self)
            rw [List.map_cons, List.sum_cons, List.length_cons]; omega
        have h5 := h2 names (fun x hx => (H_mem.out x).1 hx)
        omega
      clear hN hp hown2 hnil hkeys hk0 hperm hssn H_p
      obtain ⟨no, nc, rfl, hnc⟩ : ∃ no nc, v = .slice no names.length nc ∧ (names = [] ∨ ∃ g2, no = some ⟨g2, 0, none⟩ ∧ w.heap.size ≤ g2 ∧ g2 < w2.heap.size ∧ RowIn ESt w2 g2 0 names) := by
        rcases hrows.form with ⟨h1, h2⟩ | ⟨g2, c2, h1, h2, h3, _, _, h4⟩
        · exact ⟨none, 0, by rw [h1, h2]; rfl, .inl h2⟩
        · exact ⟨_, _, h1, .inr ⟨g2, rfl, by omega, h3, h4⟩⟩
      have H_nc := Lib.hid hnc
      have H_rows := Lib.hid hrows
      clear hnc hrows
      go_wp2_with fail
      go_loopw [3, 27] (fun v3 i wr => ∃ k : Nat, k ≤ names.length ∧ i = .int .i64 k ∧ RowKit.Hid (OwnR ECn wr w2.heap.size 3 v3 ((names.take k).map (howMany cells))) ∧ Below w2.heap.size w2 wr) (fun _ i _ => names.length - (intOf i).toNat)
      case atStart => exact ⟨0, Nat.zero_le _, rfl, OwnR.nil _ _ _ _, Below.refl _ _⟩
      case round =>
        obtain ⟨k, hk2, rfl, hown3, hB3⟩ := hrel
        have H_own3 := hown3
        clear hown3
        by_cases hlt2 : k < names.length
        · obtain ⟨g2, rfl, hg2, hg2', hr2⟩ := H_nc.out.resolve_left (by intro h; rw [h] at hlt2; simp at hlt2)
          have hc2 : wr.cell? ⟨g2, k, none⟩ = some (.string names[k]) := by have := (hr2.keep hB3 hg2') k hlt2 0 _ rfl; simpa [ESt] using this
          have hltI2 : (k : Int) < (names.length : Int) := by omega
          clear hr2
          have hnames : ∀ s ∈ names, s ∈ cells := fun s hs => (H_mem.out s).1 hs
          have hkey2 : keyOf Tryd.prog 9 (.string names[k]) = some (.string names[k].data.toList) := keyOf_string_mk Tryd.underlying9 (H_sz.out _ (hnames _ (List.getElem_mem hlt2)))
          have hmap3 : wr.ownsMap Tryd.prog 9 (plainElem Tryd.prog 3) (w.heap.size + 1) cells.length D := map_kept H_map.out (hB3.block _ H_map.out.lt)
          clear hnames
          have hcq : ∀ c : Int, D.atKey (.string names[k].data.toList) (.lit (.int .i64 0)) = .lit (.int .i64 c) → c = ((howMany cells names[k] : Nat) : Int) := by
            intro c hat
            have h1 := H_Hi.out.at_ names[k]
            rw [hat] at h1
            injection h1 with h1
            injection h1
          have H_hcq := Lib.hid hcq
          clear hcq
          go_wp2_with (first
            | (at_lookup; refine wpList_lookup_own_int _ rfl _ _ 86 rfl 9 3 .i64 (string_keyed Tryd.underlying9) Tryd.underlying86 Tryd.underlying3 (pq_zero _) (w.heap.size + 1) cells.length _ rfl hmap3 _ _ rfl hkey2 ?_; intro c hat hwc; obtain rfl := H_hcq.out c hat; clear hat hwc)
            | (at_builtin; refine wp_append_row (w0 := w2) rfl (.tmp 31) (.tmp 35) 55 rfl ECn w2.heap.size 3 i0 _ 8 Tryd.underlying55 H_hi.out H_hz0.out H_hz1.out H_hz2.out rfl (by decide) _ _ rfl (H_own3.out.alloc _) wr.heap.size 0 1 1 [howMany cells names[k]] rfl rfl ?q1 ?q2 ?q3 ?q4 ?q5 ?_))
          case q1 => exact row_one (vs := #[.int .i64 ((howMany cells names[k] : Nat) : Int)]) rfl (fun j => World.cell?_alloc_new _ _ _ _)
          case q2 => simp; omega
          case q3 => have := hB3.size; simp; omega
          case q4 => exact hB3.alloc hB3.size _
          case q5 => exact Nat.le_refl _
          intro v5 w5 hv5 hb5 hz5 c5 d5 hA5
          clear c5 d5 hA5
          have H_hv5 := Lib.hid hv5
          clear hv5
          go_wp2_with fail
          go_roundw
          case rel =>
            refine ⟨k + 1, by omega, by go_num, ?_, hb5⟩
            have h := H_hv5.out
            rw [← List.map_take] at h
            rw [List.take_succ_eq_append_getElem hlt2, List.map_append]
            exact h
          case measure => simp [intOf]; omega
        · obtain rfl : k = names.length := by omega
          have hltI2 : ¬ (names.length : Int) < (names.length : Int) := by omega
          rw [List.take_length] at H_own3
          go_wp2_with fail
          go_returns
          exact ⟨_, _, rfl, ⟨names, (H_rows.out.keep hB3).base (by have := hB.size; simp; omega), H_own3.out.base hBw.size, H_mem.out, H_nd.out, H_asc.out⟩, hBw.trans (hB3.mono hBw.size)⟩
end Go.Proofs.YtaidgecpglikpaaDoor
