/-
  Walks over the statements' helpers: asPieces.
-/
import Derived.Test.YtaidgecpglikpaaDoorPn11
import Derived.Test.YtaidgecpglikpaaDoorApn
namespace Lead
open Go Go.RowKit
/-- Pieces whose points lie apart from a row. -/
def PcsIn (w : World) (own : Option Nat) (l : List Pc) : Prop := ∀ p ∈ l, SlP w p.oa p.len p.cap p.ps ∧ ∀ a, p.oa = some a → own ≠ some a.block
theorem SlP.blk {w : World} {oa : Option Addr} {len cap : Nat} {ps : List Pt} (h : SlP w oa len cap ps) {a : Addr} (ha : oa = some a) : a.block < w.heap.size := by
  obtain ⟨_, _, _, _, h5⟩ := h
  rcases h5 with ⟨h, _⟩ | ⟨b, off, h, hb, _⟩
  · rw [h] at ha; cases ha
  · rw [h] at ha; cases ha; exact hb
theorem SlP.grown {w w' : World} {oa : Option Addr} {len cap : Nat} {ps : List Pt} {r : Option Nat} (h : SlP w oa len cap ps) (hg : w.grownBy w' r) (hn : ∀ a, oa = some a → r ≠ some a.block) : SlP w' oa len cap ps := by
  obtain ⟨h1, h2, h3, h4, h5⟩ := h
  refine ⟨h1, h2, h3, h4, ?_⟩
  rcases h5 with h5 | ⟨b, off, e, hb, hp⟩
  · exact .inl h5
  · refine .inr ⟨b, off, e, Nat.lt_of_lt_of_le hb hg.size, ?_⟩
    have hc : ∀ o, w'.cell? ⟨b, o, none⟩ = w.cell? ⟨b, o, none⟩ := fun o => World.cell?_of_block (hg.block b hb (fun h => hn _ e h.symm))
    exact ⟨fun i hi => (hc _).trans (hp.c0 i hi), fun i hi => (hc _).trans (hp.c1 i hi), fun i hi => (hc _).trans (hp.c2 i hi), fun i hi => (hc _).trans (hp.c3 i hi)⟩
theorem PcsIn.keep {w w' : World} {own : Option Nat} {l : List Pc} (h : PcsIn w own l) (hb : Below w.heap.size w w') : PcsIn w' own l := fun p hp => ⟨(h p hp).1.keep hb rfl, (h p hp).2⟩
theorem PcsIn.grown {w w' : World} {o o' : Option Nat} {l : List Pc} (h : PcsIn w o l) (hg : w.grownBy w' o) (ho : o' = o ∨ o' = some w.heap.size) : PcsIn w' o' l := fun p hp => by
  obtain ⟨h1, h2⟩ := h p hp
  refine ⟨h1.grown hg h2, fun a ha => ?_⟩
  rcases ho with rfl | rfl
  · exact h2 a ha
  · have := h1.blk ha
    intro e; injection e; omega
end Lead
namespace Go.Proofs.YtaidgecpglikpaaDoor
open Go.RowKit Lead
theorem infoPc : (Tryd.prog.info? 50).map (fun i => (i.zero, i.size, i.bytes)) = some (some (.agg #[.int .i64 0, .slice none 0 0, .string ⟨#[]⟩, .string ⟨#[]⟩, .int .i64 0]), 5, 72) := by kernel_rfl
set_option maxHeartbeats 2000000 in
set_option maxRecDepth 100000 in
theorem aspieces_own (l : List Pc) (oa : Option Addr) (len cap : Nat) (w : World) (hs : ArgPc w oa len cap l) (h8 : len ≤ 8) (h40 : ∀ p ∈ l, p.len ≤ 40) :
    Calls Tryd.prog 8 #[.slice oa len cap] w fun e w' => ∃ v l', e = .returned v ∧ OwnR EPc w' w.heap.size 50 v l' ∧ PcsIn w' v.ownBlock l' ∧ l'.map Pc.k = l.map Pc.k ∧ Below w.heap.size w w' := by
  obtain ⟨hl, hlc, hm, hSl, hcase⟩ := hs
  obtain ⟨i0, hi, hz0, hz1, hz2⟩ := info_parts infoPc
  have H_hl := Lib.hid hl
  clear hl
  have H_hSl := Lib.hid hSl
  clear hSl
  have H_hcase := Lib.hid hcase
  clear hcase
  have H_h40 := Lib.hid h40
  clear h40
  have H_hi := Lib.hid hi
  clear hi
  have H_hz0 := Lib.hid hz0
  clear hz0
  have H_hz1 := Lib.hid hz1
  clear hz1
  have H_hz2 := Lib.hid hz2
  clear hz2
  go_enter Tryd.func8, Tryd.ntmps8
  go_wp2_with fail
  go_loopw [3, 4] (fun t3 t4 wr => ∃ (k : Nat) (l' : List Pc), k ≤ len ∧ t4 = .int .i64 k ∧ OwnR EPc wr w.heap.size 50 t3 l' ∧ l'.length = k ∧ l'.map Pc.k = (l.take k).map Pc.k ∧ PcsIn wr t3.ownBlock l' ∧ Below w.heap.size w wr) (fun _ t4 _ => len - (intOf t4).toNat)
  case atStart => exact ⟨0, [], Nat.zero_le _, rfl, OwnR.nil _ _ _ _, rfl, rfl, fun p hp => absurd hp (by simp), by repeat' (first | (with_reducible first | exact bwR _ _ | assumption | refine bdn ?_ | refine bwA ?_ ?_ _ | refine bwD ?_ | refine bwS ?_ ?_ _) | omega | (simp <;> omega))⟩
  case round =>
    rename_i t3 _ _
    obtain ⟨k, l', hk, rfl, hown, hl', hmap, hall, hB⟩ := hrel
    have hzr := hB.size
    by_cases hlt : k < len
    · have hk' : k < l.length := by have := H_hl.out; omega
      obtain ⟨b', off, rfl, hbl, hp⟩ : ∃ b off, oa = some ⟨b, off, none⟩ ∧ b < w.heap.size ∧ RowIn EPc w b off l := by
        rcases H_hcase.out with ⟨_, h, _⟩ | h
        · omega
        · exact h
      obtain ⟨q0, q1, q2, q3, q4⟩ := pc_cells (hp.keep hB hbl) hk'
      have hSk := (H_hSl.out _ (List.getElem_mem hk')).keep hB rfl
      have h40k := H_h40.out _ (List.getElem_mem hk')
      have hmk : (l.take (k + 1)).map Pc.k = (l.take k).map Pc.k ++ [l[k].k] := by rw [List.take_succ_eq_append_getElem hk', List.map_append]; rfl
      obtain ⟨p, hpe⟩ : ∃ p, l[k] = p := ⟨_, rfl⟩
      rw [hpe] at q0 q1 q2 q3 q4 hSk hmk h40k
      clear hpe hp
      obtain ⟨node, poa, plen, pcap, ps, fill, rule, level⟩ := p
      simp only at q0 q1 q2 q3 q4 hSk h40k
      have hbr : b' < wr.heap.size := by omega
      have H_hown := Lib.hid hown
      clear hown
      have H_hmap := Lib.hid hmap
      clear hmap
      have H_hall := Lib.hid hall
      clear hall
      have H_hmk := Lib.hid hmk
      clear hmk
      have H_hSk := Lib.hid hSk
      clear hSk
      go_wp2_with fail
      refine (ownpoints_q ps poa plen pcap _ H_hSk.out (by omega)).mono ?_
      rintro _ w1 ⟨v5, rfl, hv5, hb1⟩
      have hpI : ∀ q ∈ ps, q.I := by
        rcases H_hSk.out with h | ⟨_, h⟩
        · exact h.2.2.2.1
        · intro q hq; rw [h] at hq; cases hq
      obtain ⟨oa5, cap5, rfl, hs5⟩ := hv5.slp hpI
      have hlt5 := hv5.lt
      have t1 := hb1.size
      have hb1w : Below w.heap.size w w1 := hB.trans (hb1.mono hzr)
      have hown1 : OwnR EPc w1 w.heap.size 50 u3 l' := H_hown.out.keep hb1
      have hall1 : PcsIn w1 u3.ownBlock l' := H_hall.out.keep hb1
      have hnew : PcsIn w1 u3.ownBlock [⟨node, oa5, ps.length, cap5, ps, fill, rule, level⟩] := by
        intro q hq
        obtain rfl : q = _ := by simpa using hq
        refine ⟨hs5, fun a ha e => ?_⟩
        have h1 := (hlt5 a.block (by simp only at ha; rw [ha]; rfl)).1
        have h2 := (H_hown.out.lt a.block e).2
        omega
      have hallN : PcsIn w1 u3.ownBlock (l' ++ [⟨node, oa5, ps.length, cap5, ps, fill, rule, level⟩]) := fun q hq => (List.mem_append.1 hq).elim (hall1 q) (hnew q)
      have r0 : w1.cell? ⟨b', off + k * 5, none⟩ = some (.int .i64 node) := (hb1.cell (p := ⟨b', off + k * 5, none⟩) hbr).trans q0
      have r2 : w1.cell? ⟨b', off + k * 5 + 2, none⟩ = some (.string fill) := (hb1.cell (p := ⟨b', off + k * 5 + 2, none⟩) hbr).trans q2
      have r3 : w1.cell? ⟨b', off + k * 5 + 3, none⟩ = some (.string rule) := (hb1.cell (p := ⟨b', off + k * 5 + 3, none⟩) hbr).trans q3
      have r4 : w1.cell? ⟨b', off + k * 5 + 4, none⟩ = some (.int .i64 level) := (hb1.cell (p := ⟨b', off + k * 5 + 4, none⟩) hbr).trans q4
      have hbr1 : b' < w1.heap.size := by omega
      have hmapN : (l' ++ [(⟨node, oa5, ps.length, cap5, ps, fill, rule, level⟩ : Pc)]).map Pc.k = (l.take (k + 1)).map Pc.k := by rw [List.map_append, H_hmap.out, H_hmk.out]; rfl
      have SK : ∀ W, Below w.heap.size w1 W → Below w.heap.size w1 W ∧ W.cell? ⟨b', off + k * 5, none⟩ = some (.int .i64 node) ∧ W.cell? ⟨b', off + k * 5 + 2, none⟩ = some (.string fill) ∧ W.cell? ⟨b', off + k * 5 + 3, none⟩ = some (.string rule) ∧ W.cell? ⟨b', off + k * 5 + 4, none⟩ = some (.int .i64 level) :=
        fun W h => ⟨h, (h.cell (p := ⟨b', off + k * 5, none⟩) hbl).trans r0, (h.cell (p := ⟨b', off + k * 5 + 2, none⟩) hbl).trans r2, (h.cell (p := ⟨b', off + k * 5 + 3, none⟩) hbl).trans r3, (h.cell (p := ⟨b', off + k * 5 + 4, none⟩) hbl).trans r4⟩
      clear hv5 hnew hall1 hlt5 hs5 q0 q1 q2 q3 q4 hb1 r0 r2 r3 r4
      have lw1 : w.heap.size ≤ w1.heap.size := by omega
      have H_hown1 := Lib.hid hown1
      clear hown1
      have H_hallN := Lib.hid hallN
      clear hallN
      have H_hmapN := Lib.hid hmapN
      clear hmapN
      have H_SK := Lib.hid SK
      clear SK
      go_wp2_with fail
      go_region_held3 (fun W => Below w.heap.size w1 W ∧ W.cell? ⟨b', off + k * 5, none⟩ = some (.int .i64 node) ∧ W.cell? ⟨b', off + k * 5 + 2, none⟩ = some (.string fill) ∧ W.cell? ⟨b', off + k * 5 + 3, none⟩ = some (.string rule) ∧ W.cell? ⟨b', off + k * 5 + 4, none⟩ = some (.int .i64 level))
        (exact H_SK.out _ (by repeat' (first | (with_reducible first | exact bwR _ _ | assumption | refine bdn ?_ | refine bwA ?_ ?_ _ | refine bwD ?_ | refine bwS ?_ ?_ _) | omega | (simp <;> omega))))
        (first | ((refine step_append_told rfl (.tmp 18) (.tmp 42) 32 rfl EPc w.heap.size 50 i0 _ 72 Tryd.underlying32 H_hi.out H_hz0.out H_hz1.out H_hz2.out rfl (by decide) u3 l' rfl _ _ 1 1 [⟨node, oa5, ps.length, cap5, ps, fill, rule, level⟩] rfl rfl ?_ ?_ ?_ ?_ ?_); (simp; omega); (first | exact H_hown1.out.alloc _ | exact (H_hown1.out.alloc _).keep (Below.refl _ _).drew); (first | exact row_one (vs := #[.int .i64 node, .slice oa5 ps.length cap5, .string fill, .string rule, .int .i64 level]) rfl (fun j => World.cell?_alloc_new _ _ _ _) | exact row_one (vs := #[.int .i64 node, .slice oa5 ps.length cap5, .string fill, .string rule, .int .i64 level]) rfl (fun j => by rw [World.cell?_drew]; exact World.cell?_alloc_new _ _ _ _)); (simp <;> omega); (intro v' w2 hv2 hA2 hg2 ho2; have hbA : Below w.heap.size w1 w2 := Below.trans (by repeat' (first | (with_reducible first | exact bwR _ _ | assumption | refine bdn ?_ | refine bwA ?_ ?_ _ | refine bwD ?_ | refine bwS ?_ ?_ _) | omega | (simp <;> omega))) hA2)))
      all_goals
        have hn2 := (H_hallN.out.keep (w' := _) (by repeat' (first | exact (Below.refl _ _).alloc (Nat.le_refl _) _ | exact ((Below.refl _ _).drew).alloc (Nat.le_refl _) _ | exact ((Below.refl _ _).alloc (Nat.le_refl _) _).drew))).grown hg2 ho2
        have H_hv2 := Lib.hid hv2
        clear hv2
        have H_hn2 := Lib.hid hn2
        clear hn2
        clear hg2 ho2
        go_wp2_with fail
        go_roundw
        case rel => exact ⟨k + 1, l' ++ [⟨node, oa5, ps.length, cap5, ps, fill, rule, level⟩], by omega, by go_num, H_hv2.out, by simp [hl'], H_hmapN.out, H_hn2.out, hb1w.trans hbA⟩
        case measure => simp [intOf]; omega
    · obtain rfl : k = len := by omega
      have e : l.take k = l := List.take_of_length_le (by have := H_hl.out; omega)
      rw [e] at hmap
      have H_hown := Lib.hid hown
      clear hown
      have H_hmap := Lib.hid hmap
      clear hmap
      have H_hall := Lib.hid hall
      clear hall
      go_wp2_with fail
      go_returns
      exact ⟨_, l', rfl, H_hown.out, H_hall.out, H_hmap.out, hB⟩
end Go.Proofs.YtaidgecpglikpaaDoor
