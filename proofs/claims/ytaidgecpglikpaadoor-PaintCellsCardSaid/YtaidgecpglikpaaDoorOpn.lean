/-
  How the arguments read: slices of pieces.
-/
import Derived.Test.YtaidgecpglikpaaDoorOa
import Derived.Test.YtaidgecpglikpaaDoorPn10
namespace Go.Proofs.YtaidgecpglikpaaDoor
open Go.ChangeShapes Go.WideShapes Go.ChangeAt Go.RowKit Lead
set_option maxRecDepth 100000
section
variable {H : Type} {enc : TypeId × Value → H} {P : Program} {w : World} {base : Nat} {spare : Nat → Bool} {held : Bool} {fuel : Nat} {cs : List Value} {x : DataW H × List MemPlace}
theorem trod_struct5 {t : TypeId} {f0 f1 f2 f3 f4 : Field} (ht : P.underlying t = some (.struct #[f0, f1, f2, f3, f4])) (h : DataW.trod enc P w base spare held fuel t cs = some x) :
    ∃ y0 y1 y2 y3 y4 n, cs.length = P.cellsOf t ∧ DataW.trod enc P w base spare held n f0.type ((cs.drop f0.offset).take (P.cellsOf f0.type)) = some y0 ∧
      DataW.trod enc P w base spare held n f1.type ((cs.drop f1.offset).take (P.cellsOf f1.type)) = some y1 ∧ DataW.trod enc P w base spare held n f2.type ((cs.drop f2.offset).take (P.cellsOf f2.type)) = some y2 ∧
      DataW.trod enc P w base spare held n f3.type ((cs.drop f3.offset).take (P.cellsOf f3.type)) = some y3 ∧ DataW.trod enc P w base spare held n f4.type ((cs.drop f4.offset).take (P.cellsOf f4.type)) = some y4 := by
  obtain ⟨xs, n, _, rfl, hl, hlen, hf⟩ := DataW.trod_struct ht h
  match xs, hlen with
  | [y0, y1, y2, y3, y4], _ => exact ⟨y0, y1, y2, y3, y4, n, hl, by simpa using hf 0 f0 rfl, by simpa using hf 1 f1 rfl, by simpa using hf 2 f2 rfl, by simpa using hf 3 f3 rfl, by simpa using hf 4 f4 rfl⟩
theorem lt_of_cell {w : World} {b o : Nat} {s : Option (Nat × Nat)} {v : Value} (h : w.cell? ⟨b, o, none⟩ = some v) : b < w.heap.size := by
  rcases Nat.lt_or_ge b w.heap.size with h' | h'
  · exact h'
  · simp [World.cell?, Array.getElem?_eq_none h'] at h
theorem cellsMPiece : Tryd.prog.cellsOf 53 = 5 := by kernel_rfl
theorem cellsStrP : Tryd.prog.cellsOf 9 = 1 := by kernel_rfl
theorem cellsPts : Tryd.prog.cellsOf 46 = 1 := by kernel_rfl
/-- A slice of points within a piece. -/
theorem open_ptsq {t : TypeId} {cs : List Value} {x : DataW H × List MemPlace} (h : DataW.trod enc Tryd.prog w base spare held fuel 46 cs = some x) :
    ∃ oa len cap ps, cs = [.slice oa len cap] ∧ SlQ w oa len cap ps ∧ len ≤ maxLen := by
  rcases Deep.open_slice Tryd.underlying46 h with ⟨hcs, _⟩ | ⟨a, len, cap, m, n, D, Pl, hcs, _, hl, hm, hmm, _, hi⟩
  · exact ⟨none, 0, 0, [], hcs, .inr ⟨rfl, rfl⟩, Nat.zero_le _⟩
  · have hle : len ≤ m := by rw [hmm]; split <;> omega
    by_cases h0 : len = 0
    · subst h0
      exact ⟨some a, 0, cap, [], hcs, .inr ⟨rfl, rfl⟩, Nat.zero_le _⟩
    · have hat0 : ∀ i, i < len → ∃ q : Pt, q.I ∧ w.cell? (a.add (i * 4)) = some (.int .i64 q.xn) ∧ w.cell? ((a.add (i * 4)).add 1) = some (.int .i64 q.xd) ∧ w.cell? ((a.add (i * 4)).add 2) = some (.int .i64 q.yn) ∧ w.cell? ((a.add (i * 4)).add 3) = some (.int .i64 q.yd) := by
        intro i him
        obtain ⟨cs', hc, ht⟩ := hi i (by omega)
        obtain ⟨q, rfl, hq⟩ := open_point ht
        rw [cellsPoint] at hc
        obtain ⟨_, _, hat⟩ := World.cells?_some hc
        exact ⟨q, hq, hat 0 (by decide), hat 1 (by decide), hat 2 (by decide), hat 3 (by decide)⟩
      obtain ⟨b, off, spot⟩ := a
      have hsp : spot = none := by
        obtain ⟨q, _, h1, _⟩ := hat0 0 (by omega)
        exact World.cell?_spot h1
      subst hsp
      have hall : ∀ i, i < len → ∃ q : Pt, q.I ∧ w.cell? ⟨b, off + i * 4, none⟩ = some (.int .i64 q.xn) ∧ w.cell? ⟨b, off + i * 4 + 1, none⟩ = some (.int .i64 q.xd) ∧ w.cell? ⟨b, off + i * 4 + 2, none⟩ = some (.int .i64 q.yn) ∧ w.cell? ⟨b, off + i * 4 + 3, none⟩ = some (.int .i64 q.yd) := by
        intro i him
        obtain ⟨q, h1, h2, h3, h4, h5⟩ := hat0 i him
        simp only [add_cell] at h2 h3 h4 h5
        exact ⟨q, h1, h2, h3, h4, h5⟩
      have hb : b < w.heap.size := by
        obtain ⟨q, _, h1, _⟩ := hall 0 (by omega)
        exact lt_of_cell (s := none) h1
      haveI : Inhabited Pt := ⟨zpt⟩
      obtain ⟨f, hf⟩ := Deep.choose_lt hall
      refine ⟨_, len, cap, (List.range len).map f, hcs, .inl ⟨by simp, hl, Nat.le_trans hl hm, ?_, .inr ⟨b, off, rfl, hb, ?_⟩⟩, Nat.le_trans hl hm⟩
      · intro q hq
        obtain ⟨i, hi, rfl⟩ := List.mem_map.1 hq
        exact (hf i (List.mem_range.1 hi)).1
      · refine ⟨fun i hi => ?_, fun i hi => ?_, fun i hi => ?_, fun i hi => ?_⟩ <;> (have hil : i < len := by simpa using hi) <;> simp only [List.getElem_map, List.getElem_range]
        · exact (hf i hil).2.1
        · exact (hf i hil).2.2.1
        · exact (hf i hil).2.2.2.1
        · exact (hf i hil).2.2.2.2
theorem open_piece (h : DataW.trod enc Tryd.prog w base spare held fuel 53 cs = some x) :
    ∃ p : Pc, cs = [.int .i64 p.node, .slice p.oa p.len p.cap, .string p.fill, .string p.rule, .int .i64 p.level] ∧ SlQ w p.oa p.len p.cap p.ps := by
  obtain ⟨y0, y1, y2, y3, y4, n, hl, h0, h1, h2, h3, h4⟩ := trod_struct5 Tryd.underlying53 h
  rw [cellsMPiece] at hl
  match cs, hl with
  | [c0, c1, c2, c3, c4], _ =>
    simp only [cellsInt, cellsStrP, cellsPts, List.drop_zero, List.take_succ_cons, List.take_zero, List.drop_succ_cons] at h0 h1 h2 h3 h4
    obtain ⟨k, e0, _, w0⟩ := DataW.trod_int Tryd.underlying3 h0
    obtain ⟨oa, len, cap, ps, e1, hq, _⟩ := open_ptsq (t := 0) h1
    obtain ⟨s2, e2, _, w2⟩ := DataW.trod_string Tryd.underlying9 h2
    obtain ⟨s3, e3, _, w3⟩ := DataW.trod_string Tryd.underlying9 h3
    obtain ⟨k4, e4, _, w4⟩ := DataW.trod_int Tryd.underlying3 h4
    simp at e0 e1 e2 e3 e4
    subst e0 e1 e2 e3 e4
    exact ⟨⟨k, oa, len, cap, ps, s2, s3, k4⟩, rfl, hq⟩
end
theorem open_pieces {H : Type} {enc : TypeId × Value → H} {W : World} {base : Nat} {v : Value} {d : DataW H} {p : List MemPlace} (hv : Value.okWide Tryd.prog W .any base 22 v)
    (h : DataW.Trod enc Tryd.prog W 0 (fun _ => true) true 22 v d p) : ∃ oa len cap l, v = .slice oa len cap ∧ ArgPc W oa len cap l := by
  obtain ⟨oa, len, cap, rfl⟩ := okWide_slice Tryd.underlying22 hv
  obtain ⟨fuel, hf⟩ := h
  rcases Deep.open_slice Tryd.underlying22 hf with ⟨hcs, _⟩ | ⟨a, len', cap', m, n, D, Pl, hcs, _, hl, hm, hmm, _, hi⟩
  · simp [Value.cells] at hcs
    obtain ⟨rfl, rfl, rfl⟩ := hcs
    exact ⟨none, 0, 0, [], rfl, rfl, Nat.le_refl _, Nat.zero_le _, (fun q hq => by cases hq), .inl ⟨rfl, rfl, rfl⟩⟩
  · simp [Value.cells] at hcs
    obtain ⟨rfl, rfl, rfl⟩ := hcs
    simp only [if_true] at hmm
    subst hmm
    have hhas : len ≤ m ∧ (m : Int) ≤ IntKind.i64.max ∧ W.has Tryd.prog .any base a 53 m := by
      simpa only [Value.okWide, Tryd.underlying22, Cell.okWide, Cell.ok] using hv
    obtain ⟨_, _, _, hspot, row, cells, hsh, _⟩ := hhas
    have hb : a.block < W.heap.size := by
      rcases Nat.lt_or_ge a.block W.heap.size with h | h
      · exact h
      · simp [World.shape?, Array.getElem?_eq_none h] at hsh
    obtain ⟨b, off, spot⟩ := a
    simp only at hspot hb
    subst hspot
    have hall : ∀ i, i < len → ∃ q : Pc, SlQ W q.oa q.len q.cap q.ps ∧ ∀ j, W.cell? ⟨b, off + i * 5 + j, none⟩ = (EPc.enc q)[j]? ∨ 5 ≤ j := by
      intro i him
      obtain ⟨cs', hc, ht⟩ := hi i (by omega)
      obtain ⟨q, rfl, hq⟩ := open_piece ht
      rw [cellsMPiece, add_cell] at hc
      obtain ⟨_, _, hat⟩ := World.cells?_some hc
      refine ⟨q, hq, fun j => ?_⟩
      by_cases hj : j < 5
      · have := hat j hj; rw [add_cell] at this; exact .inl this
      · exact .inr (by omega)
    haveI : Inhabited Pc := ⟨⟨0, none, 0, 0, [], ⟨#[]⟩, ⟨#[]⟩, 0⟩⟩
    obtain ⟨f, hf⟩ := Deep.choose_lt hall
    refine ⟨_, len, m, (List.range len).map f, rfl, by simp, hl, Nat.le_trans hl hm, ?_, .inr ⟨b, off, rfl, hb, ?_⟩⟩
    · intro q hq
      obtain ⟨i, hi, rfl⟩ := List.mem_map.1 hq
      exact (hf i (List.mem_range.1 hi)).1
    · intro i hil j v hv
      have hil : i < len := by simpa using hil
      simp only [List.getElem_map, List.getElem_range] at hv
      have hj : j < 5 := by
        have := (List.getElem?_eq_some_iff.1 hv).1
        rw [EPc.len] at this; exact this
      rcases (hf i hil).2 j with h' | h'
      · exact h'.trans hv
      · omega
end Go.Proofs.YtaidgecpglikpaaDoor
