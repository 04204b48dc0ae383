/-
  How the arguments read: fractions, points, slices of points.
-/
import Derived.Test.YtogfphojfkdcgaaDoorRows
import Derived.Test.YtogfphojfkdcgaaDoorPa
import Derived.ProofKit
import Derived.OpenShut
import Derived.Deep.Slices
import Derived.ChangeSame
namespace Go.Proofs.YtogfphojfkdcgaaDoor
open Go.ChangeShapes Go.WideShapes Go.ChangeAt Go.RowKit Lead
set_option maxRecDepth 100000

section
variable {H : Type} {enc : TypeId × Value → H} {w : World} {base : Nat} {spare : Nat → Bool} {held : Bool} {fuel : Nat} {cs : List Value} {x : DataW H × List MemPlace}

theorem cellsFrac : Tryd.prog.cellsOf 24 = 2 := by kernel_rfl
theorem cellsPoint : Tryd.prog.cellsOf 26 = 4 := by kernel_rfl
theorem cellsInt : Tryd.prog.cellsOf 3 = 1 := by kernel_rfl

theorem open_frac (h : DataW.trod enc Tryd.prog w base spare held fuel 24 cs = some x) : ∃ n d : Int, cs = [.int .i64 n, .int .i64 d] ∧ I64 n ∧ I64 d := by
  obtain ⟨y0, y1, m, _, hl, h0, h1⟩ := trod_struct2 Tryd.underlying24 h
  rw [cellsFrac] at hl
  match cs, hl with
  | [c0, c1], _ =>
    simp only [cellsInt, List.drop_zero, List.take_succ_cons, List.take_zero, List.drop_succ_cons] at h0 h1
    obtain ⟨n, e0, _, w0⟩ := DataW.trod_int Tryd.underlying3 h0
    obtain ⟨d, e1, _, w1⟩ := DataW.trod_int Tryd.underlying3 h1
    simp at e0 e1
    subst e0 e1
    exact ⟨n, d, rfl, I64.wf w0, I64.wf w1⟩
theorem open_point (h : DataW.trod enc Tryd.prog w base spare held fuel 26 cs = some x) : ∃ p : Pt, cs = [.int .i64 p.xn, .int .i64 p.xd, .int .i64 p.yn, .int .i64 p.yd] ∧ p.I := by
  obtain ⟨y0, y1, m, _, hl, h0, h1⟩ := trod_struct2 Tryd.underlying26 h
  rw [cellsPoint] at hl
  match cs, hl with
  | [c0, c1, c2, c3], _ =>
    simp only [cellsFrac, List.drop_zero, List.take_succ_cons, List.take_zero, List.drop_succ_cons] at h0 h1
    obtain ⟨n, d, e0, w0, w1⟩ := open_frac h0
    obtain ⟨n', d', e1, w2, w3⟩ := open_frac h1
    simp at e0 e1
    obtain ⟨rfl, rfl⟩ := e0
    obtain ⟨rfl, rfl⟩ := e1
    exact ⟨⟨n, d, n', d'⟩, rfl, ⟨w0, w1, w2, w3⟩⟩
end

theorem open_pts {H : Type} {enc : TypeId × Value → H} {W : World} {base : Nat} {v : Value} {d : DataW H} {p : List MemPlace} (hv : Value.okWide Tryd.prog W .any base 22 v)
    (h : DataW.Trod enc Tryd.prog W 0 (fun _ => true) true 22 v d p) : ∃ oa len cap ps, v = .slice oa len cap ∧ SlP W oa len cap ps := by
  obtain ⟨oa, len, cap, rfl⟩ := okWide_slice Tryd.underlying22 hv
  obtain ⟨fuel, hf⟩ := h
  rcases Deep.open_slice Tryd.underlying22 hf with ⟨hcs, _⟩ | ⟨a, len', cap', m, n, D, Pl, hcs, _, hl, hm, hmm, _, hi⟩
  · simp [Value.cells] at hcs
    obtain ⟨rfl, rfl, rfl⟩ := hcs
    exact ⟨none, 0, 0, [], rfl, rfl, Nat.le_refl _, Nat.zero_le _, (fun q hq => by cases hq), .inl ⟨rfl, rfl, rfl⟩⟩
  · simp [Value.cells] at hcs
    obtain ⟨rfl, rfl, rfl⟩ := hcs
    simp only [if_true] at hmm
    subst hmm
    have hhas : len ≤ m ∧ (m : Int) ≤ IntKind.i64.max ∧ W.has Tryd.prog .any base a 26 m := by
      simpa only [Value.okWide, Tryd.underlying22, Cell.okWide, Cell.ok] using hv
    obtain ⟨_, _, _, hspot, row, cells, hsh, _⟩ := hhas
    have hb : a.block < W.heap.size := by
      rcases Nat.lt_or_ge a.block W.heap.size with h | h
      · exact h
      · simp [World.shape?, Array.getElem?_eq_none h] at hsh
    obtain ⟨b, off, spot⟩ := a
    simp only at hspot hb
    subst hspot
    have hall : ∀ i, i < len → ∃ q : Pt, q.I ∧ W.cell? ⟨b, off + i * 4, none⟩ = some (.int .i64 q.xn) ∧ W.cell? ⟨b, off + i * 4 + 1, none⟩ = some (.int .i64 q.xd) ∧ W.cell? ⟨b, off + i * 4 + 2, none⟩ = some (.int .i64 q.yn) ∧ W.cell? ⟨b, off + i * 4 + 3, none⟩ = some (.int .i64 q.yd) := by
      intro i him
      obtain ⟨cs', hc, ht⟩ := hi i (by omega)
      obtain ⟨q, rfl, hq⟩ := open_point ht
      rw [cellsPoint, add_cell] at hc
      obtain ⟨_, _, hat⟩ := World.cells?_some hc
      refine ⟨q, hq, ?_, ?_, ?_, ?_⟩
      · have := hat 0 (by decide); rw [add_cell] at this; exact this
      · have := hat 1 (by decide); rw [add_cell] at this; exact this
      · have := hat 2 (by decide); rw [add_cell] at this; exact this
      · have := hat 3 (by decide); rw [add_cell] at this; exact this
    haveI : Inhabited Pt := ⟨zpt⟩
    obtain ⟨f, hf⟩ := Deep.choose_lt hall
    refine ⟨_, len, m, (List.range len).map f, rfl, by simp, hl, Nat.le_trans hl hm, ?_, .inr ⟨b, off, rfl, hb, ?_⟩⟩
    · intro q hq
      obtain ⟨i, hi, rfl⟩ := List.mem_map.1 hq
      exact (hf i (List.mem_range.1 hi)).1
    · refine ⟨fun i hi => ?_, fun i hi => ?_, fun i hi => ?_, fun i hi => ?_⟩ <;> (have hil : i < len := by simpa using hi) <;> simp only [List.getElem_map, List.getElem_range]
      · exact (hf i hil).2.1
      · exact (hf i hil).2.2.1
      · exact (hf i hil).2.2.2.1
      · exact (hf i hil).2.2.2.2
theorem open_point_arg {H : Type} {enc : TypeId × Value → H} {W : World} {base : Nat} {v : Value} {d : DataW H} {p : List MemPlace} (hv : Value.okWide Tryd.prog W .any base 26 v)
    (h : DataW.Trod enc Tryd.prog W 0 (fun _ => true) true 26 v d p) : ∃ q : Pt, v = .agg #[.int .i64 q.xn, .int .i64 q.xd, .int .i64 q.yn, .int .i64 q.yd] ∧ q.I := by
  obtain ⟨cs, rfl, _⟩ := okWide_struct Tryd.underlying26 hv
  obtain ⟨fuel, hf⟩ := h
  obtain ⟨q, hq, hI⟩ := open_point hf
  refine ⟨q, ?_, hI⟩
  congr 1
  cases cs
  simp [Value.cells] at hq
  rw [hq]
end Go.Proofs.YtogfphojfkdcgaaDoor
