/-
  Several texts as one: Law, Open, Open2, Open3.
-/
import Derived.Test.YtpdaenldmgpkjaaGreatDoorRows
import Derived.ProofKit
import Derived.OpenShut
import Derived.Stop.LaidErr
import Derived.Deep.DeepHandedRow
import Derived.Deep.DeepWitnessRowRef
import Derived.LaidMore
import Derived.LaidHandle
import Derived.Test.YtpdaenldmgpkjaaGreatDoorPa
import Derived.Deep.Slices
import Derived.ChangeSame
import Derived.Test.YtpdaenldmgpkjaaGreatDoorMa
/-
  From a walk that ends 'true; old memory is as it was' to the row: what all statements of this family share.
-/
namespace Lead
open Go Go.ChangeShapes Go.WideShapes Go.ChangeAt Go.RowKit

theorem trodAll_below {H : Type} {enc : TypeId × Value → H} {P : Program} (hl : laidOutB P = true) {W W' : World} (hb : Below W.heap.size W W') :
    ∀ {ts : List TypeId} {vs : List Value} {ds : List (DataW H)} {ps : List MemPlace}, (∀ t ∈ ts, P.readableRec t = true ∧ t < P.types.size) → DataW.TrodAll enc P W 0 (fun _ => true) true ts vs ds ps →
      (∀ x ∈ ps, x.block < W.heap.size) → DataW.TrodAll enc P W' 0 (fun b => decide (b < W.heap.size)) true ts vs ds ps := by
  intro ts
  induction ts with
  | nil =>
    intro vs ds ps _ h _
    obtain ⟨rfl, rfl, rfl⟩ := trodAll_nil h
    exact trodAll_mk0
  | cons t ts ih =>
    intro vs ds ps ht h hlt
    obtain ⟨v, vs', d, ds', p, q, rfl, rfl, rfl, h1, h2⟩ := trodAll_cons h
    exact trodAll_cons_mk (Below.trod hl (ht t (by simp)).1 (ht t (by simp)).2 h1 hb (fun x hx => hlt x (List.mem_append_left _ hx)))
      (ih (fun u hu => ht u (by simp [hu])) h2 (fun x hx => hlt x (List.mem_append_right _ hx)))

/-- A law's post: it returned true, and old memory is as it was. -/
theorem law_post {H : Type} {enc : TypeId × Value → H} {P : Program} {f : Func} {s : ChangeSpec} {W W' : World} {args : Array Value} {ds gs : List (DataW H)} {before : List MemPlace} {tb : TypeId}
    (hl : laidOutB P = true) (hread : ∀ t ∈ f.params.toList, P.readableRec t = true ∧ t < P.types.size) (hvars : s.vars = []) (htb : P.underlying tb = some .bool) (hres : f.resultTypes = #[tb])
    (hfn : ∀ ds, ds.length = f.params.size → s.fn H ds = { results := [.lit (.bool true)], args := ds })
    (hW : DataW.Whole enc P f.params.toList s.vars false W args.toList ds gs before) (hb : Below W.heap.size W W') : s.post enc P f false true false false W args (.bool true) W' := by
  have hW' := hW
  have hlt := hW.lt
  obtain ⟨p, q, hA, hV, rfl, hfz, hnd⟩ := hW
  rw [hvars] at hV
  obtain ⟨rfl, rfl⟩ := trodVars_none hV
  have hlen : ds.length = f.params.size := by
    have : ∀ {ts : List TypeId} {vs : List Value} {ds : List (DataW H)} {ps : List MemPlace}, DataW.TrodAll enc P W 0 (fun _ => true) true ts vs ds ps → ds.length = ts.length := by
      intro ts
      induction ts with
      | nil => intro vs ds ps h; obtain ⟨_, rfl, _⟩ := trodAll_nil h; rfl
      | cons t ts ih => intro vs ds ps h; obtain ⟨_, _, _, _, _, _, _, rfl, _, _, h2⟩ := trodAll_cons h; simp [ih h2]
    have := this hA
    simpa using this
  have e1 : s.fn H (ds ++ []) = { results := [.lit (.bool true)], args := ds } := by rw [List.append_nil]; exact hfn ds hlen
  refine ⟨_, _, _, [], p, [], hW', ?_, ?_, ?_, hb.frame _, fun h => by cases h⟩
  · rw [e1, hres]; exact trodAll_mk1 (shut_bool htb true)
  · rw [e1]; exact trodAll_below hl hb hread hA (fun x hx => hlt x (List.mem_append_left _ hx))
  · rw [e1, hvars]; rfl
end Lead
namespace Go.Proofs.YtpdaenldmgpkjaaGreatDoor
open Go.ChangeShapes Go.WideShapes Go.ChangeAt Go.RowKit Lead
set_option maxRecDepth 100000
theorem own : ownKnob Tryz.prog.godebug = none := by kernel_rfl
theorem laidOut : laidOutB Tryz.prog = true := by kernel_rfl
theorem starE : "*" ++ "errors.errorString" = "*errors.errorString" := by decide
theorem rowE (u : TypeId) (h : Tryz.prog.typeName? 3 u = some "*errors.errorString") : u = 308 :=
  typeName_ptr_named (nm := "errors.errorString") (by rw [starE]; kernel_rfl) (by kernel_rfl) (by decide) u (by rw [starE]; exact h)
theorem cellsES : Tryz.prog.cellsOf 310 = 1 := by kernel_rfl
theorem cellsStr : Tryz.prog.cellsOf 9 = 1 := by kernel_rfl

/-- What a listed error reads as. -/
def sentD (text : List UInt8) : DataW Unit := .iface "*errors.errorString" (.ptr (.agg [.lit (.string text)]))

/-- Listed errors lie at places of their own. -/
theorem sents_ind {W : World} : ∀ (L : List (String × List UInt8)) (ps : List MemPlace), DataW.LaidVars Tryz.prog W (L.map fun x => (x.1, sentD x.2)) ps → ps.Nodup →
    (∀ b off, MemPlace.cell b off ∈ ps → (∃ c t, W.heap[b]? = some (.cells c t (0, 0))) ∧ ∀ u v, W.cell? ⟨b, off, none⟩ = some (.iface u v) → Value.okWide Tryz.prog W .any 0 u v) →
    (∀ x ∈ L, ∃ g, Tryz.prog.globalNamed x.1 = some g ∧ (Tryz.prog.globals[g]?).map (·.type) = some 30) →
    ∃ As : List Addr, As.length = L.length ∧ As.Nodup ∧ (∀ a ∈ As, MemPlace.cell a.block a.off ∈ ps) ∧
      ∀ (i : Nat) (x : String × List UInt8) (a : Addr), L[i]? = some x → As[i]? = some a → (∀ g, Tryz.prog.globalNamed x.1 = some g → W.cell? ⟨g, 0, none⟩ = some (.iface 308 (.pointer (some a)))) ∧
        (∃ s, W.cell? a = some (.string s)) ∧ ∃ c t, W.heap[a.block]? = some (.cells c t (0, 0)) := by
  intro L
  induction L with
  | nil => intro ps _ _ _ _; exact ⟨[], rfl, List.nodup_nil, (fun a ha => by cases ha), (fun i x a hx => by simp at hx)⟩
  | cons y L ih =>
    intro ps h hnd hrows hg
    obtain ⟨g, t, cs, fuel, p, q, hg0, ht0, hv0, hd0, hq, rfl⟩ := h
    obtain ⟨g', hg1, hg2⟩ := hg y (by simp)
    obtain rfl := Option.some.inj (hg1.symm.trans hg0)
    obtain rfl := Option.some.inj (hg2.symm.trans ht0)
    have hc0 : 0 < cs.size → MemPlace.cell g' 0 ∈ MemPlace.row ⟨g', 0, none⟩ cs.size ++ p ++ q := fun h => by
      simp only [List.append_assoc, List.mem_append]
      exact .inl (List.mem_map.2 ⟨0, List.mem_range.2 h, by simp⟩)
    have ok0 : ∀ u v, cs.toList = [.iface u v] → Value.okWide Tryz.prog W .any 0 u v := fun u v e => by
      have hcs : cs = #[.iface u v] := by cases cs; simp_all
      subst hcs
      exact (hrows g' 0 (hc0 (by simp))).2 u v (by simpa using World.var?_cell hg0 hv0 0)
    obtain ⟨a0, s0, hcs, hca, _, _, rfl⟩ := errorString_of_trod Tryz.underlying30 rowE Tryz.underlying308 Tryz.underlying310 rfl rfl Tryz.underlying9 cellsES cellsStr hd0 ok0
    have hcs' : cs = #[.iface 308 (.pointer (some a0))] := by cases cs; simp_all
    subst hcs'
    obtain ⟨As, h1, h2, h3, h4⟩ := ih q hq (List.Nodup.sublist (List.sublist_append_right _ _) hnd) (fun b off hm => hrows b off (List.mem_append_right _ hm)) (fun x hx => hg x (by simp [hx]))
    have ha0 : MemPlace.cell a0.block a0.off ∈ MemPlace.row ⟨g', 0, none⟩ 1 ++ MemPlace.row a0 1 ++ q := by simp [MemPlace.row]
    refine ⟨a0 :: As, by simp [h1], List.nodup_cons.2 ⟨fun hm => ?_, h2⟩, ?_, ?_⟩
    · have hq2 := h3 a0 hm
      simp only [MemPlace.row, List.range_one, List.map_cons, List.map_nil, Nat.add_zero] at hnd
      have := (List.nodup_cons.1 (List.nodup_cons.1 hnd).2).1
      exact this hq2
    · intro a ha
      rcases List.mem_cons.1 ha with rfl | ha
      · exact ha0
      · exact List.mem_append_right _ (h3 a ha)
    · intro i x a hx ha
      cases i with
      | zero =>
        simp at hx ha
        subst hx ha
        refine ⟨fun g hgg => ?_, ⟨s0, hca⟩, (hrows _ _ ha0).1⟩
        obtain rfl := Option.some.inj (hg0.symm.trans hgg)
        simpa using World.var?_cell hg0 hv0 0
      | succ i => exact h4 i x a (by simpa using hx) (by simpa using ha)

/-- Where the error of a number lies: by the list of the numbers, in the order of the row's list. -/
def eaOf (codes : List Nat) (As : List Addr) (c : Nat) : Addr := (As[codes.idxOf c]?).getD ⟨0, 0, none⟩
end Go.Proofs.YtpdaenldmgpkjaaGreatDoor

/-
  How the arguments read: fractions, points, slices of points.
-/
namespace Go.Proofs.YtpdaenldmgpkjaaGreatDoor
open Go.ChangeShapes Go.WideShapes Go.ChangeAt Go.RowKit Lead
set_option maxRecDepth 100000

section
variable {H : Type} {enc : TypeId × Value → H} {w : World} {base : Nat} {spare : Nat → Bool} {held : Bool} {fuel : Nat} {cs : List Value} {x : DataW H × List MemPlace}

theorem cellsFrac : Tryz.prog.cellsOf 49 = 2 := by kernel_rfl
theorem cellsPoint : Tryz.prog.cellsOf 102 = 4 := by kernel_rfl
theorem cellsInt : Tryz.prog.cellsOf 3 = 1 := by kernel_rfl

theorem open_frac (h : DataW.trod enc Tryz.prog w base spare held fuel 49 cs = some x) : ∃ n d : Int, cs = [.int .i64 n, .int .i64 d] ∧ I64 n ∧ I64 d := by
  obtain ⟨y0, y1, m, _, hl, h0, h1⟩ := trod_struct2 Tryz.underlying49 h
  rw [cellsFrac] at hl
  match cs, hl with
  | [c0, c1], _ =>
    simp only [cellsInt, List.drop_zero, List.take_succ_cons, List.take_zero, List.drop_succ_cons] at h0 h1
    obtain ⟨n, e0, _, w0⟩ := DataW.trod_int Tryz.underlying3 h0
    obtain ⟨d, e1, _, w1⟩ := DataW.trod_int Tryz.underlying3 h1
    simp at e0 e1
    subst e0 e1
    exact ⟨n, d, rfl, I64.wf w0, I64.wf w1⟩
theorem open_point (h : DataW.trod enc Tryz.prog w base spare held fuel 102 cs = some x) : ∃ p : Pt, cs = [.int .i64 p.xn, .int .i64 p.xd, .int .i64 p.yn, .int .i64 p.yd] ∧ p.I := by
  obtain ⟨y0, y1, m, _, hl, h0, h1⟩ := trod_struct2 Tryz.underlying102 h
  rw [cellsPoint] at hl
  match cs, hl with
  | [c0, c1, c2, c3], _ =>
    simp only [cellsFrac, List.drop_zero, List.take_succ_cons, List.take_zero, List.drop_succ_cons] at h0 h1
    obtain ⟨n, d, e0, w0, w1⟩ := open_frac h0
    obtain ⟨n', d', e1, w2, w3⟩ := open_frac h1
    simp at e0 e1
    obtain ⟨rfl, rfl⟩ := e0
    obtain ⟨rfl, rfl⟩ := e1
    exact ⟨⟨n, d, n', d'⟩, rfl, ⟨w0, w1, w2, w3⟩⟩
end

theorem open_pts {H : Type} {enc : TypeId × Value → H} {W : World} {base : Nat} {v : Value} {d : DataW H} {p : List MemPlace} (hv : Value.okWide Tryz.prog W .any base 50 v)
    (h : DataW.Trod enc Tryz.prog W 0 (fun _ => true) true 50 v d p) : ∃ oa len cap ps, v = .slice oa len cap ∧ SlP W oa len cap ps := by
  obtain ⟨oa, len, cap, rfl⟩ := okWide_slice Tryz.underlying50 hv
  obtain ⟨fuel, hf⟩ := h
  rcases Deep.open_slice Tryz.underlying50 hf with ⟨hcs, _⟩ | ⟨a, len', cap', m, n, D, Pl, hcs, _, hl, hm, hmm, _, hi⟩
  · simp [Value.cells] at hcs
    obtain ⟨rfl, rfl, rfl⟩ := hcs
    exact ⟨none, 0, 0, [], rfl, rfl, Nat.le_refl _, Nat.zero_le _, (fun q hq => by cases hq), .inl ⟨rfl, rfl, rfl⟩⟩
  · simp [Value.cells] at hcs
    obtain ⟨rfl, rfl, rfl⟩ := hcs
    simp only [if_true] at hmm
    subst hmm
    have hhas : len ≤ m ∧ (m : Int) ≤ IntKind.i64.max ∧ W.has Tryz.prog .any base a 102 m := by
      simpa only [Value.okWide, Tryz.underlying50, Cell.okWide, Cell.ok] using hv
    obtain ⟨_, _, _, hspot, row, cells, hsh, _⟩ := hhas
    have hb : a.block < W.heap.size := by
      rcases Nat.lt_or_ge a.block W.heap.size with h | h
      · exact h
      · simp [World.shape?, Array.getElem?_eq_none h] at hsh
    obtain ⟨b, off, spot⟩ := a
    simp only at hspot hb
    subst hspot
    have hall : ∀ i, i < len → ∃ q : Pt, q.I ∧ W.cell? ⟨b, off + i * 4, none⟩ = some (.int .i64 q.xn) ∧ W.cell? ⟨b, off + i * 4 + 1, none⟩ = some (.int .i64 q.xd) ∧ W.cell? ⟨b, off + i * 4 + 2, none⟩ = some (.int .i64 q.yn) ∧ W.cell? ⟨b, off + i * 4 + 3, none⟩ = some (.int .i64 q.yd) := by
      intro i him
      obtain ⟨cs', hc, ht⟩ := hi i (by omega)
      obtain ⟨q, rfl, hq⟩ := open_point ht
      rw [cellsPoint, add_cell] at hc
      obtain ⟨_, _, hat⟩ := World.cells?_some hc
      refine ⟨q, hq, ?_, ?_, ?_, ?_⟩
      · have := hat 0 (by decide); rw [add_cell] at this; exact this
      · have := hat 1 (by decide); rw [add_cell] at this; exact this
      · have := hat 2 (by decide); rw [add_cell] at this; exact this
      · have := hat 3 (by decide); rw [add_cell] at this; exact this
    haveI : Inhabited Pt := ⟨zpt⟩
    obtain ⟨f, hf⟩ := Deep.choose_lt hall
    refine ⟨_, len, m, (List.range len).map f, rfl, by simp, hl, Nat.le_trans hl hm, ?_, .inr ⟨b, off, rfl, hb, ?_⟩⟩
    · intro q hq
      obtain ⟨i, hi, rfl⟩ := List.mem_map.1 hq
      exact (hf i (List.mem_range.1 hi)).1
    · refine ⟨fun i hi => ?_, fun i hi => ?_, fun i hi => ?_, fun i hi => ?_⟩ <;> (have hil : i < len := by simpa using hi) <;> simp only [List.getElem_map, List.getElem_range]
      · exact (hf i hil).2.1
      · exact (hf i hil).2.2.1
      · exact (hf i hil).2.2.2.1
      · exact (hf i hil).2.2.2.2
theorem open_point_arg {H : Type} {enc : TypeId × Value → H} {W : World} {base : Nat} {v : Value} {d : DataW H} {p : List MemPlace} (hv : Value.okWide Tryz.prog W .any base 102 v)
    (h : DataW.Trod enc Tryz.prog W 0 (fun _ => true) true 102 v d p) : ∃ q : Pt, v = .agg #[.int .i64 q.xn, .int .i64 q.xd, .int .i64 q.yn, .int .i64 q.yd] ∧ q.I := by
  obtain ⟨cs, rfl, _⟩ := okWide_struct Tryz.underlying102 hv
  obtain ⟨fuel, hf⟩ := h
  obtain ⟨q, hq, hI⟩ := open_point hf
  refine ⟨q, ?_, hI⟩
  congr 1
  cases cs
  simp [Value.cells] at hq
  rw [hq]
end Go.Proofs.YtpdaenldmgpkjaaGreatDoor

/-
  How a fraction reads, as an argument.
-/
namespace Go.Proofs.YtpdaenldmgpkjaaGreatDoor
open Go.ChangeShapes Go.WideShapes Go.ChangeAt Go.RowKit Lead
set_option maxRecDepth 100000
theorem open_frac_arg {H : Type} {enc : TypeId × Value → H} {W : World} {base : Nat} {v : Value} {d : DataW H} {p : List MemPlace} (hv : Value.okWide Tryz.prog W .any base 49 v)
    (h : DataW.Trod enc Tryz.prog W 0 (fun _ => true) true 49 v d p) : ∃ q : Fr, v = .agg #[.int .i64 q.n, .int .i64 q.d] ∧ q.I := by
  obtain ⟨cs, rfl, _⟩ := okWide_struct Tryz.underlying49 hv
  obtain ⟨fuel, hf⟩ := h
  obtain ⟨n, d, hq, hn, hd⟩ := open_frac hf
  refine ⟨⟨n, d⟩, ?_, hn, hd⟩
  congr 1
  cases cs
  simp [Value.cells] at hq
  rw [hq]
end Go.Proofs.YtpdaenldmgpkjaaGreatDoor

/-
  How a move's six fractions read, as an argument.
-/
namespace Go.Proofs.YtpdaenldmgpkjaaGreatDoor
open Go.ChangeShapes Go.WideShapes Go.ChangeAt Go.RowKit Lead
set_option maxRecDepth 100000
theorem cellsSix : Tryz.prog.cellsOf 52 = 12 := by kernel_rfl
theorem open_six {H : Type} {enc : TypeId × Value → H} {w : World} {base : Nat} {spare : Nat → Bool} {held : Bool} {fuel : Nat} {cs : List Value} {x : DataW H × List MemPlace}
    (h : DataW.trod enc Tryz.prog w base spare held fuel 52 cs = some x) : ∃ m : Mv, cs = [.int .i64 m.A.n, .int .i64 m.A.d, .int .i64 m.B.n, .int .i64 m.B.d, .int .i64 m.C.n, .int .i64 m.C.d, .int .i64 m.D.n, .int .i64 m.D.d, .int .i64 m.E.n, .int .i64 m.E.d, .int .i64 m.F.n, .int .i64 m.F.d] ∧ m.I := by
  obtain ⟨xs, n, _, _, hl, hx, hi⟩ := DataW.trod_array Tryz.underlying52 h
  rw [cellsSix] at hl
  match cs, hl, xs, hx with
  | [c0, c1, c2, c3, c4, c5, c6, c7, c8, c9, c10, c11], _, [x0, x1, x2, x3, x4, x5], _ =>
    have h0 := hi 0 (by decide)
    have h1 := hi 1 (by decide)
    have h2 := hi 2 (by decide)
    have h3 := hi 3 (by decide)
    have h4 := hi 4 (by decide)
    have h5 := hi 5 (by decide)
    simp only [cellsFrac, Nat.reduceMul, List.drop_zero, List.take_succ_cons, List.take_zero, List.drop_succ_cons, List.getElem?_cons_zero, List.getElem?_cons_succ] at h0 h1 h2 h3 h4 h5
    obtain ⟨n0, d0, e0, w0, v0⟩ := open_frac h0
    obtain ⟨n1, d1, e1, w1, v1⟩ := open_frac h1
    obtain ⟨n2, d2, e2, w2, v2⟩ := open_frac h2
    obtain ⟨n3, d3, e3, w3, v3⟩ := open_frac h3
    obtain ⟨n4, d4, e4, w4, v4⟩ := open_frac h4
    obtain ⟨n5, d5, e5, w5, v5⟩ := open_frac h5
    simp at e0 e1 e2 e3 e4 e5
    obtain ⟨rfl, rfl⟩ := e0
    obtain ⟨rfl, rfl⟩ := e1
    obtain ⟨rfl, rfl⟩ := e2
    obtain ⟨rfl, rfl⟩ := e3
    obtain ⟨rfl, rfl⟩ := e4
    obtain ⟨rfl, rfl⟩ := e5
    exact ⟨⟨⟨n0, d0⟩, ⟨n1, d1⟩, ⟨n2, d2⟩, ⟨n3, d3⟩, ⟨n4, d4⟩, ⟨n5, d5⟩⟩, rfl, ⟨w0, v0⟩, ⟨w1, v1⟩, ⟨w2, v2⟩, ⟨w3, v3⟩, ⟨w4, v4⟩, ⟨w5, v5⟩⟩
theorem open_six_arg {H : Type} {enc : TypeId × Value → H} {W : World} {base : Nat} {v : Value} {d : DataW H} {p : List MemPlace} (hv : Value.okWide Tryz.prog W .any base 52 v)
    (h : DataW.Trod enc Tryz.prog W 0 (fun _ => true) true 52 v d p) : ∃ m : Mv, v = .agg #[.int .i64 m.A.n, .int .i64 m.A.d, .int .i64 m.B.n, .int .i64 m.B.d, .int .i64 m.C.n, .int .i64 m.C.d, .int .i64 m.D.n, .int .i64 m.D.d, .int .i64 m.E.n, .int .i64 m.E.d, .int .i64 m.F.n, .int .i64 m.F.d] ∧ m.I := by
  obtain ⟨cs, rfl⟩ : ∃ cs, v = .agg cs := by
    simp only [Value.okWide, Tryz.underlying52] at hv
    obtain ⟨cs, h1, _⟩ := hv
    exact ⟨cs, h1⟩
  obtain ⟨fuel, hf⟩ := h
  obtain ⟨m, hm, hI⟩ := open_six hf
  refine ⟨m, ?_, hI⟩
  congr 1
  cases cs
  simp [Value.cells] at hm
  rw [hm]
end Go.Proofs.YtpdaenldmgpkjaaGreatDoor
