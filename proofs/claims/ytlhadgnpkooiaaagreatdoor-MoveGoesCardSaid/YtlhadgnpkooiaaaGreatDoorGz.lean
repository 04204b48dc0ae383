/-
  Several texts as one: Oa, Lb, Mg4.
-/
import Derived.Test.YtlhadgnpkooiaaaGreatDoorRows
import Derived.ProofKit
import Derived.OpenShut
import Derived.Stop.LaidErr
import Derived.Deep.DeepHandedRow
import Derived.Deep.DeepWitnessRowRef
import Derived.LaidMore
import Derived.LaidHandle
import Derived.Test.YtlhadgnpkooiaaaGreatDoorPa
import Derived.Deep.Slices
import Derived.ChangeSame
import Derived.Test.YtlhadgnpkooiaaaGreatDoorMa
import Derived.Test.YtlhadgnpkooiaaaGreatDoorCode1
import Derived.Test.YtlhadgnpkooiaaaGreatDoorDec8
import Derived.Shelf.Vars
import Derived.LaidSub
import Derived.Handed
import Derived.Test.YtlhadgnpkooiaaaGreatDoorMh
import Derived.Lay
import Derived.Test.YtlhadgnpkooiaaaGreatDoorCards
import Derived.Test.YtlhadgnpkooiaaaGreatDoorTie
import Derived.ChangeMaps5
/-
  Several texts as one: Law, Open, Open2, Open3.
-/
/-
  From a walk that ends 'true; old memory is as it was' to the row: what all statements of this family share.
-/
namespace Lead
open Go Go.ChangeShapes Go.WideShapes Go.ChangeAt Go.RowKit

theorem trodAll_below {H : Type} {enc : TypeId × Value → H} {P : Program} (hl : laidOutB P = true) {W W' : World} (hb : Below W.heap.size W W') :
    ∀ {ts : List TypeId} {vs : List Value} {ds : List (DataW H)} {ps : List MemPlace}, (∀ t ∈ ts, P.readableRec t = true ∧ t < P.types.size) → DataW.TrodAll enc P W 0 (fun _ => true) true ts vs ds ps →
      (∀ x ∈ ps, x.block < W.heap.size) → DataW.TrodAll enc P W' 0 (fun b => decide (b < W.heap.size)) true ts vs ds ps := by
  intro ts
  induction ts with
  | nil =>
    intro vs ds ps _ h _
    obtain ⟨rfl, rfl, rfl⟩ := trodAll_nil h
    exact trodAll_mk0
  | cons t ts ih =>
    intro vs ds ps ht h hlt
    obtain ⟨v, vs', d, ds', p, q, rfl, rfl, rfl, h1, h2⟩ := trodAll_cons h
    exact trodAll_cons_mk (Below.trod hl (ht t (by simp)).1 (ht t (by simp)).2 h1 hb (fun x hx => hlt x (List.mem_append_left _ hx)))
      (ih (fun u hu => ht u (by simp [hu])) h2 (fun x hx => hlt x (List.mem_append_right _ hx)))

/-- A law's post: it returned true, and old memory is as it was. -/
theorem law_post {H : Type} {enc : TypeId × Value → H} {P : Program} {f : Func} {s : ChangeSpec} {W W' : World} {args : Array Value} {ds gs : List (DataW H)} {before : List MemPlace} {tb : TypeId}
    (hl : laidOutB P = true) (hread : ∀ t ∈ f.params.toList, P.readableRec t = true ∧ t < P.types.size) (hvars : s.vars = []) (htb : P.underlying tb = some .bool) (hres : f.resultTypes = #[tb])
    (hfn : ∀ ds, ds.length = f.params.size → s.fn H ds = { results := [.lit (.bool true)], args := ds })
    (hW : DataW.Whole enc P f.params.toList s.vars false W args.toList ds gs before) (hb : Below W.heap.size W W') : s.post enc P f false true false false W args (.bool true) W' := by
  have hW' := hW
  have hlt := hW.lt
  obtain ⟨p, q, hA, hV, rfl, hfz, hnd⟩ := hW
  rw [hvars] at hV
  obtain ⟨rfl, rfl⟩ := trodVars_none hV
  have hlen : ds.length = f.params.size := by
    have : ∀ {ts : List TypeId} {vs : List Value} {ds : List (DataW H)} {ps : List MemPlace}, DataW.TrodAll enc P W 0 (fun _ => true) true ts vs ds ps → ds.length = ts.length := by
      intro ts
      induction ts with
      | nil => intro vs ds ps h; obtain ⟨_, rfl, _⟩ := trodAll_nil h; rfl
      | cons t ts ih => intro vs ds ps h; obtain ⟨_, _, _, _, _, _, _, rfl, _, _, h2⟩ := trodAll_cons h; simp [ih h2]
    have := this hA
    simpa using this
  have e1 : s.fn H (ds ++ []) = { results := [.lit (.bool true)], args := ds } := by rw [List.append_nil]; exact hfn ds hlen
  refine ⟨_, _, _, [], p, [], hW', ?_, ?_, ?_, hb.frame _, fun h => by cases h⟩
  · rw [e1, hres]; exact trodAll_mk1 (shut_bool htb true)
  · rw [e1]; exact trodAll_below hl hb hread hA (fun x hx => hlt x (List.mem_append_left _ hx))
  · rw [e1, hvars]; rfl
end Lead
namespace Go.Proofs.YtlhadgnpkooiaaaGreatDoor
open Go.ChangeShapes Go.WideShapes Go.ChangeAt Go.RowKit Lead
set_option maxRecDepth 100000
theorem own : ownKnob Tryz.prog.godebug = none := by kernel_rfl
theorem laidOut : laidOutB Tryz.prog = true := by kernel_rfl
theorem starE : "*" ++ "errors.errorString" = "*errors.errorString" := by decide
theorem rowE (u : TypeId) (h : Tryz.prog.typeName? 3 u = some "*errors.errorString") : u = 183 :=
  typeName_ptr_named (nm := "errors.errorString") (by rw [starE]; kernel_rfl) (by kernel_rfl) (by decide) u (by rw [starE]; exact h)
theorem cellsES : Tryz.prog.cellsOf 185 = 1 := by kernel_rfl
theorem cellsStr : Tryz.prog.cellsOf 9 = 1 := by kernel_rfl

/-- What a listed error reads as. -/
def sentD (text : List UInt8) : DataW Unit := .iface "*errors.errorString" (.ptr (.agg [.lit (.string text)]))

/-- Listed errors lie at places of their own. -/
theorem sents_ind {W : World} : ∀ (L : List (String × List UInt8)) (ps : List MemPlace), DataW.LaidVars Tryz.prog W (L.map fun x => (x.1, sentD x.2)) ps → ps.Nodup →
    (∀ b off, MemPlace.cell b off ∈ ps → (∃ c t, W.heap[b]? = some (.cells c t (0, 0))) ∧ ∀ u v, W.cell? ⟨b, off, none⟩ = some (.iface u v) → Value.okWide Tryz.prog W .any 0 u v) →
    (∀ x ∈ L, ∃ g, Tryz.prog.globalNamed x.1 = some g ∧ (Tryz.prog.globals[g]?).map (·.type) = some 37) →
    ∃ As : List Addr, As.length = L.length ∧ As.Nodup ∧ (∀ a ∈ As, MemPlace.cell a.block a.off ∈ ps) ∧
      ∀ (i : Nat) (x : String × List UInt8) (a : Addr), L[i]? = some x → As[i]? = some a → (∀ g, Tryz.prog.globalNamed x.1 = some g → W.cell? ⟨g, 0, none⟩ = some (.iface 183 (.pointer (some a)))) ∧
        (∃ s, W.cell? a = some (.string s)) ∧ ∃ c t, W.heap[a.block]? = some (.cells c t (0, 0)) := by
  intro L
  induction L with
  | nil => intro ps _ _ _ _; exact ⟨[], rfl, List.nodup_nil, (fun a ha => by cases ha), (fun i x a hx => by simp at hx)⟩
  | cons y L ih =>
    intro ps h hnd hrows hg
    obtain ⟨g, t, cs, fuel, p, q, hg0, ht0, hv0, hd0, hq, rfl⟩ := h
    obtain ⟨g', hg1, hg2⟩ := hg y (by simp)
    obtain rfl := Option.some.inj (hg1.symm.trans hg0)
    obtain rfl := Option.some.inj (hg2.symm.trans ht0)
    have hc0 : 0 < cs.size → MemPlace.cell g' 0 ∈ MemPlace.row ⟨g', 0, none⟩ cs.size ++ p ++ q := fun h => by
      simp only [List.append_assoc, List.mem_append]
      exact .inl (List.mem_map.2 ⟨0, List.mem_range.2 h, by simp⟩)
    have ok0 : ∀ u v, cs.toList = [.iface u v] → Value.okWide Tryz.prog W .any 0 u v := fun u v e => by
      have hcs : cs = #[.iface u v] := by cases cs; simp_all
      subst hcs
      exact (hrows g' 0 (hc0 (by simp))).2 u v (by simpa using World.var?_cell hg0 hv0 0)
    obtain ⟨a0, s0, hcs, hca, _, _, rfl⟩ := errorString_of_trod Tryz.underlying37 rowE Tryz.underlying183 Tryz.underlying185 rfl rfl Tryz.underlying9 cellsES cellsStr hd0 ok0
    have hcs' : cs = #[.iface 183 (.pointer (some a0))] := by cases cs; simp_all
    subst hcs'
    obtain ⟨As, h1, h2, h3, h4⟩ := ih q hq (List.Nodup.sublist (List.sublist_append_right _ _) hnd) (fun b off hm => hrows b off (List.mem_append_right _ hm)) (fun x hx => hg x (by simp [hx]))
    have ha0 : MemPlace.cell a0.block a0.off ∈ MemPlace.row ⟨g', 0, none⟩ 1 ++ MemPlace.row a0 1 ++ q := by simp [MemPlace.row]
    refine ⟨a0 :: As, by simp [h1], List.nodup_cons.2 ⟨fun hm => ?_, h2⟩, ?_, ?_⟩
    · have hq2 := h3 a0 hm
      simp only [MemPlace.row, List.range_one, List.map_cons, List.map_nil, Nat.add_zero] at hnd
      have := (List.nodup_cons.1 (List.nodup_cons.1 hnd).2).1
      exact this hq2
    · intro a ha
      rcases List.mem_cons.1 ha with rfl | ha
      · exact ha0
      · exact List.mem_append_right _ (h3 a ha)
    · intro i x a hx ha
      cases i with
      | zero =>
        simp at hx ha
        subst hx ha
        refine ⟨fun g hgg => ?_, ⟨s0, hca⟩, (hrows _ _ ha0).1⟩
        obtain rfl := Option.some.inj (hg0.symm.trans hgg)
        simpa using World.var?_cell hg0 hv0 0
      | succ i => exact h4 i x a (by simpa using hx) (by simpa using ha)

end Go.Proofs.YtlhadgnpkooiaaaGreatDoor

/-
  How the arguments read: fractions, points, slices of points.
-/
namespace Go.Proofs.YtlhadgnpkooiaaaGreatDoor
open Go.ChangeShapes Go.WideShapes Go.ChangeAt Go.RowKit Lead
set_option maxRecDepth 100000

section
variable {H : Type} {enc : TypeId × Value → H} {w : World} {base : Nat} {spare : Nat → Bool} {held : Bool} {fuel : Nat} {cs : List Value} {x : DataW H × List MemPlace}

theorem cellsFrac : Tryz.prog.cellsOf 23 = 2 := by kernel_rfl
theorem cellsPoint : Tryz.prog.cellsOf 27 = 4 := by kernel_rfl
theorem cellsInt : Tryz.prog.cellsOf 3 = 1 := by kernel_rfl

theorem open_frac (h : DataW.trod enc Tryz.prog w base spare held fuel 23 cs = some x) : ∃ n d : Int, cs = [.int .i64 n, .int .i64 d] ∧ I64 n ∧ I64 d := by
  obtain ⟨y0, y1, m, _, hl, h0, h1⟩ := trod_struct2 Tryz.underlying23 h
  rw [cellsFrac] at hl
  match cs, hl with
  | [c0, c1], _ =>
    simp only [cellsInt, List.drop_zero, List.take_succ_cons, List.take_zero, List.drop_succ_cons] at h0 h1
    obtain ⟨n, e0, _, w0⟩ := DataW.trod_int Tryz.underlying3 h0
    obtain ⟨d, e1, _, w1⟩ := DataW.trod_int Tryz.underlying3 h1
    simp at e0 e1
    subst e0 e1
    exact ⟨n, d, rfl, I64.wf w0, I64.wf w1⟩
theorem open_point (h : DataW.trod enc Tryz.prog w base spare held fuel 27 cs = some x) : ∃ p : Pt, cs = [.int .i64 p.xn, .int .i64 p.xd, .int .i64 p.yn, .int .i64 p.yd] ∧ p.I := by
  obtain ⟨y0, y1, m, _, hl, h0, h1⟩ := trod_struct2 Tryz.underlying27 h
  rw [cellsPoint] at hl
  match cs, hl with
  | [c0, c1, c2, c3], _ =>
    simp only [cellsFrac, List.drop_zero, List.take_succ_cons, List.take_zero, List.drop_succ_cons] at h0 h1
    obtain ⟨n, d, e0, w0, w1⟩ := open_frac h0
    obtain ⟨n', d', e1, w2, w3⟩ := open_frac h1
    simp at e0 e1
    obtain ⟨rfl, rfl⟩ := e0
    obtain ⟨rfl, rfl⟩ := e1
    exact ⟨⟨n, d, n', d'⟩, rfl, ⟨w0, w1, w2, w3⟩⟩
end

theorem open_point_arg {H : Type} {enc : TypeId × Value → H} {W : World} {base : Nat} {v : Value} {d : DataW H} {p : List MemPlace} (hv : Value.okWide Tryz.prog W .any base 27 v)
    (h : DataW.Trod enc Tryz.prog W 0 (fun _ => true) true 27 v d p) : ∃ q : Pt, v = .agg #[.int .i64 q.xn, .int .i64 q.xd, .int .i64 q.yn, .int .i64 q.yd] ∧ q.I := by
  obtain ⟨cs, rfl, _⟩ := okWide_struct Tryz.underlying27 hv
  obtain ⟨fuel, hf⟩ := h
  obtain ⟨q, hq, hI⟩ := open_point hf
  refine ⟨q, ?_, hI⟩
  congr 1
  cases cs
  simp [Value.cells] at hq
  rw [hq]
end Go.Proofs.YtlhadgnpkooiaaaGreatDoor

/-
  How a fraction reads, as an argument.
-/
namespace Go.Proofs.YtlhadgnpkooiaaaGreatDoor
open Go.ChangeShapes Go.WideShapes Go.ChangeAt Go.RowKit Lead
set_option maxRecDepth 100000
end Go.Proofs.YtlhadgnpkooiaaaGreatDoor

/-
  How a move's six fractions read, as an argument.
-/
namespace Go.Proofs.YtlhadgnpkooiaaaGreatDoor
open Go.ChangeShapes Go.WideShapes Go.ChangeAt Go.RowKit Lead
set_option maxRecDepth 100000
theorem cellsSix : Tryz.prog.cellsOf 25 = 12 := by kernel_rfl
theorem open_six {H : Type} {enc : TypeId × Value → H} {w : World} {base : Nat} {spare : Nat → Bool} {held : Bool} {fuel : Nat} {cs : List Value} {x : DataW H × List MemPlace}
    (h : DataW.trod enc Tryz.prog w base spare held fuel 25 cs = some x) : ∃ m : Mv, cs = [.int .i64 m.A.n, .int .i64 m.A.d, .int .i64 m.B.n, .int .i64 m.B.d, .int .i64 m.C.n, .int .i64 m.C.d, .int .i64 m.D.n, .int .i64 m.D.d, .int .i64 m.E.n, .int .i64 m.E.d, .int .i64 m.F.n, .int .i64 m.F.d] ∧ m.I := by
  obtain ⟨xs, n, _, _, hl, hx, hi⟩ := DataW.trod_array Tryz.underlying25 h
  rw [cellsSix] at hl
  match cs, hl, xs, hx with
  | [c0, c1, c2, c3, c4, c5, c6, c7, c8, c9, c10, c11], _, [x0, x1, x2, x3, x4, x5], _ =>
    have h0 := hi 0 (by decide)
    have h1 := hi 1 (by decide)
    have h2 := hi 2 (by decide)
    have h3 := hi 3 (by decide)
    have h4 := hi 4 (by decide)
    have h5 := hi 5 (by decide)
    simp only [cellsFrac, Nat.reduceMul, List.drop_zero, List.take_succ_cons, List.take_zero, List.drop_succ_cons, List.getElem?_cons_zero, List.getElem?_cons_succ] at h0 h1 h2 h3 h4 h5
    obtain ⟨n0, d0, e0, w0, v0⟩ := open_frac h0
    obtain ⟨n1, d1, e1, w1, v1⟩ := open_frac h1
    obtain ⟨n2, d2, e2, w2, v2⟩ := open_frac h2
    obtain ⟨n3, d3, e3, w3, v3⟩ := open_frac h3
    obtain ⟨n4, d4, e4, w4, v4⟩ := open_frac h4
    obtain ⟨n5, d5, e5, w5, v5⟩ := open_frac h5
    simp at e0 e1 e2 e3 e4 e5
    obtain ⟨rfl, rfl⟩ := e0
    obtain ⟨rfl, rfl⟩ := e1
    obtain ⟨rfl, rfl⟩ := e2
    obtain ⟨rfl, rfl⟩ := e3
    obtain ⟨rfl, rfl⟩ := e4
    obtain ⟨rfl, rfl⟩ := e5
    exact ⟨⟨⟨n0, d0⟩, ⟨n1, d1⟩, ⟨n2, d2⟩, ⟨n3, d3⟩, ⟨n4, d4⟩, ⟨n5, d5⟩⟩, rfl, ⟨w0, v0⟩, ⟨w1, v1⟩, ⟨w2, v2⟩, ⟨w3, v3⟩, ⟨w4, v4⟩, ⟨w5, v5⟩⟩
theorem open_six_arg {H : Type} {enc : TypeId × Value → H} {W : World} {base : Nat} {v : Value} {d : DataW H} {p : List MemPlace} (hv : Value.okWide Tryz.prog W .any base 25 v)
    (h : DataW.Trod enc Tryz.prog W 0 (fun _ => true) true 25 v d p) : ∃ m : Mv, v = .agg #[.int .i64 m.A.n, .int .i64 m.A.d, .int .i64 m.B.n, .int .i64 m.B.d, .int .i64 m.C.n, .int .i64 m.C.d, .int .i64 m.D.n, .int .i64 m.D.d, .int .i64 m.E.n, .int .i64 m.E.d, .int .i64 m.F.n, .int .i64 m.F.d] ∧ m.I := by
  obtain ⟨cs, rfl⟩ : ∃ cs, v = .agg cs := by
    simp only [Value.okWide, Tryz.underlying25] at hv
    obtain ⟨cs, h1, _⟩ := hv
    exact ⟨cs, h1⟩
  obtain ⟨fuel, hf⟩ := h
  obtain ⟨m, hm, hI⟩ := open_six hf
  refine ⟨m, ?_, hI⟩
  congr 1
  cases cs
  simp [Value.cells] at hm
  rw [hm]
end Go.Proofs.YtlhadgnpkooiaaaGreatDoor

/-
  Several texts as one: Law2, Law3.
-/
/-
  The listed errors of package api, all of them, and errors.errorType: what a row's condition gives the walks.
-/
namespace Go.Proofs.YtlhadgnpkooiaaaGreatDoor
open Go.ChangeShapes Go.WideShapes Go.ChangeAt Go.RowKit Lead
set_option maxRecDepth 100000
namespace All
theorem gText : Tryz.prog.globalNamed "leadlight/api.ErrText" = some 1 := by kernel_rfl
theorem gtText : (Tryz.prog.globals[1]?).map (·.type) = some 37 := by kernel_rfl
theorem gBound : Tryz.prog.globalNamed "leadlight/api.ErrBound" = some 0 := by kernel_rfl
theorem gtBound : (Tryz.prog.globals[0]?).map (·.type) = some 37 := by kernel_rfl
theorem gShape : Tryz.prog.globalNamed "leadlight/api.ErrShape" = some 2 := by kernel_rfl
theorem gtShape : (Tryz.prog.globals[2]?).map (·.type) = some 37 := by kernel_rfl
theorem gName : Tryz.prog.globalNamed "leadlight/api.ErrName" = some 3 := by kernel_rfl
theorem gtName : (Tryz.prog.globals[3]?).map (·.type) = some 37 := by kernel_rfl
theorem gNone : Tryz.prog.globalNamed "leadlight/api.ErrNone" = some 4 := by kernel_rfl
theorem gtNone : (Tryz.prog.globals[4]?).map (·.type) = some 37 := by kernel_rfl
theorem gExist : Tryz.prog.globalNamed "leadlight/api.ErrExist" = some 5 := by kernel_rfl
theorem gtExist : (Tryz.prog.globals[5]?).map (·.type) = some 37 := by kernel_rfl
theorem gFull : Tryz.prog.globalNamed "leadlight/api.ErrFull" = some 6 := by kernel_rfl
theorem gtFull : (Tryz.prog.globals[6]?).map (·.type) = some 37 := by kernel_rfl
theorem gDeep : Tryz.prog.globalNamed "leadlight/api.ErrDeep" = some 7 := by kernel_rfl
theorem gtDeep : (Tryz.prog.globals[7]?).map (·.type) = some 37 := by kernel_rfl
theorem gCycle : Tryz.prog.globalNamed "leadlight/api.ErrCycle" = some 8 := by kernel_rfl
theorem gtCycle : (Tryz.prog.globals[8]?).map (·.type) = some 37 := by kernel_rfl
theorem gValue : Tryz.prog.globalNamed "leadlight/api.ErrValue" = some 9 := by kernel_rfl
theorem gtValue : (Tryz.prog.globals[9]?).map (·.type) = some 37 := by kernel_rfl
theorem gZero : Tryz.prog.globalNamed "leadlight/api.ErrZero" = some 10 := by kernel_rfl
theorem gtZero : (Tryz.prog.globals[10]?).map (·.type) = some 37 := by kernel_rfl
def L : List (String × List UInt8) := [("leadlight/api.ErrText", [108, 101, 97, 100, 108, 105, 103, 104, 116, 58, 32, 116, 101, 120, 116]), ("leadlight/api.ErrBound", [108, 101, 97, 100, 108, 105, 103, 104, 116, 58, 32, 98, 111, 117, 110, 100]), ("leadlight/api.ErrShape", [108, 101, 97, 100, 108, 105, 103, 104, 116, 58, 32, 115, 104, 97, 112, 101]), ("leadlight/api.ErrName", [108, 101, 97, 100, 108, 105, 103, 104, 116, 58, 32, 110, 97, 109, 101]), ("leadlight/api.ErrNone", [108, 101, 97, 100, 108, 105, 103, 104, 116, 58, 32, 110, 111, 110, 101]), ("leadlight/api.ErrExist", [108, 101, 97, 100, 108, 105, 103, 104, 116, 58, 32, 101, 120, 105, 115, 116]), ("leadlight/api.ErrFull", [108, 101, 97, 100, 108, 105, 103, 104, 116, 58, 32, 102, 117, 108, 108]), ("leadlight/api.ErrDeep", [108, 101, 97, 100, 108, 105, 103, 104, 116, 58, 32, 100, 101, 101, 112]), ("leadlight/api.ErrCycle", [108, 101, 97, 100, 108, 105, 103, 104, 116, 58, 32, 99, 121, 99, 108, 101]), ("leadlight/api.ErrValue", [108, 101, 97, 100, 108, 105, 103, 104, 116, 58, 32, 118, 97, 108, 117, 101]), ("leadlight/api.ErrZero", [108, 101, 97, 100, 108, 105, 103, 104, 116, 58, 32, 122, 101, 114, 111])]
theorem et : Tryz.prog.globalNamed "errors.errorType" = some 11 := by kernel_rfl
theorem rt : (Tryz.prog.cutTypes.find? (·.1 == "internal/reflectlite.rtype")).map (·.2) = some 125 := by kernel_rfl
theorem oneRow : ((List.range 221).filter fun t => Tryz.prog.rowNamed t [101, 114, 114, 111, 114]) = [37] := by kernel_rfl
theorem size : Tryz.prog.types.size = 221 := by kernel_rfl
theorem handle {W : World} (h : handlesMet Tryz.prog [("errors.errorType", (.iface "internal/reflectlite.rtype" (.agg [.ptr (.lit (.string [101, 114, 114, 111, 114]))]) : DataW Unit))] W) :
    W.cell? ⟨11, 0, none⟩ = some (.iface 125 (.agg #[.pointer (some ⟨20, 37, none⟩)])) := by
  obtain ⟨name, u, ty, e1, e2, e3, e4, e5⟩ := h _ (List.mem_singleton.2 rfl)
  have en : name = [101, 114, 114, 111, 114] := (Option.some.inj e1).symm
  subst en
  obtain rfl := Option.some.inj (rt.symm.trans e2)
  have hm : ty ∈ (List.range 221).filter fun t => Tryz.prog.rowNamed t [101, 114, 114, 111, 114] := List.mem_filter.2 ⟨List.mem_range.2 (by rw [← size]; exact e3), e4⟩
  rw [oneRow] at hm
  obtain rfl := List.mem_singleton.1 hm
  have hh : typeHandle Tryz.prog 37 = .pointer (some ⟨20, 37, none⟩) := by kernel_rfl
  rw [hh] at e5
  simpa using World.var?_cell et e5 0
theorem sents {W : World} (h : laidMet Tryz.prog (L.map fun x => (x.1, sentD x.2)) W)
    (hd : W.cell? ⟨11, 0, none⟩ = some (.iface 125 (.agg #[.pointer (some ⟨20, 37, none⟩)]))) : ∃ ea, Sents ea W := by
  obtain ⟨ps, h1, h2, h3⟩ := h
  obtain ⟨As, hl, hnd, _, h4⟩ := sents_ind L ps h1 h2 h3 (by
    intro x hx
    simp only [L, List.mem_cons, List.not_mem_nil, or_false] at hx
    rcases hx with rfl | rfl | rfl | rfl | rfl | rfl | rfl | rfl | rfl | rfl | rfl
    · exact ⟨_, gText, gtText⟩
    · exact ⟨_, gBound, gtBound⟩
    · exact ⟨_, gShape, gtShape⟩
    · exact ⟨_, gName, gtName⟩
    · exact ⟨_, gNone, gtNone⟩
    · exact ⟨_, gExist, gtExist⟩
    · exact ⟨_, gFull, gtFull⟩
    · exact ⟨_, gDeep, gtDeep⟩
    · exact ⟨_, gCycle, gtCycle⟩
    · exact ⟨_, gValue, gtValue⟩
    · exact ⟨_, gZero, gtZero⟩)
  have hl' : As.length = 11 := hl
  have at1 : ∀ i, 1 ≤ i → i ≤ 11 → As[i - 1]? = some (As.getD (i - 1) ⟨0, 0, none⟩) := fun i hi1 hi2 => by
    rw [List.getD_eq_getElem?_getD, List.getElem?_eq_getElem (by omega)]; rfl
  refine ⟨fun c => As.getD (c - 1) ⟨0, 0, none⟩, (h4 0 _ _ rfl (at1 1 (by decide) (by decide))).1 _ gText, (h4 1 _ _ rfl (at1 2 (by decide) (by decide))).1 _ gBound, (h4 2 _ _ rfl (at1 3 (by decide) (by decide))).1 _ gShape, (h4 3 _ _ rfl (at1 4 (by decide) (by decide))).1 _ gName, (h4 4 _ _ rfl (at1 5 (by decide) (by decide))).1 _ gNone, (h4 5 _ _ rfl (at1 6 (by decide) (by decide))).1 _ gExist, (h4 6 _ _ rfl (at1 7 (by decide) (by decide))).1 _ gFull, (h4 7 _ _ rfl (at1 8 (by decide) (by decide))).1 _ gDeep, (h4 8 _ _ rfl (at1 9 (by decide) (by decide))).1 _ gCycle, (h4 9 _ _ rfl (at1 10 (by decide) (by decide))).1 _ gValue, (h4 10 _ _ rfl (at1 11 (by decide) (by decide))).1 _ gZero, hd, ?_, ?_⟩
  · intro i j hij hi1 hi2 hj1 hj2 he
    have e1 := at1 i hi1 hi2
    have e2 := at1 j hj1 hj2
    have e3 : As[i - 1]? = As[j - 1]? := by rw [e1, e2, he]
    rw [List.getElem?_eq_getElem (by omega), List.getElem?_eq_getElem (by omega)] at e3
    have e4 := Option.some.inj e3
    have hp := List.pairwise_iff_getElem.1 hnd
    rcases Nat.lt_or_gt_of_ne hij with h | h
    · exact hp (i - 1) (j - 1) (by omega) (by omega) (by omega) e4
    · exact hp (j - 1) (i - 1) (by omega) (by omega) (by omega) e4.symm
  · intro i hi1 hi2
    have hx : ∃ x, L[i - 1]? = some x := ⟨_, List.getElem?_eq_getElem (show i - 1 < L.length by show i - 1 < 11; omega)⟩
    obtain ⟨x, hx⟩ := hx
    exact (h4 (i - 1) x _ hx (at1 i hi1 hi2)).2.2
end All
end Go.Proofs.YtlhadgnpkooiaaaGreatDoor

/-
  The wrap of a row that lists variables, with the world's shape kept; what the library's own variables hold, out of them.
-/
namespace Go
theorem returnsInHanded_of_change_and_shaped {H : Type} {enc : TypeId × Value → H} {a : Assume} {C : Checked} {os : Os} {f : FuncId} {fn : Func} {s : ChangeSpec} {conds : List PathCond} {apart fresh handsOn again : Bool} {X : World → Array Value → Prop}
    (hX : ∀ (w w' : World) (args : Array Value), w.heap = w'.heap → X w args → X w' args)
    (own : ownKnob C.prog.godebug = none) (started : os.Started) (noInit : C.prog.inits.idxOf? f = none) (hfn : C.prog.funcs[f]? = some fn)
    (witness : ∃ (w : World) (tape : Tape) (i : Input), w.os = os ∧ (w.forCall tape i).Shaped C.prog ∧ i.vars = [] ∧ Input.okWide C.prog (w.forCall tape i) .any w.heap.size f i ∧
      ((s.pre enc C.prog fn conds apart (w.forCall tape i).memory i.args ∧ X (w.forCall tape i).memory i.args) ∧ sizedMet enc C.prog fn (OpenSpec.ofChange s) apart (w.forCall tape i).memory i.args) ∧ a.holds C.prog (lone (Frame.enter C.prog f i.args .normal) [] (w.forCall tape i)))
    (contract : ∀ (W : World) (base : Nat) (args : Array Value) (ds gs : List (DataW H)) (before : List MemPlace),
      (∀ (j : Nat) t v, fn.params[j]? = some t → args[j]? = some v → Value.okWide C.prog W .any base t v) →
      DataW.Whole enc C.prog fn.params.toList s.vars apart W args.toList ds gs before →
      conds.all (PathCond.test C.prog ⟨fn.params.toList, ds, s.plain.varTypes C.prog, gs⟩) = true →
      (DataW.weightsEach C.prog (fn.params.toList ++ s.plain.varTypes C.prog) (ds ++ gs)).all (· ≤ reachBytes) = true → X W args → W.ShapedOpen C.prog →
      a.holds C.prog (lone (Frame.enter C.prog f args .normal) [] W) →
      Calls C.prog f args W fun e W' => ∃ v, e = .returned v ∧ s.post enc C.prog fn apart fresh handsOn again W args v W') :
    ReturnsInHanded a C os f .any (fun w args => (s.pre enc C.prog fn conds apart w args ∧ X w args) ∧ sizedMet enc C.prog fn (OpenSpec.ofChange s) apart w args) (s.post enc C.prog fn apart fresh handsOn again) := by
  refine returnsInHanded_of_calls own started noInit witness ?_
  intro w tape i _ hsh _ hok hpre hholds
  obtain ⟨_, _, _, fn', hfn', _, _, _, _, hval⟩ := hok
  have e : fn' = fn := Option.some.inj (hfn'.symm.trans hfn)
  subst e
  obtain ⟨⟨⟨ds, gs, before, hw, hc⟩, hx⟩, hz⟩ := hpre
  have hw' := DataW.Whole.of_heap (w' := w.forCall tape i) (by rfl) hw
  refine (contract (w.forCall tape i) w.heap.size i.args ds gs before hval hw' hc (hz.weights hw) (hX _ _ _ (by rfl) hx) hsh hholds).mono fun e W' ⟨v, he, hp⟩ => ?_
  subst he
  exact ChangeSpec.post_blind hp
end Go
namespace Go.Proofs.YtlhadgnpkooiaaaGreatDoor
open Go.ChangeShapes Go.WideShapes Go.ChangeAt Go.RowKit Lead
set_option maxRecDepth 100000
theorem maxlen_cell {W : World} (h : W.ShapedOpen Tryz.prog) : ∃ m, W.cell? ⟨12, 0, none⟩ = some (.int .i64 m) :=
  cell_of_shapedOpen_int (zero := #[.int .i64 0]) (t := 3) h (of_decide_eq_true (by kernel_rfl)) (by kernel_rfl) rfl (by kernel_rfl) (by kernel_rfl) Tryz.underlying3
theorem gSyn : Tryz.prog.globalNamed "strconv.ErrSyntax" = some 15 := by kernel_rfl
theorem gtSyn : (Tryz.prog.globals[15]?).map (·.type) = some 37 := by kernel_rfl
theorem gRan : Tryz.prog.globalNamed "strconv.ErrRange" = some 16 := by kernel_rfl
theorem gtRan : (Tryz.prog.globals[16]?).map (·.type) = some 37 := by kernel_rfl
def LibL : List (String × List UInt8) := [("strconv.ErrRange", [118, 97, 108, 117, 101, 32, 111, 117, 116, 32, 111, 102, 32, 114, 97, 110, 103, 101]), ("strconv.ErrSyntax", [105, 110, 118, 97, 108, 105, 100, 32, 115, 121, 110, 116, 97, 120])]
theorem libs_of {W : World} (h : laidMet Tryz.prog (LibL.map fun x => (x.1, sentD x.2)) W) (hsh : W.ShapedOpen Tryz.prog) (htab : Lib.TabIs Tryz.prog W "internal/strconv.uint64pow10" .u64 Lib.pow10Tab) : Libs W := by
  obtain ⟨ps, h1, h2, h3⟩ := h
  obtain ⟨As, hl, _, _, h4⟩ := sents_ind LibL ps h1 h2 h3 (by
    intro x hx
    simp only [LibL, List.mem_cons, List.not_mem_nil, or_false] at hx
    rcases hx with rfl | rfl
    · exact ⟨_, gRan, gtRan⟩
    · exact ⟨_, gSyn, gtSyn⟩)
  match As, hl with
  | [a0, a1], _ =>
    exact ⟨⟨_, _, (h4 1 _ a1 rfl rfl).1 _ gSyn⟩, ⟨_, _, (h4 0 _ a0 rfl rfl).1 _ gRan⟩, maxlen_cell hsh, htab⟩
end Go.Proofs.YtlhadgnpkooiaaaGreatDoor

/-
  The statement MoveGoes, proved: whatever the arguments the call returns true, and each argument reads behind the call as it read before. No condition of its own: what narrows the row is its cell 'laid' (the listed variables hold what the program's text lays), which the card ties.
-/
namespace Go.Proofs.YtlhadgnpkooiaaaGreatDoor.lawMoveGoes
open Go.ChangeShapes Go.WideShapes Go.ChangeAt Go.RowKit Lead
set_option maxRecDepth 100000

theorem gP10 : Tryz.prog.globalNamed "internal/strconv.uint64pow10" = some 17 := by kernel_rfl
theorem gtP10 : (Tryz.prog.globals[17]?).map (·.type) = some 187 := by kernel_rfl
theorem size_globs {W : World} (h : W.ShapedOpen Tryz.prog) : 20 ≤ W.heap.size := by
  have hs : (((begin Tryz.prog (fun _ _ => 0) default).world.heap[20 - 1]?).bind Obj.row?).isSome = true := by kernel_rfl
  obtain ⟨⟨zero, t⟩, hz⟩ := Option.isSome_iff_exists.1 hs
  obtain ⟨cs, hh, _⟩ := h.1 (20 - 1) zero t (of_decide_eq_true (by kernel_rfl)) hz
  have := (Array.getElem?_eq_some_iff.1 hh).1
  omega
/-- What the condition gives the walks. -/
theorem of_laid {W : World} (h : laidMetH Tryz.prog Rows.moveGoesRow.laid W) (hsh : W.ShapedOpen Tryz.prog) : ∃ ea : Nat → Addr, Sents ea W ∧ Libs W := by
  have hb : laidMet Tryz.prog [("math/bits.deBruijn32tab", Rows.laid_math_bits_deBruijn32tab), ("math/bits.deBruijn64tab", Rows.laid_math_bits_deBruijn64tab), ("internal/strconv.uint64pow10", Rows.laid_internal_strconv_uint64pow10), ("unicode/utf8.acceptRanges", Rows.laid_unicode_utf8_acceptRanges), ("leadlight/api.ErrText", Rows.laid_leadlight_api_ErrText), ("leadlight/api.ErrBound", Rows.laid_leadlight_api_ErrBound), ("leadlight/api.ErrShape", Rows.laid_leadlight_api_ErrShape), ("leadlight/api.ErrName", Rows.laid_leadlight_api_ErrName), ("leadlight/api.ErrNone", Rows.laid_leadlight_api_ErrNone), ("leadlight/api.ErrExist", Rows.laid_leadlight_api_ErrExist), ("leadlight/api.ErrFull", Rows.laid_leadlight_api_ErrFull), ("leadlight/api.ErrDeep", Rows.laid_leadlight_api_ErrDeep), ("leadlight/api.ErrCycle", Rows.laid_leadlight_api_ErrCycle), ("leadlight/api.ErrValue", Rows.laid_leadlight_api_ErrValue), ("leadlight/api.ErrZero", Rows.laid_leadlight_api_ErrZero), ("strconv.ErrRange", Rows.laid_strconv_ErrRange), ("strconv.ErrSyntax", Rows.laid_strconv_ErrSyntax), ("unicode/utf8.first", Rows.laid_unicode_utf8_first)] W ∧ handlesMet Tryz.prog [("errors.errorType", Rows.laid_errors_errorType)] W := h
  have htab : Lib.TabIs Tryz.prog W "internal/strconv.uint64pow10" .u64 Lib.pow10Tab := Lib.tabIs_of_head gP10 gtP10 Tryz.underlying187 Tryz.underlying168 (by kernel_rfl) (by kernel_rfl) (laidMet.tail (laidMet.tail hb.1))
  have h0 := laidMet.tail (laidMet.tail (laidMet.tail (laidMet.tail hb.1)))
  have h1 : laidMet Tryz.prog (All.L.map fun x => (x.1, sentD x.2)) W := laidMet.filter (fun x => x.1 != "strconv.ErrRange" && (x.1 != "strconv.ErrSyntax" && x.1 != "unicode/utf8.first")) h0
  have h2 : laidMet Tryz.prog (LibL.map fun x => (x.1, sentD x.2)) W := laidMet.filter (fun x => x.1 == "strconv.ErrRange" || x.1 == "strconv.ErrSyntax") h0
  obtain ⟨ea, hS⟩ := All.sents h1 (All.handle hb.2)
  exact ⟨ea, hS, libs_of h2 hsh htab⟩

theorem params : Tryz.f3.params = #[25, 25, 27, 9] := Tryz.params3

theorem contract (H : Type) (enc : TypeId × Value → H) (W : World) (base : Nat) (args : Array Value) (ds gs : List (DataW H)) (before : List MemPlace)
    (hval0 : ∀ (j : Nat) t v, Tryz.f3.params[j]? = some t → args[j]? = some v → Value.okWide Tryz.prog W .any base t v)
    (hW : DataW.Whole enc Tryz.prog Tryz.f3.params.toList Rows.moveGoesSpec.vars false W args.toList ds gs before) (hL : laidMetH Tryz.prog Rows.moveGoesRow.laid W) (hsh : W.ShapedOpen Tryz.prog) :
    Calls Tryz.prog 3 args W fun e W' => ∃ v, e = .returned v ∧ Rows.moveGoesSpec.post enc Tryz.prog Tryz.f3 false true false false W args v W' := by
  have hval := hval0
  have hWW := hW
  obtain ⟨p, q, hA, hV, _, _, _⟩ := hWW
  have hA' : DataW.TrodAll enc Tryz.prog W 0 (fun _ => true) true Tryz.f3.params.toList args.toList ds p := hA
  rw [params] at hA' hval
  obtain ⟨v0, vs0, d0, ds0, p0, q0, e0, rfl, rfl, h0, r0⟩ := trodAll_cons hA'
  obtain ⟨v1, vs1, d1, ds1, p1, q1, rfl, rfl, rfl, h1, r1⟩ := trodAll_cons r0
  obtain ⟨v2, vs2, d2, ds2, p2, q2, rfl, rfl, rfl, h2, r2⟩ := trodAll_cons r1
  obtain ⟨v3, vs3, d3, ds3, p3, q3, rfl, rfl, rfl, h3, r3⟩ := trodAll_cons r2
  obtain ⟨rfl, rfl, rfl⟩ := trodAll_nil r3
  obtain rfl : args = #[v0, v1, v2, v3] := by cases args; simp_all
  obtain ⟨m0, rfl, hm0⟩ := open_six_arg (hval 0 _ _ rfl rfl) h0
  obtain ⟨m1, rfl, hm1⟩ := open_six_arg (hval 1 _ _ rfl rfl) h1
  obtain ⟨pt2, rfl, hp2⟩ := open_point_arg (hval 2 _ _ rfl rfl) h2
  obtain ⟨s3, rfl, rfl, rfl, ws3⟩ := Go.ChangeMaps.open_string Tryz.underlying9 (hval 3 _ _ rfl rfl) h3
  obtain ⟨ea, hS, hLb⟩ := of_laid hL hsh
  have hng := size_globs hsh
  refine (mg_any ea m0 m1 pt2 s3 W hm0 hm1 hp2 hLb hS hng).mono fun e W' ⟨he, hb⟩ => ?_
  subst he
  exact ⟨_, rfl, law_post laidOut (by rw [params]; intro t ht; simp at ht; rcases ht with rfl | rfl | rfl <;> exact ⟨by kernel_rfl, of_decide_eq_true (by kernel_rfl)⟩) rfl Tryz.underlying4 (by kernel_rfl)
    (fun ds hds => by
      have : ds.length = 4 := hds.trans (by rw [params]; rfl)
      match ds, this with
      | [a, b, c, d], _ => rfl) hW hb⟩

/-- The world before the data are laid: errors.errorType holds its handle. -/
noncomputable def wBare (os : Os) : World := (World.holding Tryz.prog os ⟨#[], #[], []⟩).setCell ⟨11, 0, none⟩ (.iface 125 (.agg #[typeHandle Tryz.prog 37]))
noncomputable def wDoor (os : Os) : World := (wBare os).layVars Tryz.prog (Rows.moveGoesRow.laid.filter fun x => x.2.handleName?.isNone)
theorem laidAt {P : Program} {w0 : World} {laid : List (String × DataW Unit)} (args : Array Value) (hf : w0.layFits P laid [] = true) (hi : w0.layIfaces P laid (w0.layVars P laid) = true) :
    laidMet P laid (((w0.layVars P laid).forCall (fun _ _ => 0) ⟨#[], args, []⟩).memory) := by
  have e1 : (laid.filter fun x => (laid.map (·.1)).contains x.1) = laid := List.filter_eq_self.2 fun x hx => List.contains_iff_mem.2 (List.mem_map.2 ⟨x, hx, rfl⟩)
  have e2 : (laid.filter fun x => !(laid.map (·.1)).contains x.1) = [] := List.filter_eq_nil_iff.2 fun x hx => by rw [List.contains_iff_mem.2 (List.mem_map.2 ⟨x, hx, rfl⟩)]; simp
  have h : laidMet P laid (w0.layVars P laid) := laidMet_layVars (w0 := w0) (laid.map (·.1)) [] (by rw [e1]) (by rw [e1]; exact hf) (by rw [e1]; exact hi) (by rw [e2]; exact LaidIn.none)
  exact h.of_heap (by simp [World.memory, World.forCall, Input.heap])
theorem door_os (os : Os) : (wDoor os).os = os := (World.layVars_os _ _ _).trans rfl
theorem door_met (os : Os) (args : Array Value) : laidMetH Tryz.prog Rows.moveGoesRow.laid ((wDoor os).forCall (fun _ _ => 0) ⟨#[], args, []⟩).memory :=
  laidMetH_of_parts3 (fuel := 8) (laidAt args (by kernel_rfl) (by kernel_rfl)) (by kernel_rfl) (by kernel_rfl)

theorem lifted (os : Os) (started : os.Started) (H : Type) (enc : TypeId × Value → H) :
    ReturnsInHanded {} Tryz.checked os 3 .any (fun w args => (Rows.moveGoesSpec.pre enc Tryz.prog Tryz.f3 [] false w args ∧ laidMetH Tryz.prog Rows.moveGoesRow.laid w) ∧ sizedMet enc Tryz.prog Tryz.f3 (OpenSpec.ofChange Rows.moveGoesSpec) false w args)
      (Rows.moveGoesSpec.post enc Tryz.prog Tryz.f3 false true false false) := by
  refine returnsInHanded_of_change_and_shaped (C := Tryz.checked) (X := fun w _ => laidMetH Tryz.prog Rows.moveGoesRow.laid w) (fun _ _ _ hh h => h.of_heap hh) own started (by kernel_rfl) Tryz.func3
    (ChangeSpec.witness_shaped (enc := enc) (C := Tryz.checked) (os := os) (X := fun w _ => laidMetH Tryz.prog Rows.moveGoesRow.laid w) false (wDoor os) #[.agg #[.int .i64 0, .int .i64 0, .int .i64 0, .int .i64 0, .int .i64 0, .int .i64 0, .int .i64 0, .int .i64 0, .int .i64 0, .int .i64 0, .int .i64 0, .int .i64 0], .agg #[.int .i64 0, .int .i64 0, .int .i64 0, .int .i64 0, .int .i64 0, .int .i64 0, .int .i64 0, .int .i64 0, .int .i64 0, .int .i64 0, .int .i64 0, .int .i64 0], .agg #[.int .i64 0, .int .i64 0, .int .i64 0, .int .i64 0], .string ⟨#[]⟩] 8 (door_os _) (World.shaped_of_ZipB (by kernel_rfl) (by kernel_rfl)) (by kernel_rfl) (by kernel_rfl) (by kernel_rfl) (door_met os _)) ?_
  intro W base args ds gs before hval hW _ _ hL hsh _
  exact contract H enc W base args ds gs before hval hW hL hsh

theorem said : Rows.MoveGoesSaid :=
  OpenClaim.holds_of_wide 3 Tryz.f3 rfl rfl rfl rfl rfl rfl rfl ⟨rfl, rfl, rfl, rfl, rfl⟩ rfl rfl rfl rfl rfl (by kernel_rfl) Tryz.func3 (by kernel_rfl)
    (of_decide_eq_true (by kernel_rfl)) (by unfold Func.isWrapper; first | (rw [if_pos (by decide +kernel)]; kernel_rfl) | (rw [if_neg (by decide +kernel)]; exact ⟨rfl, rfl⟩))
    (fun os started H enc _ => lifted os started H enc)

theorem plain (f : FuncId) (fn : Func) (hf : Tryz.pinned.checked.prog.funcNamed "leadlight/leadlightlaw1.MoveGoes" = some f) (hfn : Tryz.pinned.checked.prog.funcs[f]? = some fn) :
    true = Tryz.pinned.checked.prog.looks [] ∧ ∀ (j : Nat) t, fn.params[j]? = some t → Tryz.pinned.checked.prog.wantsStandIn t = false := by
  obtain rfl : f = 3 := Option.some.inj ((show Tryz.prog.funcNamed "leadlight/leadlightlaw1.MoveGoes" = some 3 by kernel_rfl).symm.trans hf) |>.symm
  obtain rfl : fn = Tryz.f3 := (Option.some.inj (Tryz.func3.symm.trans hfn)).symm
  refine ⟨by kernel_rfl, fun j t ht => ?_⟩
  rw [params] at ht
  have hm := Array.mem_of_getElem? ht
  simp at hm
  rcases hm with rfl | rfl | rfl
  · exact (show Tryz.prog.wantsStandIn 25 = false by kernel_rfl)
  · exact (show Tryz.prog.wantsStandIn 27 = false by kernel_rfl)
  · exact (show Tryz.prog.wantsStandIn 9 = false by kernel_rfl)

/-- THE CARD. -/
theorem card : Rows.MoveGoesCardSaid :=
  Claim7.holds_tied_plain_at .later [] _ _ _ _ said (fun _ h => by cases h) (by kernel_rfl) (fun _ h => by cases h) moveGoes_row_tie rfl ⟨rfl, rfl⟩ (by kernel_rfl) rfl plain (by kernel_rfl)
#print axioms card
end Go.Proofs.YtlhadgnpkooiaaaGreatDoor.lawMoveGoes
