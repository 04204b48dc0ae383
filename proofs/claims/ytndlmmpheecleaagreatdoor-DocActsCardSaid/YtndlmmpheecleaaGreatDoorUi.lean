/-
  Several texts as one: LaD, Opd, OpA, LaE.
-/
import Derived.Test.YtndlmmpheecleaaGreatDoorRows
import Derived.ProofKit
import Derived.OpenShut
import Derived.Stop.LaidErr
import Derived.Deep.DeepHandedRow
import Derived.Deep.DeepWitnessRowRef
import Derived.LaidMore
import Derived.LaidHandle
import Derived.Test.YtndlmmpheecleaaGreatDoorDn
import Derived.Test.YtndlmmpheecleaaGreatDoorChecked
import Derived.Deep.Slices
import Derived.Test.YtndlmmpheecleaaGreatDoorUf
import Derived.Test.YtndlmmpheecleaaGreatDoorCd
/-
  From a walk that ends 'true; old memory is as it was' to the row: what all statements of this family share.
-/
namespace Lead
open Go Go.ChangeShapes Go.WideShapes Go.ChangeAt Go.RowKit

theorem trodAll_below {H : Type} {enc : TypeId × Value → H} {P : Program} (hl : laidOutB P = true) {W W' : World} (hb : Below W.heap.size W W') :
    ∀ {ts : List TypeId} {vs : List Value} {ds : List (DataW H)} {ps : List MemPlace}, (∀ t ∈ ts, P.readableRec t = true ∧ t < P.types.size) → DataW.TrodAll enc P W 0 (fun _ => true) true ts vs ds ps →
      (∀ x ∈ ps, x.block < W.heap.size) → DataW.TrodAll enc P W' 0 (fun b => decide (b < W.heap.size)) true ts vs ds ps := by
  intro ts
  induction ts with
  | nil =>
    intro vs ds ps _ h _
    obtain ⟨rfl, rfl, rfl⟩ := trodAll_nil h
    exact trodAll_mk0
  | cons t ts ih =>
    intro vs ds ps ht h hlt
    obtain ⟨v, vs', d, ds', p, q, rfl, rfl, rfl, h1, h2⟩ := trodAll_cons h
    exact trodAll_cons_mk (Below.trod hl (ht t (by simp)).1 (ht t (by simp)).2 h1 hb (fun x hx => hlt x (List.mem_append_left _ hx)))
      (ih (fun u hu => ht u (by simp [hu])) h2 (fun x hx => hlt x (List.mem_append_right _ hx)))

/-- A law's post: it returned true, and old memory is as it was. -/
theorem law_post {H : Type} {enc : TypeId × Value → H} {P : Program} {f : Func} {s : ChangeSpec} {W W' : World} {args : Array Value} {ds gs : List (DataW H)} {before : List MemPlace} {tb : TypeId}
    (hl : laidOutB P = true) (hread : ∀ t ∈ f.params.toList, P.readableRec t = true ∧ t < P.types.size) (hvars : s.vars = []) (htb : P.underlying tb = some .bool) (hres : f.resultTypes = #[tb])
    (hfn : ∀ ds, ds.length = f.params.size → s.fn H ds = { results := [.lit (.bool true)], args := ds })
    (hW : DataW.Whole enc P f.params.toList s.vars false W args.toList ds gs before) (hb : Below W.heap.size W W') : s.post enc P f false true false false W args (.bool true) W' := by
  have hW' := hW
  have hlt := hW.lt
  obtain ⟨p, q, hA, hV, rfl, hfz, hnd⟩ := hW
  rw [hvars] at hV
  obtain ⟨rfl, rfl⟩ := trodVars_none hV
  have hlen : ds.length = f.params.size := by
    have : ∀ {ts : List TypeId} {vs : List Value} {ds : List (DataW H)} {ps : List MemPlace}, DataW.TrodAll enc P W 0 (fun _ => true) true ts vs ds ps → ds.length = ts.length := by
      intro ts
      induction ts with
      | nil => intro vs ds ps h; obtain ⟨_, rfl, _⟩ := trodAll_nil h; rfl
      | cons t ts ih => intro vs ds ps h; obtain ⟨_, _, _, _, _, _, _, rfl, _, _, h2⟩ := trodAll_cons h; simp [ih h2]
    have := this hA
    simpa using this
  have e1 : s.fn H (ds ++ []) = { results := [.lit (.bool true)], args := ds } := by rw [List.append_nil]; exact hfn ds hlen
  refine ⟨_, _, _, [], p, [], hW', ?_, ?_, ?_, hb.frame _, fun h => by cases h⟩
  · rw [e1, hres]; exact trodAll_mk1 (shut_bool htb true)
  · rw [e1]; exact trodAll_below hl hb hread hA (fun x hx => hlt x (List.mem_append_left _ hx))
  · rw [e1, hvars]; rfl
end Lead
namespace Go.Proofs.YtndlmmpheecleaaGreatDoor
open Go.ChangeShapes Go.WideShapes Go.ChangeAt Go.RowKit Lead
set_option maxRecDepth 100000
theorem own : ownKnob Tryz.prog.godebug = none := by kernel_rfl
theorem laidOut : laidOutB Tryz.prog = true := by kernel_rfl
theorem starE : "*" ++ "errors.errorString" = "*errors.errorString" := by decide
theorem rowE (u : TypeId) (h : Tryz.prog.typeName? 3 u = some "*errors.errorString") : u = 264 :=
  typeName_ptr_named (nm := "errors.errorString") (by rw [starE]; kernel_rfl) (by kernel_rfl) (by decide) u (by rw [starE]; exact h)
theorem cellsES : Tryz.prog.cellsOf 266 = 1 := by kernel_rfl
theorem cellsStr : Tryz.prog.cellsOf 9 = 1 := by kernel_rfl

/-- What a listed error reads as. -/
def sentD (text : List UInt8) : DataW Unit := .iface "*errors.errorString" (.ptr (.agg [.lit (.string text)]))

/-- Listed errors lie at places of their own. -/
theorem sents_ind {W : World} : ∀ (L : List (String × List UInt8)) (ps : List MemPlace), DataW.LaidVars Tryz.prog W (L.map fun x => (x.1, sentD x.2)) ps → ps.Nodup →
    (∀ b off, MemPlace.cell b off ∈ ps → (∃ c t, W.heap[b]? = some (.cells c t (0, 0))) ∧ ∀ u v, W.cell? ⟨b, off, none⟩ = some (.iface u v) → Value.okWide Tryz.prog W .any 0 u v) →
    (∀ x ∈ L, ∃ g, Tryz.prog.globalNamed x.1 = some g ∧ (Tryz.prog.globals[g]?).map (·.type) = some 32) →
    ∃ As : List Addr, As.length = L.length ∧ As.Nodup ∧ (∀ a ∈ As, MemPlace.cell a.block a.off ∈ ps) ∧
      ∀ (i : Nat) (x : String × List UInt8) (a : Addr), L[i]? = some x → As[i]? = some a → (∀ g, Tryz.prog.globalNamed x.1 = some g → W.cell? ⟨g, 0, none⟩ = some (.iface 264 (.pointer (some a)))) ∧
        (∃ s, W.cell? a = some (.string s)) ∧ ∃ c t, W.heap[a.block]? = some (.cells c t (0, 0)) := by
  intro L
  induction L with
  | nil => intro ps _ _ _ _; exact ⟨[], rfl, List.nodup_nil, (fun a ha => by cases ha), (fun i x a hx => by simp at hx)⟩
  | cons y L ih =>
    intro ps h hnd hrows hg
    obtain ⟨g, t, cs, fuel, p, q, hg0, ht0, hv0, hd0, hq, rfl⟩ := h
    obtain ⟨g', hg1, hg2⟩ := hg y (by simp)
    obtain rfl := Option.some.inj (hg1.symm.trans hg0)
    obtain rfl := Option.some.inj (hg2.symm.trans ht0)
    have hc0 : 0 < cs.size → MemPlace.cell g' 0 ∈ MemPlace.row ⟨g', 0, none⟩ cs.size ++ p ++ q := fun h => by
      simp only [List.append_assoc, List.mem_append]
      exact .inl (List.mem_map.2 ⟨0, List.mem_range.2 h, by simp⟩)
    have ok0 : ∀ u v, cs.toList = [.iface u v] → Value.okWide Tryz.prog W .any 0 u v := fun u v e => by
      have hcs : cs = #[.iface u v] := by cases cs; simp_all
      subst hcs
      exact (hrows g' 0 (hc0 (by simp))).2 u v (by simpa using World.var?_cell hg0 hv0 0)
    obtain ⟨a0, s0, hcs, hca, _, _, rfl⟩ := errorString_of_trod Tryz.underlying32 rowE Tryz.underlying264 Tryz.underlying266 rfl rfl Tryz.underlying9 cellsES cellsStr hd0 ok0
    have hcs' : cs = #[.iface 264 (.pointer (some a0))] := by cases cs; simp_all
    subst hcs'
    obtain ⟨As, h1, h2, h3, h4⟩ := ih q hq (List.Nodup.sublist (List.sublist_append_right _ _) hnd) (fun b off hm => hrows b off (List.mem_append_right _ hm)) (fun x hx => hg x (by simp [hx]))
    have ha0 : MemPlace.cell a0.block a0.off ∈ MemPlace.row ⟨g', 0, none⟩ 1 ++ MemPlace.row a0 1 ++ q := by simp [MemPlace.row]
    refine ⟨a0 :: As, by simp [h1], List.nodup_cons.2 ⟨fun hm => ?_, h2⟩, ?_, ?_⟩
    · have hq2 := h3 a0 hm
      simp only [MemPlace.row, List.range_one, List.map_cons, List.map_nil, Nat.add_zero] at hnd
      have := (List.nodup_cons.1 (List.nodup_cons.1 hnd).2).1
      exact this hq2
    · intro a ha
      rcases List.mem_cons.1 ha with rfl | ha
      · exact ha0
      · exact List.mem_append_right _ (h3 a ha)
    · intro i x a hx ha
      cases i with
      | zero =>
        simp at hx ha
        subst hx ha
        refine ⟨fun g hgg => ?_, ⟨s0, hca⟩, (hrows _ _ ha0).1⟩
        obtain rfl := Option.some.inj (hg0.symm.trans hgg)
        simpa using World.var?_cell hg0 hv0 0
      | succ i => exact h4 i x a (by simpa using hx) (by simpa using ha)

end Go.Proofs.YtndlmmpheecleaaGreatDoor

/-
  A node as an argument: how it reads.
-/
namespace Go.Proofs.YtndlmmpheecleaaGreatDoor
open Go.ChangeShapes Go.WideShapes Go.ChangeAt Go.RowKit Lead Lead.Dc
set_option maxRecDepth 100000
theorem nodeTys : NodeTys Tryz.prog 25 23 22 59 9 :=
  ⟨⟨_, _, _, Tryz.underlying25, rfl, rfl, rfl, rfl, rfl, rfl⟩, ⟨_, _, Tryz.underlying59, rfl, rfl, rfl, rfl⟩, Tryz.underlying23, Tryz.underlying22, Tryz.underlying9, by kernel_rfl, by kernel_rfl, by kernel_rfl, by kernel_rfl, by kernel_rfl⟩
theorem open_nodearg {H : Type} {enc : TypeId × Value → H} {W : World} {base : Nat} {v : Value} {d : DataW H} {p : List MemPlace} (hv : Value.okWide Tryz.prog W .any base 25 v)
    (h : DataW.Trod enc Tryz.prog W 0 (fun _ => true) true 25 v d p) : ∃ n : NT, v = .agg n.vals.toArray ∧ NodeOk W n := by
  obtain ⟨cs, rfl, _⟩ := okWide_struct Tryz.underlying25 hv
  obtain ⟨fuel, hf⟩ := h
  obtain ⟨n, hq, hn⟩ := open_node nodeTys _ _ _ hf
  refine ⟨n, ?_, hn⟩
  congr 1
  cases cs
  simp [Value.cells] at hq
  rw [hq]
end Go.Proofs.YtndlmmpheecleaaGreatDoor

/-
  Acts on a document as an argument: how they read.
-/
namespace Go.Proofs.YtndlmmpheecleaaGreatDoor
open Go.ChangeShapes Go.WideShapes Go.ChangeAt Go.RowKit Lead Lead.Dc
set_option maxRecDepth 100000
theorem cellsI : Tryz.prog.cellsOf 3 = 1 := by kernel_rfl
theorem cS9 : Tryz.prog.cellsOf 9 = 1 := by kernel_rfl
theorem cellsA : Tryz.prog.cellsOf 42 = 6 := by kernel_rfl
section
variable {H : Type} {enc : TypeId × Value → H} {w : World} {base : Nat} {spare : Nat → Bool} {held : Bool} {fuel : Nat} {cs : List Value} {x : DataW H × List MemPlace}
theorem open_act (h : DataW.trod enc Tryz.prog w base spare held fuel 42 cs = some x) : ∃ a : AcX, cs = EAc.enc a ∧ I64 a.id ∧ I64 a.dst ∧ I64 a.at' := by
  obtain ⟨xs, n, hf, _, hl, hlen, hfs⟩ := DataW.trod_struct Tryz.underlying42 h
  match xs, hlen with
  | [y0, y1, y2, y3, y4, y5], _ =>
    have h0 := hfs 0 _ rfl
    have h1 := hfs 1 _ rfl
    have h2 := hfs 2 _ rfl
    have h3 := hfs 3 _ rfl
    have h4 := hfs 4 _ rfl
    have h5 := hfs 5 _ rfl
    rw [cellsA] at hl
    match cs, hl with
    | [c0, c1, c2, c3, c4, c5], _ =>
      simp only [cellsI, cS9, List.drop_zero, List.take_succ_cons, List.take_zero, List.drop_succ_cons, List.getElem?_cons_zero, List.getElem?_cons_succ] at h0 h1 h2 h3 h4 h5
      obtain ⟨s0, e0, _⟩ := DataW.trod_string Tryz.underlying9 h0
      obtain ⟨i1, e1, _, w1⟩ := DataW.trod_int Tryz.underlying3 h1
      obtain ⟨i2, e2, _, w2⟩ := DataW.trod_int Tryz.underlying3 h2
      obtain ⟨i3, e3, _, w3⟩ := DataW.trod_int Tryz.underlying3 h3
      obtain ⟨s4, e4, _⟩ := DataW.trod_string Tryz.underlying9 h4
      obtain ⟨s5, e5, _⟩ := DataW.trod_string Tryz.underlying9 h5
      simp [cellsI, cS9] at e0 e1 e2 e3 e4 e5
      subst e0 e1 e2 e3 e4 e5
      exact ⟨⟨s0, i1, i2, i3, s4, s5⟩, rfl, I64.wf w1, I64.wf w2, I64.wf w3⟩
end
theorem open_acts {H : Type} {enc : TypeId × Value → H} {W : World} {base : Nat} {v : Value} {d : DataW H} {p : List MemPlace} (hv : Value.okWide Tryz.prog W .any base 26 v)
    (h : DataW.Trod enc Tryz.prog W 0 (fun _ => true) true 26 v d p) : ∃ oa len cap acts, v = .slice oa len cap ∧ SlA EAc W oa len cap acts ∧ ∀ a ∈ acts, I64 a.id ∧ I64 a.dst ∧ I64 a.at' := by
  obtain ⟨oa, len, cap, rfl⟩ := okWide_slice Tryz.underlying26 hv
  obtain ⟨fuel, hf⟩ := h
  haveI : Inhabited AcX := ⟨⟨⟨#[]⟩, 0, 0, 0, ⟨#[]⟩, ⟨#[]⟩⟩⟩
  obtain ⟨oa', len', cap', acts, e, hs, hq⟩ := open_rowA (Q := fun a : AcX => I64 a.id ∧ I64 a.dst ∧ I64 a.at') EAc Tryz.underlying26 cellsA (fun m _ cs' y hy => open_act hy) hf
  simp [Value.cells] at e
  obtain ⟨rfl, rfl, rfl⟩ := e
  exact ⟨_, _, _, acts, rfl, hs, hq⟩
end Go.Proofs.YtndlmmpheecleaaGreatDoor

/-
  The listed errors of package api, all of them, and errors.errorType: what a row's condition gives the walks.
-/
namespace Go.Proofs.YtndlmmpheecleaaGreatDoor
open Go.ChangeShapes Go.WideShapes Go.ChangeAt Go.RowKit Lead
set_option maxRecDepth 100000
namespace All
theorem gText : Tryz.prog.globalNamed "leadlight/api.ErrText" = some 8 := by kernel_rfl
theorem gtText : (Tryz.prog.globals[8]?).map (·.type) = some 32 := by kernel_rfl
theorem gBound : Tryz.prog.globalNamed "leadlight/api.ErrBound" = some 1 := by kernel_rfl
theorem gtBound : (Tryz.prog.globals[1]?).map (·.type) = some 32 := by kernel_rfl
theorem gShape : Tryz.prog.globalNamed "leadlight/api.ErrShape" = some 5 := by kernel_rfl
theorem gtShape : (Tryz.prog.globals[5]?).map (·.type) = some 32 := by kernel_rfl
theorem gName : Tryz.prog.globalNamed "leadlight/api.ErrName" = some 2 := by kernel_rfl
theorem gtName : (Tryz.prog.globals[2]?).map (·.type) = some 32 := by kernel_rfl
theorem gNone : Tryz.prog.globalNamed "leadlight/api.ErrNone" = some 0 := by kernel_rfl
theorem gtNone : (Tryz.prog.globals[0]?).map (·.type) = some 32 := by kernel_rfl
theorem gExist : Tryz.prog.globalNamed "leadlight/api.ErrExist" = some 9 := by kernel_rfl
theorem gtExist : (Tryz.prog.globals[9]?).map (·.type) = some 32 := by kernel_rfl
theorem gFull : Tryz.prog.globalNamed "leadlight/api.ErrFull" = some 4 := by kernel_rfl
theorem gtFull : (Tryz.prog.globals[4]?).map (·.type) = some 32 := by kernel_rfl
theorem gDeep : Tryz.prog.globalNamed "leadlight/api.ErrDeep" = some 3 := by kernel_rfl
theorem gtDeep : (Tryz.prog.globals[3]?).map (·.type) = some 32 := by kernel_rfl
theorem gCycle : Tryz.prog.globalNamed "leadlight/api.ErrCycle" = some 6 := by kernel_rfl
theorem gtCycle : (Tryz.prog.globals[6]?).map (·.type) = some 32 := by kernel_rfl
theorem gValue : Tryz.prog.globalNamed "leadlight/api.ErrValue" = some 7 := by kernel_rfl
theorem gtValue : (Tryz.prog.globals[7]?).map (·.type) = some 32 := by kernel_rfl
theorem gZero : Tryz.prog.globalNamed "leadlight/api.ErrZero" = some 10 := by kernel_rfl
theorem gtZero : (Tryz.prog.globals[10]?).map (·.type) = some 32 := by kernel_rfl
def L : List (String × List UInt8) := [("leadlight/api.ErrText", [108, 101, 97, 100, 108, 105, 103, 104, 116, 58, 32, 116, 101, 120, 116]), ("leadlight/api.ErrBound", [108, 101, 97, 100, 108, 105, 103, 104, 116, 58, 32, 98, 111, 117, 110, 100]), ("leadlight/api.ErrShape", [108, 101, 97, 100, 108, 105, 103, 104, 116, 58, 32, 115, 104, 97, 112, 101]), ("leadlight/api.ErrName", [108, 101, 97, 100, 108, 105, 103, 104, 116, 58, 32, 110, 97, 109, 101]), ("leadlight/api.ErrNone", [108, 101, 97, 100, 108, 105, 103, 104, 116, 58, 32, 110, 111, 110, 101]), ("leadlight/api.ErrExist", [108, 101, 97, 100, 108, 105, 103, 104, 116, 58, 32, 101, 120, 105, 115, 116]), ("leadlight/api.ErrFull", [108, 101, 97, 100, 108, 105, 103, 104, 116, 58, 32, 102, 117, 108, 108]), ("leadlight/api.ErrDeep", [108, 101, 97, 100, 108, 105, 103, 104, 116, 58, 32, 100, 101, 101, 112]), ("leadlight/api.ErrCycle", [108, 101, 97, 100, 108, 105, 103, 104, 116, 58, 32, 99, 121, 99, 108, 101]), ("leadlight/api.ErrValue", [108, 101, 97, 100, 108, 105, 103, 104, 116, 58, 32, 118, 97, 108, 117, 101]), ("leadlight/api.ErrZero", [108, 101, 97, 100, 108, 105, 103, 104, 116, 58, 32, 122, 101, 114, 111])]
theorem et : Tryz.prog.globalNamed "errors.errorType" = some 11 := by kernel_rfl
theorem rt : (Tryz.prog.cutTypes.find? (·.1 == "internal/reflectlite.rtype")).map (·.2) = some 217 := by kernel_rfl
theorem oneRow : ((List.range 301).filter fun t => Tryz.prog.rowNamed t [101, 114, 114, 111, 114]) = [32] := by kernel_rfl
theorem size : Tryz.prog.types.size = 301 := by kernel_rfl
theorem handle {W : World} (h : handlesMet Tryz.prog [("errors.errorType", (.iface "internal/reflectlite.rtype" (.agg [.ptr (.lit (.string [101, 114, 114, 111, 114]))]) : DataW Unit))] W) :
    W.cell? ⟨11, 0, none⟩ = some (.iface 217 (.agg #[.pointer (some ⟨20, 32, none⟩)])) := by
  obtain ⟨name, u, ty, e1, e2, e3, e4, e5⟩ := h _ (List.mem_singleton.2 rfl)
  have en : name = [101, 114, 114, 111, 114] := (Option.some.inj e1).symm
  subst en
  obtain rfl := Option.some.inj (rt.symm.trans e2)
  have hm : ty ∈ (List.range 301).filter fun t => Tryz.prog.rowNamed t [101, 114, 114, 111, 114] := List.mem_filter.2 ⟨List.mem_range.2 (by rw [← size]; exact e3), e4⟩
  rw [oneRow] at hm
  obtain rfl := List.mem_singleton.1 hm
  have hh : typeHandle Tryz.prog 32 = .pointer (some ⟨20, 32, none⟩) := by kernel_rfl
  rw [hh] at e5
  simpa using World.var?_cell et e5 0
theorem sents {W : World} (h : laidMet Tryz.prog (L.map fun x => (x.1, sentD x.2)) W)
    (hd : W.cell? ⟨11, 0, none⟩ = some (.iface 217 (.agg #[.pointer (some ⟨20, 32, none⟩)]))) : ∃ ea, Sents ea W := by
  obtain ⟨ps, h1, h2, h3⟩ := h
  obtain ⟨As, hl, hnd, _, h4⟩ := sents_ind L ps h1 h2 h3 (by
    intro x hx
    simp only [L, List.mem_cons, List.not_mem_nil, or_false] at hx
    rcases hx with rfl | rfl | rfl | rfl | rfl | rfl | rfl | rfl | rfl | rfl | rfl
    · exact ⟨_, gText, gtText⟩
    · exact ⟨_, gBound, gtBound⟩
    · exact ⟨_, gShape, gtShape⟩
    · exact ⟨_, gName, gtName⟩
    · exact ⟨_, gNone, gtNone⟩
    · exact ⟨_, gExist, gtExist⟩
    · exact ⟨_, gFull, gtFull⟩
    · exact ⟨_, gDeep, gtDeep⟩
    · exact ⟨_, gCycle, gtCycle⟩
    · exact ⟨_, gValue, gtValue⟩
    · exact ⟨_, gZero, gtZero⟩)
  have hl' : As.length = 11 := hl
  have at1 : ∀ i, 1 ≤ i → i ≤ 11 → As[i - 1]? = some (As.getD (i - 1) ⟨0, 0, none⟩) := fun i hi1 hi2 => by
    rw [List.getD_eq_getElem?_getD, List.getElem?_eq_getElem (by omega)]; rfl
  refine ⟨fun c => As.getD (c - 1) ⟨0, 0, none⟩, (h4 0 _ _ rfl (at1 1 (by decide) (by decide))).1 _ gText, (h4 1 _ _ rfl (at1 2 (by decide) (by decide))).1 _ gBound, (h4 2 _ _ rfl (at1 3 (by decide) (by decide))).1 _ gShape, (h4 3 _ _ rfl (at1 4 (by decide) (by decide))).1 _ gName, (h4 4 _ _ rfl (at1 5 (by decide) (by decide))).1 _ gNone, (h4 5 _ _ rfl (at1 6 (by decide) (by decide))).1 _ gExist, (h4 6 _ _ rfl (at1 7 (by decide) (by decide))).1 _ gFull, (h4 7 _ _ rfl (at1 8 (by decide) (by decide))).1 _ gDeep, (h4 8 _ _ rfl (at1 9 (by decide) (by decide))).1 _ gCycle, (h4 9 _ _ rfl (at1 10 (by decide) (by decide))).1 _ gValue, (h4 10 _ _ rfl (at1 11 (by decide) (by decide))).1 _ gZero, hd, ?_, ?_⟩
  · intro i j hij hi1 hi2 hj1 hj2 he
    have e1 := at1 i hi1 hi2
    have e2 := at1 j hj1 hj2
    have e3 : As[i - 1]? = As[j - 1]? := by rw [e1, e2, he]
    rw [List.getElem?_eq_getElem (by omega), List.getElem?_eq_getElem (by omega)] at e3
    have e4 := Option.some.inj e3
    have hp := List.pairwise_iff_getElem.1 hnd
    rcases Nat.lt_or_gt_of_ne hij with h | h
    · exact hp (i - 1) (j - 1) (by omega) (by omega) (by omega) e4
    · exact hp (j - 1) (i - 1) (by omega) (by omega) (by omega) e4.symm
  · intro i hi1 hi2
    have hx : ∃ x, L[i - 1]? = some x := ⟨_, List.getElem?_eq_getElem (show i - 1 < L.length by show i - 1 < 11; omega)⟩
    obtain ⟨x, hx⟩ := hx
    exact (h4 (i - 1) x _ hx (at1 i hi1 hi2)).2.2
end All
end Go.Proofs.YtndlmmpheecleaaGreatDoor
