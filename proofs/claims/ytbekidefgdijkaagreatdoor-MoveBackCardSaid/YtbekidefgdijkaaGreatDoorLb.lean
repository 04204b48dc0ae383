/-
  Several texts as one: Law2, Law3.
-/
import Derived.Test.YtbekidefgdijkaaGreatDoorOa
import Derived.Test.YtbekidefgdijkaaGreatDoorCode1
import Derived.LaidHandle
import Derived.Test.YtbekidefgdijkaaGreatDoorDec8
import Derived.Shelf.Vars
import Derived.LaidSub
import Derived.Handed
/-
  The listed errors of package api, all of them, and errors.errorType: what a row's condition gives the walks.
-/
namespace Go.Proofs.YtbekidefgdijkaaGreatDoor
open Go.ChangeShapes Go.WideShapes Go.ChangeAt Go.RowKit Lead
set_option maxRecDepth 100000
namespace All
theorem gText : Tryz.prog.globalNamed "leadlight/api.ErrText" = some 0 := by kernel_rfl
theorem gtText : (Tryz.prog.globals[0]?).map (·.type) = some 31 := by kernel_rfl
theorem gBound : Tryz.prog.globalNamed "leadlight/api.ErrBound" = some 1 := by kernel_rfl
theorem gtBound : (Tryz.prog.globals[1]?).map (·.type) = some 31 := by kernel_rfl
theorem gShape : Tryz.prog.globalNamed "leadlight/api.ErrShape" = some 4 := by kernel_rfl
theorem gtShape : (Tryz.prog.globals[4]?).map (·.type) = some 31 := by kernel_rfl
theorem gName : Tryz.prog.globalNamed "leadlight/api.ErrName" = some 5 := by kernel_rfl
theorem gtName : (Tryz.prog.globals[5]?).map (·.type) = some 31 := by kernel_rfl
theorem gNone : Tryz.prog.globalNamed "leadlight/api.ErrNone" = some 6 := by kernel_rfl
theorem gtNone : (Tryz.prog.globals[6]?).map (·.type) = some 31 := by kernel_rfl
theorem gExist : Tryz.prog.globalNamed "leadlight/api.ErrExist" = some 7 := by kernel_rfl
theorem gtExist : (Tryz.prog.globals[7]?).map (·.type) = some 31 := by kernel_rfl
theorem gFull : Tryz.prog.globalNamed "leadlight/api.ErrFull" = some 8 := by kernel_rfl
theorem gtFull : (Tryz.prog.globals[8]?).map (·.type) = some 31 := by kernel_rfl
theorem gDeep : Tryz.prog.globalNamed "leadlight/api.ErrDeep" = some 9 := by kernel_rfl
theorem gtDeep : (Tryz.prog.globals[9]?).map (·.type) = some 31 := by kernel_rfl
theorem gCycle : Tryz.prog.globalNamed "leadlight/api.ErrCycle" = some 10 := by kernel_rfl
theorem gtCycle : (Tryz.prog.globals[10]?).map (·.type) = some 31 := by kernel_rfl
theorem gValue : Tryz.prog.globalNamed "leadlight/api.ErrValue" = some 3 := by kernel_rfl
theorem gtValue : (Tryz.prog.globals[3]?).map (·.type) = some 31 := by kernel_rfl
theorem gZero : Tryz.prog.globalNamed "leadlight/api.ErrZero" = some 2 := by kernel_rfl
theorem gtZero : (Tryz.prog.globals[2]?).map (·.type) = some 31 := by kernel_rfl
def L : List (String × List UInt8) := [("leadlight/api.ErrText", [108, 101, 97, 100, 108, 105, 103, 104, 116, 58, 32, 116, 101, 120, 116]), ("leadlight/api.ErrBound", [108, 101, 97, 100, 108, 105, 103, 104, 116, 58, 32, 98, 111, 117, 110, 100]), ("leadlight/api.ErrShape", [108, 101, 97, 100, 108, 105, 103, 104, 116, 58, 32, 115, 104, 97, 112, 101]), ("leadlight/api.ErrName", [108, 101, 97, 100, 108, 105, 103, 104, 116, 58, 32, 110, 97, 109, 101]), ("leadlight/api.ErrNone", [108, 101, 97, 100, 108, 105, 103, 104, 116, 58, 32, 110, 111, 110, 101]), ("leadlight/api.ErrExist", [108, 101, 97, 100, 108, 105, 103, 104, 116, 58, 32, 101, 120, 105, 115, 116]), ("leadlight/api.ErrFull", [108, 101, 97, 100, 108, 105, 103, 104, 116, 58, 32, 102, 117, 108, 108]), ("leadlight/api.ErrDeep", [108, 101, 97, 100, 108, 105, 103, 104, 116, 58, 32, 100, 101, 101, 112]), ("leadlight/api.ErrCycle", [108, 101, 97, 100, 108, 105, 103, 104, 116, 58, 32, 99, 121, 99, 108, 101]), ("leadlight/api.ErrValue", [108, 101, 97, 100, 108, 105, 103, 104, 116, 58, 32, 118, 97, 108, 117, 101]), ("leadlight/api.ErrZero", [108, 101, 97, 100, 108, 105, 103, 104, 116, 58, 32, 122, 101, 114, 111])]
theorem et : Tryz.prog.globalNamed "errors.errorType" = some 11 := by kernel_rfl
theorem rt : (Tryz.prog.cutTypes.find? (·.1 == "internal/reflectlite.rtype")).map (·.2) = some 175 := by kernel_rfl
theorem oneRow : ((List.range 256).filter fun t => Tryz.prog.rowNamed t [101, 114, 114, 111, 114]) = [31] := by kernel_rfl
theorem size : Tryz.prog.types.size = 256 := by kernel_rfl
theorem handle {W : World} (h : handlesMet Tryz.prog [("errors.errorType", (.iface "internal/reflectlite.rtype" (.agg [.ptr (.lit (.string [101, 114, 114, 111, 114]))]) : DataW Unit))] W) :
    W.cell? ⟨11, 0, none⟩ = some (.iface 175 (.agg #[.pointer (some ⟨20, 31, none⟩)])) := by
  obtain ⟨name, u, ty, e1, e2, e3, e4, e5⟩ := h _ (List.mem_singleton.2 rfl)
  have en : name = [101, 114, 114, 111, 114] := (Option.some.inj e1).symm
  subst en
  obtain rfl := Option.some.inj (rt.symm.trans e2)
  have hm : ty ∈ (List.range 256).filter fun t => Tryz.prog.rowNamed t [101, 114, 114, 111, 114] := List.mem_filter.2 ⟨List.mem_range.2 (by rw [← size]; exact e3), e4⟩
  rw [oneRow] at hm
  obtain rfl := List.mem_singleton.1 hm
  have hh : typeHandle Tryz.prog 31 = .pointer (some ⟨20, 31, none⟩) := by kernel_rfl
  rw [hh] at e5
  simpa using World.var?_cell et e5 0
theorem sents {W : World} (h : laidMet Tryz.prog (L.map fun x => (x.1, sentD x.2)) W)
    (hd : W.cell? ⟨11, 0, none⟩ = some (.iface 175 (.agg #[.pointer (some ⟨20, 31, none⟩)]))) : ∃ ea, Sents ea W := by
  obtain ⟨ps, h1, h2, h3⟩ := h
  obtain ⟨As, hl, hnd, _, h4⟩ := sents_ind L ps h1 h2 h3 (by
    intro x hx
    simp only [L, List.mem_cons, List.not_mem_nil, or_false] at hx
    rcases hx with rfl | rfl | rfl | rfl | rfl | rfl | rfl | rfl | rfl | rfl | rfl
    · exact ⟨_, gText, gtText⟩
    · exact ⟨_, gBound, gtBound⟩
    · exact ⟨_, gShape, gtShape⟩
    · exact ⟨_, gName, gtName⟩
    · exact ⟨_, gNone, gtNone⟩
    · exact ⟨_, gExist, gtExist⟩
    · exact ⟨_, gFull, gtFull⟩
    · exact ⟨_, gDeep, gtDeep⟩
    · exact ⟨_, gCycle, gtCycle⟩
    · exact ⟨_, gValue, gtValue⟩
    · exact ⟨_, gZero, gtZero⟩)
  have hl' : As.length = 11 := hl
  have at1 : ∀ i, 1 ≤ i → i ≤ 11 → As[i - 1]? = some (As.getD (i - 1) ⟨0, 0, none⟩) := fun i hi1 hi2 => by
    rw [List.getD_eq_getElem?_getD, List.getElem?_eq_getElem (by omega)]; rfl
  refine ⟨fun c => As.getD (c - 1) ⟨0, 0, none⟩, (h4 0 _ _ rfl (at1 1 (by decide) (by decide))).1 _ gText, (h4 1 _ _ rfl (at1 2 (by decide) (by decide))).1 _ gBound, (h4 2 _ _ rfl (at1 3 (by decide) (by decide))).1 _ gShape, (h4 3 _ _ rfl (at1 4 (by decide) (by decide))).1 _ gName, (h4 4 _ _ rfl (at1 5 (by decide) (by decide))).1 _ gNone, (h4 5 _ _ rfl (at1 6 (by decide) (by decide))).1 _ gExist, (h4 6 _ _ rfl (at1 7 (by decide) (by decide))).1 _ gFull, (h4 7 _ _ rfl (at1 8 (by decide) (by decide))).1 _ gDeep, (h4 8 _ _ rfl (at1 9 (by decide) (by decide))).1 _ gCycle, (h4 9 _ _ rfl (at1 10 (by decide) (by decide))).1 _ gValue, (h4 10 _ _ rfl (at1 11 (by decide) (by decide))).1 _ gZero, hd, ?_, ?_⟩
  · intro i j hij hi1 hi2 hj1 hj2 he
    have e1 := at1 i hi1 hi2
    have e2 := at1 j hj1 hj2
    have e3 : As[i - 1]? = As[j - 1]? := by rw [e1, e2, he]
    rw [List.getElem?_eq_getElem (by omega), List.getElem?_eq_getElem (by omega)] at e3
    have e4 := Option.some.inj e3
    have hp := List.pairwise_iff_getElem.1 hnd
    rcases Nat.lt_or_gt_of_ne hij with h | h
    · exact hp (i - 1) (j - 1) (by omega) (by omega) (by omega) e4
    · exact hp (j - 1) (i - 1) (by omega) (by omega) (by omega) e4.symm
  · intro i hi1 hi2
    have hx : ∃ x, L[i - 1]? = some x := ⟨_, List.getElem?_eq_getElem (show i - 1 < L.length by show i - 1 < 11; omega)⟩
    obtain ⟨x, hx⟩ := hx
    exact (h4 (i - 1) x _ hx (at1 i hi1 hi2)).2.2
end All
end Go.Proofs.YtbekidefgdijkaaGreatDoor

/-
  The wrap of a row that lists variables, with the world's shape kept; what the library's own variables hold, out of them.
-/
namespace Go
theorem returnsInHanded_of_change_and_shaped {H : Type} {enc : TypeId × Value → H} {a : Assume} {C : Checked} {os : Os} {f : FuncId} {fn : Func} {s : ChangeSpec} {conds : List PathCond} {apart fresh handsOn again : Bool} {X : World → Array Value → Prop}
    (hX : ∀ (w w' : World) (args : Array Value), w.heap = w'.heap → X w args → X w' args)
    (own : ownKnob C.prog.godebug = none) (started : os.Started) (noInit : C.prog.inits.idxOf? f = none) (hfn : C.prog.funcs[f]? = some fn)
    (witness : ∃ (w : World) (tape : Tape) (i : Input), w.os = os ∧ (w.forCall tape i).Shaped C.prog ∧ i.vars = [] ∧ Input.okWide C.prog (w.forCall tape i) .any w.heap.size f i ∧
      ((s.pre enc C.prog fn conds apart (w.forCall tape i).memory i.args ∧ X (w.forCall tape i).memory i.args) ∧ sizedMet enc C.prog fn (OpenSpec.ofChange s) apart (w.forCall tape i).memory i.args) ∧ a.holds C.prog (lone (Frame.enter C.prog f i.args .normal) [] (w.forCall tape i)))
    (contract : ∀ (W : World) (base : Nat) (args : Array Value) (ds gs : List (DataW H)) (before : List MemPlace),
      (∀ (j : Nat) t v, fn.params[j]? = some t → args[j]? = some v → Value.okWide C.prog W .any base t v) →
      DataW.Whole enc C.prog fn.params.toList s.vars apart W args.toList ds gs before →
      conds.all (PathCond.test C.prog ⟨fn.params.toList, ds, s.plain.varTypes C.prog, gs⟩) = true →
      (DataW.weightsEach C.prog (fn.params.toList ++ s.plain.varTypes C.prog) (ds ++ gs)).all (· ≤ reachBytes) = true → X W args → W.ShapedOpen C.prog →
      a.holds C.prog (lone (Frame.enter C.prog f args .normal) [] W) →
      Calls C.prog f args W fun e W' => ∃ v, e = .returned v ∧ s.post enc C.prog fn apart fresh handsOn again W args v W') :
    ReturnsInHanded a C os f .any (fun w args => (s.pre enc C.prog fn conds apart w args ∧ X w args) ∧ sizedMet enc C.prog fn (OpenSpec.ofChange s) apart w args) (s.post enc C.prog fn apart fresh handsOn again) := by
  refine returnsInHanded_of_calls own started noInit witness ?_
  intro w tape i _ hsh _ hok hpre hholds
  obtain ⟨_, _, _, fn', hfn', _, _, _, _, hval⟩ := hok
  have e : fn' = fn := Option.some.inj (hfn'.symm.trans hfn)
  subst e
  obtain ⟨⟨⟨ds, gs, before, hw, hc⟩, hx⟩, hz⟩ := hpre
  have hw' := DataW.Whole.of_heap (w' := w.forCall tape i) (by rfl) hw
  refine (contract (w.forCall tape i) w.heap.size i.args ds gs before hval hw' hc (hz.weights hw) (hX _ _ _ (by rfl) hx) hsh hholds).mono fun e W' ⟨v, he, hp⟩ => ?_
  subst he
  exact ChangeSpec.post_blind hp
end Go
namespace Go.Proofs.YtbekidefgdijkaaGreatDoor
open Go.ChangeShapes Go.WideShapes Go.ChangeAt Go.RowKit Lead
set_option maxRecDepth 100000
theorem maxlen_cell {W : World} (h : W.ShapedOpen Tryz.prog) : ∃ m, W.cell? ⟨12, 0, none⟩ = some (.int .i64 m) :=
  cell_of_shapedOpen_int (zero := #[.int .i64 0]) (t := 3) h (of_decide_eq_true (by kernel_rfl)) (by kernel_rfl) rfl (by kernel_rfl) (by kernel_rfl) Tryz.underlying3
theorem gSyn : Tryz.prog.globalNamed "strconv.ErrSyntax" = some 15 := by kernel_rfl
theorem gtSyn : (Tryz.prog.globals[15]?).map (·.type) = some 31 := by kernel_rfl
theorem gRan : Tryz.prog.globalNamed "strconv.ErrRange" = some 16 := by kernel_rfl
theorem gtRan : (Tryz.prog.globals[16]?).map (·.type) = some 31 := by kernel_rfl
def LibL : List (String × List UInt8) := [("strconv.ErrRange", [118, 97, 108, 117, 101, 32, 111, 117, 116, 32, 111, 102, 32, 114, 97, 110, 103, 101]), ("strconv.ErrSyntax", [105, 110, 118, 97, 108, 105, 100, 32, 115, 121, 110, 116, 97, 120])]
theorem libs_of {W : World} (h : laidMet Tryz.prog (LibL.map fun x => (x.1, sentD x.2)) W) (hsh : W.ShapedOpen Tryz.prog) (htab : Lib.TabIs Tryz.prog W "internal/strconv.uint64pow10" .u64 Lib.pow10Tab) : Libs W := by
  obtain ⟨ps, h1, h2, h3⟩ := h
  obtain ⟨As, hl, _, _, h4⟩ := sents_ind LibL ps h1 h2 h3 (by
    intro x hx
    simp only [LibL, List.mem_cons, List.not_mem_nil, or_false] at hx
    rcases hx with rfl | rfl
    · exact ⟨_, gRan, gtRan⟩
    · exact ⟨_, gSyn, gtSyn⟩)
  match As, hl with
  | [a0, a1], _ =>
    exact ⟨⟨_, _, (h4 1 _ a1 rfl rfl).1 _ gSyn⟩, ⟨_, _, (h4 0 _ a0 rfl rfl).1 _ gRan⟩, maxlen_cell hsh, htab⟩
end Go.Proofs.YtbekidefgdijkaaGreatDoor
