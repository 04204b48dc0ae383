/-
  The listed errors of package api, all of them, and errors.errorType: what a row's condition gives the walks.
-/
import Derived.Test.YtpdaenldmgpkjaaGreatDoorOa
import Derived.Test.YtpdaenldmgpkjaaGreatDoorCd
import Derived.LaidHandle
namespace Go.Proofs.YtpdaenldmgpkjaaGreatDoor
open Go.ChangeShapes Go.WideShapes Go.ChangeAt Go.RowKit Lead
set_option maxRecDepth 100000
namespace All
theorem gText : Tryz.prog.globalNamed "leadlight/api.ErrText" = some 1 := by kernel_rfl
theorem gtText : (Tryz.prog.globals[1]?).map (·.type) = some 30 := by kernel_rfl
theorem gBound : Tryz.prog.globalNamed "leadlight/api.ErrBound" = some 0 := by kernel_rfl
theorem gtBound : (Tryz.prog.globals[0]?).map (·.type) = some 30 := by kernel_rfl
theorem gShape : Tryz.prog.globalNamed "leadlight/api.ErrShape" = some 2 := by kernel_rfl
theorem gtShape : (Tryz.prog.globals[2]?).map (·.type) = some 30 := by kernel_rfl
theorem gName : Tryz.prog.globalNamed "leadlight/api.ErrName" = some 3 := by kernel_rfl
theorem gtName : (Tryz.prog.globals[3]?).map (·.type) = some 30 := by kernel_rfl
theorem gNone : Tryz.prog.globalNamed "leadlight/api.ErrNone" = some 4 := by kernel_rfl
theorem gtNone : (Tryz.prog.globals[4]?).map (·.type) = some 30 := by kernel_rfl
theorem gExist : Tryz.prog.globalNamed "leadlight/api.ErrExist" = some 5 := by kernel_rfl
theorem gtExist : (Tryz.prog.globals[5]?).map (·.type) = some 30 := by kernel_rfl
theorem gFull : Tryz.prog.globalNamed "leadlight/api.ErrFull" = some 6 := by kernel_rfl
theorem gtFull : (Tryz.prog.globals[6]?).map (·.type) = some 30 := by kernel_rfl
theorem gDeep : Tryz.prog.globalNamed "leadlight/api.ErrDeep" = some 7 := by kernel_rfl
theorem gtDeep : (Tryz.prog.globals[7]?).map (·.type) = some 30 := by kernel_rfl
theorem gCycle : Tryz.prog.globalNamed "leadlight/api.ErrCycle" = some 8 := by kernel_rfl
theorem gtCycle : (Tryz.prog.globals[8]?).map (·.type) = some 30 := by kernel_rfl
theorem gValue : Tryz.prog.globalNamed "leadlight/api.ErrValue" = some 9 := by kernel_rfl
theorem gtValue : (Tryz.prog.globals[9]?).map (·.type) = some 30 := by kernel_rfl
theorem gZero : Tryz.prog.globalNamed "leadlight/api.ErrZero" = some 10 := by kernel_rfl
theorem gtZero : (Tryz.prog.globals[10]?).map (·.type) = some 30 := by kernel_rfl
def L : List (String × List UInt8) := [("leadlight/api.ErrText", [108, 101, 97, 100, 108, 105, 103, 104, 116, 58, 32, 116, 101, 120, 116]), ("leadlight/api.ErrBound", [108, 101, 97, 100, 108, 105, 103, 104, 116, 58, 32, 98, 111, 117, 110, 100]), ("leadlight/api.ErrShape", [108, 101, 97, 100, 108, 105, 103, 104, 116, 58, 32, 115, 104, 97, 112, 101]), ("leadlight/api.ErrName", [108, 101, 97, 100, 108, 105, 103, 104, 116, 58, 32, 110, 97, 109, 101]), ("leadlight/api.ErrNone", [108, 101, 97, 100, 108, 105, 103, 104, 116, 58, 32, 110, 111, 110, 101]), ("leadlight/api.ErrExist", [108, 101, 97, 100, 108, 105, 103, 104, 116, 58, 32, 101, 120, 105, 115, 116]), ("leadlight/api.ErrFull", [108, 101, 97, 100, 108, 105, 103, 104, 116, 58, 32, 102, 117, 108, 108]), ("leadlight/api.ErrDeep", [108, 101, 97, 100, 108, 105, 103, 104, 116, 58, 32, 100, 101, 101, 112]), ("leadlight/api.ErrCycle", [108, 101, 97, 100, 108, 105, 103, 104, 116, 58, 32, 99, 121, 99, 108, 101]), ("leadlight/api.ErrValue", [108, 101, 97, 100, 108, 105, 103, 104, 116, 58, 32, 118, 97, 108, 117, 101]), ("leadlight/api.ErrZero", [108, 101, 97, 100, 108, 105, 103, 104, 116, 58, 32, 122, 101, 114, 111])]
theorem et : Tryz.prog.globalNamed "errors.errorType" = some 11 := by kernel_rfl
theorem rt : (Tryz.prog.cutTypes.find? (·.1 == "internal/reflectlite.rtype")).map (·.2) = some 216 := by kernel_rfl
theorem oneRow : ((List.range 364).filter fun t => Tryz.prog.rowNamed t [101, 114, 114, 111, 114]) = [30] := by kernel_rfl
theorem size : Tryz.prog.types.size = 364 := by kernel_rfl
theorem handle {W : World} (h : handlesMet Tryz.prog [("errors.errorType", (.iface "internal/reflectlite.rtype" (.agg [.ptr (.lit (.string [101, 114, 114, 111, 114]))]) : DataW Unit))] W) :
    W.cell? ⟨11, 0, none⟩ = some (.iface 216 (.agg #[.pointer (some ⟨20, 30, none⟩)])) := by
  obtain ⟨name, u, ty, e1, e2, e3, e4, e5⟩ := h _ (List.mem_singleton.2 rfl)
  have en : name = [101, 114, 114, 111, 114] := (Option.some.inj e1).symm
  subst en
  obtain rfl := Option.some.inj (rt.symm.trans e2)
  have hm : ty ∈ (List.range 364).filter fun t => Tryz.prog.rowNamed t [101, 114, 114, 111, 114] := List.mem_filter.2 ⟨List.mem_range.2 (by rw [← size]; exact e3), e4⟩
  rw [oneRow] at hm
  obtain rfl := List.mem_singleton.1 hm
  have hh : typeHandle Tryz.prog 30 = .pointer (some ⟨20, 30, none⟩) := by kernel_rfl
  rw [hh] at e5
  simpa using World.var?_cell et e5 0
theorem sents {W : World} (h : laidMet Tryz.prog (L.map fun x => (x.1, sentD x.2)) W)
    (hd : W.cell? ⟨11, 0, none⟩ = some (.iface 216 (.agg #[.pointer (some ⟨20, 30, none⟩)]))) : ∃ ea, Sents ea W := by
  obtain ⟨ps, h1, h2, h3⟩ := h
  obtain ⟨As, hl, hnd, _, h4⟩ := sents_ind L ps h1 h2 h3 (by
    intro x hx
    simp only [L, List.mem_cons, List.not_mem_nil, or_false] at hx
    rcases hx with rfl | rfl | rfl | rfl | rfl | rfl | rfl | rfl | rfl | rfl | rfl
    · exact ⟨_, gText, gtText⟩
    · exact ⟨_, gBound, gtBound⟩
    · exact ⟨_, gShape, gtShape⟩
    · exact ⟨_, gName, gtName⟩
    · exact ⟨_, gNone, gtNone⟩
    · exact ⟨_, gExist, gtExist⟩
    · exact ⟨_, gFull, gtFull⟩
    · exact ⟨_, gDeep, gtDeep⟩
    · exact ⟨_, gCycle, gtCycle⟩
    · exact ⟨_, gValue, gtValue⟩
    · exact ⟨_, gZero, gtZero⟩)
  have hl' : As.length = 11 := hl
  have at1 : ∀ i, 1 ≤ i → i ≤ 11 → As[i - 1]? = some (As.getD (i - 1) ⟨0, 0, none⟩) := fun i hi1 hi2 => by
    rw [List.getD_eq_getElem?_getD, List.getElem?_eq_getElem (by omega)]; rfl
  refine ⟨fun c => As.getD (c - 1) ⟨0, 0, none⟩, (h4 0 _ _ rfl (at1 1 (by decide) (by decide))).1 _ gText, (h4 1 _ _ rfl (at1 2 (by decide) (by decide))).1 _ gBound, (h4 2 _ _ rfl (at1 3 (by decide) (by decide))).1 _ gShape, (h4 3 _ _ rfl (at1 4 (by decide) (by decide))).1 _ gName, (h4 4 _ _ rfl (at1 5 (by decide) (by decide))).1 _ gNone, (h4 5 _ _ rfl (at1 6 (by decide) (by decide))).1 _ gExist, (h4 6 _ _ rfl (at1 7 (by decide) (by decide))).1 _ gFull, (h4 7 _ _ rfl (at1 8 (by decide) (by decide))).1 _ gDeep, (h4 8 _ _ rfl (at1 9 (by decide) (by decide))).1 _ gCycle, (h4 9 _ _ rfl (at1 10 (by decide) (by decide))).1 _ gValue, (h4 10 _ _ rfl (at1 11 (by decide) (by decide))).1 _ gZero, hd, ?_, ?_⟩
  · intro i j hij hi1 hi2 hj1 hj2 he
    have e1 := at1 i hi1 hi2
    have e2 := at1 j hj1 hj2
    have e3 : As[i - 1]? = As[j - 1]? := by rw [e1, e2, he]
    rw [List.getElem?_eq_getElem (by omega), List.getElem?_eq_getElem (by omega)] at e3
    have e4 := Option.some.inj e3
    have hp := List.pairwise_iff_getElem.1 hnd
    rcases Nat.lt_or_gt_of_ne hij with h | h
    · exact hp (i - 1) (j - 1) (by omega) (by omega) (by omega) e4
    · exact hp (j - 1) (i - 1) (by omega) (by omega) (by omega) e4.symm
  · intro i hi1 hi2
    have hx : ∃ x, L[i - 1]? = some x := ⟨_, List.getElem?_eq_getElem (show i - 1 < L.length by show i - 1 < 11; omega)⟩
    obtain ⟨x, hx⟩ := hx
    exact (h4 (i - 1) x _ hx (at1 i hi1 hi2)).2.2
end All
end Go.Proofs.YtpdaenldmgpkjaaGreatDoor
