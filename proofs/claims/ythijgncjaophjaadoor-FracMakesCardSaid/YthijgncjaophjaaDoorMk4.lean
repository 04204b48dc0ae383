/-
  The statement FracMakes, proved: whatever the arguments the call returns true, and each argument reads behind the call as it read before. No condition of its own: what narrows the row is its cell 'laid' (the listed variables hold what the program's text lays), which the card ties.
-/
import Derived.Test.YthijgncjaophjaaDoorMk3
import Derived.Test.YthijgncjaophjaaDoorLaw3
import Derived.Test.YthijgncjaophjaaDoorOpen2
import Derived.Test.YthijgncjaophjaaDoorOpen
import Derived.Test.YthijgncjaophjaaDoorLaw
import Derived.Test.YthijgncjaophjaaDoorCards
import Derived.Test.YthijgncjaophjaaDoorTie
import Derived.ChangeMaps5
namespace Go.Proofs.YthijgncjaophjaaDoor.lawFracMakes
open Go.ChangeShapes Go.WideShapes Go.ChangeAt Go.RowKit Lead
set_option maxRecDepth 100000

theorem gP10 : Tryd.prog.globalNamed "internal/strconv.uint64pow10" = some 13 := by kernel_rfl
theorem gtP10 : (Tryd.prog.globals[13]?).map (·.type) = some 299 := by kernel_rfl
/-- What the condition gives the walks. -/
theorem of_laid {W : World} (h : laidMetH Tryd.prog Rows.fracMakesRow.laid W) (hsh : W.ShapedOpen Tryd.prog) : ∃ ea : Nat → Addr, Sents ea W ∧ Libs W := by
  have hb : laidMet Tryd.prog [("math/bits.deBruijn32tab", Rows.laid_math_bits_deBruijn32tab), ("math/bits.deBruijn64tab", Rows.laid_math_bits_deBruijn64tab), ("internal/strconv.uint64pow10", Rows.laid_internal_strconv_uint64pow10), ("leadlight/api.ErrText", Rows.laid_leadlight_api_ErrText), ("leadlight/api.ErrBound", Rows.laid_leadlight_api_ErrBound), ("leadlight/api.ErrShape", Rows.laid_leadlight_api_ErrShape), ("leadlight/api.ErrName", Rows.laid_leadlight_api_ErrName), ("leadlight/api.ErrNone", Rows.laid_leadlight_api_ErrNone), ("leadlight/api.ErrExist", Rows.laid_leadlight_api_ErrExist), ("leadlight/api.ErrFull", Rows.laid_leadlight_api_ErrFull), ("leadlight/api.ErrDeep", Rows.laid_leadlight_api_ErrDeep), ("leadlight/api.ErrCycle", Rows.laid_leadlight_api_ErrCycle), ("leadlight/api.ErrValue", Rows.laid_leadlight_api_ErrValue), ("leadlight/api.ErrZero", Rows.laid_leadlight_api_ErrZero), ("strconv.ErrRange", Rows.laid_strconv_ErrRange), ("strconv.ErrSyntax", Rows.laid_strconv_ErrSyntax)] W ∧ handlesMet Tryd.prog [("errors.errorType", Rows.laid_errors_errorType)] W := h
  have htab : Lib.TabIs Tryd.prog W "internal/strconv.uint64pow10" .u64 Lib.pow10Tab := Lib.tabIs_of_head gP10 gtP10 Tryd.underlying299 Tryd.underlying259 (by kernel_rfl) (by kernel_rfl) (laidMet.tail (laidMet.tail hb.1))
  have h0 := (laidMet.tail (laidMet.tail (laidMet.tail hb.1)))
  have h1 : laidMet Tryd.prog (All.L.map fun x => (x.1, sentD x.2)) W := laidMet.filter (fun x => x.1 != "strconv.ErrRange" && x.1 != "strconv.ErrSyntax") h0
  have h2 : laidMet Tryd.prog (LibL.map fun x => (x.1, sentD x.2)) W := laidMet.filter (fun x => x.1 == "strconv.ErrRange" || x.1 == "strconv.ErrSyntax") h0
  obtain ⟨ea, hS⟩ := All.sents h1 (All.handle hb.2)
  exact ⟨ea, hS, libs_of h2 hsh htab⟩

theorem params : Tryd.f8.params = #[3, 3, 90, 90, 9] := Tryd.params8

theorem contract (H : Type) (enc : TypeId × Value → H) (W : World) (base : Nat) (args : Array Value) (ds gs : List (DataW H)) (before : List MemPlace)
    (hval0 : ∀ (j : Nat) t v, Tryd.f8.params[j]? = some t → args[j]? = some v → Value.okWide Tryd.prog W .any base t v)
    (hW : DataW.Whole enc Tryd.prog Tryd.f8.params.toList Rows.fracMakesSpec.vars false W args.toList ds gs before) (hL : laidMetH Tryd.prog Rows.fracMakesRow.laid W) (hsh : W.ShapedOpen Tryd.prog) :
    Calls Tryd.prog 8 args W fun e W' => ∃ v, e = .returned v ∧ Rows.fracMakesSpec.post enc Tryd.prog Tryd.f8 false true false false W args v W' := by
  have hval := hval0
  have hWW := hW
  obtain ⟨p, q, hA, hV, _, _, _⟩ := hWW
  have hA' : DataW.TrodAll enc Tryd.prog W 0 (fun _ => true) true Tryd.f8.params.toList args.toList ds p := hA
  rw [params] at hA' hval
  obtain ⟨v0, vs0, d0, ds0, p0, q0, e0, rfl, rfl, h0, r0⟩ := trodAll_cons hA'
  obtain ⟨v1, vs1, d1, ds1, p1, q1, rfl, rfl, rfl, h1, r1⟩ := trodAll_cons r0
  obtain ⟨v2, vs2, d2, ds2, p2, q2, rfl, rfl, rfl, h2, r2⟩ := trodAll_cons r1
  obtain ⟨v3, vs3, d3, ds3, p3, q3, rfl, rfl, rfl, h3, r3⟩ := trodAll_cons r2
  obtain ⟨v4, vs4, d4, ds4, p4, q4, rfl, rfl, rfl, h4, r4⟩ := trodAll_cons r3
  obtain ⟨rfl, rfl, rfl⟩ := trodAll_nil r4
  obtain rfl : args = #[v0, v1, v2, v3, v4] := by cases args; simp_all
  obtain ⟨z0, rfl, rfl, rfl, wz0⟩ := open_int Tryd.underlying3 (hval 0 _ _ rfl rfl) h0
  obtain ⟨z1, rfl, rfl, rfl, wz1⟩ := open_int Tryd.underlying3 (hval 1 _ _ rfl rfl) h1
  obtain ⟨a2, rfl, ha2⟩ := open_frac_arg (hval 2 _ _ rfl rfl) h2
  obtain ⟨a3, rfl, ha3⟩ := open_frac_arg (hval 3 _ _ rfl rfl) h3
  obtain ⟨s4, rfl, rfl, rfl, ws4⟩ := Go.ChangeMaps.open_string Tryd.underlying9 (hval 4 _ _ rfl rfl) h4
  obtain ⟨ea, hS, hLb⟩ := of_laid hL hsh
  refine (mk_any ea z0 z1 a2 a3 s4 W (I64.wf wz0) (I64.wf wz1) ha2 ha3 hS hLb).mono fun e W' ⟨he, hb⟩ => ?_
  subst he
  exact ⟨_, rfl, law_post laidOut (by rw [params]; intro t ht; simp at ht; rcases ht with rfl | rfl | rfl <;> exact ⟨by kernel_rfl, of_decide_eq_true (by kernel_rfl)⟩) rfl Tryd.underlying4 (by kernel_rfl)
    (fun ds hds => by
      have : ds.length = 5 := hds.trans (by rw [params]; rfl)
      match ds, this with
      | [a, b, c, d, e], _ => rfl) hW hb⟩

theorem door_met (os : Os) (args : Array Value) : laidMetH Tryd.prog Rows.fracMakesRow.laid ((World.doorLaid Tryd.prog 400 os).forCall (fun _ _ => 0) ⟨#[], args, []⟩).memory :=
  laidMetH_of_parts3 (fuel := 8) (laidMet_of_run' 8 (by kernel_rfl) (by kernel_rfl)) (by kernel_rfl) (by kernel_rfl)

theorem lifted (os : Os) (started : os.Started) (H : Type) (enc : TypeId × Value → H) :
    ReturnsInHanded {} Tryd.checked os 8 .any (fun w args => (Rows.fracMakesSpec.pre enc Tryd.prog Tryd.f8 [] false w args ∧ laidMetH Tryd.prog Rows.fracMakesRow.laid w) ∧ sizedMet enc Tryd.prog Tryd.f8 (OpenSpec.ofChange Rows.fracMakesSpec) false w args)
      (Rows.fracMakesSpec.post enc Tryd.prog Tryd.f8 false true false false) := by
  refine returnsInHanded_of_change_and_shaped (C := Tryd.checked) (X := fun w _ => laidMetH Tryd.prog Rows.fracMakesRow.laid w) (fun _ _ _ hh h => h.of_heap hh) own started (by kernel_rfl) Tryd.func8
    (ChangeSpec.witness_shaped (enc := enc) (C := Tryd.checked) (os := os) (X := fun w _ => laidMetH Tryd.prog Rows.fracMakesRow.laid w) false (World.doorLaid Tryd.prog 400 os) #[.int .i64 0, .int .i64 0, .agg #[.int .i64 0, .int .i64 0], .agg #[.int .i64 0, .int .i64 0], .string ⟨#[]⟩] 8 rfl (World.shaped_of_RefB (by kernel_rfl) (by kernel_rfl)) (by kernel_rfl) (by kernel_rfl) (by kernel_rfl) (door_met os _)) ?_
  intro W base args ds gs before hval hW _ _ hL hsh _
  exact contract H enc W base args ds gs before hval hW hL hsh

theorem said : Rows.FracMakesSaid :=
  OpenClaim.holds_of_wide 8 Tryd.f8 rfl rfl rfl rfl rfl rfl rfl ⟨rfl, rfl, rfl, rfl, rfl⟩ rfl rfl rfl rfl rfl (by kernel_rfl) Tryd.func8 (by kernel_rfl)
    (of_decide_eq_true (by kernel_rfl)) (by unfold Func.isWrapper; first | (rw [if_pos (by decide +kernel)]; kernel_rfl) | (rw [if_neg (by decide +kernel)]; exact ⟨rfl, rfl⟩))
    (fun os started H enc _ => lifted os started H enc)

theorem plain (f : FuncId) (fn : Func) (hf : Tryd.pinned.checked.prog.funcNamed "leadlight/leadlightlaw1.FracMakes" = some f) (hfn : Tryd.pinned.checked.prog.funcs[f]? = some fn) :
    true = Tryd.pinned.checked.prog.looks [] ∧ ∀ (j : Nat) t, fn.params[j]? = some t → Tryd.pinned.checked.prog.wantsStandIn t = false := by
  obtain rfl : f = 8 := Option.some.inj ((show Tryd.prog.funcNamed "leadlight/leadlightlaw1.FracMakes" = some 8 by kernel_rfl).symm.trans hf) |>.symm
  obtain rfl : fn = Tryd.f8 := (Option.some.inj (Tryd.func8.symm.trans hfn)).symm
  refine ⟨by kernel_rfl, fun j t ht => ?_⟩
  rw [params] at ht
  have hm := Array.mem_of_getElem? ht
  simp at hm
  rcases hm with rfl | rfl | rfl
  · exact (show Tryd.prog.wantsStandIn 3 = false by kernel_rfl)
  · exact (show Tryd.prog.wantsStandIn 90 = false by kernel_rfl)
  · exact (show Tryd.prog.wantsStandIn 9 = false by kernel_rfl)

/-- THE CARD. -/
theorem card : Rows.FracMakesCardSaid :=
  Claim7.holds_tied_plain_at .later [] _ _ _ _ said (fun _ h => by cases h) (by kernel_rfl) (fun _ h => by cases h) fracMakes_row_tie rfl ⟨rfl, rfl⟩ (by kernel_rfl) rfl plain (by kernel_rfl)
#print axioms card
end Go.Proofs.YthijgncjaophjaaDoor.lawFracMakes
