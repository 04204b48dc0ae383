/-
  The statement ShapeMakes, proved: whatever the arguments the call returns true, and each argument reads behind the call as it read before. No condition of its own: what narrows the row is its cell 'laid' (the listed variables hold what the program's text lays), which the card ties.
-/
import Derived.Test.YtpdaenldmgpkjaaGreatDoorSmk
import Derived.Test.YtpdaenldmgpkjaaGreatDoorLaw3
import Derived.Test.YtpdaenldmgpkjaaGreatDoorOa
import Derived.Test.YtpdaenldmgpkjaaGreatDoorLaw2
import Derived.Lay
import Derived.Test.YtpdaenldmgpkjaaGreatDoorCards
import Derived.Test.YtpdaenldmgpkjaaGreatDoorTie
import Derived.ChangeMaps5
namespace Go.Proofs.YtpdaenldmgpkjaaGreatDoor.lawShapeMakes
open Go.ChangeShapes Go.WideShapes Go.ChangeAt Go.RowKit Lead
set_option maxRecDepth 100000

theorem gP10 : Tryz.prog.globalNamed "internal/strconv.uint64pow10" = some 17 := by kernel_rfl
theorem gtP10 : (Tryz.prog.globals[17]?).map (·.type) = some 312 := by kernel_rfl
theorem size_globs {W : World} (h : W.ShapedOpen Tryz.prog) : 20 ≤ W.heap.size := by
  have hs : (((begin Tryz.prog (fun _ _ => 0) default).world.heap[20 - 1]?).bind Obj.row?).isSome = true := by kernel_rfl
  obtain ⟨⟨zero, t⟩, hz⟩ := Option.isSome_iff_exists.1 hs
  obtain ⟨cs, hh, _⟩ := h.1 (20 - 1) zero t (of_decide_eq_true (by kernel_rfl)) hz
  have := (Array.getElem?_eq_some_iff.1 hh).1
  omega
/-- What the condition gives the walks. -/
theorem of_laid {W : World} (h : laidMetH Tryz.prog Rows.shapeMakesRow.laid W) (hsh : W.ShapedOpen Tryz.prog) : ∃ ea : Nat → Addr, Sents ea W ∧ Libs W := by
  have hb : laidMet Tryz.prog [("math/bits.deBruijn32tab", Rows.laid_math_bits_deBruijn32tab), ("math/bits.deBruijn64tab", Rows.laid_math_bits_deBruijn64tab), ("internal/strconv.uint64pow10", Rows.laid_internal_strconv_uint64pow10), ("unicode/utf8.acceptRanges", Rows.laid_unicode_utf8_acceptRanges), ("leadlight/api.ErrText", Rows.laid_leadlight_api_ErrText), ("leadlight/api.ErrBound", Rows.laid_leadlight_api_ErrBound), ("leadlight/api.ErrShape", Rows.laid_leadlight_api_ErrShape), ("leadlight/api.ErrName", Rows.laid_leadlight_api_ErrName), ("leadlight/api.ErrNone", Rows.laid_leadlight_api_ErrNone), ("leadlight/api.ErrExist", Rows.laid_leadlight_api_ErrExist), ("leadlight/api.ErrFull", Rows.laid_leadlight_api_ErrFull), ("leadlight/api.ErrDeep", Rows.laid_leadlight_api_ErrDeep), ("leadlight/api.ErrCycle", Rows.laid_leadlight_api_ErrCycle), ("leadlight/api.ErrValue", Rows.laid_leadlight_api_ErrValue), ("leadlight/api.ErrZero", Rows.laid_leadlight_api_ErrZero), ("strconv.ErrRange", Rows.laid_strconv_ErrRange), ("strconv.ErrSyntax", Rows.laid_strconv_ErrSyntax), ("unicode/utf8.first", Rows.laid_unicode_utf8_first)] W ∧ handlesMet Tryz.prog [("errors.errorType", Rows.laid_errors_errorType)] W := h
  have htab : Lib.TabIs Tryz.prog W "internal/strconv.uint64pow10" .u64 Lib.pow10Tab := Lib.tabIs_of_head gP10 gtP10 Tryz.underlying312 Tryz.underlying285 (by kernel_rfl) (by kernel_rfl) (laidMet.tail (laidMet.tail hb.1))
  have h0 := laidMet.tail (laidMet.tail (laidMet.tail (laidMet.tail hb.1)))
  have h1 : laidMet Tryz.prog (All.L.map fun x => (x.1, sentD x.2)) W := laidMet.filter (fun x => x.1 != "strconv.ErrRange" && (x.1 != "strconv.ErrSyntax" && x.1 != "unicode/utf8.first")) h0
  have h2 : laidMet Tryz.prog (LibL.map fun x => (x.1, sentD x.2)) W := laidMet.filter (fun x => x.1 == "strconv.ErrRange" || x.1 == "strconv.ErrSyntax") h0
  obtain ⟨ea, hS⟩ := All.sents h1 (All.handle hb.2)
  exact ⟨ea, hS, libs_of h2 hsh htab⟩

theorem params : Tryz.f6.params = #[9, 49, 49, 49, 49, 50, 52] := Tryz.params6

theorem contract (H : Type) (enc : TypeId × Value → H) (W : World) (base : Nat) (args : Array Value) (ds gs : List (DataW H)) (before : List MemPlace)
    (hval0 : ∀ (j : Nat) t v, Tryz.f6.params[j]? = some t → args[j]? = some v → Value.okWide Tryz.prog W .any base t v)
    (hW : DataW.Whole enc Tryz.prog Tryz.f6.params.toList Rows.shapeMakesSpec.vars false W args.toList ds gs before) (hL : laidMetH Tryz.prog Rows.shapeMakesRow.laid W) (hsh : W.ShapedOpen Tryz.prog) :
    Calls Tryz.prog 6 args W fun e W' => ∃ v, e = .returned v ∧ Rows.shapeMakesSpec.post enc Tryz.prog Tryz.f6 false true false false W args v W' := by
  have hval := hval0
  have hWW := hW
  obtain ⟨p, q, hA, hV, _, _, _⟩ := hWW
  have hA' : DataW.TrodAll enc Tryz.prog W 0 (fun _ => true) true Tryz.f6.params.toList args.toList ds p := hA
  rw [params] at hA' hval
  obtain ⟨v0, vs0, d0, ds0, p0, q0, e0, rfl, rfl, h0, r0⟩ := trodAll_cons hA'
  obtain ⟨v1, vs1, d1, ds1, p1, q1, rfl, rfl, rfl, h1, r1⟩ := trodAll_cons r0
  obtain ⟨v2, vs2, d2, ds2, p2, q2, rfl, rfl, rfl, h2, r2⟩ := trodAll_cons r1
  obtain ⟨v3, vs3, d3, ds3, p3, q3, rfl, rfl, rfl, h3, r3⟩ := trodAll_cons r2
  obtain ⟨v4, vs4, d4, ds4, p4, q4, rfl, rfl, rfl, h4, r4⟩ := trodAll_cons r3
  obtain ⟨v5, vs5, d5, ds5, p5, q5, rfl, rfl, rfl, h5, r5⟩ := trodAll_cons r4
  obtain ⟨v6, vs6, d6, ds6, p6, q6, rfl, rfl, rfl, h6, r6⟩ := trodAll_cons r5
  obtain ⟨rfl, rfl, rfl⟩ := trodAll_nil r6
  obtain rfl : args = #[v0, v1, v2, v3, v4, v5, v6] := by cases args; simp_all
  obtain ⟨s0, rfl, rfl, rfl, ws0⟩ := Go.ChangeMaps.open_string Tryz.underlying9 (hval 0 _ _ rfl rfl) h0
  obtain ⟨a1, rfl, ha1⟩ := open_frac_arg (hval 1 _ _ rfl rfl) h1
  obtain ⟨a2, rfl, ha2⟩ := open_frac_arg (hval 2 _ _ rfl rfl) h2
  obtain ⟨a3, rfl, ha3⟩ := open_frac_arg (hval 3 _ _ rfl rfl) h3
  obtain ⟨a4, rfl, ha4⟩ := open_frac_arg (hval 4 _ _ rfl rfl) h4
  obtain ⟨oa5, len5, cap5, ps5, rfl, hs5⟩ := open_pts (hval 5 _ _ rfl rfl) h5
  obtain ⟨m6, rfl, hm6⟩ := open_six_arg (hval 6 _ _ rfl rfl) h6
  obtain ⟨ea, hS, hLb⟩ := of_laid hL hsh
  have hng := size_globs hsh
  refine (smk_any ea s0 a1 a2 a3 a4 ps5 oa5 len5 cap5 m6 W ha1 ha2 ha3 ha4 hs5 hm6 hLb hS hng).mono fun e W' ⟨he, hb⟩ => ?_
  subst he
  exact ⟨_, rfl, law_post laidOut (by rw [params]; intro t ht; simp at ht; rcases ht with rfl | rfl | rfl | rfl <;> exact ⟨by kernel_rfl, of_decide_eq_true (by kernel_rfl)⟩) rfl Tryz.underlying4 (by kernel_rfl)
    (fun ds hds => by
      have : ds.length = 7 := hds.trans (by rw [params]; rfl)
      match ds, this with
      | [a, b, c, d, e, f, g], _ => rfl) hW hb⟩

/-- The world before the data are laid: errors.errorType holds its handle. -/
noncomputable def wBare (os : Os) : World := (World.holding Tryz.prog os ⟨#[], #[], []⟩).setCell ⟨11, 0, none⟩ (.iface 216 (.agg #[typeHandle Tryz.prog 30]))
noncomputable def wDoor (os : Os) : World := (wBare os).layVars Tryz.prog (Rows.shapeMakesRow.laid.filter fun x => x.2.handleName?.isNone)
theorem laidAt {P : Program} {w0 : World} {laid : List (String × DataW Unit)} (args : Array Value) (hf : w0.layFits P laid [] = true) (hi : w0.layIfaces P laid (w0.layVars P laid) = true) :
    laidMet P laid (((w0.layVars P laid).forCall (fun _ _ => 0) ⟨#[], args, []⟩).memory) := by
  have e1 : (laid.filter fun x => (laid.map (·.1)).contains x.1) = laid := List.filter_eq_self.2 fun x hx => List.contains_iff_mem.2 (List.mem_map.2 ⟨x, hx, rfl⟩)
  have e2 : (laid.filter fun x => !(laid.map (·.1)).contains x.1) = [] := List.filter_eq_nil_iff.2 fun x hx => by rw [List.contains_iff_mem.2 (List.mem_map.2 ⟨x, hx, rfl⟩)]; simp
  have h : laidMet P laid (w0.layVars P laid) := laidMet_layVars (w0 := w0) (laid.map (·.1)) [] (by rw [e1]) (by rw [e1]; exact hf) (by rw [e1]; exact hi) (by rw [e2]; exact LaidIn.none)
  exact h.of_heap (by simp [World.memory, World.forCall, Input.heap])
theorem door_os (os : Os) : (wDoor os).os = os := (World.layVars_os _ _ _).trans rfl
theorem door_met (os : Os) (args : Array Value) : laidMetH Tryz.prog Rows.shapeMakesRow.laid ((wDoor os).forCall (fun _ _ => 0) ⟨#[], args, []⟩).memory :=
  laidMetH_of_parts3 (fuel := 8) (laidAt args (by kernel_rfl) (by kernel_rfl)) (by kernel_rfl) (by kernel_rfl)

theorem lifted (os : Os) (started : os.Started) (H : Type) (enc : TypeId × Value → H) :
    ReturnsInHanded {} Tryz.checked os 6 .any (fun w args => (Rows.shapeMakesSpec.pre enc Tryz.prog Tryz.f6 [] false w args ∧ laidMetH Tryz.prog Rows.shapeMakesRow.laid w) ∧ sizedMet enc Tryz.prog Tryz.f6 (OpenSpec.ofChange Rows.shapeMakesSpec) false w args)
      (Rows.shapeMakesSpec.post enc Tryz.prog Tryz.f6 false true false false) := by
  refine returnsInHanded_of_change_and_shaped (C := Tryz.checked) (X := fun w _ => laidMetH Tryz.prog Rows.shapeMakesRow.laid w) (fun _ _ _ hh h => h.of_heap hh) own started (by kernel_rfl) Tryz.func6
    (ChangeSpec.witness_shaped (enc := enc) (C := Tryz.checked) (os := os) (X := fun w _ => laidMetH Tryz.prog Rows.shapeMakesRow.laid w) false (wDoor os) #[.string ⟨#[]⟩, .agg #[.int .i64 0, .int .i64 0], .agg #[.int .i64 0, .int .i64 0], .agg #[.int .i64 0, .int .i64 0], .agg #[.int .i64 0, .int .i64 0], .slice none 0 0, .agg #[.int .i64 0, .int .i64 0, .int .i64 0, .int .i64 0, .int .i64 0, .int .i64 0, .int .i64 0, .int .i64 0, .int .i64 0, .int .i64 0, .int .i64 0, .int .i64 0]] 8 (door_os _) (World.shaped_of_ZipB (by kernel_rfl) (by kernel_rfl)) (by kernel_rfl) (by kernel_rfl) (by kernel_rfl) (door_met os _)) ?_
  intro W base args ds gs before hval hW _ _ hL hsh _
  exact contract H enc W base args ds gs before hval hW hL hsh

theorem said : Rows.ShapeMakesSaid :=
  OpenClaim.holds_of_wide 6 Tryz.f6 rfl rfl rfl rfl rfl rfl rfl ⟨rfl, rfl, rfl, rfl, rfl⟩ rfl rfl rfl rfl rfl (by kernel_rfl) Tryz.func6 (by kernel_rfl)
    (of_decide_eq_true (by kernel_rfl)) (by unfold Func.isWrapper; first | (rw [if_pos (by decide +kernel)]; kernel_rfl) | (rw [if_neg (by decide +kernel)]; exact ⟨rfl, rfl⟩))
    (fun os started H enc _ => lifted os started H enc)

theorem plain (f : FuncId) (fn : Func) (hf : Tryz.pinned.checked.prog.funcNamed "leadlight/leadlightlaw2.ShapeMakes" = some f) (hfn : Tryz.pinned.checked.prog.funcs[f]? = some fn) :
    true = Tryz.pinned.checked.prog.looks [] ∧ ∀ (j : Nat) t, fn.params[j]? = some t → Tryz.pinned.checked.prog.wantsStandIn t = false := by
  obtain rfl : f = 6 := Option.some.inj ((show Tryz.prog.funcNamed "leadlight/leadlightlaw2.ShapeMakes" = some 6 by kernel_rfl).symm.trans hf) |>.symm
  obtain rfl : fn = Tryz.f6 := (Option.some.inj (Tryz.func6.symm.trans hfn)).symm
  refine ⟨by kernel_rfl, fun j t ht => ?_⟩
  rw [params] at ht
  have hm := Array.mem_of_getElem? ht
  simp at hm
  rcases hm with rfl | rfl | rfl | rfl
  · exact (show Tryz.prog.wantsStandIn 9 = false by kernel_rfl)
  · exact (show Tryz.prog.wantsStandIn 49 = false by kernel_rfl)
  · exact (show Tryz.prog.wantsStandIn 50 = false by kernel_rfl)
  · exact (show Tryz.prog.wantsStandIn 52 = false by kernel_rfl)

/-- THE CARD. -/
theorem card : Rows.ShapeMakesCardSaid :=
  Claim7.holds_tied_plain_at .later [] _ _ _ _ said (fun _ h => by cases h) (by kernel_rfl) (fun _ h => by cases h) shapeMakes_row_tie rfl ⟨rfl, rfl⟩ (by kernel_rfl) rfl plain (by kernel_rfl)
#print axioms card
end Go.Proofs.YtpdaenldmgpkjaaGreatDoor.lawShapeMakes
