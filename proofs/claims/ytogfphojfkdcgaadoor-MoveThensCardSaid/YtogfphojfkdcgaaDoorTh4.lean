/-
  The statement MoveThens, proved: whatever the arguments the call returns true, and each argument reads behind the call as it read before. No condition of its own: what narrows the row is its cell 'laid' (the listed variables hold what the program's text lays), which the card ties.
-/
import Derived.Test.YtogfphojfkdcgaaDoorTh2
import Derived.Test.YtogfphojfkdcgaaDoorLaw3
import Derived.Lay
import Derived.Test.YtogfphojfkdcgaaDoorOpen3
import Derived.Test.YtogfphojfkdcgaaDoorOpen2
import Derived.Test.YtogfphojfkdcgaaDoorOpen
import Derived.Test.YtogfphojfkdcgaaDoorLaw
import Derived.Test.YtogfphojfkdcgaaDoorCards
import Derived.Test.YtogfphojfkdcgaaDoorTie
namespace Go.Proofs.YtogfphojfkdcgaaDoor.lawMoveThens
open Go.ChangeShapes Go.WideShapes Go.ChangeAt Go.RowKit Lead
set_option maxRecDepth 100000

theorem gP10 : Tryd.prog.globalNamed "internal/strconv.uint64pow10" = some 10 := by kernel_rfl
theorem gtP10 : (Tryd.prog.globals[10]?).map (·.type) = some 151 := by kernel_rfl
theorem gText : Tryd.prog.globalNamed "leadlight/api.ErrText" = some 2 := by kernel_rfl
theorem gtText : (Tryd.prog.globals[2]?).map (·.type) = some 32 := by kernel_rfl
theorem gBound : Tryd.prog.globalNamed "leadlight/api.ErrBound" = some 0 := by kernel_rfl
theorem gtBound : (Tryd.prog.globals[0]?).map (·.type) = some 32 := by kernel_rfl
theorem gShape : Tryd.prog.globalNamed "leadlight/api.ErrShape" = some 4 := by kernel_rfl
theorem gtShape : (Tryd.prog.globals[4]?).map (·.type) = some 32 := by kernel_rfl
def L : List (String × List UInt8) := [("leadlight/api.ErrText", [108, 101, 97, 100, 108, 105, 103, 104, 116, 58, 32, 116, 101, 120, 116]), ("leadlight/api.ErrBound", [108, 101, 97, 100, 108, 105, 103, 104, 116, 58, 32, 98, 111, 117, 110, 100]), ("leadlight/api.ErrShape", [108, 101, 97, 100, 108, 105, 103, 104, 116, 58, 32, 115, 104, 97, 112, 101])]
theorem size_globs {W : World} (h : W.ShapedOpen Tryd.prog) : 13 ≤ W.heap.size := by
  have hs : (((begin Tryd.prog (fun _ _ => 0) default).world.heap[13 - 1]?).bind Obj.row?).isSome = true := by kernel_rfl
  obtain ⟨⟨zero, t⟩, hz⟩ := Option.isSome_iff_exists.1 hs
  obtain ⟨cs, hh, _⟩ := h.1 (13 - 1) zero t (of_decide_eq_true (by kernel_rfl)) hz
  have := (Array.getElem?_eq_some_iff.1 hh).1
  omega
/-- What the condition gives the walks. -/
theorem of_laid {W : World} (h : laidMetH Tryd.prog Rows.moveThensRow.laid W) (hsh : W.ShapedOpen Tryd.prog) : ∃ ea : Nat → Addr, W.cell? ⟨2, 0, none⟩ = some (.iface 147 (.pointer (some (ea 1)))) ∧ Gs false ea W ∧ Libs W := by
  have hb : laidMet Tryd.prog [("math/bits.deBruijn32tab", Rows.laid_math_bits_deBruijn32tab), ("math/bits.deBruijn64tab", Rows.laid_math_bits_deBruijn64tab), ("internal/strconv.uint64pow10", Rows.laid_internal_strconv_uint64pow10), ("unicode/utf8.acceptRanges", Rows.laid_unicode_utf8_acceptRanges), ("leadlight/api.ErrText", Rows.laid_leadlight_api_ErrText), ("leadlight/api.ErrBound", Rows.laid_leadlight_api_ErrBound), ("leadlight/api.ErrShape", Rows.laid_leadlight_api_ErrShape), ("strconv.ErrRange", Rows.laid_strconv_ErrRange), ("strconv.ErrSyntax", Rows.laid_strconv_ErrSyntax), ("unicode/utf8.first", Rows.laid_unicode_utf8_first)] W := h
  have htab : Lib.TabIs Tryd.prog W "internal/strconv.uint64pow10" .u64 Lib.pow10Tab := Lib.tabIs_of_head gP10 gtP10 Tryd.underlying151 Tryd.underlying132 (by kernel_rfl) (by kernel_rfl) (laidMet.tail (laidMet.tail hb))
  have h0 := (laidMet.tail (laidMet.tail (laidMet.tail (laidMet.tail hb))))
  have h1 : laidMet Tryd.prog (L.map fun x => (x.1, sentD x.2)) W := laidMet.filter (fun x => x.1 == "leadlight/api.ErrText" || (x.1 == "leadlight/api.ErrBound" || x.1 == "leadlight/api.ErrShape")) h0
  have h2 : laidMet Tryd.prog (LibL.map fun x => (x.1, sentD x.2)) W := laidMet.filter (fun x => x.1 == "strconv.ErrRange" || x.1 == "strconv.ErrSyntax") h0
  obtain ⟨ps, k1, k2, k3⟩ := h1
  obtain ⟨As, hl, _, _, h4⟩ := sents_ind L ps k1 k2 k3 (by
    intro x hx
    simp only [L, List.mem_cons, List.not_mem_nil, or_false] at hx
    rcases hx with rfl | rfl | rfl
    · exact ⟨_, gText, gtText⟩
    · exact ⟨_, gBound, gtBound⟩
    · exact ⟨_, gShape, gtShape⟩)
  match As, hl with
  | [a0, a1, a2], _ =>
    refine ⟨fun c => if c = 1 then a0 else if c = 2 then a1 else a2, ?_, ⟨?_, ?_, fun k => by cases k⟩, libs_of h2 hsh htab⟩
    · exact (h4 0 _ a0 rfl rfl).1 _ gText
    · exact (h4 1 _ a1 rfl rfl).1 _ gBound
    · exact (h4 2 _ a2 rfl rfl).1 _ gShape

theorem params : Tryd.f4.params = #[48, 48, 48, 26] := Tryd.params4

theorem contract (H : Type) (enc : TypeId × Value → H) (W : World) (base : Nat) (args : Array Value) (ds gs : List (DataW H)) (before : List MemPlace)
    (hval0 : ∀ (j : Nat) t v, Tryd.f4.params[j]? = some t → args[j]? = some v → Value.okWide Tryd.prog W .any base t v)
    (hW : DataW.Whole enc Tryd.prog Tryd.f4.params.toList Rows.moveThensSpec.vars false W args.toList ds gs before) (hL : laidMetH Tryd.prog Rows.moveThensRow.laid W) (hsh : W.ShapedOpen Tryd.prog) :
    Calls Tryd.prog 4 args W fun e W' => ∃ v, e = .returned v ∧ Rows.moveThensSpec.post enc Tryd.prog Tryd.f4 false true false false W args v W' := by
  have hval := hval0
  have hWW := hW
  obtain ⟨p, q, hA, hV, _, _, _⟩ := hWW
  have hA' : DataW.TrodAll enc Tryd.prog W 0 (fun _ => true) true Tryd.f4.params.toList args.toList ds p := hA
  rw [params] at hA' hval
  obtain ⟨v0, vs0, d0, ds0, p0, q0, e0, rfl, rfl, h0, r0⟩ := trodAll_cons hA'
  obtain ⟨v1, vs1, d1, ds1, p1, q1, rfl, rfl, rfl, h1, r1⟩ := trodAll_cons r0
  obtain ⟨v2, vs2, d2, ds2, p2, q2, rfl, rfl, rfl, h2, r2⟩ := trodAll_cons r1
  obtain ⟨v3, vs3, d3, ds3, p3, q3, rfl, rfl, rfl, h3, r3⟩ := trodAll_cons r2
  obtain ⟨rfl, rfl, rfl⟩ := trodAll_nil r3
  obtain rfl : args = #[v0, v1, v2, v3] := by cases args; simp_all
  obtain ⟨m0, rfl, hm0⟩ := open_six_arg (hval 0 _ _ rfl rfl) h0
  obtain ⟨m1, rfl, hm1⟩ := open_six_arg (hval 1 _ _ rfl rfl) h1
  obtain ⟨m2, rfl, hm2⟩ := open_six_arg (hval 2 _ _ rfl rfl) h2
  obtain ⟨pt3, rfl, hp3⟩ := open_point_arg (hval 3 _ _ rfl rfl) h3
  obtain ⟨ea, hText, hG, hLb⟩ := of_laid hL hsh
  have hng := size_globs hsh
  refine (th_law ea m0 m1 m2 pt3 W hm0 hm1 hm2 hp3 hLb hG hng hText).mono fun e W' ⟨he, hb⟩ => ?_
  subst he
  exact ⟨_, rfl, law_post laidOut (by rw [params]; intro t ht; simp at ht; rcases ht with rfl | rfl <;> exact ⟨by kernel_rfl, of_decide_eq_true (by kernel_rfl)⟩) rfl Tryd.underlying4 (by kernel_rfl)
    (fun ds hds => by
      have : ds.length = 4 := hds.trans (by rw [params]; rfl)
      match ds, this with
      | [a, b, c, d], _ => rfl) hW hb⟩

theorem door_met (os : Os) (args : Array Value) : laidMetH Tryd.prog Rows.moveThensRow.laid ((World.laidAll Tryd.prog os Rows.moveThensRow.laid).forCall (fun _ _ => 0) ⟨#[], args, []⟩).memory :=
  by rw [MakeChecks.laidMetH_plain _ _ _ (by kernel_rfl)]; exact laidMet_laidAll _ (by kernel_rfl) (by kernel_rfl)

theorem lifted (os : Os) (started : os.Started) (H : Type) (enc : TypeId × Value → H) :
    ReturnsInHanded {} Tryd.checked os 4 .any (fun w args => (Rows.moveThensSpec.pre enc Tryd.prog Tryd.f4 [] false w args ∧ laidMetH Tryd.prog Rows.moveThensRow.laid w) ∧ sizedMet enc Tryd.prog Tryd.f4 (OpenSpec.ofChange Rows.moveThensSpec) false w args)
      (Rows.moveThensSpec.post enc Tryd.prog Tryd.f4 false true false false) := by
  refine returnsInHanded_of_change_and_shaped (C := Tryd.checked) (X := fun w _ => laidMetH Tryd.prog Rows.moveThensRow.laid w) (fun _ _ _ hh h => h.of_heap hh) own started (by kernel_rfl) Tryd.func4
    (ChangeSpec.witness_shaped (enc := enc) (C := Tryd.checked) (os := os) (X := fun w _ => laidMetH Tryd.prog Rows.moveThensRow.laid w) false (World.laidAll Tryd.prog os Rows.moveThensRow.laid) #[.agg #[.int .i64 0, .int .i64 0, .int .i64 0, .int .i64 0, .int .i64 0, .int .i64 0, .int .i64 0, .int .i64 0, .int .i64 0, .int .i64 0, .int .i64 0, .int .i64 0], .agg #[.int .i64 0, .int .i64 0, .int .i64 0, .int .i64 0, .int .i64 0, .int .i64 0, .int .i64 0, .int .i64 0, .int .i64 0, .int .i64 0, .int .i64 0, .int .i64 0], .agg #[.int .i64 0, .int .i64 0, .int .i64 0, .int .i64 0, .int .i64 0, .int .i64 0, .int .i64 0, .int .i64 0, .int .i64 0, .int .i64 0, .int .i64 0, .int .i64 0], .agg #[.int .i64 0, .int .i64 0, .int .i64 0, .int .i64 0]] 8 (World.laidAll_os _ _ _) (World.shaped_of_ZipB (by kernel_rfl) (by kernel_rfl)) (by kernel_rfl) (by kernel_rfl) (by kernel_rfl) (door_met os _)) ?_
  intro W base args ds gs before hval hW _ _ hL hsh _
  exact contract H enc W base args ds gs before hval hW hL hsh

theorem said : Rows.MoveThensSaid :=
  OpenClaim.holds_of_wide 4 Tryd.f4 rfl rfl rfl rfl rfl rfl rfl ⟨rfl, rfl, rfl, rfl, rfl⟩ rfl rfl rfl rfl rfl (by kernel_rfl) Tryd.func4 (by kernel_rfl)
    (of_decide_eq_true (by kernel_rfl)) (by unfold Func.isWrapper; first | (rw [if_pos (by decide +kernel)]; kernel_rfl) | (rw [if_neg (by decide +kernel)]; exact ⟨rfl, rfl⟩))
    (fun os started H enc _ => lifted os started H enc)

theorem plain (f : FuncId) (fn : Func) (hf : Tryd.pinned.checked.prog.funcNamed "leadlight/leadlightlaw1.MoveThens" = some f) (hfn : Tryd.pinned.checked.prog.funcs[f]? = some fn) :
    true = Tryd.pinned.checked.prog.looks [] ∧ ∀ (j : Nat) t, fn.params[j]? = some t → Tryd.pinned.checked.prog.wantsStandIn t = false := by
  obtain rfl : f = 4 := Option.some.inj ((show Tryd.prog.funcNamed "leadlight/leadlightlaw1.MoveThens" = some 4 by kernel_rfl).symm.trans hf) |>.symm
  obtain rfl : fn = Tryd.f4 := (Option.some.inj (Tryd.func4.symm.trans hfn)).symm
  refine ⟨by kernel_rfl, fun j t ht => ?_⟩
  rw [params] at ht
  have hm := Array.mem_of_getElem? ht
  simp at hm
  rcases hm with rfl | rfl
  · exact (show Tryd.prog.wantsStandIn 48 = false by kernel_rfl)
  · exact (show Tryd.prog.wantsStandIn 26 = false by kernel_rfl)

/-- THE CARD. -/
theorem card : Rows.MoveThensCardSaid :=
  Claim7.holds_tied_plain_at .later [] _ _ _ _ said (fun _ h => by cases h) (by kernel_rfl) (fun _ h => by cases h) moveThens_row_tie rfl ⟨rfl, rfl⟩ (by kernel_rfl) rfl plain (by kernel_rfl)
#print axioms card
end Go.Proofs.YtogfphojfkdcgaaDoor.lawMoveThens
