/-
  The statement FracOrders, proved: whatever the arguments the call returns true, and each argument reads behind the call as it read before. No condition of its own: what narrows the row is its cell 'laid' (the listed variables hold what the program's text lays), which the card ties.
-/
import Derived.Test.YthpicnajemnfdaaDoorOrders1
import Derived.Test.YthpicnajemnfdaaDoorOpen2
import Derived.Test.YthpicnajemnfdaaDoorOpen
import Derived.Test.YthpicnajemnfdaaDoorLaw
import Derived.Test.YthpicnajemnfdaaDoorCards
import Derived.Test.YthpicnajemnfdaaDoorTie
namespace Go.Proofs.YthpicnajemnfdaaDoor.lawFracOrders
open Go.ChangeShapes Go.WideShapes Go.ChangeAt Go.RowKit Lead
set_option maxRecDepth 100000

theorem gBound : Tryd.prog.globalNamed "leadlight/api.ErrBound" = some 1 := by kernel_rfl
theorem gtBound : (Tryd.prog.globals[1]?).map (·.type) = some 32 := by kernel_rfl
theorem gShape : Tryd.prog.globalNamed "leadlight/api.ErrShape" = some 2 := by kernel_rfl
theorem gtShape : (Tryd.prog.globals[2]?).map (·.type) = some 32 := by kernel_rfl
theorem gZero : Tryd.prog.globalNamed "leadlight/api.ErrZero" = some 10 := by kernel_rfl
theorem gtZero : (Tryd.prog.globals[10]?).map (·.type) = some 32 := by kernel_rfl
theorem gP10 : Tryd.prog.globalNamed "internal/strconv.uint64pow10" = some 12 := by kernel_rfl
theorem gtP10 : (Tryd.prog.globals[12]?).map (·.type) = some 149 := by kernel_rfl

def L : List (String × List UInt8) := [("leadlight/api.ErrBound", [108, 101, 97, 100, 108, 105, 103, 104, 116, 58, 32, 98, 111, 117, 110, 100]), ("leadlight/api.ErrShape", [108, 101, 97, 100, 108, 105, 103, 104, 116, 58, 32, 115, 104, 97, 112, 101]), ("leadlight/api.ErrZero", [108, 101, 97, 100, 108, 105, 103, 104, 116, 58, 32, 122, 101, 114, 111])]

/-- What the condition gives the walks. -/
theorem of_laid {W : World} (h : laidMetH Tryd.prog Rows.fracOrdersRow.laid W) : ∃ ea : Nat → Addr, Lib.TabIs Tryd.prog W "internal/strconv.uint64pow10" .u64 Lib.pow10Tab ∧ W.cell? ⟨1, 0, none⟩ = some (.iface 87 (.pointer (some (ea 2)))) ∧ W.cell? ⟨2, 0, none⟩ = some (.iface 87 (.pointer (some (ea 3)))) ∧ W.cell? ⟨10, 0, none⟩ = some (.iface 87 (.pointer (some (ea 11)))) := by
  have hM : laidMet Tryd.prog [("math/bits.deBruijn32tab", Rows.laid_math_bits_deBruijn32tab), ("math/bits.deBruijn64tab", Rows.laid_math_bits_deBruijn64tab), ("internal/strconv.uint64pow10", Rows.laid_internal_strconv_uint64pow10), ("leadlight/api.ErrBound", Rows.laid_leadlight_api_ErrBound), ("leadlight/api.ErrShape", Rows.laid_leadlight_api_ErrShape), ("leadlight/api.ErrZero", Rows.laid_leadlight_api_ErrZero)] W := h
  have htab : Lib.TabIs Tryd.prog W "internal/strconv.uint64pow10" .u64 Lib.pow10Tab := Lib.tabIs_of_head gP10 gtP10 Tryd.underlying149 Tryd.underlying141 (by kernel_rfl) (by kernel_rfl) (laidMet.tail (laidMet.tail hM))
  have h0 := (laidMet.tail (laidMet.tail (laidMet.tail hM)))
  have h' : laidMet Tryd.prog (L.map fun x => (x.1, sentD x.2)) W := h0
  obtain ⟨ps, h1, h2, h3⟩ := h'
  obtain ⟨As, hl, _, _, h4⟩ := sents_ind L ps h1 h2 h3 (by
    intro x hx
    simp only [L, List.mem_cons, List.not_mem_nil, or_false] at hx
    rcases hx with rfl | rfl | rfl
    · exact ⟨_, gBound, gtBound⟩
    · exact ⟨_, gShape, gtShape⟩
    · exact ⟨_, gZero, gtZero⟩)
  match As, hl with
  | [a0, a1, a2], _ =>
    exact ⟨fun c => if c = 2 then a0 else if c = 3 then a1 else a2, htab, (h4 0 _ a0 rfl rfl).1 _ gBound, (h4 1 _ a1 rfl rfl).1 _ gShape, (h4 2 _ a2 rfl rfl).1 _ gZero⟩

theorem params : Tryd.f7.params = #[24, 24, 24] := Tryd.params7

theorem contract (H : Type) (enc : TypeId × Value → H) (W : World) (base : Nat) (args : Array Value) (ds gs : List (DataW H)) (before : List MemPlace)
    (hval0 : ∀ (j : Nat) t v, Tryd.f7.params[j]? = some t → args[j]? = some v → Value.okWide Tryd.prog W .any base t v)
    (hW : DataW.Whole enc Tryd.prog Tryd.f7.params.toList Rows.fracOrdersSpec.vars false W args.toList ds gs before) (hL : laidMetH Tryd.prog Rows.fracOrdersRow.laid W) :
    Calls Tryd.prog 7 args W fun e W' => ∃ v, e = .returned v ∧ Rows.fracOrdersSpec.post enc Tryd.prog Tryd.f7 false true false false W args v W' := by
  have hval := hval0
  have hWW := hW
  obtain ⟨p, q, hA, hV, _, _, _⟩ := hWW
  have hA' : DataW.TrodAll enc Tryd.prog W 0 (fun _ => true) true Tryd.f7.params.toList args.toList ds p := hA
  rw [params] at hA' hval
  obtain ⟨v0, vs0, d0, ds0, p0, q0, e0, rfl, rfl, h0, r0⟩ := trodAll_cons hA'
  obtain ⟨v1, vs1, d1, ds1, p1, q1, rfl, rfl, rfl, h1, r1⟩ := trodAll_cons r0
  obtain ⟨v2, vs2, d2, ds2, p2, q2, rfl, rfl, rfl, h2, r2⟩ := trodAll_cons r1
  obtain ⟨rfl, rfl, rfl⟩ := trodAll_nil r2
  obtain rfl : args = #[v0, v1, v2] := by cases args; simp_all
  obtain ⟨a0, rfl, ha0⟩ := open_frac_arg (hval 0 _ _ rfl rfl) h0
  obtain ⟨a1, rfl, ha1⟩ := open_frac_arg (hval 1 _ _ rfl rfl) h1
  obtain ⟨a2, rfl, ha2⟩ := open_frac_arg (hval 2 _ _ rfl rfl) h2
  obtain ⟨ea, htab, hBound, hShape, hZero⟩ := of_laid hL
  refine (orders_any ea a0 a1 a2 W ha0 ha1 ha2 hShape hBound hZero htab).mono fun e W' ⟨he, hb⟩ => ?_
  subst he
  exact ⟨_, rfl, law_post laidOut (by rw [params]; intro t ht; simp at ht; subst ht; exact ⟨by kernel_rfl, of_decide_eq_true (by kernel_rfl)⟩) rfl Tryd.underlying4 (by kernel_rfl)
    (fun ds hds => by
      have : ds.length = 3 := hds.trans (by rw [params]; rfl)
      match ds, this with
      | [a, b, c], _ => rfl) hW hb⟩

theorem door_met (os : Os) (args : Array Value) : laidMetH Tryd.prog Rows.fracOrdersRow.laid ((World.doorLaid Tryd.prog 400 os).forCall (fun _ _ => 0) ⟨#[], args, []⟩).memory :=
  laidMetH_of_parts3 (fuel := 8) (laidMet_of_run' 8 (by kernel_rfl) (by kernel_rfl)) (by kernel_rfl) (by kernel_rfl)

theorem lifted (os : Os) (started : os.Started) (H : Type) (enc : TypeId × Value → H) :
    ReturnsInHanded {} Tryd.checked os 7 .any (fun w args => (Rows.fracOrdersSpec.pre enc Tryd.prog Tryd.f7 [] false w args ∧ laidMetH Tryd.prog Rows.fracOrdersRow.laid w) ∧ sizedMet enc Tryd.prog Tryd.f7 (OpenSpec.ofChange Rows.fracOrdersSpec) false w args)
      (Rows.fracOrdersSpec.post enc Tryd.prog Tryd.f7 false true false false) := by
  refine returnsInHanded_of_change_and (C := Tryd.checked) (X := fun w _ => laidMetH Tryd.prog Rows.fracOrdersRow.laid w) (fun _ _ _ hh h => h.of_heap hh) own started (by kernel_rfl) Tryd.func7
    (ChangeSpec.witness_shaped (enc := enc) (C := Tryd.checked) (os := os) (X := fun w _ => laidMetH Tryd.prog Rows.fracOrdersRow.laid w) false (World.doorLaid Tryd.prog 400 os) #[.agg #[.int .i64 0, .int .i64 0], .agg #[.int .i64 0, .int .i64 0], .agg #[.int .i64 0, .int .i64 0]] 8 rfl (World.shaped_of_RefB (by kernel_rfl) (by kernel_rfl)) (by kernel_rfl) (by kernel_rfl) (by kernel_rfl) (door_met os _)) ?_
  intro W base args ds gs before hval hW _ _ hL _
  exact contract H enc W base args ds gs before hval hW hL

theorem said : Rows.FracOrdersSaid :=
  OpenClaim.holds_of_wide 7 Tryd.f7 rfl rfl rfl rfl rfl rfl rfl ⟨rfl, rfl, rfl, rfl, rfl⟩ rfl rfl rfl rfl rfl (by kernel_rfl) Tryd.func7 (by kernel_rfl)
    (of_decide_eq_true (by kernel_rfl)) (by unfold Func.isWrapper; first | (rw [if_pos (by decide +kernel)]; kernel_rfl) | (rw [if_neg (by decide +kernel)]; exact ⟨rfl, rfl⟩))
    (fun os started H enc _ => lifted os started H enc)

theorem plain (f : FuncId) (fn : Func) (hf : Tryd.pinned.checked.prog.funcNamed "leadlight/leadlightlaw1.FracOrders" = some f) (hfn : Tryd.pinned.checked.prog.funcs[f]? = some fn) :
    true = Tryd.pinned.checked.prog.looks [] ∧ ∀ (j : Nat) t, fn.params[j]? = some t → Tryd.pinned.checked.prog.wantsStandIn t = false := by
  obtain rfl : f = 7 := Option.some.inj ((show Tryd.prog.funcNamed "leadlight/leadlightlaw1.FracOrders" = some 7 by kernel_rfl).symm.trans hf) |>.symm
  obtain rfl : fn = Tryd.f7 := (Option.some.inj (Tryd.func7.symm.trans hfn)).symm
  refine ⟨by kernel_rfl, fun j t ht => ?_⟩
  rw [params] at ht
  have hm := Array.mem_of_getElem? ht
  simp at hm
  subst hm
  exact (show Tryd.prog.wantsStandIn 24 = false by kernel_rfl)

/-- THE CARD. -/
theorem card : Rows.FracOrdersCardSaid :=
  Claim7.holds_tied_plain_at .later [] _ _ _ _ said (fun _ h => by cases h) (by kernel_rfl) (fun _ h => by cases h) fracOrders_row_tie rfl ⟨rfl, rfl⟩ (by kernel_rfl) rfl plain (by kernel_rfl)
#print axioms card
end Go.Proofs.YthpicnajemnfdaaDoor.lawFracOrders
