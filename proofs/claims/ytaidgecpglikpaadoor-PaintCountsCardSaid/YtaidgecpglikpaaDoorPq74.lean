/-
  The statement PaintCounts, proved: whatever the arguments the call returns true, and each argument reads behind the call as it read before. No condition of its own: what narrows the row is its cell 'laid' (the listed variables hold what the program's text lays), which the card ties.
-/
import Derived.Test.YtaidgecpglikpaaDoorPq7
import Derived.Test.YtaidgecpglikpaaDoorOpn
import Derived.Test.YtaidgecpglikpaaDoorLaw2
import Derived.Test.YtaidgecpglikpaaDoorCards
import Derived.Test.YtaidgecpglikpaaDoorTie
namespace Go.Proofs.YtaidgecpglikpaaDoor.lawPaintCounts
open Go.ChangeShapes Go.WideShapes Go.ChangeAt Go.RowKit Lead
set_option maxRecDepth 100000

def L : List (String × List UInt8) := [("leadlight/api.ErrBound", [108, 101, 97, 100, 108, 105, 103, 104, 116, 58, 32, 98, 111, 117, 110, 100]), ("leadlight/api.ErrShape", [108, 101, 97, 100, 108, 105, 103, 104, 116, 58, 32, 115, 104, 97, 112, 101]), ("leadlight/api.ErrValue", [108, 101, 97, 100, 108, 105, 103, 104, 116, 58, 32, 118, 97, 108, 117, 101]), ("leadlight/api.ErrZero", [108, 101, 97, 100, 108, 105, 103, 104, 116, 58, 32, 122, 101, 114, 111])]
/-- What the condition gives the walks. -/
theorem of_laid {W : World} (h : laidMetH Tryd.prog Rows.paintCountsRow.laid W) : ∃ ea : Nat → Addr, PGs ea W := by
  have hb : laidMet Tryd.prog [("leadlight/api.ErrBound", Rows.laid_leadlight_api_ErrBound), ("leadlight/api.ErrShape", Rows.laid_leadlight_api_ErrShape), ("leadlight/api.ErrValue", Rows.laid_leadlight_api_ErrValue), ("leadlight/api.ErrZero", Rows.laid_leadlight_api_ErrZero)] W ∧ handlesMet Tryd.prog [("errors.errorType", Rows.laid_errors_errorType)] W := h
  have h' : laidMet Tryd.prog (L.map fun x => (x.1, sentD x.2)) W := hb.1
  obtain ⟨ps, h1, h2, h3⟩ := h'
  obtain ⟨As, hl, _, _, h4⟩ := sents_ind L ps h1 h2 h3 (by
    intro x hx
    simp only [L, List.mem_cons, List.not_mem_nil, or_false] at hx
    rcases hx with rfl | rfl | rfl | rfl
    · exact ⟨_, All.gBound, All.gtBound⟩
    · exact ⟨_, All.gShape, All.gtShape⟩
    · exact ⟨_, All.gValue, All.gtValue⟩
    · exact ⟨_, All.gZero, All.gtZero⟩)
  match As, hl with
  | [a0, a1, a2, a3], _ =>
    exact ⟨fun c => if c = 2 then a0 else if c = 3 then a1 else if c = 10 then a2 else a3, (h4 0 _ a0 rfl rfl).1 _ All.gBound, (h4 1 _ a1 rfl rfl).1 _ All.gShape, (h4 2 _ a2 rfl rfl).1 _ All.gValue, (h4 3 _ a3 rfl rfl).1 _ All.gZero, All.handle hb.2⟩

theorem params : Tryd.f4.params = #[22, 3, 3] := Tryd.params4

theorem contract (H : Type) (enc : TypeId × Value → H) (W : World) (base : Nat) (args : Array Value) (ds gs : List (DataW H)) (before : List MemPlace)
    (hval0 : ∀ (j : Nat) t v, Tryd.f4.params[j]? = some t → args[j]? = some v → Value.okWide Tryd.prog W .any base t v)
    (hW : DataW.Whole enc Tryd.prog Tryd.f4.params.toList Rows.paintCountsSpec.vars false W args.toList ds gs before) (hL : laidMetH Tryd.prog Rows.paintCountsRow.laid W) :
    Calls Tryd.prog 4 args W fun e W' => ∃ v, e = .returned v ∧ Rows.paintCountsSpec.post enc Tryd.prog Tryd.f4 false true false false W args v W' := by
  have hval := hval0
  have hWW := hW
  obtain ⟨p, q, hA, hV, _, _, _⟩ := hWW
  have hA' : DataW.TrodAll enc Tryd.prog W 0 (fun _ => true) true Tryd.f4.params.toList args.toList ds p := hA
  rw [params] at hA' hval
  obtain ⟨v0, vs0, d0, ds0, p0, q0, e0, rfl, rfl, h0, r0⟩ := trodAll_cons hA'
  obtain ⟨v1, vs1, d1, ds1, p1, q1, rfl, rfl, rfl, h1, r1⟩ := trodAll_cons r0
  obtain ⟨v2, vs2, d2, ds2, p2, q2, rfl, rfl, rfl, h2, r2⟩ := trodAll_cons r1
  obtain ⟨rfl, rfl, rfl⟩ := trodAll_nil r2
  obtain rfl : args = #[v0, v1, v2] := by cases args; simp_all
  obtain ⟨oa0, len0, cap0, l0, rfl, hs0⟩ := open_pieces (hval 0 _ _ rfl rfl) h0
  obtain ⟨z1, rfl, rfl, rfl, wz1⟩ := open_int Tryd.underlying3 (hval 1 _ _ rfl rfl) h1
  obtain ⟨z2, rfl, rfl, rfl, wz2⟩ := open_int Tryd.underlying3 (hval 2 _ _ rfl rfl) h2
  obtain ⟨ea, hP⟩ := of_laid hL
  refine (pq_law ea l0 oa0 len0 cap0 z1 z2 W hs0 hP).mono fun e W' ⟨he, hb⟩ => ?_
  subst he
  exact ⟨_, rfl, law_post laidOut (by rw [params]; intro t ht; simp at ht; rcases ht with rfl | rfl <;> exact ⟨by kernel_rfl, of_decide_eq_true (by kernel_rfl)⟩) rfl Tryd.underlying4 (by kernel_rfl)
    (fun ds hds => by
      have : ds.length = 3 := hds.trans (by rw [params]; rfl)
      match ds, this with
      | [a, b, c], _ => rfl) hW hb⟩

theorem door_met (os : Os) (args : Array Value) : laidMetH Tryd.prog Rows.paintCountsRow.laid ((World.doorLaid Tryd.prog 400 os).forCall (fun _ _ => 0) ⟨#[], args, []⟩).memory :=
  laidMetH_of_parts3 (fuel := 8) (laidMet_of_run' 8 (by kernel_rfl) (by kernel_rfl)) (by kernel_rfl) (by kernel_rfl)

theorem lifted (os : Os) (started : os.Started) (H : Type) (enc : TypeId × Value → H) :
    ReturnsInHanded {} Tryd.checked os 4 .any (fun w args => (Rows.paintCountsSpec.pre enc Tryd.prog Tryd.f4 [] false w args ∧ laidMetH Tryd.prog Rows.paintCountsRow.laid w) ∧ sizedMet enc Tryd.prog Tryd.f4 (OpenSpec.ofChange Rows.paintCountsSpec) false w args)
      (Rows.paintCountsSpec.post enc Tryd.prog Tryd.f4 false true false false) := by
  refine returnsInHanded_of_change_and (C := Tryd.checked) (X := fun w _ => laidMetH Tryd.prog Rows.paintCountsRow.laid w) (fun _ _ _ hh h => h.of_heap hh) own started (by kernel_rfl) Tryd.func4
    (ChangeSpec.witness_shaped (enc := enc) (C := Tryd.checked) (os := os) (X := fun w _ => laidMetH Tryd.prog Rows.paintCountsRow.laid w) false (World.doorLaid Tryd.prog 400 os) #[.slice none 0 0, .int .i64 0, .int .i64 0] 8 rfl (World.shaped_of_RefB (by kernel_rfl) (by kernel_rfl)) (by kernel_rfl) (by kernel_rfl) (by kernel_rfl) (door_met os _)) ?_
  intro W base args ds gs before hval hW _ _ hL _
  exact contract H enc W base args ds gs before hval hW hL

theorem said : Rows.PaintCountsSaid :=
  OpenClaim.holds_of_wide 4 Tryd.f4 rfl rfl rfl rfl rfl rfl rfl ⟨rfl, rfl, rfl, rfl, rfl⟩ rfl rfl rfl rfl rfl (by kernel_rfl) Tryd.func4 (by kernel_rfl)
    (of_decide_eq_true (by kernel_rfl)) (by unfold Func.isWrapper; first | (rw [if_pos (by decide +kernel)]; kernel_rfl) | (rw [if_neg (by decide +kernel)]; exact ⟨rfl, rfl⟩))
    (fun os started H enc _ => lifted os started H enc)

theorem plain (f : FuncId) (fn : Func) (hf : Tryd.pinned.checked.prog.funcNamed "leadlight/leadlightlaw2.PaintCounts" = some f) (hfn : Tryd.pinned.checked.prog.funcs[f]? = some fn) :
    true = Tryd.pinned.checked.prog.looks [] ∧ ∀ (j : Nat) t, fn.params[j]? = some t → Tryd.pinned.checked.prog.wantsStandIn t = false := by
  obtain rfl : f = 4 := Option.some.inj ((show Tryd.prog.funcNamed "leadlight/leadlightlaw2.PaintCounts" = some 4 by kernel_rfl).symm.trans hf) |>.symm
  obtain rfl : fn = Tryd.f4 := (Option.some.inj (Tryd.func4.symm.trans hfn)).symm
  refine ⟨by kernel_rfl, fun j t ht => ?_⟩
  rw [params] at ht
  have hm := Array.mem_of_getElem? ht
  simp at hm
  rcases hm with rfl | rfl
  · exact (show Tryd.prog.wantsStandIn 22 = false by kernel_rfl)
  · exact (show Tryd.prog.wantsStandIn 3 = false by kernel_rfl)

/-- THE CARD. -/
theorem card : Rows.PaintCountsCardSaid :=
  Claim7.holds_tied_plain_at .later [] _ _ _ _ said (fun _ h => by cases h) (by kernel_rfl) (fun _ h => by cases h) paintCounts_row_tie rfl ⟨rfl, rfl⟩ (by kernel_rfl) rfl plain (by kernel_rfl)
#print axioms card
end Go.Proofs.YtaidgecpglikpaaDoor.lawPaintCounts
