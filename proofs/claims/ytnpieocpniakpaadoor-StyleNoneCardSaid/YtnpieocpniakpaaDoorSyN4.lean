/-
  The statement StyleNone, proved: whatever the arguments the call returns true, and each argument reads behind the call as it read before. No condition of its own: what narrows the row is its cell 'laid' (the listed variables hold what the program's text lays), which the card ties.
-/
import Derived.Test.YtnpieocpniakpaaDoorSyA
import Derived.Test.YtnpieocpniakpaaDoorLaS
import Derived.Shelf.Vars
import Derived.Lay
import Derived.Test.YtnpieocpniakpaaDoorOpd
import Derived.Test.YtnpieocpniakpaaDoorCards
import Derived.Test.YtnpieocpniakpaaDoorTie
import Derived.ProofKit
import Derived.ChangeMaps5
import Derived.ChangeSame
namespace Go.Proofs.YtnpieocpniakpaaDoor.lawStyleNone
open Go.ChangeShapes Go.WideShapes Go.ChangeAt Go.RowKit Lead Lead.Dc
set_option maxRecDepth 100000

theorem gText : Tryd.prog.globalNamed "leadlight/api.ErrText" = some 1 := by kernel_rfl
theorem gtText : (Tryd.prog.globals[1]?).map (·.type) = some 31 := by kernel_rfl
theorem gBound : Tryd.prog.globalNamed "leadlight/api.ErrBound" = some 0 := by kernel_rfl
theorem gtBound : (Tryd.prog.globals[0]?).map (·.type) = some 31 := by kernel_rfl
theorem gName : Tryd.prog.globalNamed "leadlight/api.ErrName" = some 4 := by kernel_rfl
theorem gtName : (Tryd.prog.globals[4]?).map (·.type) = some 31 := by kernel_rfl
theorem gExist : Tryd.prog.globalNamed "leadlight/api.ErrExist" = some 5 := by kernel_rfl
theorem gtExist : (Tryd.prog.globals[5]?).map (·.type) = some 31 := by kernel_rfl
theorem gFull : Tryd.prog.globalNamed "leadlight/api.ErrFull" = some 2 := by kernel_rfl
theorem gtFull : (Tryd.prog.globals[2]?).map (·.type) = some 31 := by kernel_rfl
theorem gDeep : Tryd.prog.globalNamed "leadlight/api.ErrDeep" = some 3 := by kernel_rfl
theorem gtDeep : (Tryd.prog.globals[3]?).map (·.type) = some 31 := by kernel_rfl
theorem gValue : Tryd.prog.globalNamed "leadlight/api.ErrValue" = some 6 := by kernel_rfl
theorem gtValue : (Tryd.prog.globals[6]?).map (·.type) = some 31 := by kernel_rfl
def L : List (String × List UInt8) := [("leadlight/api.ErrText", [108, 101, 97, 100, 108, 105, 103, 104, 116, 58, 32, 116, 101, 120, 116]), ("leadlight/api.ErrBound", [108, 101, 97, 100, 108, 105, 103, 104, 116, 58, 32, 98, 111, 117, 110, 100]), ("leadlight/api.ErrName", [108, 101, 97, 100, 108, 105, 103, 104, 116, 58, 32, 110, 97, 109, 101]), ("leadlight/api.ErrExist", [108, 101, 97, 100, 108, 105, 103, 104, 116, 58, 32, 101, 120, 105, 115, 116]), ("leadlight/api.ErrFull", [108, 101, 97, 100, 108, 105, 103, 104, 116, 58, 32, 102, 117, 108, 108]), ("leadlight/api.ErrDeep", [108, 101, 97, 100, 108, 105, 103, 104, 116, 58, 32, 100, 101, 101, 112]), ("leadlight/api.ErrValue", [108, 101, 97, 100, 108, 105, 103, 104, 116, 58, 32, 118, 97, 108, 117, 101])]
theorem maxlen_cell {W : World} (h : W.ShapedOpen Tryd.prog) : ∃ m, W.cell? ⟨7, 0, none⟩ = some (.int .i64 m) :=
  cell_of_shapedOpen_int (zero := #[.int .i64 0]) (t := 3) h (of_decide_eq_true (by kernel_rfl)) (by kernel_rfl) rfl (by kernel_rfl) (by kernel_rfl) Tryd.underlying3
/-- What the condition gives the walks. -/
theorem of_laid {W : World} (h : laidMetH Tryd.prog Rows.styleNoneRow.laid W) : ∃ ea : Nat → Addr, W.cell? ⟨1, 0, none⟩ = some (.iface 132 (.pointer (some (ea 1)))) ∧ W.cell? ⟨0, 0, none⟩ = some (.iface 132 (.pointer (some (ea 2)))) ∧ CGs ea W := by
  have hb : laidMet Tryd.prog [("unicode/utf8.acceptRanges", Rows.laid_unicode_utf8_acceptRanges), ("leadlight/api.ErrText", Rows.laid_leadlight_api_ErrText), ("leadlight/api.ErrBound", Rows.laid_leadlight_api_ErrBound), ("leadlight/api.ErrName", Rows.laid_leadlight_api_ErrName), ("leadlight/api.ErrExist", Rows.laid_leadlight_api_ErrExist), ("leadlight/api.ErrFull", Rows.laid_leadlight_api_ErrFull), ("leadlight/api.ErrDeep", Rows.laid_leadlight_api_ErrDeep), ("leadlight/api.ErrValue", Rows.laid_leadlight_api_ErrValue), ("unicode/utf8.first", Rows.laid_unicode_utf8_first)] W := h
  have h' : laidMet Tryd.prog (L.map fun x => (x.1, sentD x.2)) W := laidMet.filter (fun x => x.1 != "unicode/utf8.first") (laidMet.tail hb)
  obtain ⟨ps, h1, h2, h3⟩ := h'
  obtain ⟨As, hl, _, _, h4⟩ := sents_ind L ps h1 h2 h3 (by
    intro x hx
    simp only [L, List.mem_cons, List.not_mem_nil, or_false] at hx
    rcases hx with rfl | rfl | rfl | rfl | rfl | rfl | rfl
    · exact ⟨_, gText, gtText⟩
    · exact ⟨_, gBound, gtBound⟩
    · exact ⟨_, gName, gtName⟩
    · exact ⟨_, gExist, gtExist⟩
    · exact ⟨_, gFull, gtFull⟩
    · exact ⟨_, gDeep, gtDeep⟩
    · exact ⟨_, gValue, gtValue⟩)
  match As, hl with
  | [a0, a1, a2, a3, a4, a5, a6], _ =>
    exact ⟨fun c => if c = 1 then a0 else if c = 2 then a1 else if c = 4 then a2 else if c = 6 then a3 else if c = 7 then a4 else if c = 8 then a5 else a6, (h4 0 _ a0 rfl rfl).1 _ gText, (h4 1 _ a1 rfl rfl).1 _ gBound, (h4 2 _ a2 rfl rfl).1 _ gName, (h4 3 _ a3 rfl rfl).1 _ gExist, (h4 4 _ a4 rfl rfl).1 _ gFull, (h4 5 _ a5 rfl rfl).1 _ gDeep, (h4 6 _ a6 rfl rfl).1 _ gValue⟩

theorem params : Tryd.f3.params = #[25, 9, 9, 9, 9] := Tryd.params3

theorem contract (H : Type) (enc : TypeId × Value → H) (W : World) (base : Nat) (args : Array Value) (ds gs : List (DataW H)) (before : List MemPlace)
    (hval0 : ∀ (j : Nat) t v, Tryd.f3.params[j]? = some t → args[j]? = some v → Value.okWide Tryd.prog W .any base t v)
    (hW : DataW.Whole enc Tryd.prog Tryd.f3.params.toList Rows.styleNoneSpec.vars false W args.toList ds gs before) (hL : laidMetH Tryd.prog Rows.styleNoneRow.laid W) (hsh : W.ShapedOpen Tryd.prog) :
    Calls Tryd.prog 3 args W fun e W' => ∃ v, e = .returned v ∧ Rows.styleNoneSpec.post enc Tryd.prog Tryd.f3 false true false false W args v W' := by
  have hval := hval0
  have hWW := hW
  obtain ⟨p, q, hA, hV, _, _, _⟩ := hWW
  have hA' : DataW.TrodAll enc Tryd.prog W 0 (fun _ => true) true Tryd.f3.params.toList args.toList ds p := hA
  rw [params] at hA' hval
  obtain ⟨v0, vs0, d0, ds0, p0, q0, e0, rfl, rfl, h0, r0⟩ := trodAll_cons hA'
  obtain ⟨v1, vs1, d1, ds1, p1, q1, rfl, rfl, rfl, h1, r1⟩ := trodAll_cons r0
  obtain ⟨v2, vs2, d2, ds2, p2, q2, rfl, rfl, rfl, h2, r2⟩ := trodAll_cons r1
  obtain ⟨v3, vs3, d3, ds3, p3, q3, rfl, rfl, rfl, h3, r3⟩ := trodAll_cons r2
  obtain ⟨v4, vs4, d4, ds4, p4, q4, rfl, rfl, rfl, h4, r4⟩ := trodAll_cons r3
  obtain ⟨rfl, rfl, rfl⟩ := trodAll_nil r4
  obtain rfl : args = #[v0, v1, v2, v3, v4] := by cases args; simp_all
  obtain ⟨n0, rfl, hn0⟩ := open_nodearg (hval 0 _ _ rfl rfl) h0
  obtain ⟨s1, rfl, rfl, rfl, ws1⟩ := Go.ChangeMaps.open_string Tryd.underlying9 (hval 1 _ _ rfl rfl) h1
  obtain ⟨s2, rfl, rfl, rfl, ws2⟩ := Go.ChangeMaps.open_string Tryd.underlying9 (hval 2 _ _ rfl rfl) h2
  obtain ⟨s3, rfl, rfl, rfl, ws3⟩ := Go.ChangeMaps.open_string Tryd.underlying9 (hval 3 _ _ rfl rfl) h3
  obtain ⟨s4, rfl, rfl, rfl, ws4⟩ := Go.ChangeMaps.open_string Tryd.underlying9 (hval 4 _ _ rfl rfl) h4
  obtain ⟨ea, hE, hE2, hG⟩ := of_laid hL
  obtain ⟨m, hm⟩ := maxlen_cell hsh
  refine (lawnone_any ea m n0 s1 s2 s3 s4 W hn0 ⟨hE, hE2, hG, hm⟩).mono fun e W' ⟨he, hb⟩ => ?_
  subst he
  exact ⟨_, rfl, law_post laidOut (by rw [params]; intro t ht; simp at ht; rcases ht with rfl | rfl <;> exact ⟨by kernel_rfl, of_decide_eq_true (by kernel_rfl)⟩) rfl Tryd.underlying4 (by kernel_rfl)
    (fun ds hds => by
      have : ds.length = 5 := hds.trans (by rw [params]; rfl)
      match ds, this with
      | [a, b, c, d, e], _ => rfl) hW hb⟩

noncomputable def wBare (os : Os) : World := World.holding Tryd.prog os ⟨#[], #[], []⟩
noncomputable def wDoor (os : Os) : World := (wBare os).layVars Tryd.prog (Rows.styleNoneRow.laid.filter fun x => x.2.handleName?.isNone)
theorem laidAt {P : Program} {w0 : World} {laid : List (String × DataW Unit)} (args : Array Value) (hf : w0.layFits P laid [] = true) (hi : w0.layIfaces P laid (w0.layVars P laid) = true) :
    laidMet P laid (((w0.layVars P laid).forCall (fun _ _ => 0) ⟨#[], args, []⟩).memory) := by
  have e1 : (laid.filter fun x => (laid.map (·.1)).contains x.1) = laid := List.filter_eq_self.2 fun x hx => List.contains_iff_mem.2 (List.mem_map.2 ⟨x, hx, rfl⟩)
  have e2 : (laid.filter fun x => !(laid.map (·.1)).contains x.1) = [] := List.filter_eq_nil_iff.2 fun x hx => by rw [List.contains_iff_mem.2 (List.mem_map.2 ⟨x, hx, rfl⟩)]; simp
  have h : laidMet P laid (w0.layVars P laid) := laidMet_layVars (w0 := w0) (laid.map (·.1)) [] (by rw [e1]) (by rw [e1]; exact hf) (by rw [e1]; exact hi) (by rw [e2]; exact LaidIn.none)
  exact h.of_heap (by simp [World.memory, World.forCall, Input.heap])
theorem door_os (os : Os) : (wDoor os).os = os := (World.layVars_os _ _ _).trans rfl
theorem door_met (os : Os) (args : Array Value) : laidMetH Tryd.prog Rows.styleNoneRow.laid ((wDoor os).forCall (fun _ _ => 0) ⟨#[], args, []⟩).memory :=
  laidMetH_of_parts3 (fuel := 8) (laidAt args (by kernel_rfl) (by kernel_rfl)) (by kernel_rfl) (by kernel_rfl)

theorem lifted (os : Os) (started : os.Started) (H : Type) (enc : TypeId × Value → H) :
    ReturnsInHanded {} Tryd.checked os 3 .any (fun w args => (Rows.styleNoneSpec.pre enc Tryd.prog Tryd.f3 [] false w args ∧ laidMetH Tryd.prog Rows.styleNoneRow.laid w) ∧ sizedMet enc Tryd.prog Tryd.f3 (OpenSpec.ofChange Rows.styleNoneSpec) false w args)
      (Rows.styleNoneSpec.post enc Tryd.prog Tryd.f3 false true false false) := by
  refine returnsInHanded_shapedS (C := Tryd.checked) (X := fun w _ => laidMetH Tryd.prog Rows.styleNoneRow.laid w) (fun _ _ _ hh h => h.of_heap hh) own started (by kernel_rfl) Tryd.func3
    (ChangeSpec.witness_shaped (enc := enc) (C := Tryd.checked) (os := os) (X := fun w _ => laidMetH Tryd.prog Rows.styleNoneRow.laid w) false (wDoor os) #[.agg #[.string ⟨#[]⟩, .slice none 0 0, .slice none 0 0], .string ⟨#[]⟩, .string ⟨#[]⟩, .string ⟨#[]⟩, .string ⟨#[]⟩] 8 (door_os _) (World.shaped_of_ZipB (by kernel_rfl) (by kernel_rfl)) (by kernel_rfl) (by kernel_rfl) (by kernel_rfl) (door_met os _)) ?_
  intro W base args ds gs before hval hW _ _ hL hsh _
  exact contract H enc W base args ds gs before hval hW hL hsh

theorem said : Rows.StyleNoneSaid :=
  OpenClaim.holds_of_wide 3 Tryd.f3 rfl rfl rfl rfl rfl rfl rfl ⟨rfl, rfl, rfl, rfl, rfl⟩ rfl rfl rfl rfl rfl (by kernel_rfl) Tryd.func3 (by kernel_rfl)
    (of_decide_eq_true (by kernel_rfl)) (by unfold Func.isWrapper; first | (rw [if_pos (by decide +kernel)]; kernel_rfl) | (rw [if_neg (by decide +kernel)]; exact ⟨rfl, rfl⟩))
    (fun os started H enc _ => lifted os started H enc)

theorem plain (f : FuncId) (fn : Func) (hf : Tryd.pinned.checked.prog.funcNamed "leadlight/leadlightlaw2.StyleNone" = some f) (hfn : Tryd.pinned.checked.prog.funcs[f]? = some fn) :
    false = Tryd.pinned.checked.prog.looks [] ∧ ∀ (j : Nat) t, fn.params[j]? = some t → Tryd.pinned.checked.prog.wantsStandIn t = false := by
  obtain rfl : f = 3 := Option.some.inj ((show Tryd.prog.funcNamed "leadlight/leadlightlaw2.StyleNone" = some 3 by kernel_rfl).symm.trans hf) |>.symm
  obtain rfl : fn = Tryd.f3 := (Option.some.inj (Tryd.func3.symm.trans hfn)).symm
  refine ⟨by kernel_rfl, fun j t ht => ?_⟩
  rw [params] at ht
  have hm := Array.mem_of_getElem? ht
  simp at hm
  rcases hm with rfl | rfl
  · exact (show Tryd.prog.wantsStandIn 25 = false by kernel_rfl)
  · exact (show Tryd.prog.wantsStandIn 9 = false by kernel_rfl)

/-- THE CARD. -/
theorem card : Rows.StyleNoneCardSaid :=
  Claim7.holds_tied_plain_at .later [] _ _ _ _ said (fun _ h => by cases h) (by kernel_rfl) (fun _ h => by cases h) styleNone_row_tie rfl ⟨rfl, rfl⟩ (by kernel_rfl) rfl plain (by kernel_rfl)
#print axioms card
end Go.Proofs.YtnpieocpniakpaaDoor.lawStyleNone
