/-
  The statement DocOne, proved: whatever the arguments the call returns true, and each argument reads behind the call as it read before. No condition of its own: what narrows the row is its cell 'laid' (the listed variables hold what the program's text lays), which the card ties.
-/
import Derived.Test.YtccojeglidbpoaaDoorLo1
import Derived.Test.YtccojeglidbpoaaDoorLaD
import Derived.Test.YtccojeglidbpoaaDoorCards
import Derived.Test.YtccojeglidbpoaaDoorTie
import Derived.ProofKit
import Derived.OpenShut
import Derived.Deep.Slices
import Derived.ChangeSame
namespace Go.Proofs.YtccojeglidbpoaaDoor.lawDocOne
open Go.ChangeShapes Go.WideShapes Go.ChangeAt Go.RowKit Lead Lead.Dc
set_option maxRecDepth 100000

theorem gBound : Tryd.prog.globalNamed "leadlight/api.ErrBound" = some 1 := by kernel_rfl
theorem gtBound : (Tryd.prog.globals[1]?).map (·.type) = some 32 := by kernel_rfl
theorem gShape : Tryd.prog.globalNamed "leadlight/api.ErrShape" = some 5 := by kernel_rfl
theorem gtShape : (Tryd.prog.globals[5]?).map (·.type) = some 32 := by kernel_rfl
theorem gName : Tryd.prog.globalNamed "leadlight/api.ErrName" = some 2 := by kernel_rfl
theorem gtName : (Tryd.prog.globals[2]?).map (·.type) = some 32 := by kernel_rfl
theorem gNone : Tryd.prog.globalNamed "leadlight/api.ErrNone" = some 0 := by kernel_rfl
theorem gtNone : (Tryd.prog.globals[0]?).map (·.type) = some 32 := by kernel_rfl
theorem gExist : Tryd.prog.globalNamed "leadlight/api.ErrExist" = some 8 := by kernel_rfl
theorem gtExist : (Tryd.prog.globals[8]?).map (·.type) = some 32 := by kernel_rfl
theorem gFull : Tryd.prog.globalNamed "leadlight/api.ErrFull" = some 4 := by kernel_rfl
theorem gtFull : (Tryd.prog.globals[4]?).map (·.type) = some 32 := by kernel_rfl
theorem gDeep : Tryd.prog.globalNamed "leadlight/api.ErrDeep" = some 3 := by kernel_rfl
theorem gtDeep : (Tryd.prog.globals[3]?).map (·.type) = some 32 := by kernel_rfl
theorem gCycle : Tryd.prog.globalNamed "leadlight/api.ErrCycle" = some 6 := by kernel_rfl
theorem gtCycle : (Tryd.prog.globals[6]?).map (·.type) = some 32 := by kernel_rfl
theorem gValue : Tryd.prog.globalNamed "leadlight/api.ErrValue" = some 9 := by kernel_rfl
theorem gtValue : (Tryd.prog.globals[9]?).map (·.type) = some 32 := by kernel_rfl
def L : List (String × List UInt8) := [("leadlight/api.ErrBound", [108, 101, 97, 100, 108, 105, 103, 104, 116, 58, 32, 98, 111, 117, 110, 100]), ("leadlight/api.ErrShape", [108, 101, 97, 100, 108, 105, 103, 104, 116, 58, 32, 115, 104, 97, 112, 101]), ("leadlight/api.ErrName", [108, 101, 97, 100, 108, 105, 103, 104, 116, 58, 32, 110, 97, 109, 101]), ("leadlight/api.ErrNone", [108, 101, 97, 100, 108, 105, 103, 104, 116, 58, 32, 110, 111, 110, 101]), ("leadlight/api.ErrExist", [108, 101, 97, 100, 108, 105, 103, 104, 116, 58, 32, 101, 120, 105, 115, 116]), ("leadlight/api.ErrFull", [108, 101, 97, 100, 108, 105, 103, 104, 116, 58, 32, 102, 117, 108, 108]), ("leadlight/api.ErrDeep", [108, 101, 97, 100, 108, 105, 103, 104, 116, 58, 32, 100, 101, 101, 112]), ("leadlight/api.ErrCycle", [108, 101, 97, 100, 108, 105, 103, 104, 116, 58, 32, 99, 121, 99, 108, 101]), ("leadlight/api.ErrValue", [108, 101, 97, 100, 108, 105, 103, 104, 116, 58, 32, 118, 97, 108, 117, 101])]
/-- What the condition gives the walks. -/
theorem of_laid {W : World} (h : laidMetH Tryd.prog Rows.docOneRow.laid W) : ∃ ea : Nat → Addr, DGs ea W := by
  have h' : laidMet Tryd.prog (L.map fun x => (x.1, sentD x.2)) W := h
  obtain ⟨ps, h1, h2, h3⟩ := h'
  obtain ⟨As, hl, _, _, h4⟩ := sents_ind L ps h1 h2 h3 (by
    intro x hx
    simp only [L, List.mem_cons, List.not_mem_nil, or_false] at hx
    rcases hx with rfl | rfl | rfl | rfl | rfl | rfl | rfl | rfl | rfl
    · exact ⟨_, gBound, gtBound⟩
    · exact ⟨_, gShape, gtShape⟩
    · exact ⟨_, gName, gtName⟩
    · exact ⟨_, gNone, gtNone⟩
    · exact ⟨_, gExist, gtExist⟩
    · exact ⟨_, gFull, gtFull⟩
    · exact ⟨_, gDeep, gtDeep⟩
    · exact ⟨_, gCycle, gtCycle⟩
    · exact ⟨_, gValue, gtValue⟩)
  match As, hl with
  | [a0, a1, a2, a3, a4, a5, a6, a7, a8], _ =>
    exact ⟨fun c => if c = 2 then a0 else if c = 3 then a1 else if c = 4 then a2 else if c = 5 then a3 else if c = 6 then a4 else if c = 7 then a5 else if c = 8 then a6 else if c = 9 then a7 else a8, (h4 0 _ a0 rfl rfl).1 _ gBound, (h4 1 _ a1 rfl rfl).1 _ gShape, (h4 2 _ a2 rfl rfl).1 _ gName, (h4 3 _ a3 rfl rfl).1 _ gNone, (h4 4 _ a4 rfl rfl).1 _ gExist, (h4 5 _ a5 rfl rfl).1 _ gFull, (h4 6 _ a6 rfl rfl).1 _ gDeep, (h4 7 _ a7 rfl rfl).1 _ gCycle, (h4 8 _ a8 rfl rfl).1 _ gValue⟩

theorem cellsI : Tryd.prog.cellsOf 3 = 1 := by kernel_rfl
theorem cS9 : Tryd.prog.cellsOf 9 = 1 := by kernel_rfl
theorem cellsA : Tryd.prog.cellsOf 36 = 6 := by kernel_rfl
theorem nodeTys : NodeTys Tryd.prog 25 23 22 56 9 :=
  ⟨⟨_, _, _, Tryd.underlying25, rfl, rfl, rfl, rfl, rfl, rfl⟩, ⟨_, _, Tryd.underlying56, rfl, rfl, rfl, rfl⟩, Tryd.underlying23, Tryd.underlying22, Tryd.underlying9, by kernel_rfl, by kernel_rfl, by kernel_rfl, by kernel_rfl, by kernel_rfl⟩
section
variable {H : Type} {enc : TypeId × Value → H} {w : World} {base : Nat} {spare : Nat → Bool} {held : Bool} {fuel : Nat} {cs : List Value} {x : DataW H × List MemPlace}
theorem open_act (h : DataW.trod enc Tryd.prog w base spare held fuel 36 cs = some x) : ∃ a : AcX, cs = EAc.enc a ∧ I64 a.id ∧ I64 a.to ∧ I64 a.at' := by
  obtain ⟨xs, n, hf, _, hl, hlen, hfs⟩ := DataW.trod_struct Tryd.underlying36 h
  match xs, hlen with
  | [y0, y1, y2, y3, y4, y5], _ =>
    have h0 := hfs 0 _ rfl
    have h1 := hfs 1 _ rfl
    have h2 := hfs 2 _ rfl
    have h3 := hfs 3 _ rfl
    have h4 := hfs 4 _ rfl
    have h5 := hfs 5 _ rfl
    rw [cellsA] at hl
    match cs, hl with
    | [c0, c1, c2, c3, c4, c5], _ =>
      simp only [cellsI, cS9, List.drop_zero, List.take_succ_cons, List.take_zero, List.drop_succ_cons, List.getElem?_cons_zero, List.getElem?_cons_succ] at h0 h1 h2 h3 h4 h5
      obtain ⟨s0, e0, _⟩ := DataW.trod_string Tryd.underlying9 h0
      obtain ⟨i1, e1, _, w1⟩ := DataW.trod_int Tryd.underlying3 h1
      obtain ⟨i2, e2, _, w2⟩ := DataW.trod_int Tryd.underlying3 h2
      obtain ⟨i3, e3, _, w3⟩ := DataW.trod_int Tryd.underlying3 h3
      obtain ⟨s4, e4, _⟩ := DataW.trod_string Tryd.underlying9 h4
      obtain ⟨s5, e5, _⟩ := DataW.trod_string Tryd.underlying9 h5
      simp [cellsI, cS9] at e0 e1 e2 e3 e4 e5
      subst e0 e1 e2 e3 e4 e5
      exact ⟨⟨s0, i1, i2, i3, s4, s5⟩, rfl, I64.wf w1, I64.wf w2, I64.wf w3⟩
end
theorem open_nodearg {H : Type} {enc : TypeId × Value → H} {W : World} {base : Nat} {v : Value} {d : DataW H} {p : List MemPlace} (hv : Value.okWide Tryd.prog W .any base 25 v)
    (h : DataW.Trod enc Tryd.prog W 0 (fun _ => true) true 25 v d p) : ∃ n : NT, v = .agg n.vals.toArray ∧ NodeOk W n := by
  obtain ⟨cs, rfl, _⟩ := okWide_struct Tryd.underlying25 hv
  obtain ⟨fuel, hf⟩ := h
  obtain ⟨n, hq, hn⟩ := open_node nodeTys _ _ _ hf
  refine ⟨n, ?_, hn⟩
  congr 1
  cases cs
  simp [Value.cells] at hq
  rw [hq]
theorem open_acts {H : Type} {enc : TypeId × Value → H} {W : World} {base : Nat} {v : Value} {d : DataW H} {p : List MemPlace} (hv : Value.okWide Tryd.prog W .any base 26 v)
    (h : DataW.Trod enc Tryd.prog W 0 (fun _ => true) true 26 v d p) : ∃ oa len cap acts, v = .slice oa len cap ∧ SlA EAc W oa len cap acts ∧ ∀ a ∈ acts, I64 a.id ∧ I64 a.to ∧ I64 a.at' := by
  obtain ⟨oa, len, cap, rfl⟩ := okWide_slice Tryd.underlying26 hv
  obtain ⟨fuel, hf⟩ := h
  haveI : Inhabited AcX := ⟨⟨⟨#[]⟩, 0, 0, 0, ⟨#[]⟩, ⟨#[]⟩⟩⟩
  obtain ⟨oa', len', cap', acts, e, hs, hq⟩ := open_rowA (Q := fun a : AcX => I64 a.id ∧ I64 a.to ∧ I64 a.at') EAc Tryd.underlying26 cellsA (fun m _ cs' y hy => open_act hy) hf
  simp [Value.cells] at e
  obtain ⟨rfl, rfl, rfl⟩ := e
  exact ⟨_, _, _, acts, rfl, hs, hq⟩

theorem params : Tryd.f3.params = #[25, 26] := Tryd.params3

theorem contract (H : Type) (enc : TypeId × Value → H) (W : World) (base : Nat) (args : Array Value) (ds gs : List (DataW H)) (before : List MemPlace)
    (hval0 : ∀ (j : Nat) t v, Tryd.f3.params[j]? = some t → args[j]? = some v → Value.okWide Tryd.prog W .any base t v)
    (hW : DataW.Whole enc Tryd.prog Tryd.f3.params.toList Rows.docOneSpec.vars false W args.toList ds gs before) (hL : laidMetH Tryd.prog Rows.docOneRow.laid W) :
    Calls Tryd.prog 3 args W fun e W' => ∃ v, e = .returned v ∧ Rows.docOneSpec.post enc Tryd.prog Tryd.f3 false true false false W args v W' := by
  have hval := hval0
  have hWW := hW
  obtain ⟨p, q, hA, hV, _, _, _⟩ := hWW
  have hA' : DataW.TrodAll enc Tryd.prog W 0 (fun _ => true) true Tryd.f3.params.toList args.toList ds p := hA
  rw [params] at hA' hval
  obtain ⟨v0, vs0, d0, ds0, p0, q0, e0, rfl, rfl, h0, r0⟩ := trodAll_cons hA'
  obtain ⟨v1, vs1, d1, ds1, p1, q1, rfl, rfl, rfl, h1, r1⟩ := trodAll_cons r0
  obtain ⟨rfl, rfl, rfl⟩ := trodAll_nil r1
  obtain rfl : args = #[v0, v1] := by cases args; simp_all
  obtain ⟨n0, rfl, hn0⟩ := open_nodearg (hval 0 _ _ rfl rfl) h0
  obtain ⟨oa1, len1, cap1, acts, rfl, hs1, hi1⟩ := open_acts (hval 1 _ _ rfl rfl) h1
  obtain ⟨ea, hG⟩ := of_laid hL
  refine (lawone_any ea n0 oa1 len1 cap1 acts W hn0 hs1 hi1 hG).mono fun e W' ⟨he, hb⟩ => ?_
  subst he
  exact ⟨_, rfl, law_post laidOut (by rw [params]; intro t ht; simp at ht; rcases ht with rfl | rfl <;> exact ⟨by kernel_rfl, of_decide_eq_true (by kernel_rfl)⟩) rfl Tryd.underlying4 (by kernel_rfl)
    (fun ds hds => by
      have : ds.length = 2 := hds.trans (by rw [params]; rfl)
      match ds, this with
      | [a, b], _ => rfl) hW hb⟩

theorem door_met (os : Os) (args : Array Value) : laidMetH Tryd.prog Rows.docOneRow.laid ((World.doorLaid Tryd.prog 400 os).forCall (fun _ _ => 0) ⟨#[], args, []⟩).memory :=
  laidMetH_of_parts3 (fuel := 8) (laidMet_of_run' 8 (by kernel_rfl) (by kernel_rfl)) (by kernel_rfl) (by kernel_rfl)

theorem lifted (os : Os) (started : os.Started) (H : Type) (enc : TypeId × Value → H) :
    ReturnsInHanded {} Tryd.checked os 3 .any (fun w args => (Rows.docOneSpec.pre enc Tryd.prog Tryd.f3 [] false w args ∧ laidMetH Tryd.prog Rows.docOneRow.laid w) ∧ sizedMet enc Tryd.prog Tryd.f3 (OpenSpec.ofChange Rows.docOneSpec) false w args)
      (Rows.docOneSpec.post enc Tryd.prog Tryd.f3 false true false false) := by
  refine returnsInHanded_of_change_and (C := Tryd.checked) (X := fun w _ => laidMetH Tryd.prog Rows.docOneRow.laid w) (fun _ _ _ hh h => h.of_heap hh) own started (by kernel_rfl) Tryd.func3
    (ChangeSpec.witness_shaped (enc := enc) (C := Tryd.checked) (os := os) (X := fun w _ => laidMetH Tryd.prog Rows.docOneRow.laid w) false (World.doorLaid Tryd.prog 400 os) #[.agg #[.string ⟨#[]⟩, .slice none 0 0, .slice none 0 0], .slice none 0 0] 8 rfl (World.shaped_of_RefB (by kernel_rfl) (by kernel_rfl)) (by kernel_rfl) (by kernel_rfl) (by kernel_rfl) (door_met os _)) ?_
  intro W base args ds gs before hval hW _ _ hL _
  exact contract H enc W base args ds gs before hval hW hL

theorem said : Rows.DocOneSaid :=
  OpenClaim.holds_of_wide 3 Tryd.f3 rfl rfl rfl rfl rfl rfl rfl ⟨rfl, rfl, rfl, rfl, rfl⟩ rfl rfl rfl rfl rfl (by kernel_rfl) Tryd.func3 (by kernel_rfl)
    (of_decide_eq_true (by kernel_rfl)) (by unfold Func.isWrapper; first | (rw [if_pos (by decide +kernel)]; kernel_rfl) | (rw [if_neg (by decide +kernel)]; exact ⟨rfl, rfl⟩))
    (fun os started H enc _ => lifted os started H enc)

theorem plain (f : FuncId) (fn : Func) (hf : Tryd.pinned.checked.prog.funcNamed "leadlight/leadlightlaw1.DocOne" = some f) (hfn : Tryd.pinned.checked.prog.funcs[f]? = some fn) :
    true = Tryd.pinned.checked.prog.looks [] ∧ ∀ (j : Nat) t, fn.params[j]? = some t → Tryd.pinned.checked.prog.wantsStandIn t = false := by
  obtain rfl : f = 3 := Option.some.inj ((show Tryd.prog.funcNamed "leadlight/leadlightlaw1.DocOne" = some 3 by kernel_rfl).symm.trans hf) |>.symm
  obtain rfl : fn = Tryd.f3 := (Option.some.inj (Tryd.func3.symm.trans hfn)).symm
  refine ⟨by kernel_rfl, fun j t ht => ?_⟩
  rw [params] at ht
  have hm := Array.mem_of_getElem? ht
  simp at hm
  rcases hm with rfl | rfl
  · exact (show Tryd.prog.wantsStandIn 25 = false by kernel_rfl)
  · exact (show Tryd.prog.wantsStandIn 26 = false by kernel_rfl)

/-- THE CARD. -/
theorem card : Rows.DocOneCardSaid :=
  Claim7.holds_tied_plain_at .later [] _ _ _ _ said (fun _ h => by cases h) (by kernel_rfl) (fun _ h => by cases h) docOne_row_tie rfl ⟨rfl, rfl⟩ (by kernel_rfl) rfl plain (by kernel_rfl)
#print axioms card
end Go.Proofs.YtccojeglidbpoaaDoor.lawDocOne
