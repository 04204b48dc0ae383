/-
  Walks over package doc: Parent, Name, Count, Kids.
-/
import Derived.Test.YtnpieocpniakpaaDoorDn
import Derived.Test.YtnpieocpniakpaaDoorShelf
import Derived.Test.YtnpieocpniakpaaDoorChecked
import Derived.Test.YtnpieocpniakpaaDoorMore
import Derived.Test.YtnpieocpniakpaaDoorPa
namespace Lead.Dc
open Go Go.RowKit Lead
/-- A document that is right, of bounded numbers. -/
structure DokG (P : Program) (T : Tys) (w : World) (bd : Nat) (F : Nat → Prop) (E : Els) (next : Nat) (d : Nat → Nat) : Prop where
  ok : Dok P T w bd F E next
  good : Good E next d
  big : next ≤ 1000000
  len : E.length ≤ 1000000
theorem DokG.keep {P : Program} {T : Tys} {w w' : World} {bd next : Nat} {F : Nat → Prop} {E : Els} {d : Nat → Nat} (h : DokG P T w bd F E next d) (hb : Below w.heap.size w w') : DokG P T w' bd F E next d := ⟨h.ok.keep hb, h.good, h.big, h.len⟩
theorem DokG.keepB {P : Program} {T : Tys} {w w' : World} {bd next B : Nat} {F : Nat → Prop} {E : Els} {d : Nat → Nat} (h : DokG P T w bd F E next d) (hb : Below B w w') (hB : B = w.heap.size) : DokG P T w' bd F E next d := h.keep (hB ▸ hb)
/-- A call that answers a row of its own. -/
def RetR {α : Type} (En : Enc α) (e : TypeId) (xs : List α) (w : World) (en : Ending) (w' : World) : Prop := ∃ v, en = .returned v ∧ OwnR En w' w.heap.size e v xs ∧ Below w.heap.size w w'
end Lead.Dc
namespace Go.Proofs.YtnpieocpniakpaaDoor
open Go.RowKit Lead Lead.Dc
def TT : Tys := ⟨58, 74, 54, 3, 56, 70⟩
theorem TK : TysOk Tryd.prog TT := ⟨by decide, by decide, by decide, by decide, by decide, by decide, Tryd.underlying56, Tryd.underlying3, fun w => by kernel_rfl⟩
theorem infoIntD : (Tryd.prog.info? 3).map (fun i => (i.zero, i.size, i.bytes)) = some (some (.int .i64 0), 1, 8) := by kernel_rfl
theorem parent_any (bd next : Nat) (z : Int) (F : Nat → Prop) (E : Els) (d : Nat → Nat) (w : World) (hD : DokG Tryd.prog TT w bd F E next d) (hz : I64 z) :
    Calls Tryd.prog 10 #[.pointer (some ⟨bd, 0, none⟩), .int .i64 z] w fun e w' => e = .returned (.int .i64 (parZ E z)) ∧ Below w.heap.size w w' := by
  obtain ⟨⟨pl, bm, cnt, D, hA, hc, hF⟩, hg, hbig, hlen⟩ := hD
  have c0 := hA.c0
  cases h : atZ E z with
  | none =>
    have hp : parZ E z = -1 := by unfold parZ; rw [h]
    have hm := atZ_none h
    rw [hp]
    have H_hA := Lib.hid hA
    clear hA
    have H_hm := Lib.hid hm
    clear hm
    have H_h := Lib.hid h
    clear h
    have H_hz := Lib.hid hz
    clear hz
    have H_hp := Lib.hid hp
    clear hp
    clear hc hF hg
    go_enter Tryd.func10, Tryd.ntmps10
    go_wp2_with (at_lookup; refine wp_miss_ok (T := TT) TK rfl _ _ rfl rfl rfl H_hA.out H_hm.out H_hz.out ?_)
    go_returns
    exact ⟨rfl, by repeat' (first | (with_reducible first | exact bwR _ _ | assumption | refine bdn ?_ | refine bwA ?_ ?_ _ | refine bwD ?_ | refine bwS ?_ ?_ _) | omega | (simp <;> omega))⟩
  | some e =>
    obtain ⟨n, rfl, he⟩ := atZ_some h
    have hp : parZ E (n : Int) = e.parent := parZ_nat he
    have hE := hA.els n e he
    have e2 := hE.e2
    rw [hp]
    have H_hA := Lib.hid hA
    clear hA
    have H_hE := Lib.hid hE
    clear hE
    have H_he := Lib.hid he
    clear he
    have H_h := Lib.hid h
    clear h
    have H_hz := Lib.hid hz
    clear hz
    have H_hp := Lib.hid hp
    clear hp
    clear hc hF hg
    go_enter Tryd.func10, Tryd.ntmps10
    go_wp2_with (at_lookup; refine wp_hit_ok (T := TT) TK rfl _ _ rfl rfl rfl H_hA.out H_he.out H_hz.out ?_)
    go_returns
    exact ⟨rfl, by repeat' (first | (with_reducible first | exact bwR _ _ | assumption | refine bdn ?_ | refine bwA ?_ ?_ _ | refine bwD ?_ | refine bwS ?_ ?_ _) | omega | (simp <;> omega))⟩
theorem name_any (bd next : Nat) (z : Int) (F : Nat → Prop) (E : Els) (d : Nat → Nat) (w : World) (hD : DokG Tryd.prog TT w bd F E next d) (hz : I64 z) :
    Calls Tryd.prog 19 #[.pointer (some ⟨bd, 0, none⟩), .int .i64 z] w fun e w' => e = .returned (.string (nameZ E z)) ∧ Below w.heap.size w w' := by
  obtain ⟨⟨pl, bm, cnt, D, hA, hc, hF⟩, hg, hbig, hlen⟩ := hD
  have c0 := hA.c0
  cases h : atZ E z with
  | none =>
    have hp : nameZ E z = ⟨#[]⟩ := by unfold nameZ; rw [h]
    have hm := atZ_none h
    rw [hp]
    have H_hA := Lib.hid hA
    clear hA
    have H_hm := Lib.hid hm
    clear hm
    have H_h := Lib.hid h
    clear h
    have H_hz := Lib.hid hz
    clear hz
    have H_hp := Lib.hid hp
    clear hp
    clear hc hF hg
    go_enter Tryd.func19, Tryd.ntmps19
    go_wp2_with (at_lookup; refine wp_miss_ok (T := TT) TK rfl _ _ rfl rfl rfl H_hA.out H_hm.out H_hz.out ?_)
    go_returns
    exact ⟨rfl, by repeat' (first | (with_reducible first | exact bwR _ _ | assumption | refine bdn ?_ | refine bwA ?_ ?_ _ | refine bwD ?_ | refine bwS ?_ ?_ _) | omega | (simp <;> omega))⟩
  | some e =>
    obtain ⟨n, rfl, he⟩ := atZ_some h
    have hp : nameZ E (n : Int) = e.name := nameZ_nat he
    have hE := hA.els n e he
    have e0 := hE.e0
    rw [hp]
    have H_hA := Lib.hid hA
    clear hA
    have H_hE := Lib.hid hE
    clear hE
    have H_he := Lib.hid he
    clear he
    have H_h := Lib.hid h
    clear h
    have H_hz := Lib.hid hz
    clear hz
    have H_hp := Lib.hid hp
    clear hp
    clear hc hF hg
    go_enter Tryd.func19, Tryd.ntmps19
    go_wp2_with (at_lookup; refine wp_hit_ok (T := TT) TK rfl _ _ rfl rfl rfl H_hA.out H_he.out H_hz.out ?_)
    go_returns
    exact ⟨rfl, by repeat' (first | (with_reducible first | exact bwR _ _ | assumption | refine bdn ?_ | refine bwA ?_ ?_ _ | refine bwD ?_ | refine bwS ?_ ?_ _) | omega | (simp <;> omega))⟩
end Go.Proofs.YtnpieocpniakpaaDoor
