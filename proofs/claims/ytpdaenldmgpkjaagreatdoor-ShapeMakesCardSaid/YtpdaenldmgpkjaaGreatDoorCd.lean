/-
  Several texts as one: Is, As, As2, Code1, Code2, Cod.
-/
import Derived.Test.YtpdaenldmgpkjaaGreatDoorRows
import Derived.Test.YtpdaenldmgpkjaaGreatDoorPa
import Derived.WalkKit
import Derived.LaidEql
import Derived.Stop.Asserts
import Derived.RowKitTokens
/-
  errors.Is by its contracts, at a sentinel: the sentinel itself, another one, an api.Fault that wraps one. (Lines of the worked proof SentryIs, turned to this program.)
-/
namespace Go.Proofs.YtpdaenldmgpkjaaGreatDoor
open Go.RowKit Go.Extern.Stop Go.Stop Go.Extern

/-! ### CLOSED FACTS: what 'reflectlite.TypeOf(target).Comparable()' gives at such a target -/
theorem isTypeOf (v : Value) (w : World) : (Go.Extern.ReflectliteType.typeOf #[.iface 308 v]).run Tryz.prog w = .ok (.iface 216 (.agg #[.pointer (some ⟨20, 308, none⟩)])) w := by kernel_rfl
/-- (rtype).Comparable, as the model enters it. -/
def cmpEntry : Array Value → Sem Value := Go.Extern.ReflectliteType.method fun t => do Go.Extern.Rtype.noPackHeld "Comparable" t; pure (.bool (← typeInfo t).comparable)
theorem isComparable (w : World) : (cmpEntry #[.agg #[.pointer (some ⟨20, 308, none⟩)]]).run Tryz.prog w = .ok (.bool true) w := by kernel_rfl
theorem isMethodComparable (v : Value) (w : World) : (Go.method 464 216 v "Comparable").run Tryz.prog w = .ok (229, v) w := by kernel_rfl
theorem isComp : (Tryz.prog.info? 308).map (·.comparable) = some true := by kernel_rfl
theorem isSize : (Tryz.prog.info? 310).map (·.size) = some 1 := by kernel_rfl

/-! ### CLOSED FACTS ON THE METHOD SETS: what errors.is's assertions find -/
theorem noIsE (v : Value) (xT : TypeId) (w : World) : (Instr.typeAssert (.iface 308 v) xT 226 true).run Tryz.prog w = .ok (.tuple #[.nilIface, .bool false]) w := run_typeAssert_lacksB Tryz.underlying226 (by kernel_rfl) (by kernel_rfl) v xT w
theorem noUnwrapE (v : Value) (xT : TypeId) (w : World) : (Instr.typeAssert (.iface 308 v) xT 223 true).run Tryz.prog w = .ok (.tuple #[.nilIface, .bool false]) w := run_typeAssert_lacksB Tryz.underlying223 (by kernel_rfl) (by kernel_rfl) v xT w
theorem noUnwrapsE (v : Value) (xT : TypeId) (w : World) : (Instr.typeAssert (.iface 308 v) xT 224 true).run Tryz.prog w = .ok (.tuple #[.nilIface, .bool false]) w := run_typeAssert_lacksB Tryz.underlying224 (by kernel_rfl) (by kernel_rfl) v xT w
theorem noIsW (v : Value) (xT : TypeId) (w : World) : (Instr.typeAssert (.iface 119 v) xT 226 true).run Tryz.prog w = .ok (.tuple #[.nilIface, .bool false]) w := run_typeAssert_lacksB Tryz.underlying226 (by kernel_rfl) (by kernel_rfl) v xT w
theorem hasUnwrapW (v : Value) (xT : TypeId) (w : World) : (Instr.typeAssert (.iface 119 v) xT 223 true).run Tryz.prog w = .ok (.tuple #[.iface 119 v, .bool true]) w := run_typeAssert_hasB Tryz.underlying223 (by kernel_rfl) v xT w
theorem methodUnwrap (v : Value) (w : World) : (Go.method 464 119 v "Unwrap").run Tryz.prog w = .ok (223, v) w := by kernel_rfl

theorem is_same (a : Addr) (w : World) :
    Calls Tryz.prog 68 #[.iface 308 (.pointer (some a)), .iface 308 (.pointer (some a))] w fun e w' => e = .returned (.bool true) ∧ w' = w := by
  obtain ⟨i, hi, hcmp⟩ := Option.map_eq_some_iff.1 isComp
  obtain ⟨j, hj, hjs⟩ := Option.map_eq_some_iff.1 isSize
  have h8 := @run_callFunc_extern Tryz.prog 100 _ Go.Extern.ReflectliteType.typeOf Tryz.func100 (by kernel_rfl) (by kernel_rfl) (by kernel_rfl) (by kernel_rfl)
  have h32 := @run_callFunc_extern Tryz.prog 229 _ cmpEntry Tryz.func229 (by kernel_rfl) (by kernel_rfl) (by kernel_rfl) (by kernel_rfl)
  have tT := isTypeOf
  have cT := isComparable
  have mR := isMethodComparable
  have heq := run_eql_iface_ptr_same (P := Tryz.prog) w a Tryz.underlying30 Tryz.underlying308 hi hcmp hj
  go_enter Tryz.func68, Tryz.ntmps68
  go_wp2
  refine wp_loop_rounds 1 ?_
  rw [rounds_succ]
  go_wp2
  go_ret
  exact ⟨rfl, rfl⟩

theorem is_other (a b : Addr) (ca cb : Array Value) (ta tb : TypeId) (w : World) (hne : a ≠ b) (ha : w.heap[a.block]? = some (.cells ca ta (0, 0))) (hb : w.heap[b.block]? = some (.cells cb tb (0, 0))) :
    Calls Tryz.prog 68 #[.iface 308 (.pointer (some a)), .iface 308 (.pointer (some b))] w fun e w' => e = .returned (.bool false) ∧ w' = w := by
  obtain ⟨i, hi, hcmp⟩ := Option.map_eq_some_iff.1 isComp
  obtain ⟨j, hj, hjs⟩ := Option.map_eq_some_iff.1 isSize
  have h8 := @run_callFunc_extern Tryz.prog 100 _ Go.Extern.ReflectliteType.typeOf Tryz.func100 (by kernel_rfl) (by kernel_rfl) (by kernel_rfl) (by kernel_rfl)
  have h32 := @run_callFunc_extern Tryz.prog 229 _ cmpEntry Tryz.func229 (by kernel_rfl) (by kernel_rfl) (by kernel_rfl) (by kernel_rfl)
  have tT := isTypeOf
  have cT := isComparable
  have mR := isMethodComparable
  have nE := noIsE
  have uE := noUnwrapE
  have vE := noUnwrapsE
  have nW := noIsW
  have uW := hasUnwrapW
  have mU := methodUnwrap
  have heq := run_eql_iface_ptr_other (P := Tryz.prog) w Tryz.underlying30 Tryz.underlying308 hi hcmp hj (by rw [hjs]; decide) hne ha hb
  go_enter Tryz.func68, Tryz.ntmps68
  go_wp2
  refine wp_loop_rounds 1 ?_
  rw [rounds_succ]
  go_wp2
  go_ret
  exact ⟨rfl, rfl⟩

theorem isf_same (pb po : Nat) (b : Addr) (w : World) (h1 : w.cell? ⟨pb, po + 1, none⟩ = some (.iface 308 (.pointer (some b)))) :
    Calls Tryz.prog 68 #[.iface 119 (.pointer (some ⟨pb, po, none⟩)), .iface 308 (.pointer (some b))] w fun e w' => e = .returned (.bool true) ∧ w' = w := by
  obtain ⟨i, hi, hcmp⟩ := Option.map_eq_some_iff.1 isComp
  obtain ⟨j, hj, hjs⟩ := Option.map_eq_some_iff.1 isSize
  have h8 := @run_callFunc_extern Tryz.prog 100 _ Go.Extern.ReflectliteType.typeOf Tryz.func100 (by kernel_rfl) (by kernel_rfl) (by kernel_rfl) (by kernel_rfl)
  have h32 := @run_callFunc_extern Tryz.prog 229 _ cmpEntry Tryz.func229 (by kernel_rfl) (by kernel_rfl) (by kernel_rfl) (by kernel_rfl)
  have tT := isTypeOf
  have cT := isComparable
  have mR := isMethodComparable
  have nE := noIsE
  have uE := noUnwrapE
  have vE := noUnwrapsE
  have nW := noIsW
  have uW := hasUnwrapW
  have mU := methodUnwrap
  have heq := run_eql_iface_ptr_same (P := Tryz.prog) w b Tryz.underlying30 Tryz.underlying308 hi hcmp hj
  have hty := run_eql_iface_types (P := Tryz.prog) 119 308 (.pointer (some ⟨pb, po, none⟩)) (.pointer (some b)) Tryz.underlying30 (by decide) w
  go_enter Tryz.func68, Tryz.ntmps68
  go_wp2
  refine wp_loop_rounds 2 ?_
  rw [rounds_succ]
  go_wp2
  rw [rounds_succ]
  go_wp2
  go_ret
  exact ⟨rfl, rfl⟩

theorem isf_other (pb po : Nat) (b a : Addr) (ca cb : Array Value) (ta tb : TypeId) (w : World) (h1 : w.cell? ⟨pb, po + 1, none⟩ = some (.iface 308 (.pointer (some a)))) (hne : a ≠ b) (ha : w.heap[a.block]? = some (.cells ca ta (0, 0))) (hb : w.heap[b.block]? = some (.cells cb tb (0, 0))) :
    Calls Tryz.prog 68 #[.iface 119 (.pointer (some ⟨pb, po, none⟩)), .iface 308 (.pointer (some b))] w fun e w' => e = .returned (.bool false) ∧ w' = w := by
  obtain ⟨i, hi, hcmp⟩ := Option.map_eq_some_iff.1 isComp
  obtain ⟨j, hj, hjs⟩ := Option.map_eq_some_iff.1 isSize
  have h8 := @run_callFunc_extern Tryz.prog 100 _ Go.Extern.ReflectliteType.typeOf Tryz.func100 (by kernel_rfl) (by kernel_rfl) (by kernel_rfl) (by kernel_rfl)
  have h32 := @run_callFunc_extern Tryz.prog 229 _ cmpEntry Tryz.func229 (by kernel_rfl) (by kernel_rfl) (by kernel_rfl) (by kernel_rfl)
  have tT := isTypeOf
  have cT := isComparable
  have mR := isMethodComparable
  have nE := noIsE
  have uE := noUnwrapE
  have vE := noUnwrapsE
  have nW := noIsW
  have uW := hasUnwrapW
  have mU := methodUnwrap
  have heq := run_eql_iface_ptr_other (P := Tryz.prog) w Tryz.underlying30 Tryz.underlying308 hi hcmp hj (by rw [hjs]; decide) hne ha hb
  have hty := run_eql_iface_types (P := Tryz.prog) 119 308 (.pointer (some ⟨pb, po, none⟩)) (.pointer (some b)) Tryz.underlying30 (by decide) w
  go_enter Tryz.func68, Tryz.ntmps68
  go_wp2
  refine wp_loop_rounds 2 ?_
  rw [rounds_succ]
  go_wp2
  rw [rounds_succ]
  go_wp2
  go_ret
  exact ⟨rfl, rfl⟩

end Go.Proofs.YtpdaenldmgpkjaaGreatDoor

/-
  errors.As by its contracts, at a '*api.Fault': the error is one (a hit); it is a sentinel (a miss). (Lines of the worked proof ToyasAs, turned to this program.)
-/
namespace Go.Proofs.YtpdaenldmgpkjaaGreatDoor
open Go.RowKit Go.Extern.Stop Go.Stop Go.Extern

/-! ### CLOSED FACTS ON THE MODEL's ENTRIES FOR internal/reflectlite, at this program's types: 25: *p.E · 27: **p.E · 23: error · 45: reflectlite's rtype · 1: how many package-level variables the dump has -/
theorem valueOf27 (t : Addr) (w : World) : (ReflectliteValue.unpack (.iface 137 (.pointer (some t)))).run Tryz.prog w
    = .ok (.agg #[.pointer (some ⟨20, 137, none⟩), .pointer (some ⟨w.heap.size, 0, none⟩), .int .u64 150]) (w.alloc (.cells #[.pointer (some t)] 137)) := by kernel_rfl
theorem type27 (a : Addr) (w : World) : (ReflectliteValue.methodAny (ReflectliteValue.valueError "reflectlite.Value.Type" 0) (fun t _ _ _ => ReflectliteType.toType t) #[.agg #[.pointer (some ⟨20, 137, none⟩), .pointer (some a), .int .u64 150]]).run Tryz.prog w
    = .ok (.iface 216 (.agg #[.pointer (some ⟨20, 137, none⟩)])) w := by kernel_rfl
theorem methodKind (h : Value) (w : World) : (Go.method 464 216 (.agg #[h]) "Kind").run Tryz.prog w = .ok (218, h) w := by kernel_rfl
theorem kind27 (w : World) : ((ReflectliteType.abiMethod fun t => (fun a : Nat => Value.int IntKind.u8 (a : Int)) <$> Rtype.kind t) #[.pointer (some ⟨20, 137, none⟩)]).run Tryz.prog w = .ok (.int .u8 22) w := by kernel_rfl
theorem kind25 (w : World) : ((ReflectliteType.abiMethod fun t => (fun a : Nat => Value.int IntKind.u8 (a : Int)) <$> Rtype.kind t) #[.pointer (some ⟨20, 119, none⟩)]).run Tryz.prog w = .ok (.int .u8 22) w := by kernel_rfl

/-! ### THE ENTRIES THAT READ OR WRITE MEMORY: laws with a premise on the cell (after Derived/Lib/ReflectliteSlice.lean's manner: each unfolding a lemma of its own, by rfl) -/
theorem rlm (z : Sem Value) (f : TypeId → Addr → Nat → Nat → Sem Value) (v : Value) :
    ReflectliteValue.method z f #[v] = (do match ← ReflectliteValue.parts v with | none => z | some (t, a, fl) => f t a fl (fl % 32)) := rfl
theorem parts27 (a : Addr) (w : World) : (ReflectliteValue.parts (.agg #[.pointer (some ⟨20, 137, none⟩), .pointer (some a), .int .u64 150])).run Tryz.prog w = .ok (some (137, a, 150)) w := by kernel_rfl
/-- (Value).IsNil at the Value of a **p.E that is not nil. -/
theorem isNil27 (a p : Addr) (W : World) (ha : W.cell? a = some (.pointer (some p))) :
    (ReflectliteValue.method (ReflectliteValue.valueError "reflectlite.Value.IsNil" 0) ReflectliteValue.isNil #[.agg #[.pointer (some ⟨20, 137, none⟩), .pointer (some a), .int .u64 150]]).run Tryz.prog W = .ok (.bool false) W := by
  rw [rlm]
  simp only [Sem.run_bind, parts27, Result.andThen]
  simp [ReflectliteValue.isNil, loadVar, isAgg, underlying, Tryz.underlying137, ha, Result.andThen]

theorem methodElem (h : Value) (w : World) : (Go.method 464 216 (.agg #[h]) "Elem").run Tryz.prog w = .ok (230, .agg #[h]) w := by kernel_rfl
theorem methodImplements (h : Value) (w : World) : (Go.method 464 216 (.agg #[h]) "Implements").run Tryz.prog w = .ok (231, .agg #[h]) w := by kernel_rfl
theorem methodAssignableTo (h : Value) (w : World) : (Go.method 464 216 (.agg #[h]) "AssignableTo").run Tryz.prog w = .ok (228, .agg #[h]) w := by kernel_rfl
theorem elem27 (w : World) : (ReflectliteType.method ReflectliteType.elem #[.agg #[.pointer (some ⟨20, 137, none⟩)]]).run Tryz.prog w = .ok (.iface 216 (.agg #[.pointer (some ⟨20, 119, none⟩)])) w := by kernel_rfl
theorem implements25 (w : World) : (ReflectliteType.relation "Implements" ReflectliteType.implements_ #[.agg #[.pointer (some ⟨20, 119, none⟩)], .iface 216 (.agg #[.pointer (some ⟨20, 30, none⟩)])]).run Tryz.prog w = .ok (.bool true) w := by kernel_rfl
theorem typeOf25 (v : Value) (w : World) : (ReflectliteType.typeOf #[.iface 119 v]).run Tryz.prog w = .ok (.iface 216 (.agg #[.pointer (some ⟨20, 119, none⟩)])) w := by kernel_rfl
theorem assignable25 (w : World) : (ReflectliteType.relation "AssignableTo" ReflectliteType.assignableTo #[.agg #[.pointer (some ⟨20, 119, none⟩)], .iface 216 (.agg #[.pointer (some ⟨20, 119, none⟩)])]).run Tryz.prog w = .ok (.bool true) w := by kernel_rfl
theorem valueOf25 (e : Addr) (w : World) : (ReflectliteValue.unpack (.iface 119 (.pointer (some e)))).run Tryz.prog w
    = .ok (.agg #[.pointer (some ⟨20, 119, none⟩), .pointer (some ⟨w.heap.size, 0, none⟩), .int .u64 150]) (w.alloc (.cells #[.pointer (some e)] 119)) := by kernel_rfl

theorem elemOf27 (w : World) : (Rtype.elem? 137).run Tryz.prog w = .ok (some 119) w := by kernel_rfl
theorem mk25 (p : Addr) (w : World) : (ReflectliteValue.mk 119 p ReflectliteValue.flagAddr).run Tryz.prog w = .ok (.agg #[.pointer (some ⟨20, 119, none⟩), .pointer (some p), .int .u64 406]) w := by kernel_rfl
/-- (Value).Elem at the Value of a **p.E that is not nil: the Value of the *p.E variable that it points to, addressable. -/
theorem elemV27 (a p : Addr) (W : World) (ha : W.cell? a = some (.pointer (some p))) :
    (ReflectliteValue.method (ReflectliteValue.valueError "reflectlite.Value.Elem" 0) ReflectliteValue.elem #[.agg #[.pointer (some ⟨20, 137, none⟩), .pointer (some a), .int .u64 150]]).run Tryz.prog W
      = .ok (.agg #[.pointer (some ⟨20, 119, none⟩), .pointer (some p), .int .u64 406]) W := by
  rw [rlm]
  simp only [Sem.run_bind, parts27, Result.andThen]
  simp [ReflectliteValue.elem, loadVar, isAgg, underlying, Tryz.underlying137, ha, Result.andThen, elemOf27, mk25]
theorem rls (v x : Value) : ReflectliteValue.set #[v, x] = (do
    let (some (dst, a, fl), some (src, b, _)) := (← ReflectliteValue.parts v, ← ReflectliteValue.parts x)
      | unsupported (.noEntry "extern/(internal/reflectlite.Value).Set.zeroValue")
    if fl / ReflectliteValue.flagAddr % 2 == 0 then unsupported (.noEntry "extern/(internal/reflectlite.Value).Set.unaddressable")
    let val ← loadVar src b
    if ← Rtype.directlyAssignable dst src then storeVar dst a val
    else if ← Rtype.implements dst src then
      if (← Rtype.kind src) == 20 then
        match val with
        | .nilIface => unsupported (.noEntry "extern/reflectlite: a nil value of one interface type handed on as a value of another")
        | _ => storeVar dst a val
      else storeVar dst a (.iface src val)
    else panicString ("reflectlite.Set: value of type " ++ (← Rtype.spelt src) ++ " is not assignable to type " ++ (← Rtype.spelt dst))
    pure (.tuple #[])) := rfl
theorem parts25a (a : Addr) (w : World) : (ReflectliteValue.parts (.agg #[.pointer (some ⟨20, 119, none⟩), .pointer (some a), .int .u64 406])).run Tryz.prog w = .ok (some (119, a, 406)) w := by kernel_rfl
theorem parts25 (a : Addr) (w : World) : (ReflectliteValue.parts (.agg #[.pointer (some ⟨20, 119, none⟩), .pointer (some a), .int .u64 150])).run Tryz.prog w = .ok (some (119, a, 150)) w := by kernel_rfl
theorem direct25 (w : World) : (Rtype.directlyAssignable 119 119).run Tryz.prog w = .ok true w := by kernel_rfl
theorem size25 (w : World) : (sizeOf 119).run Tryz.prog w = .ok 1 w := by kernel_rfl
/-- (Value).Set: the *p.E variable at 'ta' gets what the Value's own variable 'b' holds. -/
theorem set25 (ta b e : Addr) (old : Value) (W : World) (hb : W.cell? b = some (.pointer (some e))) (ht : W.cell? ta = some old) (hf : W.frozen? ta = false) :
    (ReflectliteValue.set #[.agg #[.pointer (some ⟨20, 119, none⟩), .pointer (some ta), .int .u64 406], .agg #[.pointer (some ⟨20, 119, none⟩), .pointer (some b), .int .u64 150]]).run Tryz.prog W
      = .ok (.tuple #[]) (W.setCell ta (.pointer (some e))) := by
  rw [rls]
  simp only [Sem.run_bind, parts25a, parts25, Result.andThen]
  simp [ReflectliteValue.flagAddr, loadVar, isAgg, underlying, Tryz.underlying119, hb, Result.andThen, direct25, storeVar, Value.cells, storeCells, Addr.add]
  rw [run_store Tryz.prog W ta _ _ (by rfl)]
  simp [ht, hf]

set_option maxHeartbeats 4000000 in
theorem as_hit (e t : Addr) (old : Value) (w : World) (hg : w.cell? ⟨11, 0, none⟩ = some (.iface 216 (.agg #[.pointer (some ⟨20, 30, none⟩)]))) (ht0 : w.cell? t = some old) (hf0 : w.frozen? t = false) :
    Calls Tryz.prog 67 #[.iface 119 (.pointer (some e)), .iface 137 (.pointer (some t))] w fun ev w' => ev = .returned (.bool true) ∧ w' = ((((w.alloc (.cells #[.pointer (some t)] 137)).alloc (.cells #[.pointer (some ⟨20, 137, none⟩), .pointer (some ⟨w.heap.size, 0, none⟩), .int .u64 150] 184)).alloc (.cells #[.pointer (some ⟨20, 137, none⟩), .pointer (some ⟨w.heap.size, 0, none⟩), .int .u64 150] 184)).alloc (.cells #[.pointer (some e)] 119)).setCell t (.pointer (some e)) := by
  have h6 := @run_callFunc_extern Tryz.prog 96 _ (fun args => ReflectliteValue.unpack (args.getD 0 (.tuple #[]))) Tryz.func96 (by kernel_rfl) (by kernel_rfl) (by kernel_rfl) (by kernel_rfl)
  have h7 := @run_callFunc_extern Tryz.prog 97 _ (ReflectliteValue.methodAny (ReflectliteValue.valueError "reflectlite.Value.Type" 0) (fun t _ _ _ => ReflectliteType.toType t)) Tryz.func97 (by kernel_rfl) (by kernel_rfl) (by kernel_rfl) (by kernel_rfl)
  have h8 := @run_callFunc_extern Tryz.prog 98 _ (ReflectliteValue.method (ReflectliteValue.valueError "reflectlite.Value.IsNil" 0) ReflectliteValue.isNil) Tryz.func98 (by kernel_rfl) (by kernel_rfl) (by kernel_rfl) (by kernel_rfl)
  have h27 := @run_callFunc_extern Tryz.prog 218 _ (ReflectliteType.abiMethod fun t => do pure (.int .u8 (← Rtype.kind t))) Tryz.func218 (by kernel_rfl) (by kernel_rfl) (by kernel_rfl) (by kernel_rfl)
  have h37 := @run_callFunc_extern Tryz.prog 230 _ (ReflectliteType.method ReflectliteType.elem) Tryz.func230 (by kernel_rfl) (by kernel_rfl) (by kernel_rfl) (by kernel_rfl)
  have h38 := @run_callFunc_extern Tryz.prog 231 _ (ReflectliteType.relation "Implements" ReflectliteType.implements_) Tryz.func231 (by kernel_rfl) (by kernel_rfl) (by kernel_rfl) (by kernel_rfl)
  have h10 := @run_callFunc_extern Tryz.prog 100 _ ReflectliteType.typeOf Tryz.func100 (by kernel_rfl) (by kernel_rfl) (by kernel_rfl) (by kernel_rfl)
  have h35 := @run_callFunc_extern Tryz.prog 228 _ (ReflectliteType.relation "AssignableTo" ReflectliteType.assignableTo) Tryz.func228 (by kernel_rfl) (by kernel_rfl) (by kernel_rfl) (by kernel_rfl)
  have h11 := @run_callFunc_extern Tryz.prog 125 _ (ReflectliteValue.method (ReflectliteValue.valueError "reflectlite.Value.Elem" 0) ReflectliteValue.elem) Tryz.func125 (by kernel_rfl) (by kernel_rfl) (by kernel_rfl) (by kernel_rfl)
  have h12 := @run_callFunc_extern Tryz.prog 126 _ ReflectliteValue.set Tryz.func126 (by kernel_rfl) (by kernel_rfl) (by kernel_rfl) (by kernel_rfl)
  have tO := typeOf25
  have mA := methodAssignableTo
  have a25 := assignable25
  have v25 := valueOf25
  have f6 := valueOf27
  have f7 := type27
  have mK := methodKind
  have mE := methodElem
  have mI := methodImplements
  have k27 := kind27
  have k25 := kind25
  have e27 := elem27
  have i25 := implements25
  have n8 := isNil27 ⟨w.heap.size, 0, none⟩ t ((w.alloc (.cells #[.pointer (some t)] 137)).alloc (.cells #[.pointer (some ⟨20, 137, none⟩), .pointer (some ⟨w.heap.size, 0, none⟩), .int .u64 150] 184)) (by simp)
  have hlt : 11 < w.heap.size := World.block_lt_of_cell? w _ hg
  have hg2 : ((w.alloc (.cells #[.pointer (some t)] 137)).alloc (.cells #[.pointer (some ⟨20, 137, none⟩), .pointer (some ⟨w.heap.size, 0, none⟩), .int .u64 150] 184)).cell? ⟨11, 0, none⟩ = some (.iface 216 (.agg #[.pointer (some ⟨20, 30, none⟩)])) := by
    rw [World.cell?_alloc_lt _ _ ⟨11, 0, none⟩ (by simp; omega), World.cell?_alloc_lt _ _ ⟨11, 0, none⟩ hlt]; exact hg
  have htl : t.block < w.heap.size := by
    rcases Nat.lt_or_ge t.block w.heap.size with h | h
    · exact h
    · simp [World.cell?, Array.getElem?_eq_none h] at ht0
  have el := elemV27 ⟨w.heap.size, 0, none⟩ t (((w.alloc (.cells #[.pointer (some t)] 137)).alloc (.cells #[.pointer (some ⟨20, 137, none⟩), .pointer (some ⟨w.heap.size, 0, none⟩), .int .u64 150] 184)).alloc (.cells #[.pointer (some ⟨20, 137, none⟩), .pointer (some ⟨w.heap.size, 0, none⟩), .int .u64 150] 184)) (by rw [World.cell?_alloc_lt _ _ ⟨w.heap.size, 0, none⟩ (by simp; omega)]; simp)
  have st := set25 t ⟨w.heap.size + 1 + 1 + 1, 0, none⟩ e old ((((w.alloc (.cells #[.pointer (some t)] 137)).alloc (.cells #[.pointer (some ⟨20, 137, none⟩), .pointer (some ⟨w.heap.size, 0, none⟩), .int .u64 150] 184)).alloc (.cells #[.pointer (some ⟨20, 137, none⟩), .pointer (some ⟨w.heap.size, 0, none⟩), .int .u64 150] 184)).alloc (.cells #[.pointer (some e)] 119))
    (by rw [World.cell?_alloc_at _ _ _ _ (by simp)]; rfl)
    (by rw [World.cell?_alloc_lt _ _ t (by simp; omega), World.cell?_alloc_lt _ _ t (by simp; omega), World.cell?_alloc_lt _ _ t (by simp; omega), World.cell?_alloc_lt _ _ t htl]; exact ht0)
    (by rw [World.frozen?_alloc_old _ _ t (by simp; omega), World.frozen?_alloc_old _ _ t (by simp; omega), World.frozen?_alloc_old _ _ t (by simp; omega), World.frozen?_alloc_old _ _ t (Nat.ne_of_lt htl)]; exact hf0)
  go_enter Tryz.func67, Tryz.ntmps67
  go_wp2
  refine wp_loop_rounds 1 ?_
  rw [rounds_succ]
  go_wp2
  go_ret
  exact ⟨rfl, rfl⟩
end Go.Proofs.YtpdaenldmgpkjaaGreatDoor

/-
  errors.As by its contracts, at a '*api.Fault', where the error is a sentinel (a miss); both contracts with a frame. (Lines of the worked proof ToyasAs, turned to this program.)
-/
namespace Go.Proofs.YtpdaenldmgpkjaaGreatDoor
open Go.RowKit Go.Extern.Stop Go.Stop Go.Extern

theorem assignableE (w : World) : (ReflectliteType.relation "AssignableTo" ReflectliteType.assignableTo #[.agg #[.pointer (some ⟨20, 308, none⟩)], .iface 216 (.agg #[.pointer (some ⟨20, 119, none⟩)])]).run Tryz.prog w = .ok (.bool false) w := by kernel_rfl
theorem noAsE (v : Value) (xT : TypeId) (w : World) : (Instr.typeAssert (.iface 308 v) xT 220 true).run Tryz.prog w = .ok (.tuple #[.nilIface, .bool false]) w := run_typeAssert_lacksB Tryz.underlying220 (by kernel_rfl) (by kernel_rfl) v xT w

set_option maxHeartbeats 4000000 in
theorem as_miss (a t : Addr) (old : Value) (w : World) (hg : w.cell? ⟨11, 0, none⟩ = some (.iface 216 (.agg #[.pointer (some ⟨20, 30, none⟩)]))) (ht0 : w.cell? t = some old) :
    Calls Tryz.prog 67 #[.iface 308 (.pointer (some a)), .iface 137 (.pointer (some t))] w fun ev w' => ev = .returned (.bool false) ∧ w' = (((w.alloc (.cells #[.pointer (some t)] 137)).alloc (.cells #[.pointer (some ⟨20, 137, none⟩), .pointer (some ⟨w.heap.size, 0, none⟩), .int .u64 150] 184)).alloc (.cells #[.pointer (some ⟨20, 137, none⟩), .pointer (some ⟨w.heap.size, 0, none⟩), .int .u64 150] 184)) := by
  have h6 := @run_callFunc_extern Tryz.prog 96 _ (fun args => ReflectliteValue.unpack (args.getD 0 (.tuple #[]))) Tryz.func96 (by kernel_rfl) (by kernel_rfl) (by kernel_rfl) (by kernel_rfl)
  have h7 := @run_callFunc_extern Tryz.prog 97 _ (ReflectliteValue.methodAny (ReflectliteValue.valueError "reflectlite.Value.Type" 0) (fun t _ _ _ => ReflectliteType.toType t)) Tryz.func97 (by kernel_rfl) (by kernel_rfl) (by kernel_rfl) (by kernel_rfl)
  have h8 := @run_callFunc_extern Tryz.prog 98 _ (ReflectliteValue.method (ReflectliteValue.valueError "reflectlite.Value.IsNil" 0) ReflectliteValue.isNil) Tryz.func98 (by kernel_rfl) (by kernel_rfl) (by kernel_rfl) (by kernel_rfl)
  have h27 := @run_callFunc_extern Tryz.prog 218 _ (ReflectliteType.abiMethod fun t => do pure (.int .u8 (← Rtype.kind t))) Tryz.func218 (by kernel_rfl) (by kernel_rfl) (by kernel_rfl) (by kernel_rfl)
  have h37 := @run_callFunc_extern Tryz.prog 230 _ (ReflectliteType.method ReflectliteType.elem) Tryz.func230 (by kernel_rfl) (by kernel_rfl) (by kernel_rfl) (by kernel_rfl)
  have h38 := @run_callFunc_extern Tryz.prog 231 _ (ReflectliteType.relation "Implements" ReflectliteType.implements_) Tryz.func231 (by kernel_rfl) (by kernel_rfl) (by kernel_rfl) (by kernel_rfl)
  have h10 := @run_callFunc_extern Tryz.prog 100 _ ReflectliteType.typeOf Tryz.func100 (by kernel_rfl) (by kernel_rfl) (by kernel_rfl) (by kernel_rfl)
  have h35 := @run_callFunc_extern Tryz.prog 228 _ (ReflectliteType.relation "AssignableTo" ReflectliteType.assignableTo) Tryz.func228 (by kernel_rfl) (by kernel_rfl) (by kernel_rfl) (by kernel_rfl)
  have tO := typeOf25
  have mA := methodAssignableTo
  have tE := isTypeOf
  have aE := assignableE
  have sE := noAsE
  have uE := noUnwrapE
  have vE := noUnwrapsE
  have f6 := valueOf27
  have f7 := type27
  have mK := methodKind
  have mE := methodElem
  have mI := methodImplements
  have k27 := kind27
  have k25 := kind25
  have e27 := elem27
  have i25 := implements25
  have n8 := isNil27 ⟨w.heap.size, 0, none⟩ t ((w.alloc (.cells #[.pointer (some t)] 137)).alloc (.cells #[.pointer (some ⟨20, 137, none⟩), .pointer (some ⟨w.heap.size, 0, none⟩), .int .u64 150] 184)) (by simp)
  have hlt : 11 < w.heap.size := World.block_lt_of_cell? w _ hg
  have hg2 : ((w.alloc (.cells #[.pointer (some t)] 137)).alloc (.cells #[.pointer (some ⟨20, 137, none⟩), .pointer (some ⟨w.heap.size, 0, none⟩), .int .u64 150] 184)).cell? ⟨11, 0, none⟩ = some (.iface 216 (.agg #[.pointer (some ⟨20, 30, none⟩)])) := by
    rw [World.cell?_alloc_lt _ _ ⟨11, 0, none⟩ (by simp; omega), World.cell?_alloc_lt _ _ ⟨11, 0, none⟩ hlt]; exact hg
  have htl : t.block < w.heap.size := by
    rcases Nat.lt_or_ge t.block w.heap.size with h | h
    · exact h
    · simp [World.cell?, Array.getElem?_eq_none h] at ht0
  go_enter Tryz.func67, Tryz.ntmps67
  go_wp2
  refine wp_loop_rounds 1 ?_
  rw [rounds_succ]
  go_wp2
  go_ret
  exact ⟨rfl, rfl⟩

open Lead in
theorem as_miss' (a t : Addr) (old : Value) (w : World) (hg : w.cell? ⟨11, 0, none⟩ = some (.iface 216 (.agg #[.pointer (some ⟨20, 30, none⟩)]))) (ht0 : w.cell? t = some old) :
    Calls Tryz.prog 67 #[.iface 308 (.pointer (some a)), .iface 137 (.pointer (some t))] w fun ev w' => ev = .returned (.bool false) ∧ Below w.heap.size w w' :=
  (as_miss a t old w hg ht0).mono fun e w' ⟨h1, h2⟩ => ⟨h1, by rw [h2]; exact (((Below.refl _ _).alloc (Nat.le_refl _) _).alloc (by simp) _).alloc (by simp; omega) _⟩
open Lead in
theorem as_hit' (e t : Addr) (old : Value) (w : World) (hg : w.cell? ⟨11, 0, none⟩ = some (.iface 216 (.agg #[.pointer (some ⟨20, 30, none⟩)]))) (ht0 : w.cell? t = some old) (hf0 : w.frozen? t = false) :
    Calls Tryz.prog 67 #[.iface 119 (.pointer (some e)), .iface 137 (.pointer (some t))] w fun ev w' => ev = .returned (.bool true) ∧ Below t.block w w' ∧ w'.cell? t = some (.pointer (some e)) := by
  have htl : t.block < w.heap.size := by
    rcases Nat.lt_or_ge t.block w.heap.size with h | h
    · exact h
    · simp [World.cell?, Array.getElem?_eq_none h] at ht0
  refine (as_hit e t old w hg ht0 hf0).mono fun ev w' ⟨h1, h2⟩ => ⟨h1, ?_, ?_⟩
  · rw [h2]
    exact Below.setCell (((((Below.refl _ _).alloc (by omega) _).alloc (by simp; omega) _).alloc (by simp; omega) _).alloc (by simp; omega) _) (Nat.le_refl _) _
  · rw [h2]
    refine World.cell?_setCell_same _ _ _ (u := old) ?_
    rw [World.cell?_alloc_lt _ _ t (by simp; omega), World.cell?_alloc_lt _ _ t (by simp; omega), World.cell?_alloc_lt _ _ t (by simp; omega), World.cell?_alloc_lt _ _ t htl]; exact ht0
end Go.Proofs.YtpdaenldmgpkjaaGreatDoor

/-
  Walks over package plain: Code.
-/
namespace Go.Proofs.YtpdaenldmgpkjaaGreatDoor
open Go.RowKit Lead

/-- The errors of package api lie in their variables, each at a place of its own; errors.errorType holds the type's handle. -/
structure Sents (ea : Nat → Addr) (w : World) : Prop where
  c1 : w.cell? ⟨1, 0, none⟩ = some (.iface 308 (.pointer (some (ea 1))))
  c2 : w.cell? ⟨0, 0, none⟩ = some (.iface 308 (.pointer (some (ea 2))))
  c3 : w.cell? ⟨2, 0, none⟩ = some (.iface 308 (.pointer (some (ea 3))))
  c4 : w.cell? ⟨3, 0, none⟩ = some (.iface 308 (.pointer (some (ea 4))))
  c5 : w.cell? ⟨4, 0, none⟩ = some (.iface 308 (.pointer (some (ea 5))))
  c6 : w.cell? ⟨5, 0, none⟩ = some (.iface 308 (.pointer (some (ea 6))))
  c7 : w.cell? ⟨6, 0, none⟩ = some (.iface 308 (.pointer (some (ea 7))))
  c8 : w.cell? ⟨7, 0, none⟩ = some (.iface 308 (.pointer (some (ea 8))))
  c9 : w.cell? ⟨8, 0, none⟩ = some (.iface 308 (.pointer (some (ea 9))))
  c10 : w.cell? ⟨9, 0, none⟩ = some (.iface 308 (.pointer (some (ea 10))))
  c11 : w.cell? ⟨10, 0, none⟩ = some (.iface 308 (.pointer (some (ea 11))))
  hdl : w.cell? ⟨11, 0, none⟩ = some (.iface 216 (.agg #[.pointer (some ⟨20, 30, none⟩)]))
  ne : ∀ i j, i ≠ j → 1 ≤ i → i ≤ 11 → 1 ≤ j → j ≤ 11 → ea i ≠ ea j
  blk : ∀ i, 1 ≤ i → i ≤ 11 → ∃ c t, w.heap[(ea i).block]? = some (.cells c t (0, 0))
theorem Sents.keep {ea : Nat → Addr} {w w' : World} {B : Nat} (h : Sents ea w) (hb : Below B w w') (hB : B = w.heap.size) : Sents ea w' := by
  refine ⟨gkeep hb h.c1 hB, gkeep hb h.c2 hB, gkeep hb h.c3 hB, gkeep hb h.c4 hB, gkeep hb h.c5 hB, gkeep hb h.c6 hB, gkeep hb h.c7 hB, gkeep hb h.c8 hB, gkeep hb h.c9 hB, gkeep hb h.c10 hB, gkeep hb h.c11 hB, gkeep hb h.hdl hB, h.ne, fun i h1 h2 => ?_⟩
  obtain ⟨c, t, hc⟩ := h.blk i h1 h2
  refine ⟨c, t, ?_⟩
  have hlt : (ea i).block < w.heap.size := by
    rcases Nat.lt_or_ge (ea i).block w.heap.size with h | h
    · exact h
    · rw [Array.getElem?_eq_none h] at hc; cases hc
  rw [hb.block _ (by omega)]; exact hc

set_option maxHeartbeats 1000000 in
theorem code_nil (w : World) : Calls Tryz.prog 37 #[.nilIface] w fun e w' => e = .returned (.tuple #[.int .i64 0, .int .i64 (-1)]) ∧ Below w.heap.size w w' := by
  go_enter Tryz.func37, Tryz.ntmps37
  go_wp2_with fail
  go_returns
  exact ⟨rfl, by repeat' (first | (with_reducible first | exact bwR _ _ | assumption | refine bdn ?_ | refine bwA ?_ ?_ _ | refine bwD ?_ | refine bwS ?_ ?_ _) | omega | (simp <;> omega))⟩

theorem is_eq' (a : Addr) (w : World) :
    Calls Tryz.prog 68 #[.iface 308 (.pointer (some a)), .iface 308 (.pointer (some a))] w fun e w' => e = .returned (.bool true) ∧ Below w.heap.size w w' :=
  (is_same a w).mono fun e w' ⟨h1, h2⟩ => ⟨h1, by rw [h2]; exact Below.refl _ _⟩
theorem is_ne' (ea : Nat → Addr) (c j : Nat) (w : World) (hS : Sents ea w) (h : c ≠ j) (h1 : 1 ≤ c) (h2 : c ≤ 11) (h3 : 1 ≤ j) (h4 : j ≤ 11) :
    Calls Tryz.prog 68 #[.iface 308 (.pointer (some (ea c))), .iface 308 (.pointer (some (ea j)))] w fun e w' => e = .returned (.bool false) ∧ Below w.heap.size w w' := by
  obtain ⟨ca, ta, ha⟩ := hS.blk c h1 h2
  obtain ⟨cb, tb, hb⟩ := hS.blk j h3 h4
  exact (is_other _ _ ca cb ta tb w (hS.ne c j h h1 h2 h3 h4) ha hb).mono fun e w' ⟨h1, h2⟩ => ⟨h1, by rw [h2]; exact Below.refl _ _⟩

theorem arr_cell (ea : Nat → Addr) (w : World) (t : TypeId) (k : Nat) (hk : k < 11) :
    (w.alloc (.cells #[.iface 308 (.pointer (some (ea 1))), .iface 308 (.pointer (some (ea 2))), .iface 308 (.pointer (some (ea 3))), .iface 308 (.pointer (some (ea 4))), .iface 308 (.pointer (some (ea 5))), .iface 308 (.pointer (some (ea 6))), .iface 308 (.pointer (some (ea 7))), .iface 308 (.pointer (some (ea 8))), .iface 308 (.pointer (some (ea 9))), .iface 308 (.pointer (some (ea 10))), .iface 308 (.pointer (some (ea 11)))] t)).cell? ⟨w.heap.size, k, none⟩ = some (.iface 308 (.pointer (some (ea (k + 1))))) := by
  have e : ∀ vs : Array Value, (w.alloc (.cells vs t)).cell? ⟨w.heap.size, k, none⟩ = vs[k]? := fun vs => by simp
  rw [e]
  match k, hk with
  | 0, _ => rfl
  | 1, _ => rfl
  | 2, _ => rfl
  | 3, _ => rfl
  | 4, _ => rfl
  | 5, _ => rfl
  | 6, _ => rfl
  | 7, _ => rfl
  | 8, _ => rfl
  | 9, _ => rfl
  | 10, _ => rfl

set_option maxHeartbeats 4000000 in
theorem code_sent (ea : Nat → Addr) (c : Nat) (w : World) (h1 : 1 ≤ c) (h2 : c ≤ 11) (hS : Sents ea w) :
    Calls Tryz.prog 37 #[.iface 308 (.pointer (some (ea c)))] w fun e w' => e = .returned (.tuple #[.int .i64 c, .int .i64 (-1)]) ∧ Below w.heap.size w w' := by
  have H_hS := Lib.hid hS
  obtain ⟨C1, C2, C3, C4, C5, C6, C7, C8, C9, C10, C11, CH, _, _⟩ := hS
  have zC1 := zlt C1
  have xC1 := zlts C1
  have yC1 := zne C1
  have zC2 := zlt C2
  have xC2 := zlts C2
  have yC2 := zne C2
  have zC3 := zlt C3
  have xC3 := zlts C3
  have yC3 := zne C3
  have zC4 := zlt C4
  have xC4 := zlts C4
  have yC4 := zne C4
  have zC5 := zlt C5
  have xC5 := zlts C5
  have yC5 := zne C5
  have zC6 := zlt C6
  have xC6 := zlts C6
  have yC6 := zne C6
  have zC7 := zlt C7
  have xC7 := zlts C7
  have yC7 := zne C7
  have zC8 := zlt C8
  have xC8 := zlts C8
  have yC8 := zne C8
  have zC9 := zlt C9
  have xC9 := zlts C9
  have yC9 := zne C9
  have zC10 := zlt C10
  have xC10 := zlts C10
  have yC10 := zne C10
  have zC11 := zlt C11
  have xC11 := zlts C11
  have yC11 := zne C11
  have H_CH := Lib.hid CH
  clear CH
  go_enter Tryz.func37, Tryz.ntmps37
  go_wp2_with fail
  refine call_bel (w := w) (by repeat' (first | (with_reducible first | exact bwR _ _ | assumption | refine bdn ?_ | refine bwA ?_ ?_ _ | refine bwD ?_ | refine bwS ?_ ?_ _) | omega | (simp <;> omega))) (fun HB => as_miss' (ea c) ⟨w.heap.size, 0, none⟩ (.pointer none) _ (gkeep HB H_CH.out rfl) (by simp)) ?_
  intro w1 hb1 hz1 c1 d1 hW1
  have t1 := hb1.size
  have C1_1 := gkeep hb1 C1 rfl
  have zC1_1 := zlt C1_1
  have xC1_1 := zlts C1_1
  have yC1_1 := zne C1_1
  have C2_1 := gkeep hb1 C2 rfl
  have zC2_1 := zlt C2_1
  have xC2_1 := zlts C2_1
  have yC2_1 := zne C2_1
  have C3_1 := gkeep hb1 C3 rfl
  have zC3_1 := zlt C3_1
  have xC3_1 := zlts C3_1
  have yC3_1 := zne C3_1
  have C4_1 := gkeep hb1 C4 rfl
  have zC4_1 := zlt C4_1
  have xC4_1 := zlts C4_1
  have yC4_1 := zne C4_1
  have C5_1 := gkeep hb1 C5 rfl
  have zC5_1 := zlt C5_1
  have xC5_1 := zlts C5_1
  have yC5_1 := zne C5_1
  have C6_1 := gkeep hb1 C6 rfl
  have zC6_1 := zlt C6_1
  have xC6_1 := zlts C6_1
  have yC6_1 := zne C6_1
  have C7_1 := gkeep hb1 C7 rfl
  have zC7_1 := zlt C7_1
  have xC7_1 := zlts C7_1
  have yC7_1 := zne C7_1
  have C8_1 := gkeep hb1 C8 rfl
  have zC8_1 := zlt C8_1
  have xC8_1 := zlts C8_1
  have yC8_1 := zne C8_1
  have C9_1 := gkeep hb1 C9 rfl
  have zC9_1 := zlt C9_1
  have xC9_1 := zlts C9_1
  have yC9_1 := zne C9_1
  have C10_1 := gkeep hb1 C10 rfl
  have zC10_1 := zlt C10_1
  have xC10_1 := zlts C10_1
  have yC10_1 := zne C10_1
  have C11_1 := gkeep hb1 C11 rfl
  have zC11_1 := zlt C11_1
  have xC11_1 := zlts C11_1
  have yC11_1 := zne C11_1
  try simp only [szA] at hz1 c1 d1
  try simp only [szD] at hz1 c1 d1
  try simp only [szS] at hz1 c1 d1
  try simp only [World.heap_drewN] at hz1 c1 d1
  have s1_0 : w.heap.size < w1.heap.size := by omega
  have o1_0 := fun j => c1 (w.heap.size) j (by omega)
  have f1_0 := fun j => d1 (w.heap.size) j (by omega)
  clear c1 d1 hz1 hW1
  have H_arr := Lib.hid (arr_cell ea w1 30)
  go_wp2_with fail
  clear C1 C2 C3 C4 C5 C6 C7 C8 C9 C10 C11 C1_1 C2_1 C3_1 C4_1 C5_1 C6_1 C7_1 C8_1 C9_1 C10_1 C11_1
  clear zC1 zC2 zC3 zC4 zC5 zC6 zC7 zC8 zC9 zC10 zC11 xC1 xC2 xC3 xC4 xC5 xC6 xC7 xC8 xC9 xC10 xC11 yC1 yC2 yC3 yC4 yC5 yC6 yC7 yC8 yC9 yC10 yC11
  clear zC1_1 zC2_1 zC3_1 zC4_1 zC5_1 zC6_1 zC7_1 zC8_1 zC9_1 zC10_1 zC11_1 xC1_1 xC2_1 xC3_1 xC4_1 xC5_1 xC6_1 xC7_1 xC8_1 xC9_1 xC10_1 xC11_1 yC1_1 yC2_1 yC3_1 yC4_1 yC5_1 yC6_1 yC7_1 yC8_1 yC9_1 yC10_1 yC11_1
  go_loopw [3, 29] (fun a i wr => ∃ k : Nat, k < c ∧ a = .int .i64 (-1) ∧ i = .int .i64 k ∧ Below w.heap.size w wr ∧ ∀ j, j < 11 → wr.cell? ⟨w1.heap.size, j, none⟩ = some (.iface 308 (.pointer (some (ea (j + 1)))))) (fun _ i _ => c - (intOf i).toNat)
  case atStart => exact ⟨0, by omega, rfl, rfl, by repeat' (first | (with_reducible first | exact bwR _ _ | assumption | refine bdn ?_ | refine bwA ?_ ?_ _ | refine bwD ?_ | refine bwS ?_ ?_ _) | omega | (simp <;> omega)), H_arr.out⟩
  case round =>
    obtain ⟨k, hk, rfl, rfl, hB, harr⟩ := hrel
    have hzr := hB.size
    have q := harr k (by omega)
    have k1 : (k : Int) < 11 := by omega
    have k2 : k < 11 := by omega
    have hw1 : w1.heap.size < wr.heap.size := World.block_lt_of_cell? wr _ q
    have H_harr := Lib.hid harr
    clear harr
    by_cases hkc : k + 1 = c
    · subst hkc
      go_wp2_with fail
      refine call_bel (w := w) (by repeat' (first | (with_reducible first | exact bwR _ _ | assumption | refine bdn ?_ | refine bwA ?_ ?_ _ | refine bwD ?_ | refine bwS ?_ ?_ _) | omega | (simp <;> omega))) (fun HB => is_eq' (ea (k + 1)) _) ?_
      intro w2 hb2 hz2 c2 d2 hW2
      have t2 := hb2.size
      clear c2 d2 hz2 hW2
      have g1 : wrap64 ((k : Int) + 1) = (k : Int) + 1 := wrap_60 (by omega)
      go_wp2_with fail
      go_returns
      exact ⟨rfl, by repeat' (first | (with_reducible first | exact bwR _ _ | assumption | refine bdn ?_ | refine bwA ?_ ?_ _ | refine bwD ?_ | refine bwS ?_ ?_ _) | omega | (simp <;> omega))⟩
    · have H_hkc := Lib.hid hkc
      clear hkc
      go_wp2_with fail
      refine call_bel (w := w) (by repeat' (first | (with_reducible first | exact bwR _ _ | assumption | refine bdn ?_ | refine bwA ?_ ?_ _ | refine bwD ?_ | refine bwS ?_ ?_ _) | omega | (simp <;> omega))) (fun HB => is_ne' ea c (k + 1) _ (H_hS.out.keep HB rfl) (fun e => H_hkc.out e.symm) h1 h2 (by omega) (by omega)) ?_
      intro w2 hb2 hz2 c2 d2 hW2
      have t2 := hb2.size
      try simp only [szA] at hz2 c2 d2
      try simp only [szD] at hz2 c2 d2
      try simp only [szS] at hz2 c2 d2
      try simp only [World.heap_drewN] at hz2 c2 d2
      have s2_0 : w1.heap.size < w2.heap.size := by omega
      have o2_0 := fun j => c2 (w1.heap.size) j (by omega)
      have f2_0 := fun j => d2 (w1.heap.size) j (by omega)
      clear c2 d2 hz2 hW2
      go_wp2_with fail
      go_roundw
      case rel => exact ⟨k + 1, by have := H_hkc.out; omega, rfl, by go_num, hb2, fun j hj => (o2_0 j).trans (H_harr.out j hj)⟩
      case measure => simp [intOf]; omega
end Go.Proofs.YtpdaenldmgpkjaaGreatDoor

/-
  Walks over package plain: Code of an error with a place.
-/
namespace Go.Proofs.YtpdaenldmgpkjaaGreatDoor
open Go.RowKit Lead

theorem isf_eq' (p : Nat) (a : Addr) (w : World) (hE : w.cell? ⟨p, 1, none⟩ = some (.iface 308 (.pointer (some a)))) :
    Calls Tryz.prog 68 #[.iface 119 (.pointer (some ⟨p, 0, none⟩)), .iface 308 (.pointer (some a))] w fun e w' => e = .returned (.bool true) ∧ Below w.heap.size w w' :=
  (isf_same p 0 a w hE).mono fun e w' ⟨h1, h2⟩ => ⟨h1, by rw [h2]; exact Below.refl _ _⟩
theorem isf_ne' (ea : Nat → Addr) (c j p : Nat) (w : World) (hE : w.cell? ⟨p, 1, none⟩ = some (.iface 308 (.pointer (some (ea c))))) (hS : Sents ea w) (h : c ≠ j) (h1 : 1 ≤ c) (h2 : c ≤ 11) (h3 : 1 ≤ j) (h4 : j ≤ 11) :
    Calls Tryz.prog 68 #[.iface 119 (.pointer (some ⟨p, 0, none⟩)), .iface 308 (.pointer (some (ea j)))] w fun e w' => e = .returned (.bool false) ∧ Below w.heap.size w w' := by
  obtain ⟨ca, ta, ha⟩ := hS.blk c h1 h2
  obtain ⟨cb, tb, hb⟩ := hS.blk j h3 h4
  exact (isf_other p 0 _ _ ca cb ta tb w hE (hS.ne c j h h1 h2 h3 h4) ha hb).mono fun e w' ⟨h1, h2⟩ => ⟨h1, by rw [h2]; exact Below.refl _ _⟩

set_option maxHeartbeats 4000000 in
theorem code_fault (ea : Nat → Addr) (c p : Nat) (z : Int) (w : World) (h1 : 1 ≤ c) (h2 : c ≤ 11) (hS : Sents ea w) (hA : w.cell? ⟨p, 0, none⟩ = some (.int .i64 z)) (hE : w.cell? ⟨p, 1, none⟩ = some (.iface 308 (.pointer (some (ea c))))) :
    Calls Tryz.prog 37 #[.iface 119 (.pointer (some ⟨p, 0, none⟩))] w fun e w' => e = .returned (.tuple #[.int .i64 c, .int .i64 z]) ∧ Below w.heap.size w w' := by
  have H_hS := Lib.hid hS
  obtain ⟨C1, C2, C3, C4, C5, C6, C7, C8, C9, C10, C11, CH, _, _⟩ := hS
  have zC1 := zlt C1
  have xC1 := zlts C1
  have yC1 := zne C1
  have zC2 := zlt C2
  have xC2 := zlts C2
  have yC2 := zne C2
  have zC3 := zlt C3
  have xC3 := zlts C3
  have yC3 := zne C3
  have zC4 := zlt C4
  have xC4 := zlts C4
  have yC4 := zne C4
  have zC5 := zlt C5
  have xC5 := zlts C5
  have yC5 := zne C5
  have zC6 := zlt C6
  have xC6 := zlts C6
  have yC6 := zne C6
  have zC7 := zlt C7
  have xC7 := zlts C7
  have yC7 := zne C7
  have zC8 := zlt C8
  have xC8 := zlts C8
  have yC8 := zne C8
  have zC9 := zlt C9
  have xC9 := zlts C9
  have yC9 := zne C9
  have zC10 := zlt C10
  have xC10 := zlts C10
  have yC10 := zne C10
  have zC11 := zlt C11
  have xC11 := zlts C11
  have yC11 := zne C11
  have zhA := zlt hA
  have xhA := zlts hA
  have yhA := zne hA
  have H_CH := Lib.hid CH
  clear CH
  go_enter Tryz.func37, Tryz.ntmps37
  go_wp2_with fail
  refine (as_hit' ⟨p, 0, none⟩ ⟨w.heap.size, 0, none⟩ (.pointer none) _ (gkeep (w := w) (by repeat' (first | (with_reducible first | exact bwR _ _ | assumption | refine bdn ?_ | refine bwA ?_ ?_ _ | refine bwD ?_ | refine bwS ?_ ?_ _) | omega | (simp <;> omega))) H_CH.out rfl) (by simp) (by simp)).mono ?_
  rintro _ w1 ⟨rfl, hb1', o1_0⟩
  have hb1 : Below w.heap.size w w1 := Below.trans (by repeat' (first | (with_reducible first | exact bwR _ _ | assumption | refine bdn ?_ | refine bwA ?_ ?_ _ | refine bwD ?_ | refine bwS ?_ ?_ _) | omega | (simp <;> omega))) hb1'
  have t1 := hb1.size
  have C1_1 := gkeep hb1 C1 rfl
  have zC1_1 := zlt C1_1
  have xC1_1 := zlts C1_1
  have yC1_1 := zne C1_1
  have C2_1 := gkeep hb1 C2 rfl
  have zC2_1 := zlt C2_1
  have xC2_1 := zlts C2_1
  have yC2_1 := zne C2_1
  have C3_1 := gkeep hb1 C3 rfl
  have zC3_1 := zlt C3_1
  have xC3_1 := zlts C3_1
  have yC3_1 := zne C3_1
  have C4_1 := gkeep hb1 C4 rfl
  have zC4_1 := zlt C4_1
  have xC4_1 := zlts C4_1
  have yC4_1 := zne C4_1
  have C5_1 := gkeep hb1 C5 rfl
  have zC5_1 := zlt C5_1
  have xC5_1 := zlts C5_1
  have yC5_1 := zne C5_1
  have C6_1 := gkeep hb1 C6 rfl
  have zC6_1 := zlt C6_1
  have xC6_1 := zlts C6_1
  have yC6_1 := zne C6_1
  have C7_1 := gkeep hb1 C7 rfl
  have zC7_1 := zlt C7_1
  have xC7_1 := zlts C7_1
  have yC7_1 := zne C7_1
  have C8_1 := gkeep hb1 C8 rfl
  have zC8_1 := zlt C8_1
  have xC8_1 := zlts C8_1
  have yC8_1 := zne C8_1
  have C9_1 := gkeep hb1 C9 rfl
  have zC9_1 := zlt C9_1
  have xC9_1 := zlts C9_1
  have yC9_1 := zne C9_1
  have C10_1 := gkeep hb1 C10 rfl
  have zC10_1 := zlt C10_1
  have xC10_1 := zlts C10_1
  have yC10_1 := zne C10_1
  have C11_1 := gkeep hb1 C11 rfl
  have zC11_1 := zlt C11_1
  have xC11_1 := zlts C11_1
  have yC11_1 := zne C11_1
  have hA_1 := gkeep hb1 hA rfl
  have zhA_1 := zlt hA_1
  have xhA_1 := zlts hA_1
  have yhA_1 := zne hA_1
  have hE_1 := gkeep hb1 hE rfl
  clear hb1'
  have H_arr := Lib.hid (arr_cell ea w1 30)
  go_wp2_with fail
  clear C1 C2 C3 C4 C5 C6 C7 C8 C9 C10 C11 C1_1 C2_1 C3_1 C4_1 C5_1 C6_1 C7_1 C8_1 C9_1 C10_1 C11_1
  clear zC1 zC2 zC3 zC4 zC5 zC6 zC7 zC8 zC9 zC10 zC11 xC1 xC2 xC3 xC4 xC5 xC6 xC7 xC8 xC9 xC10 xC11 yC1 yC2 yC3 yC4 yC5 yC6 yC7 yC8 yC9 yC10 yC11
  clear zC1_1 zC2_1 zC3_1 zC4_1 zC5_1 zC6_1 zC7_1 zC8_1 zC9_1 zC10_1 zC11_1 xC1_1 xC2_1 xC3_1 xC4_1 xC5_1 xC6_1 xC7_1 xC8_1 xC9_1 xC10_1 xC11_1 yC1_1 yC2_1 yC3_1 yC4_1 yC5_1 yC6_1 yC7_1 yC8_1 yC9_1 yC10_1 yC11_1
  go_loopw [3, 29] (fun a i wr => ∃ k : Nat, k < c ∧ a = .int .i64 z ∧ i = .int .i64 k ∧ Below w.heap.size w wr ∧ ∀ j, j < 11 → wr.cell? ⟨w1.heap.size, j, none⟩ = some (.iface 308 (.pointer (some (ea (j + 1)))))) (fun _ i _ => c - (intOf i).toNat)
  case atStart => exact ⟨0, by omega, rfl, rfl, by repeat' (first | (with_reducible first | exact bwR _ _ | assumption | refine bdn ?_ | refine bwA ?_ ?_ _ | refine bwD ?_ | refine bwS ?_ ?_ _) | omega | (simp <;> omega)), H_arr.out⟩
  case round =>
    obtain ⟨k, hk, rfl, rfl, hB, harr⟩ := hrel
    have hzr := hB.size
    have q := harr k (by omega)
    have k1 : (k : Int) < 11 := by omega
    have k2 : k < 11 := by omega
    have hw1 : w1.heap.size < wr.heap.size := World.block_lt_of_cell? wr _ q
    have H_harr := Lib.hid harr
    clear harr
    by_cases hkc : k + 1 = c
    · subst hkc
      go_wp2_with fail
      refine call_bel (w := w) (by repeat' (first | (with_reducible first | exact bwR _ _ | assumption | refine bdn ?_ | refine bwA ?_ ?_ _ | refine bwD ?_ | refine bwS ?_ ?_ _) | omega | (simp <;> omega))) (fun HB => isf_eq' p (ea (k + 1)) _ (gkeep HB hE rfl)) ?_
      intro w2 hb2 hz2 c2 d2 hW2
      have t2 := hb2.size
      clear c2 d2 hz2 hW2
      have g1 : wrap64 ((k : Int) + 1) = (k : Int) + 1 := wrap_60 (by omega)
      go_wp2_with fail
      go_returns
      exact ⟨rfl, by repeat' (first | (with_reducible first | exact bwR _ _ | assumption | refine bdn ?_ | refine bwA ?_ ?_ _ | refine bwD ?_ | refine bwS ?_ ?_ _) | omega | (simp <;> omega))⟩
    · have H_hkc := Lib.hid hkc
      clear hkc
      go_wp2_with fail
      refine call_bel (w := w) (by repeat' (first | (with_reducible first | exact bwR _ _ | assumption | refine bdn ?_ | refine bwA ?_ ?_ _ | refine bwD ?_ | refine bwS ?_ ?_ _) | omega | (simp <;> omega))) (fun HB => isf_ne' ea c (k + 1) p _ (gkeep HB hE rfl) (H_hS.out.keep HB rfl) (fun e => H_hkc.out e.symm) h1 h2 (by omega) (by omega)) ?_
      intro w2 hb2 hz2 c2 d2 hW2
      have t2 := hb2.size
      try simp only [szA] at hz2 c2 d2
      try simp only [szD] at hz2 c2 d2
      try simp only [szS] at hz2 c2 d2
      try simp only [World.heap_drewN] at hz2 c2 d2
      have s2_0 : w1.heap.size < w2.heap.size := by omega
      have o2_0 := fun j => c2 (w1.heap.size) j (by omega)
      have f2_0 := fun j => d2 (w1.heap.size) j (by omega)
      clear c2 d2 hz2 hW2
      go_wp2_with fail
      go_roundw
      case rel => exact ⟨k + 1, by have := H_hkc.out; omega, rfl, by go_num, hb2, fun j hj => (o2_0 j).trans (H_harr.out j hj)⟩
      case measure => simp [intOf]; omega
end Go.Proofs.YtpdaenldmgpkjaaGreatDoor

/-
  Walks over the statements' helper 'coded'.
-/

namespace Go.Proofs.YtpdaenldmgpkjaaGreatDoor
open Go.RowKit Lead

set_option maxHeartbeats 1000000 in
theorem coded1_s (ea : Nat → Addr) (c : Nat) (w : World) (h1 : 1 ≤ c) (h2 : c ≤ 11) (hS : Sents ea w) :
    Calls Tryz.prog 15 #[.iface 308 (.pointer (some (ea c))), .int .i64 c] w fun e w' => e = .returned (.bool true) ∧ Below w.heap.size w w' := by
  have H_hS := Lib.hid hS
  clear hS
  go_enter Tryz.func15, Tryz.ntmps15
  go_wp2_with fail
  refine call_bel (w := w) (by repeat' (first | (with_reducible first | exact bwR _ _ | assumption | refine bdn ?_ | refine bwA ?_ ?_ _ | refine bwD ?_ | refine bwS ?_ ?_ _) | omega | (simp <;> omega))) (fun HB => code_sent ea c _ h1 h2 (H_hS.out.keep HB rfl)) ?_
  intro w1 hb1 hz1 c1 d1 hW1
  have t1 := hb1.size
  clear c1 d1 hz1 hW1
  go_wp2_with fail
  go_returns
  exact ⟨rfl, by repeat' (first | (with_reducible first | exact bwR _ _ | assumption | refine bdn ?_ | refine bwA ?_ ?_ _ | refine bwD ?_ | refine bwS ?_ ?_ _) | omega | (simp <;> omega))⟩
set_option maxHeartbeats 1000000 in
theorem coded1_0 (w : World) :
    Calls Tryz.prog 15 #[.nilIface, .int .i64 0] w fun e w' => e = .returned (.bool true) ∧ Below w.heap.size w w' := by
  go_enter Tryz.func15, Tryz.ntmps15
  go_wp2_with fail
  refine call_bel (w := w) (by repeat' (first | (with_reducible first | exact bwR _ _ | assumption | refine bdn ?_ | refine bwA ?_ ?_ _ | refine bwD ?_ | refine bwS ?_ ?_ _) | omega | (simp <;> omega))) (fun HB => code_nil _) ?_
  intro w1 hb1 hz1 c1 d1 hW1
  have t1 := hb1.size
  clear c1 d1 hz1 hW1
  go_wp2_with fail
  go_returns
  exact ⟨rfl, by repeat' (first | (with_reducible first | exact bwR _ _ | assumption | refine bdn ?_ | refine bwA ?_ ?_ _ | refine bwD ?_ | refine bwS ?_ ?_ _) | omega | (simp <;> omega))⟩
theorem coded1_t (ea : Nat → Addr) (c : Nat) (w : World) (h2 : c ≤ 11) (hS : Sents ea w) :
    Calls Tryz.prog 15 #[evl 308 ea c, .int .i64 c] w fun e w' => e = .returned (.bool true) ∧ Below w.heap.size w w' := by
  by_cases h0 : c = 0
  · subst h0; exact coded1_0 w
  · rw [evl_n h0]; exact coded1_s ea c w (by omega) h2 hS
end Go.Proofs.YtpdaenldmgpkjaaGreatDoor
