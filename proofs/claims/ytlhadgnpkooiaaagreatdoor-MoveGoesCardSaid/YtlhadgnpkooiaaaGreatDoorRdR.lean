/-
  Walks over package move: Read. The opening of a function that holds a range over a function; the empty text.
-/
import Derived.Test.YtlhadgnpkooiaaaGreatDoorRdU
import Derived.Test.YtlhadgnpkooiaaaGreatDoorRdX
import Derived.Test.YtlhadgnpkooiaaaGreatDoorSpm
import Derived.RangeFuncLeaves
import Derived.RangeFuncFrom
namespace Lead
open Go Go.RowKit
/-- A function's contract from its body, where the body holds a range over a function: by the plain walk. -/
theorem enter_marks {P : Program} {f : FuncId} {fn : Func} {c : Code} {args : Array Value} {w : World} {R : Ending → World → Prop} (hf : P.funcs[f]? = some fn) (hb : fn.body = some c)
    (h : c.wp P (bodyPostM Fence.wide 9 P fn R) { tmps := args ++ Array.replicate (fn.ntmps - args.size) undef, defers := [] } w) : Calls P f args w R :=
  callsIn_wide.1 (callsIn_of_wp_marks (F := Fence.wide) (n := 9) hf hb trivial (wpIn_wide.2 h))
/-- A return ahead of the range. -/
theorem postM_ret {P : Program} {fn : Func} {R : Ending → World → Prop} {a : Act} {w : World} {v : Value} (hr : (results fn a.tmps).run P w = .ok v w) (hd : a.defers = []) (hR : R (.returned v) w) : bodyPostM Fence.wide 9 P fn R .ret a w := by
  show LeavesInM Fence.wide 9 P fn a.tmps R a.defers .returning w
  rw [hd]
  exact ⟨v, hr, hR⟩
theorem set12e {w : World} {g e : Nat} {o : Obj} {x y : Value} (hg : g < w.heap.size) (he : e < w.heap.size) (hne : e ≠ g) (hz : ∀ j, w.cell? ⟨g, j, none⟩ = (#[.int .i64 0, .int .i64 0, .int .i64 0, .int .i64 0, .int .i64 0, .int .i64 0, .int .i64 0, .int .i64 0, .int .i64 0, .int .i64 0, .int .i64 0, .int .i64 0] : Array Value)[j]?) (hy : w.cell? ⟨e, 0, none⟩ = some y) (v0 v1 v2 v3 v4 v5 v6 v7 v8 v9 v10 v11 : Value) :
    (∀ j, ((((((((((((((w.setCell ⟨g, 0, none⟩ v0).setCell ⟨g, 1, none⟩ v1).setCell ⟨g, 2, none⟩ v2).setCell ⟨g, 3, none⟩ v3).setCell ⟨g, 4, none⟩ v4).setCell ⟨g, 5, none⟩ v5).setCell ⟨g, 6, none⟩ v6).setCell ⟨g, 7, none⟩ v7).setCell ⟨g, 8, none⟩ v8).setCell ⟨g, 9, none⟩ v9).setCell ⟨g, 10, none⟩ v10).setCell ⟨g, 11, none⟩ v11).setCell ⟨e, 0, none⟩ x).alloc o).cell? ⟨g, j, none⟩ = (#[v0, v1, v2, v3, v4, v5, v6, v7, v8, v9, v10, v11] : Array Value)[j]?) ∧ ((((((((((((((w.setCell ⟨g, 0, none⟩ v0).setCell ⟨g, 1, none⟩ v1).setCell ⟨g, 2, none⟩ v2).setCell ⟨g, 3, none⟩ v3).setCell ⟨g, 4, none⟩ v4).setCell ⟨g, 5, none⟩ v5).setCell ⟨g, 6, none⟩ v6).setCell ⟨g, 7, none⟩ v7).setCell ⟨g, 8, none⟩ v8).setCell ⟨g, 9, none⟩ v9).setCell ⟨g, 10, none⟩ v10).setCell ⟨g, 11, none⟩ v11).setCell ⟨e, 0, none⟩ x).alloc o).cell? ⟨e, 0, none⟩ = some x := by
  have h := set12 hz v0 v1 v2 v3 v4 v5 v6 v7 v8 v9 v10 v11
  refine ⟨fun j => ?_, ?_⟩
  · rw [World.cell?_alloc_past _ _ _ (by simp only [World.size_setCell]; exact hg), World.cell?_setCell_other _ _ _ _ (fun q => hne (by injection q))]
    exact h j
  · rw [World.cell?_alloc_past _ _ _ (by simp only [World.size_setCell]; exact he)]
    refine World.cell?_setCell_same' _ _ _ ?_
    rw [World.cell?_setCell_other _ _ _ _ (fun q => hne (by injection q with q1; exact q1.symm)), World.cell?_setCell_other _ _ _ _ (fun q => hne (by injection q with q1; exact q1.symm)), World.cell?_setCell_other _ _ _ _ (fun q => hne (by injection q with q1; exact q1.symm)), World.cell?_setCell_other _ _ _ _ (fun q => hne (by injection q with q1; exact q1.symm)), World.cell?_setCell_other _ _ _ _ (fun q => hne (by injection q with q1; exact q1.symm)), World.cell?_setCell_other _ _ _ _ (fun q => hne (by injection q with q1; exact q1.symm)), World.cell?_setCell_other _ _ _ _ (fun q => hne (by injection q with q1; exact q1.symm)), World.cell?_setCell_other _ _ _ _ (fun q => hne (by injection q with q1; exact q1.symm)), World.cell?_setCell_other _ _ _ _ (fun q => hne (by injection q with q1; exact q1.symm)), World.cell?_setCell_other _ _ _ _ (fun q => hne (by injection q with q1; exact q1.symm)), World.cell?_setCell_other _ _ _ _ (fun q => hne (by injection q with q1; exact q1.symm)), World.cell?_setCell_other _ _ _ _ (fun q => hne (by injection q with q1; exact q1.symm)), hy]
    rfl
end Lead
namespace Go.Proofs.YtlhadgnpkooiaaaGreatDoor
open Go.RowKit Lead

theorem res_read (tmps : Array Value) (w0 : World) (g e : Nat) (v0 v1 v2 v3 v4 v5 v6 v7 v8 v9 v10 v11 x : Value) (h2 : tmps[2]?.getD undef = .pointer (some ⟨g, 0, none⟩)) (h3 : tmps[3]?.getD undef = .pointer (some ⟨e, 0, none⟩))
    (hc : (∀ j, w0.cell? ⟨g, j, none⟩ = (#[v0, v1, v2, v3, v4, v5, v6, v7, v8, v9, v10, v11] : Array Value)[j]?) ∧ w0.cell? ⟨e, 0, none⟩ = some x) :
    (results Tryz.f15 tmps).run Tryz.prog w0 = .ok (.tuple #[.agg #[v0, v1, v2, v3, v4, v5, v6, v7, v8, v9, v10, v11], x]) w0 := by
  obtain ⟨hc, he⟩ := hc
  simp [results, Tryz.results15, go_sem, h2, h3, hc, he]

set_option maxHeartbeats 400000 in
set_option maxRecDepth 100000 in
theorem mread_empty (s : ByteArray) (w : World) (h1 : (s.toList == []) = true) :
    Calls Tryz.prog 15 #[.string s] w fun e w' => e = .returned (.tuple #[.agg #[.int .i64 oneM.A.n, .int .i64 oneM.A.d, .int .i64 oneM.B.n, .int .i64 oneM.B.d, .int .i64 oneM.C.n, .int .i64 oneM.C.d, .int .i64 oneM.D.n, .int .i64 oneM.D.d, .int .i64 oneM.E.n, .int .i64 oneM.E.d, .int .i64 oneM.F.n, .int .i64 oneM.F.d], .nilIface]) ∧ Below w.heap.size w w' := by
  refine enter_marks Tryz.func15 rfl ?_
  simp only [Tryz.ntmps15, List.size_toArray, List.length_cons, List.length_nil, Nat.reduceAdd, Nat.reduceSub, Array.replicate_succ, Array.replicate_zero, List.push_toArray, List.append_toArray, List.nil_append, List.cons_append]
  ((try go_simp); (repeat go_step))
  refine call_bel (w := w) (by repeat' (first | (with_reducible first | exact bwR _ _ | assumption | refine bdn ?_ | refine bwA ?_ ?_ _ | refine bwD ?_ | refine bwS ?_ ?_ _) | omega | (simp <;> omega))) (fun HB => mone_any _) ?_
  intro w1 hb1 hz1 c1 d1 hW1
  have t1 := hb1.size
  try simp only [szA] at hz1 c1 d1
  try simp only [szD] at hz1 c1 d1
  try simp only [szS] at hz1 c1 d1
  try simp only [World.heap_drewN] at hz1 c1 d1
  try simp only [szA] at hz1 c1 d1
  try simp only [szD] at hz1 c1 d1
  try simp only [szS] at hz1 c1 d1
  have s1_0 : w.heap.size < w1.heap.size := by omega
  have o1_0 := fun j => c1 (w.heap.size) j (by omega)
  have f1_0 := fun j => d1 (w.heap.size) j (by omega)
  have s1_1 : w.heap.size + 1 < w1.heap.size := by omega
  have o1_1 := fun j => c1 (w.heap.size + 1) j (by omega)
  have f1_1 := fun j => d1 (w.heap.size + 1) j (by omega)
  clear c1 d1 hz1 hW1
  ((try go_simp); (repeat go_step))
  with_reducible refine postM_ret (res_read _ _ (w.heap.size) (w.heap.size + 1) _ _ _ _ _ _ _ _ _ _ _ _ _ ?h2 ?h3 (set12e (y := .nilIface) ?hg ?he ?hne ?hz ?hy _ _ _ _ _ _ _ _ _ _ _ _)) rfl ?_
  case h2 => simp
  case h3 => simp
  case hg => exact s1_0
  case he => exact s1_1
  case hne => omega
  case hz => intro j; rw [o1_0, World.cell?_alloc_past _ _ _ (by simp), World.cell?_alloc_new]
  case hy => rw [o1_1, World.cell?_alloc_at _ _ _ _ (by simp)]; rfl
  show _ ∧ _
  exact ⟨rfl, by repeat' (first | (with_reducible first | exact bwR _ _ | assumption | refine bdn ?_ | refine bwA ?_ ?_ _ | refine bwD ?_ | refine bwS ?_ ?_ _) | omega | (simp <;> omega))⟩
end Go.Proofs.YtlhadgnpkooiaaaGreatDoor
