/-
  Walks over package pick: does a step fit an element.
-/
import Derived.Test.YteaipondofbecaaGreatDoorPkb
import Derived.Test.YteaipondofbecaaGreatDoorMor2
namespace Lead.Pk
open Go Go.RowKit Lead Lead.Dc
/-- The three boxes of (step).fits. -/
structure FitW (TS TD TI : TypeId) (w W : World) (x : Array Value) (dv nv : Value) : Prop where
  bel : Below w.heap.size w W
  lt : w.heap.size + 1 + 1 < W.heap.size
  bx : W.heap[w.heap.size]? = some (.cells x TS (0, 0))
  bd : W.heap[w.heap.size + 1]? = some (.cells #[dv] TD (0, 0))
  bn : W.heap[w.heap.size + 1 + 1]? = some (.cells #[nv] TI (0, 0))
variable {TS TD TI : TypeId} {w W W' : World} {x : Array Value} {dv nv : Value}
theorem FitW.step (h : FitW TS TD TI w W x dv nv) (hb : Below W.heap.size W W') : FitW TS TD TI w W' x dv nv :=
  ⟨below_via h.bel hb, Nat.lt_of_lt_of_le h.lt hb.size, (hb.block _ (by have := h.lt; omega)).trans h.bx, (hb.block _ (by have := h.lt; omega)).trans h.bd, (hb.block _ h.lt).trans h.bn⟩
theorem FitW.start (TS TD TI : TypeId) (w : World) (x : Array Value) (dv nv : Value) : FitW TS TD TI w (((w.alloc (.cells x TS)).alloc (.cells #[dv] TD)).alloc (.cells #[nv] TI)) x dv nv := by
  refine ⟨(((Below.refl _ _).alloc (Nat.le_refl _) _).alloc (by simp) _).alloc (by simp; omega) _, by simp, ?_, ?_, ?_⟩
  · rw [Below.heap_alloc _ _ _ (by simp; omega), Below.heap_alloc _ _ _ (by simp)]; exact heap_alloc_new _ _
  · rw [Below.heap_alloc _ _ _ (by simp)]
    have h := heap_alloc_new (w.alloc (.cells x TS)) (.cells #[dv] TD)
    rw [World.size_alloc] at h; exact h
  · have h := heap_alloc_new ((w.alloc (.cells x TS)).alloc (.cells #[dv] TD)) (.cells #[nv] TI)
    rw [World.size_alloc, World.size_alloc] at h; exact h
theorem FitW.f {a b c : Value} (h : FitW TS TD TI w W #[a, b, c] dv nv) : W.cell? ⟨w.heap.size, 0, none⟩ = some a ∧ W.cell? ⟨w.heap.size, 1, none⟩ = some b ∧ W.cell? ⟨w.heap.size, 2, none⟩ = some c ∧ W.cell? ⟨w.heap.size + 1, 0, none⟩ = some dv ∧ W.cell? ⟨w.heap.size + 1 + 1, 0, none⟩ = some nv :=
  ⟨Dc.hcell h.bx rfl, Dc.hcell h.bx rfl, Dc.hcell h.bx rfl, Dc.hcell h.bd rfl, Dc.hcell h.bn rfl⟩
theorem not_any (l : List Wn) (at' : List (ByteArray × ByteArray)) : (!(l.any fun x => !hasV at' x)) = l.all (hasV at') := by
  induction l with
  | nil => rfl
  | cons x r ih => rw [List.any_cons, List.all_cons, Bool.not_or, ih]; simp
instance : Inhabited Wn := ⟨⟨0, []⟩⟩
end Lead.Pk
namespace Go.Proofs.YteaipondofbecaaGreatDoor
open Go.RowKit Go.WideMaps Go.Maps Lead Lead.Dc Lead.Pk
set_option maxHeartbeats 1000000 in
theorem wa_pred (m : Int) (bd next n : Nat) (F : Nat → Prop) (E : Els) (d : Nat → Nat) (e : El) (B1 B2 : Nat) (w : World) (hD : DokG Tryz.prog TT w bd F E next d) (he : elAt E n = some e) (hat : ∀ a ∈ e.attrs, a.2.size ≤ 100000) (hm : w.cell? ⟨12, 0, none⟩ = some (.int .i64 m))
    (h1 : w.cell? ⟨B1, 0, none⟩ = some (.pointer (some ⟨bd, 0, none⟩))) (h2 : w.cell? ⟨B2, 0, none⟩ = some (.int .i64 (n : Int))) :
    Go.Proofs.PredBelow Tryz.prog 207 #[.pointer (some ⟨B1, 0, none⟩), .pointer (some ⟨B2, 0, none⟩)] (fun x => .agg (EWa.enc x).toArray) (fun x => !hasV e.attrs x) w := fun W x hb => by
  have z1 := World.block_lt_of_cell? w _ h1
  have z2 := World.block_lt_of_cell? w _ h2
  have c1 : W.cell? ⟨B1, 0, none⟩ = some (.pointer (some ⟨bd, 0, none⟩)) := gkeep hb h1 rfl
  have c2 : W.cell? ⟨B2, 0, none⟩ = some (.int .i64 (n : Int)) := gkeep hb h2 rfl
  have y1 : B1 < W.heap.size := Nat.lt_of_lt_of_le z1 hb.size
  have y2 : B2 < W.heap.size := Nat.lt_of_lt_of_le z2 hb.size
  have n1 : ¬ B1 = W.heap.size := by omega
  have n2 : ¬ B2 = W.heap.size := by omega
  have cH := fun (W' : World) (hb' : Below W.heap.size W W') => has_any m x bd next n F E d e W' (hD.keep (below_via hb hb')) he hat (gkeep (below_via hb hb') hm rfl)
  obtain ⟨r, hr⟩ : ∃ u, hasV e.attrs x = u := ⟨_, rfl⟩
  simp only [hr] at cH ⊢
  obtain ⟨sg, nm⟩ := x
  show Calls Tryz.prog 207 #[.agg #[.int .u8 (sg.toNat : Int), .string (bs nm)], .pointer (some ⟨B1, 0, none⟩), .pointer (some ⟨B2, 0, none⟩)] W _
  have hws := hb.size
  have H_cH := Lib.hid cH
  clear cH
  have H_hr := Lib.hid hr
  clear hr
  have H_hb := Lib.hid hb
  clear hb
  go_enter Tryz.func207, Tryz.ntmps207
  go_wp2_with fail
  refine (H_cH.out _ (by repeat' (first | (with_reducible first | exact bwR _ _ | assumption | refine bdn ?_ | refine bwA ?_ ?_ _ | refine bwD ?_ | refine bwS ?_ ?_ _) | omega | (simp <;> omega)))).mono ?_
  rintro _ w1 ⟨rfl, hb1⟩
  have hB1 : Below W.heap.size W w1 := below_via (by repeat' (first | (with_reducible first | exact bwR _ _ | assumption | refine bdn ?_ | refine bwA ?_ ?_ _ | refine bwD ?_ | refine bwS ?_ ?_ _) | omega | (simp <;> omega))) hb1
  clear hb1
  go_wp2_with fail
  go_returns
  exact ⟨rfl, below_via H_hb.out hB1⟩
set_option maxHeartbeats 1000000 in
theorem if_nil (f : Value) (w : World) : Calls Tryz.prog 219 #[.slice none 0 0, f] w fun en w' => en = .returned (.int .i64 (-1)) ∧ w' = w := by
  go_enter Tryz.func219, Tryz.ntmps219
  go_wp2_with fail
  go_loopw [8] (fun t8 wr => t8 = .int .i64 0 ∧ wr = w) (fun _ _ => 0)
  case atStart => exact ⟨rfl, rfl⟩
  case round =>
    obtain ⟨rfl, rfl⟩ := hrel
    go_wp2_with fail
    go_returns
    exact ⟨rfl, rfl⟩
set_option maxHeartbeats 1000000 in
theorem cf_nil (f : Value) (w : World) : Calls Tryz.prog 206 #[.slice none 0 0, f] w fun en w' => en = .returned (.bool false) ∧ w' = w := by
  have cI := if_nil f
  have H_cI := Lib.hid cI
  clear cI
  go_enter Tryz.func206, Tryz.ntmps206
  go_wp2_with fail
  refine (H_cI.out _).mono ?_
  rintro _ _ ⟨rfl, rfl⟩
  go_wp2_with fail
  go_returns
  exact ⟨rfl, rfl⟩
/-- What a step asks of an element, in one contract: ContainsFunc at its wants. -/
theorem cf_any (m : Int) (bd next n : Nat) (F : Nat → Prop) (E : Els) (d : Nat → Nat) (e : El) (B1 B2 : Nat) (base : Nat) (TW : TypeId) (v : Value) (ws : List Wn) (w : World) (hD : DokG Tryz.prog TT w bd F E next d) (he : elAt E n = some e) (hat : ∀ a ∈ e.attrs, a.2.size ≤ 100000) (hm : w.cell? ⟨12, 0, none⟩ = some (.int .i64 m))
    (h1 : w.cell? ⟨B1, 0, none⟩ = some (.pointer (some ⟨bd, 0, none⟩))) (h2 : w.cell? ⟨B2, 0, none⟩ = some (.int .i64 (n : Int))) (hS : OwnR EWa w base TW v ws) :
    Calls Tryz.prog 206 #[v, .func (.func 207) #[] #[.pointer (some ⟨B1, 0, none⟩), .pointer (some ⟨B2, 0, none⟩)]] w fun en w' => en = .returned (.bool (!ws.all (hasV e.attrs))) ∧ Below w.heap.size w w' := by
  rcases hS.form with ⟨rfl, rfl⟩ | ⟨g, cap, rfl, _, hg, _, hl, hr⟩
  · refine (cf_nil _ w).mono ?_
    rintro _ _ ⟨rfl, rfl⟩
    exact ⟨rfl, Below.refl _ _⟩
  · have hlm : ws.length ≤ 9223372036854775807 := by unfold maxLen at hl; omega
    have h := AnyQ.slices_ContainsFunc (ρ := Tryz.cfW_ren) Tryz.cfW 2 Tryz.isAgg259 Tryz.sizeOf259 EWa.enc (fun _ => rfl) (fun x => !hasV e.attrs x) 207 #[.pointer (some ⟨B1, 0, none⟩), .pointer (some ⟨B2, 0, none⟩)] (enters_of Tryz.func207 (by kernel_rfl) rfl) g 0 ws.length cap ws w (wa_pred m bd next n F E d e B1 B2 w hD he hat hm h1 h2) (Nat.le_refl _) hlm hg (fun j hj i v hv => by
      rw [getElem!_pos ws j hj] at hv
      exact hr j hj i v hv)
    have hq := not_any ws e.attrs
    rw [List.take_length, show (ws.any fun x => !hasV e.attrs x) = !ws.all (hasV e.attrs) by rw [← hq, Bool.not_not]] at h
    exact h
end Go.Proofs.YteaipondofbecaaGreatDoor
