/-
  Walks over package shape: Read: the calls ahead of its range over a function; the empty text.
-/
import Derived.Test.YtpdaenldmgpkjaaGreatDoorSsq
import Derived.Test.YtpdaenldmgpkjaaGreatDoorShq
import Derived.Test.YtpdaenldmgpkjaaGreatDoorPa
import Derived.Test.YtpdaenldmgpkjaaGreatDoorDec9
import Derived.Test.YtpdaenldmgpkjaaGreatDoorShape8
import Derived.RangeFuncLeaves
import Derived.RangeFuncFrom
import Derived.RangeFuncNested
import Derived.RangeFuncCalls
namespace Lead
open Go Go.RowKit
/-- A block's cells, to be written. -/
def Hc (w : World) (b : Nat) (vs : Array Value) : Prop := ∀ (j : Nat) (u : Value), vs[j]? = some u → w.cell? ⟨b, j, none⟩ = some u ∧ w.frozen? ⟨b, j, none⟩ = false
theorem hc_same {W W' : World} {b : Nat} {vs : Array Value} (h : Hc W b vs) (e : W'.heap[b]? = W.heap[b]?) : Hc W' b vs := fun j u hu =>
  ⟨(World.cell?_of_block (w := W) (a := ⟨b, j, none⟩) e).trans (h j u hu).1, (World.frozen?_of_block (w := W) (a := ⟨b, j, none⟩) e).trans (h j u hu).2⟩
theorem hc_new {w : World} {vs : Array Value} {T : TypeId} {b : Nat} (hb : b = w.heap.size) : Hc (w.alloc (.cells vs T)) b vs := fun j u hu =>
  ⟨by rw [World.cell?_alloc_at _ _ _ _ hb]; exact hu, World.frozen?_alloc_at _ _ _ _ hb⟩
theorem hc_al {w : World} {vs : Array Value} {b : Nat} (h : Hc w b vs) (hb : b < w.heap.size) (o : Obj) : Hc (w.alloc o) b vs := fun j u hu =>
  ⟨by rw [World.cell?_alloc_past _ _ _ hb]; exact (h j u hu).1, by rw [World.frozen?_alloc_past _ _ _ hb]; exact (h j u hu).2⟩
theorem cut1_nil2 {y : UInt8} : ∀ {l : List UInt8}, (cut1 y l).2.2 = false → (cut1 y l).2.1 = []
  | [], _ => rfl
  | c :: l, h => by
    unfold cut1 at h ⊢
    by_cases hc : c = y
    · rw [if_pos hc] at h; cases h
    · rw [if_neg hc] at h ⊢; exact cut1_nil2 h
theorem idx_44 (l : List UInt8) : Lib.indexByte l 44 = if (cut1 44 l).2.2 = true then ((cut1 44 l).1.length : Int) else -1 := idxb_y 44 l
theorem cut_44 (l : List UInt8) : Lib.cut l [44] = ((cut1 44 l).1, (cut1 44 l).2.1, (cut1 44 l).2.2) := by
  unfold Lib.cut
  rw [Lib.index_one, idx_44]
  by_cases h : (cut1 44 l).2.2 = true
  · rw [if_pos h, if_pos (by omega), h]
    have e := cut1_yes 44 l h
    generalize (cut1 44 l).1 = a at *
    generalize (cut1 44 l).2.1 = b at *
    subst e
    simp
  · have h' := Bool.eq_false_iff.2 h
    rw [if_neg h, if_neg (by omega), h', cut1_no 44 l h', cut1_nil2 h']
/-- A function's contract from its body, where the body holds a range over a function: by the plain walk. -/
theorem enter_marks2 {P : Program} {f : FuncId} {fn : Func} {c : Code} {args : Array Value} {w : World} {R : Ending → World → Prop} (hf : P.funcs[f]? = some fn) (hb : fn.body = some c)
    (h : c.wp P (bodyPostM Fence.wide 9 P fn R) { tmps := args ++ Array.replicate (fn.ntmps - args.size) undef, defers := [] } w) : Calls P f args w R :=
  callsIn_wide.1 (callsIn_of_wp_marks (F := Fence.wide) (n := 9) hf hb trivial (wpIn_wide.2 h))
/-- A return ahead of the range. -/
theorem postM_ret2 {P : Program} {fn : Func} {R : Ending → World → Prop} {a : Act} {w : World} {v : Value} (hr : (results fn a.tmps).run P w = .ok v w) (hd : a.defers = []) (hR : R (.returned v) w) : bodyPostM Fence.wide 9 P fn R .ret a w := by
  show LeavesInM Fence.wide 9 P fn a.tmps R a.defers .returning w
  rw [hd]
  exact ⟨v, hr, hR⟩
end Lead
namespace Go.Proofs.YtpdaenldmgpkjaaGreatDoor
open Go.RowKit Lead
attribute [local go_sem] Oper.semAt_some
theorem scut_any (s : ByteArray) (w : World) (hs : s.size ≤ 100000) (hL : Libs w) :
    Calls Tryz.prog 49 #[.string s, .string ⟨#[44]⟩] w fun e w' => e = .returned (.tuple #[.string ⟨(cut1 44 s.data.toList).1.toArray⟩, .string ⟨(cut1 44 s.data.toList).2.1.toArray⟩, .bool (cut1 44 s.data.toList).2.2]) ∧ Below w.heap.size w w' := by
  obtain ⟨m, hm⟩ := hL.len
  refine (Tryz.strings_Cut s ⟨#[44]⟩ m w (by omega) hm).mono ?_
  rintro e w' ⟨h1, n, rfl⟩
  refine ⟨?_, bdn (Below.refl _ _)⟩
  rw [h1, show (⟨#[44]⟩ : ByteArray).data.toList = [44] from rfl, cut_44]
theorem splitseq_any (s : ByteArray) (y : UInt8) (w : World) :
    Calls Tryz.prog 48 #[.string s, .string ⟨#[y]⟩] w fun e w' => e = .returned (.func (.func 112) #[] #[.pointer (some ⟨w.heap.size + 1, 0, none⟩), .pointer (some ⟨w.heap.size, 0, none⟩), .pointer (some ⟨w.heap.size + 1 + 1, 0, none⟩)]) ∧
      w' = ((w.alloc (.cells #[.string s] 9)).alloc (.cells #[.string ⟨#[y]⟩] 9)).alloc (.cells #[.int .i64 0] 3) := by
  have h : Calls Tryz.prog 76 #[.string s, .string ⟨#[y]⟩, .int .i64 0] w fun e w' => e = .returned (.func (.func 112) #[] #[.pointer (some ⟨w.heap.size + 1, 0, none⟩), .pointer (some ⟨w.heap.size, 0, none⟩), .pointer (some ⟨w.heap.size + 1 + 1, 0, none⟩)]) ∧
      w' = ((w.alloc (.cells #[.string s] 9)).alloc (.cells #[.string ⟨#[y]⟩] 9)).alloc (.cells #[.int .i64 0] 3) := by
    go_enter Tryz.func76, Tryz.ntmps76
    go_wp2_with fail
    go_returns
    exact ⟨rfl, rfl⟩
  go_enter Tryz.func48, Tryz.ntmps48
  go_wp2_with fail
  refine h.mono ?_
  rintro _ _ ⟨rfl, rfl⟩
  go_wp2_with fail
  go_returns
  exact ⟨rfl, rfl⟩
theorem res_sread (tmps : Array Value) (w0 : World) (g e : Nat) (v x : Value) (h2 : tmps[2]?.getD undef = .pointer (some ⟨g, 0, none⟩)) (h3 : tmps[3]?.getD undef = .pointer (some ⟨e, 0, none⟩))
    (hH : Hc w0 g #[v]) (he : Hc w0 e #[x]) :
    (results Tryz.f19 tmps).run Tryz.prog w0 = .ok (.tuple #[.agg #[v], x]) w0 := by
  have h0 := (hH 0 _ rfl).1
  have he0 := (he 0 _ rfl).1
  simp [results, Tryz.results19, go_sem, h2, h3, h0, he0]
set_option maxHeartbeats 400000 in
set_option maxRecDepth 100000 in
theorem sread_empty (s : ByteArray) (w : World) (h1 : (s.toList == []) = true) :
    Calls Tryz.prog 19 #[.string s] w fun e w' => e = .returned (.tuple #[.agg #[.slice none 0 0], .nilIface]) ∧ Below w.heap.size w w' := by
  refine enter_marks2 Tryz.func19 rfl ?_
  simp only [Tryz.ntmps19, List.size_toArray, List.length_cons, List.length_nil, Nat.reduceAdd, Nat.reduceSub, Array.replicate_succ, Array.replicate_zero, List.push_toArray, List.append_toArray, List.nil_append, List.cons_append]
  ((try go_simp); (repeat go_step))
  refine postM_ret2 (res_sread _ _ (w.heap.size) (w.heap.size + 1) (.slice none 0 0) .nilIface ?h2 ?h3 ?hH ?he) rfl ?_
  case h2 => simp
  case h3 => simp
  case hH => exact hc_al (hc_al (hc_new rfl) (by simp) _) (by simp <;> omega) _
  case he => exact hc_al (hc_new (by simp)) (by simp) _
  exact ⟨rfl, by repeat' (first | (with_reducible first | exact bwR _ _ | assumption | refine bdn ?_ | refine bwA ?_ ?_ _ | refine bwD ?_ | refine bwS ?_ ?_ _) | omega | (simp <;> omega))⟩
/-- What has come so far: the row in out's box; the results' boxes untouched. -/
def ShI (T : TypeId) (w W0 : World) (pre : List ByteArray) (W : World) : Prop :=
  (∃ v, Hc W (w.heap.size + 2) #[v] ∧ OwnP W W0.heap.size T v (pre.map fun x => ptV x.data.toList)) ∧ (∀ x ∈ pre, ptB x.data.toList = true) ∧ Hc W w.heap.size #[.slice none 0 0] ∧ Hc W (w.heap.size + 1) #[.nilIface] ∧ W0.heap.size ≤ W.heap.size ∧ Below w.heap.size w W
def ShX (x1 : Value) (w W0 : World) (pre : List ByteArray) (W : World) : Prop :=
  Hc W w.heap.size #[.slice none 0 0] ∧ Hc W (w.heap.size + 1) #[x1] ∧ (∃ x ∈ pre, ptB x.data.toList = false) ∧ W0.heap.size ≤ W.heap.size ∧ Below w.heap.size w W
theorem hc_set {w : World} {b : Nat} {u : Value} (h : Hc w b #[u]) (v : Value) : Hc (w.setCell ⟨b, 0, none⟩ v) b #[v] := fun j x hj => by
  match j, hj with
  | 0, hj =>
    cases hj
    exact ⟨World.cell?_setCell_same' _ _ _ (by rw [(h 0 _ rfl).1]; rfl), by rw [World.frozen?_setCell]; exact (h 0 _ rfl).2⟩
theorem hc_oth {w : World} {b c : Nat} {vs : Array Value} (h : Hc w b vs) (hne : b ≠ c) (v : Value) : Hc (w.setCell ⟨c, 0, none⟩ v) b vs := hc_same h (Below.heap_setCell w ⟨c, 0, none⟩ v b hne)
theorem hc_put {W : World} {b D : Nat} {vs : Array Value} {o : Obj} (h : Hc W b vs) (hne : b ≠ D) : Hc (W.putObj D o) b vs := hc_same h (World.putObj_heap_other hne)
theorem below_put {w W : World} {D : Nat} {o : Obj} (h : Below w.heap.size w W) (hD : w.heap.size ≤ D) : Below w.heap.size w (W.putObj D o) :=
  ⟨h.os, h.tape, h.output, by rw [World.putObj_size]; exact h.size, fun k hk => (World.putObj_heap_other (by omega)).trans (h.block k hk)⟩
theorem err_same {T F : Nat} {ea : Nat → Addr} {lo lo' : Nat} {w w' : World} {v : Value} {c : Nat × Option Nat} (h : ErrAt T F ea lo w v c) (hw : ∀ k, lo ≤ k → w'.heap[k]? = w.heap[k]?) (hl : lo' ≤ lo) : ErrAt T F ea lo' w' v c := by
  obtain ⟨c1, c2⟩ := c
  cases c2 with
  | none => exact h
  | some i =>
    obtain ⟨h1, b, h2, h3, h4, h5⟩ := h
    exact ⟨h1, b, Nat.le_trans hl h2, h3, (World.cell?_of_block (w := w) (a := ⟨b, 0, none⟩) (hw b h2)).trans h4, (World.cell?_of_block (w := w) (a := ⟨b, 1, none⟩) (hw b h2)).trans h5⟩
theorem ownp_same {w w' : World} {base base' : Nat} {T : TypeId} {v : Value} {ps : List Pt} (h : OwnP w base T v ps) (hw : ∀ k, base ≤ k → (∃ c, w.heap[k]? = some (.cells c T (0, 0))) → w'.heap[k]? = w.heap[k]?) (hl : base' ≤ base) : OwnP w' base' T v ps :=
  ⟨h.1, h.2.imp id (fun ⟨g, cap, cur, b1, b2, b3, rest⟩ => ⟨g, cap, cur, b1, Nat.le_trans hl b2, (hw g b2 ⟨cur, b3⟩).trans b3, rest⟩)⟩
/-- A round that ends with an error. -/
theorem sh_err {w W0 W w7 : World} {o : Obj} {y1 : Value} {pre : List ByteArray} {x : ByteArray} (z0 : W0.heap.size = w.heap.size + 6) (q4 : Hc W w.heap.size #[.slice none 0 0]) (q5 : Hc W (w.heap.size + 1) #[.nilIface]) (q6 : W0.heap.size ≤ W.heap.size) (q7 : Below w.heap.size w W)
    (hb : Below W.heap.size W w7) (hbad : ptB x.data.toList = false) :
    KeepsFrom W0.heap.size W ((((w7.setCell ⟨w.heap.size, 0, none⟩ (.slice none 0 0)).setCell ⟨w.heap.size + 1, 0, none⟩ y1).alloc o).drew) ∧
    ShX y1 w W0 (pre ++ [x]) ((((w7.setCell ⟨w.heap.size, 0, none⟩ (.slice none 0 0)).setCell ⟨w.heap.size + 1, 0, none⟩ y1).alloc o).drew) := by
  obtain ⟨U, hU⟩ : ∃ u, (w7.setCell ⟨w.heap.size, 0, none⟩ (.slice none 0 0)).setCell ⟨w.heap.size + 1, 0, none⟩ y1 = u := ⟨_, rfl⟩
  have hs7 := hb.size
  have hUs : U.heap.size = w7.heap.size := by rw [← hU]; simp
  have hUb : ∀ k, k ≠ w.heap.size → k ≠ w.heap.size + 1 → U.heap[k]? = w7.heap[k]? := fun k h1 h2 => by
    rw [← hU]
    exact (Below.heap_setCell _ ⟨w.heap.size + 1, 0, none⟩ y1 k h2).trans (Below.heap_setCell w7 ⟨w.heap.size, 0, none⟩ _ k h1)
  have hfin : ∀ k, k < U.heap.size → ((U.alloc o).drew).heap[k]? = U.heap[k]? := fun k hk => Below.heap_alloc U o k hk
  have h70 : Hc w7 w.heap.size #[.slice none 0 0] := hc_same q4 (hb.block _ (by omega))
  have h71 : Hc w7 (w.heap.size + 1) #[.nilIface] := hc_same q5 (hb.block _ (by omega))
  have hU0 : Hc U w.heap.size #[.slice none 0 0] := by rw [← hU]; exact hc_oth (hc_set h70 _) (by omega) _
  have hU1 : Hc U (w.heap.size + 1) #[y1] := by rw [← hU]; exact hc_set (hc_oth h71 (by omega) _) _
  have hsz : ((U.alloc o).drew).heap.size = U.heap.size + 1 := by simp
  rw [hU]
  refine ⟨⟨by omega, fun k ob hB hk _ => ?_⟩, hc_same hU0 (hfin _ (by omega)), hc_same hU1 (hfin _ (by omega)), ⟨x, by simp, hbad⟩, by omega, ?_⟩
  · have hkl := (Array.getElem?_eq_some_iff.1 hk).1
    exact (hfin k (by omega)).trans ((hUb k (by omega) (by omega)).trans ((hb.block k hkl).trans hk))
  · have hw7 : Below w.heap.size w w7 := below_via q7 hb
    refine ⟨?_, ?_, ?_, by have := hw7.size; omega, fun k hk => (hfin k (by have := hw7.size; omega)).trans ((hUb k (by omega) (by omega)).trans (hw7.block k hk))⟩
    · have h1 : ((U.alloc o).drew).os = w7.os := by rw [← hU]; rfl
      exact h1.trans hw7.os
    · have h1 : ((U.alloc o).drew).tape = w7.tape := by rw [← hU]; rfl
      exact h1.trans hw7.tape
    · have h1 : ((U.alloc o).drew).output = w7.output := by rw [← hU]; rfl
      exact h1.trans hw7.output
/-- A round that goes well. -/
theorem sh_ok {w W0 W wA w8 : World} {v v8 : Value} {T : TypeId} {pre : List ByteArray} {x : ByteArray} (z0 : W0.heap.size = w.heap.size + 6) (q1 : Hc W (w.heap.size + 2) #[v]) (q2 : OwnP W W0.heap.size T v (pre.map fun x => ptV x.data.toList)) (q3 : ∀ x ∈ pre, ptB x.data.toList = true) (q4 : Hc W w.heap.size #[.slice none 0 0]) (q5 : Hc W (w.heap.size + 1) #[.nilIface]) (q6 : W0.heap.size ≤ W.heap.size) (q7 : Below w.heap.size w W)
    (hb : Below W.heap.size W wA) (hg : wA.grownBy w8 v.ownBlock) (hv : OwnP w8 W0.heap.size T v8 ((pre ++ [x]).map fun x => ptV x.data.toList)) (hok : ptB x.data.toList = true) :
    KeepsFrom W0.heap.size W (w8.setCell ⟨w.heap.size + 2, 0, none⟩ v8) ∧ Kp (ssK (w.heap.size + 3)) W (w8.setCell ⟨w.heap.size + 2, 0, none⟩ v8) ∧ ShI T w W0 (pre ++ [x]) (w8.setCell ⟨w.heap.size + 2, 0, none⟩ v8) := by
  have hown : ∀ k, v.ownBlock = some k → W0.heap.size ≤ k ∧ ∃ c, W.heap[k]? = some (.cells c T (0, 0)) := fun k hk => by
    obtain ⟨_, ⟨h1, _⟩ | ⟨g, cap, cur, h1, h2, h3, _⟩⟩ := q2
    · rw [h1] at hk; cases hk
    · rw [h1] at hk
      cases hk
      exact ⟨h2, cur, h3⟩
  have hs1 := hb.size
  have hs2 := hg.size
  have hblk : ∀ k, k < W.heap.size → v.ownBlock ≠ some k → w8.heap[k]? = W.heap[k]? := fun k hk hn => (hg.block k (by omega) (fun e => hn e.symm)).trans (hb.block k hk)
  have hset : ∀ k, k ≠ w.heap.size + 2 → (w8.setCell ⟨w.heap.size + 2, 0, none⟩ v8).heap[k]? = w8.heap[k]? := fun k hk => Below.heap_setCell w8 ⟨w.heap.size + 2, 0, none⟩ v8 k hk
  have hlow : ∀ k, k < W0.heap.size → w8.heap[k]? = W.heap[k]? := fun k hk => hblk k (by omega) (fun e => by have := (hown k e).1; omega)
  have hsz : (w8.setCell ⟨w.heap.size + 2, 0, none⟩ v8).heap.size = w8.heap.size := by simp
  refine ⟨⟨by omega, fun k ob hB hk hc => ?_⟩, fun k hk => ?_, ⟨v8, ?_, ?_⟩, fun y hy => ?_, ?_, ?_, by omega, ?_⟩
  · have hkl := (Array.getElem?_eq_some_iff.1 hk).1
    refine (hset k (by omega)).trans ((hblk k hkl (fun e => ?_)).trans hk)
    obtain ⟨_, c, hc2⟩ := hown k e
    rw [hk] at hc2
    cases hc2
    cases hc
  · have hk2 : k < W0.heap.size ∧ k ≠ w.heap.size + 2 := by rcases hk with rfl | rfl | rfl <;> omega
    exact (hset k hk2.2).trans (hlow k hk2.1)
  · exact hc_set (hc_same q1 (hlow _ (by omega))) v8
  · exact ownsRow_setCell_below hv (a := ⟨w.heap.size + 2, 0, none⟩) (show w.heap.size + 2 < W0.heap.size by omega) v8
  · rcases List.mem_append.1 hy with hy | hy
    · exact q3 y hy
    · rw [List.mem_singleton.1 hy]; exact hok
  · exact hc_oth (hc_same q4 (hlow _ (by omega))) (by omega) _
  · exact hc_oth (hc_same q5 (hlow _ (by omega))) (by omega) _
  · have hz := q7.size
    exact ⟨(hg.os.trans hb.os).trans q7.os, (hg.tape.trans hb.tape).trans q7.tape, (hg.output.trans hb.output).trans q7.output, by omega, fun k hk => (hset k (by omega)).trans ((hlow k (by omega)).trans (q7.block k hk))⟩
set_option maxHeartbeats 400000 in
set_option maxRecDepth 100000 in
theorem sread_some (ea : Nat → Addr) (s : ByteArray) (w : World) (h1 : (s.toList == []) = false) (hs : s.size ≤ 10000) (hL : Libs w) (hText : w.cell? ⟨1, 0, none⟩ = some (.iface 308 (.pointer (some (ea 1))))) (hShape : w.cell? ⟨2, 0, none⟩ = some (.iface 308 (.pointer (some (ea 3))))) (hBound : w.cell? ⟨0, 0, none⟩ = some (.iface 308 (.pointer (some (ea 2))))) :
    Calls Tryz.prog 19 #[.string s] w (RetPE 308 119 ea 102 (readC s.data.toList) (readL s.data.toList) w) := by
  have zhText := zlt hText
  have xhText := zlts hText
  have yhText := zne hText
  have zhShape := zlt hShape
  have xhShape := zlts hShape
  have yhShape := zne hShape
  have zhBound := zlt hBound
  have xhBound := zlts hBound
  have yhBound := zne hBound
  have H_hL := Lib.hid hL
  clear hL
  refine enter_marks2 Tryz.func19 rfl ?_
  simp only [Tryz.ntmps19, List.size_toArray, List.length_cons, List.length_nil, Nat.reduceAdd, Nat.reduceSub, Array.replicate_succ, Array.replicate_zero, List.push_toArray, List.append_toArray, List.nil_append, List.cons_append]
  ((try go_simp); (repeat go_step))
  refine (splitseq_any s 32 _).mono ?_
  rintro _ _ ⟨rfl, rfl⟩
  ((try go_simp); (repeat go_step))
  obtain ⟨W0, hW0⟩ : ∃ u, (((((w.alloc (.cells #[.slice none 0 0] 54)).alloc (.cells #[.nilIface] 30)).alloc (.cells #[.slice none 0 0] 54)).alloc (.cells #[.string s] 9)).alloc (.cells #[.string ⟨#[32]⟩] 9)).alloc (.cells #[.int .i64 0] 3) = u := ⟨_, rfl⟩
  have z0 : W0.heap.size = w.heap.size + 6 := by rw [← hW0]; simp
  have hB0 : Below w.heap.size w W0 := by rw [← hW0]; exact by repeat' (first | (with_reducible first | exact bwR _ _ | assumption | refine bdn ?_ | refine bwA ?_ ?_ _ | refine bwD ?_ | refine bwS ?_ ?_ _) | omega | (simp <;> omega))
  have e0 : Hc W0 w.heap.size #[.slice none 0 0] := by
    rw [← hW0]
    exact hc_al (hc_al (hc_al (hc_al (hc_al (hc_new rfl) (by simp) _) (by simp <;> omega) _) (by simp <;> omega) _) (by simp <;> omega) _) (by simp <;> omega) _
  have e1 : Hc W0 (w.heap.size + 1) #[.nilIface] := by
    rw [← hW0]
    exact hc_al (hc_al (hc_al (hc_al (hc_new (by simp)) (by simp) _) (by simp <;> omega) _) (by simp <;> omega) _) (by simp <;> omega) _
  have e2 : Hc W0 (w.heap.size + 2) #[.slice none 0 0] := by
    rw [← hW0]
    exact hc_al (hc_al (hc_al (hc_new (by simp)) (by simp) _) (by simp <;> omega) _) (by simp <;> omega) _
  have hSs : SsAt (w.heap.size + 3) 32 s.data.toList W0 := by
    rw [← hW0]
    have s0 := fun (u : World) => hc_al (hc_al (hc_new (w := u) (vs := #[Value.string s]) (T := 9) (b := u.heap.size) rfl) (by simp) (.cells #[.string ⟨#[32]⟩] 9)) (by simp <;> omega) (.cells #[.int .i64 0] 3)
    have s1 := fun (u : World) => hc_al (hc_new (w := u.alloc (.cells #[.string s] 9)) (vs := #[Value.string ⟨#[32]⟩]) (T := 9) (b := u.heap.size + 1) (by simp)) (by simp) (.cells #[.int .i64 0] 3)
    have s2 := fun (u : World) => hc_new (w := (u.alloc (.cells #[.string s] 9)).alloc (.cells #[.string ⟨#[32]⟩] 9)) (vs := #[Value.int .i64 0]) (T := 3) (b := u.heap.size + 2) (by simp)
    obtain ⟨u, hu⟩ : ∃ u, ((w.alloc (.cells #[.slice none 0 0] 54)).alloc (.cells #[.nilIface] 30)).alloc (.cells #[.slice none 0 0] 54) = u := ⟨_, rfl⟩
    have hz : u.heap.size = w.heap.size + 3 := by rw [← hu]; simp
    rw [hu, ← hz]
    exact ⟨(s0 u 0 _ rfl).1, (s0 u 0 _ rfl).2, (s1 u 0 _ rfl).1, (s2 u 0 _ rfl).1⟩
  rw [hW0]
  clear hW0
  have hLeanI : Leans (w.heap.size + 3) W0.heap.size (ShI 102 w W0) := by
    rintro pre W W' ⟨⟨v, q1, q2⟩, q3, q4, q5, q6, q7⟩ ho ht hou hs hk
    have hz := q7.size
    have hlow : ∀ k, k < W0.heap.size → k ≠ w.heap.size + 3 → W'.heap[k]? = W.heap[k]? := fun k hk1 hk2 => by
      have hk3 : k < W.heap.size := by omega
      rw [Array.getElem?_eq_getElem hk3]
      exact hk k _ (Array.getElem?_eq_getElem hk3) hk2 (.inl hk1)
    refine ⟨⟨v, hc_same q1 (hlow _ (by omega) (by omega)), ?_⟩, q3, hc_same q4 (hlow _ (by omega) (by omega)), hc_same q5 (hlow _ (by omega) (by omega)), by omega, ⟨ho.trans q7.os, ht.trans q7.tape, hou.trans q7.output, Nat.le_trans q7.size hs, fun k hk' => (hlow k (by omega) (by omega)).trans (q7.block k hk')⟩⟩
    obtain ⟨a1, a2⟩ := q2
    refine ⟨a1, a2.imp id ?_⟩
    rintro ⟨g, cap, cur, b1, b2, b3, rest⟩
    exact ⟨g, cap, cur, b1, b2, hk g _ b3 (by omega) (.inr rfl), rest⟩
  have hLeanX : Leans (w.heap.size + 3) W0.heap.size (ShX (.iface 308 (.pointer (some (ea 1)))) w W0) := by
    rintro pre W W' ⟨q4, q5, q3, q6, q7⟩ ho ht hou hs hk
    have hz := q7.size
    have hlow : ∀ k, k < W0.heap.size → k ≠ w.heap.size + 3 → W'.heap[k]? = W.heap[k]? := fun k hk1 hk2 => by
      have hk3 : k < W.heap.size := by omega
      rw [Array.getElem?_eq_getElem hk3]
      exact hk k _ (Array.getElem?_eq_getElem hk3) hk2 (.inl hk1)
    exact ⟨hc_same q4 (hlow _ (by omega) (by omega)), hc_same q5 (hlow _ (by omega) (by omega)), q3, by omega, ⟨ho.trans q7.os, ht.trans q7.tape, hou.trans q7.output, Nat.le_trans q7.size hs, fun k hk' => (hlow k (by omega) (by omega)).trans (q7.block k hk')⟩⟩
  refine (wpIn_wide (n := 9)).1 ?_
  refine wpIn_range_cell (F := Fence.wide) rfl (by decide) (gf := 112) (lb := #[.pointer (some ⟨w.heap.size + 3 + 1, 0, none⟩), .pointer (some ⟨w.heap.size + 3, 0, none⟩), .pointer (some ⟨w.heap.size + 3 + 2, 0, none⟩)]) rfl trivial (enters_of Tryz.func112 (by kernel_rfl) rfl)
    (encs := fun x : ByteArray => #[Value.string x]) (q := ssK (w.heap.size + 3)) (fun k hk => by rcases hk with rfl | rfl | rfl <;> omega) (b := w.heap.size + 3) (by omega) (xs := wdsL 32 s.data.toList)
    (ssq_cell 8 (by decide) (w.heap.size + 3) 32 s.data.toList (by rw [size_list2]; omega) W0 hSs (by omega)) (fun _ => rfl)
    (ShI 102 w W0) (ShX (.iface 308 (.pointer (some (ea 1)))) w W0) hLeanI hLeanX ⟨⟨_, e2, OwnP.nil _ _ _⟩, (fun x hx => by cases hx), e0, e1, Nat.le_refl _, hB0⟩
    (fun x => { tmps := #[.string s, undef, .pointer (some ⟨w.heap.size, 0, none⟩), .pointer (some ⟨w.heap.size + 1, 0, none⟩), .pointer (some ⟨w.heap.size + 1 + 1, 0, none⟩), .string x, undef, undef, undef, undef, undef, undef, undef, undef, .string s, .bool false, undef, .string s, .func (.func 112) #[] #[.pointer (some ⟨w.heap.size + 1 + 1 + 1 + 1, 0, none⟩), .pointer (some ⟨w.heap.size + 1 + 1 + 1, 0, none⟩), .pointer (some ⟨w.heap.size + 1 + 1 + 1 + 1 + 1, 0, none⟩)], .string x, undef, undef, undef, undef, undef, undef, undef, undef, undef, undef, undef, undef, undef, undef, undef, undef, undef, undef, undef, undef, undef, undef, undef, undef, undef, undef, undef, undef, undef, undef, undef, undef, undef, undef, undef, undef, undef, undef, undef, undef, undef, undef, undef], defers := [] }) ?assign ?body ?done ?stop
  case assign =>
    intro l x W K hK
    gi_wp2
    exact hK
  case body =>
    rintro l pre x W ⟨⟨v, q1, q2⟩, q3, q4, q5, q6, q7⟩ hpf
    have hxs : x.size ≤ 10000 := by
      have hx : x ∈ wdsL 32 s.data.toList := hpf.subset (by simp)
      unfold wdsL at hx
      obtain ⟨y, hy, rfl⟩ := List.mem_map.1 hx
      have := cutL_mem2 hy
      rw [size_list2] at this
      show y.toArray.size ≤ 10000
      simp; omega
    have HC := scut_any x W (by omega) (H_hL.out.keep q7 rfl)
    obtain ⟨x0, hx0⟩ : ∃ u : ByteArray, ⟨(cut1 44 x.data.toList).1.toArray⟩ = u := ⟨_, rfl⟩
    obtain ⟨x1, hx1⟩ : ∃ u : ByteArray, ⟨(cut1 44 x.data.toList).2.1.toArray⟩ = u := ⟨_, rfl⟩
    obtain ⟨xb, hxb⟩ : ∃ u, (cut1 44 x.data.toList).2.2 = u := ⟨_, rfl⟩
    rw [hx0, hx1, hxb] at HC
    gi_wp2
    refine ⟨trivial, ?_⟩
    refine (CallsIn.inRound l (callsIn_wide.2 HC)).mono ?_
    clear HC
    rintro e w5 ⟨rfl, hb5⟩
    have hB5 : Below w.heap.size w w5 := below_via q7 hb5
    have hx0s : x0.size ≤ 100000 := by
      rw [← hx0]
      show (cut1 44 x.data.toList).1.toArray.size ≤ 100000
      have h2 := (cut1_len 44 x.data.toList).1
      rw [size_list2] at h2
      simp; omega
    have hx1s : x1.size ≤ 100000 := by
      rw [← hx1]
      show (cut1 44 x.data.toList).2.1.toArray.size ≤ 100000
      have h2 := (cut1_len 44 x.data.toList).2
      rw [size_list2] at h2
      simp; omega
    have HR := fread_any ea x0 w5 hx0s (H_hL.out.keep hB5 rfl) (gkeep hB5 hText rfl) (gkeep hB5 hShape rfl) (gkeep hB5 hBound rfl)
    obtain ⟨d0, hd0⟩ : ∃ u, rdC x0.data.toList = u := ⟨_, rfl⟩
    obtain ⟨d1, hd1⟩ : ∃ u, rdC x1.data.toList = u := ⟨_, rfl⟩
    rw [hd0] at HR
    have hpb : ptB x.data.toList = (xb && (d0 == 0) && (d1 == 0)) := by
      unfold ptB
      rw [hxb, ← hd0, ← hd1, ← hx0, ← hx1]
    have hpv : ptV x.data.toList = ⟨rdN x0.data.toList, rdD x0.data.toList, rdN x1.data.toList, rdD x1.data.toList⟩ := by
      unfold ptV
      rw [← hx0, ← hx1]
    clear hxs hx0 hx1
    have H_hpb := Lib.hid hpb
    clear hpb
    have H_hpv := Lib.hid hpv
    clear hpv
    have H_hd0 := Lib.hid hd0
    clear hd0
    have H_hd1 := Lib.hid hd1
    clear hd1
    gi_wp2
    refine ⟨trivial, ?_⟩
    refine (CallsIn.inRound l (callsIn_wide.2 HR)).mono ?_
    clear HR
    rintro e w6 ⟨rfl, hb6⟩
    have hB6 : Below w.heap.size w w6 := below_via hB5 hb6
    have hText6 := gkeep hB6 hText rfl
    by_cases h0 : d0 = 0
    · rw [frV_0 h0]
      obtain ⟨n0, hn0⟩ : ∃ u, rdN x0.data.toList = u := ⟨_, rfl⟩
      obtain ⟨m0, hm0⟩ : ∃ u, rdD x0.data.toList = u := ⟨_, rfl⟩
      rw [hn0, hm0]
      have HR := fread_any ea x1 (w6.alloc (.cells #[.int .i64 n0, .int .i64 m0] 49)) hx1s (H_hL.out.keep (hB6.alloc hB6.size _) rfl) (gkeep (hB6.alloc hB6.size _) hText rfl) (gkeep (hB6.alloc hB6.size _) hShape rfl) (gkeep (hB6.alloc hB6.size _) hBound rfl)
      rw [H_hd1.out] at HR
      gi_wp2
      refine ⟨trivial, ?_⟩
      refine (CallsIn.inRound l (callsIn_wide.2 HR)).mono ?_
      clear HR
      rintro e w7 ⟨rfl, hb7⟩
      have hB7 : Below w.heap.size w w7 := below_via (hB6.alloc hB6.size (.cells #[.int .i64 n0, .int .i64 m0] 49)) hb7
      have hBW7 : Below W.heap.size W w7 := below_via ((below_via (below_via (Below.refl _ _) hb5) hb6).alloc (below_via (below_via (Below.refl _ _) hb5) hb6).size (.cells #[.int .i64 n0, .int .i64 m0] 49)) hb7
      have f9 : ∀ j, w7.cell? ⟨w6.heap.size, j, none⟩ = (#[Value.int .i64 n0, .int .i64 m0] : Array Value)[j]? := fun j => (hb7.cell (p := ⟨w6.heap.size, j, none⟩) (by simp)).trans (World.cell?_alloc_new _ _ _ _)
      have y9 : w6.heap.size < w7.heap.size := Nat.lt_of_lt_of_le (by simp) hb7.size
      have z7 : W.heap.size ≤ w7.heap.size := hBW7.size
      have hT7 := gkeep hB7 hText rfl
      have zT7 := zlt hT7
      have s0 : w.heap.size < w7.heap.size := by omega
      have s1 : w.heap.size + 1 < w7.heap.size := by omega
      have s2 : w.heap.size + 2 < w7.heap.size := by omega
      have hk7 : ∀ k, k < W.heap.size → w7.heap[k]? = W.heap[k]? := fun k hk => hBW7.block k hk
      have c0 := ((hc_same q4 (hk7 _ (by omega))) 0 _ rfl).1
      have c0f := ((hc_same q4 (hk7 _ (by omega))) 0 _ rfl).2
      have c1 := ((hc_same q5 (hk7 _ (by omega))) 0 _ rfl).1
      have c1f := ((hc_same q5 (hk7 _ (by omega))) 0 _ rfl).2
      have c2 := ((hc_same q1 (hk7 _ (by omega))) 0 _ rfl).1
      have c2f := ((hc_same q1 (hk7 _ (by omega))) 0 _ rfl).2
      by_cases h1 : d1 = 0
      · rw [frV_0 h1]
        cases xb with
        | true =>
          have hok : ptB x.data.toList = true := by rw [H_hpb.out, h0, h1]; rfl
          have hmap : (pre ++ [x]).map (fun x => ptV x.data.toList) = (pre.map fun x => ptV x.data.toList) ++ [⟨n0, m0, rdN x1.data.toList, rdD x1.data.toList⟩] := by rw [List.map_append, List.map_singleton, H_hpv.out, hn0, hm0]
          obtain ⟨n1, hn1⟩ : ∃ u, rdN x1.data.toList = u := ⟨_, rfl⟩
          obtain ⟨m1, hm1⟩ : ∃ u, rdD x1.data.toList = u := ⟨_, rfl⟩
          rw [hn1, hm1] at hmap ⊢
          have hpl : pre.length ≤ 20000 := by
            have h2 := hpf.length_le
            rw [List.length_append] at h2
            unfold wdsL at h2
            have h3 := cutL_len2 32 s.data.toList
            rw [List.length_map] at h2
            rw [size_list2] at h3
            omega
          have hfl : (pre.map fun x => ptV x.data.toList).length = pre.length := by simp
          have hown7 := OwnP.keep (w' := w7) q2 hBW7
          have g90 := f9 0
          have g91 := f9 1
          obtain ⟨i0, hi, hz0, hz1, hz2⟩ := info_parts info26
          have H_hok := Lib.hid hok
          clear hok
          have H_hmap := Lib.hid hmap
          clear hmap
          have H_hpl := Lib.hid hpl
          clear hpl
          have H_hfl := Lib.hid hfl
          clear hfl
          have H_hown7 := Lib.hid hown7
          clear hown7
          have H_hi := Lib.hid hi
          clear hi
          have H_hz0 := Lib.hid hz0
          clear hz0
          have H_hz1 := Lib.hid hz1
          clear hz1
          have H_hz2 := Lib.hid hz2
          clear hz2
          gi_wp2_with (gi_at_builtin; refine wpListIn_append_own _ rfl (.tmp 49) (.tmp 53) 50 rfl W0.heap.size 102 i0 _ 4 32 Tryz.underlying50 H_hi.out H_hz0.out H_hz1.out H_hz2.out rfl (by decide) v _ _ rfl ((H_hown7.out.alloc _).alloc _) ⟨(w7.heap.size + 1), 0, none⟩ 1 1 [.int .i64 n0, .int .i64 m0, .int .i64 n1, .int .i64 m1] rfl rfl ?c1 ?c2 ?c3 ?c4 ?c5 ?_)
          case c1 =>
            intro j u hu
            rw [show (⟨w7.heap.size + 1, 0, none⟩ : Addr).add j = ⟨w7.heap.size + 1, j, none⟩ by (simp [Addr.add]; try omega), World.cell?_alloc_at _ _ _ _ (by simp)]
            simpa using hu
          case c2 =>
            intro u hu
            simp at hu
            rcases hu with rfl | rfl | rfl | rfl <;> rfl
          case c3 => rw [H_hfl.out]; have := H_hpl.out; unfold maxLen; omega
          case c4 => rw [H_hfl.out]; have := H_hpl.out; omega
          case c5 => simp; omega
          intro v8 w8 hv8 hg8 _
          have hv9 : OwnP w8 W0.heap.size 102 v8 ((pre ++ [x]).map fun x => ptV x.data.toList) := by
            rw [H_hmap.out, z0]
            unfold OwnP
            rw [List.length_append, flat_append, H_hfl.out]
            exact hv8
          have hbA : Below W.heap.size W ((w7.alloc (.cells #[.int .i64 n1, .int .i64 m1] 49)).alloc (.cells #[.int .i64 n0, .int .i64 m0, .int .i64 n1, .int .i64 m1] 102)) := (hBW7.alloc hBW7.size _).alloc (by simp; omega) _
          have hq8 : Hc w8 (w.heap.size + 2) #[v] := by
            have hbk : v.ownBlock ≠ some (w.heap.size + 2) := fun e => by
              have := (World.ownsRow.lt q2 _ e).1
              omega
            have h7 := hc_same q1 (hk7 _ (by omega))
            exact hc_same (hc_al (hc_al h7 s2 _) (by simp; omega) _) (hg8.block _ (by simp; omega) (fun e => hbk e.symm))
          have c28 := (hq8 0 _ rfl).1
          have c28f := (hq8 0 _ rfl).2
          have hs8 := hg8.size
          have s28 : w.heap.size + 2 < w8.heap.size := by simp at hs8; omega
          obtain ⟨o8, l8, k8, rfl⟩ : ∃ o l c, v8 = .slice o l c := by
            rcases hv9.form with ⟨h, _⟩ | ⟨g, cap, h, _⟩
            · exact ⟨_, _, _, h⟩
            · exact ⟨_, _, _, h⟩
          clear hv8 hq8 hs8
          have H_hv9 := Lib.hid hv9
          clear hv9
          have H_hg8 := Lib.hid hg8
          clear hg8
          have H_hbA := Lib.hid hbA
          clear hbA
          gi_wp2
          have hfin := sh_ok z0 q1 q2 q3 q4 q5 q6 q7 H_hbA.out H_hg8.out H_hv9.out H_hok.out
          first | exact hfin | (rw [z0] at hfin; exact hfin) | (rw [← z0]; exact hfin)
        | false =>
          have hbad : ptB x.data.toList = false := by rw [H_hpb.out]; simp
          have H_hbad := Lib.hid hbad
          clear hbad
          gi_wp2
          gi_region
          all_goals
            gi_wp2
            exact sh_err z0 q4 q5 q6 q7 hBW7 H_hbad.out
      · rw [frV_n h1]
        have hbad : ptB x.data.toList = false := by rw [H_hpb.out]; simp [h1]
        cases xb with
        | true => skip
                  have H_hbad := Lib.hid hbad
                  clear hbad
                  gi_wp2
                  gi_region
                  all_goals
                    gi_wp2
                    exact sh_err z0 q4 q5 q6 q7 hBW7 H_hbad.out
        | false => skip
                   have H_hbad := Lib.hid hbad
                   clear hbad
                   gi_wp2
                   gi_region
                   all_goals
                     gi_wp2
                     exact sh_err z0 q4 q5 q6 q7 hBW7 H_hbad.out
    · rw [frV_n h0]
      have HR := fread_any ea x1 (w6.alloc (.cells #[.int .i64 0, .int .i64 0] 49)) hx1s (H_hL.out.keep (hB6.alloc hB6.size _) rfl) (gkeep (hB6.alloc hB6.size _) hText rfl) (gkeep (hB6.alloc hB6.size _) hShape rfl) (gkeep (hB6.alloc hB6.size _) hBound rfl)
      rw [H_hd1.out] at HR
      gi_wp2
      refine ⟨trivial, ?_⟩
      refine (CallsIn.inRound l (callsIn_wide.2 HR)).mono ?_
      clear HR
      rintro e w7 ⟨rfl, hb7⟩
      have hB7 : Below w.heap.size w w7 := below_via (hB6.alloc hB6.size (.cells #[.int .i64 0, .int .i64 0] 49)) hb7
      have hBW7 : Below W.heap.size W w7 := below_via ((below_via (below_via (Below.refl _ _) hb5) hb6).alloc (below_via (below_via (Below.refl _ _) hb5) hb6).size (.cells #[.int .i64 0, .int .i64 0] 49)) hb7
      have f9 : ∀ j, w7.cell? ⟨w6.heap.size, j, none⟩ = (#[Value.int .i64 0, .int .i64 0] : Array Value)[j]? := fun j => (hb7.cell (p := ⟨w6.heap.size, j, none⟩) (by simp)).trans (World.cell?_alloc_new _ _ _ _)
      have y9 : w6.heap.size < w7.heap.size := Nat.lt_of_lt_of_le (by simp) hb7.size
      have z7 : W.heap.size ≤ w7.heap.size := hBW7.size
      have hT7 := gkeep hB7 hText rfl
      have zT7 := zlt hT7
      have s0 : w.heap.size < w7.heap.size := by omega
      have s1 : w.heap.size + 1 < w7.heap.size := by omega
      have s2 : w.heap.size + 2 < w7.heap.size := by omega
      have hk7 : ∀ k, k < W.heap.size → w7.heap[k]? = W.heap[k]? := fun k hk => hBW7.block k hk
      have c0 := ((hc_same q4 (hk7 _ (by omega))) 0 _ rfl).1
      have c0f := ((hc_same q4 (hk7 _ (by omega))) 0 _ rfl).2
      have c1 := ((hc_same q5 (hk7 _ (by omega))) 0 _ rfl).1
      have c1f := ((hc_same q5 (hk7 _ (by omega))) 0 _ rfl).2
      have c2 := ((hc_same q1 (hk7 _ (by omega))) 0 _ rfl).1
      have c2f := ((hc_same q1 (hk7 _ (by omega))) 0 _ rfl).2
      have hbad : ptB x.data.toList = false := by rw [H_hpb.out]; simp [h0]
      by_cases h1 : d1 = 0
      · rw [frV_0 h1]
        cases xb with
        | true => skip
                  have H_hbad := Lib.hid hbad
                  clear hbad
                  gi_wp2
                  gi_region
                  all_goals
                    gi_wp2
                    exact sh_err z0 q4 q5 q6 q7 hBW7 H_hbad.out
        | false => skip
                   have H_hbad := Lib.hid hbad
                   clear hbad
                   gi_wp2
                   gi_region
                   all_goals
                     gi_wp2
                     exact sh_err z0 q4 q5 q6 q7 hBW7 H_hbad.out
      · rw [frV_n h1]
        cases xb with
        | true => skip
                  have H_hbad := Lib.hid hbad
                  clear hbad
                  gi_wp2
                  gi_region
                  all_goals
                    gi_wp2
                    exact sh_err z0 q4 q5 q6 q7 hBW7 H_hbad.out
        | false => skip
                   have H_hbad := Lib.hid hbad
                   clear hbad
                   gi_wp2
                   gi_region
                   all_goals
                     gi_wp2
                     exact sh_err z0 q4 q5 q6 q7 hBW7 H_hbad.out
  case done =>
    rintro D W hD ⟨⟨v, q1, q2⟩, q3, q4, q5, q6, q7⟩ hK
    have hpI : ∀ p ∈ (wdsL 32 s.data.toList).map (fun x => ptV x.data.toList), p.I := fun p hp => by
      obtain ⟨y, hy, rfl⟩ := List.mem_map.1 hp
      exact ptV_I (q3 y hy)
    obtain ⟨oa, cap, rfl, hsl⟩ := OwnP.slp q2 hpI
    have HK := shcheck_any ea _ _ _ _ W hsl (gkeep q7 hShape rfl) (gkeep q7 hBound rfl)
    obtain ⟨ps, hps⟩ : ∃ u, (wdsL 32 s.data.toList).map (fun x => ptV x.data.toList) = u := ⟨_, rfl⟩
    rw [hps] at HK q1 q2 hsl
    have c0 := (q4 0 _ rfl).1
    have c0f := (q4 0 _ rfl).2
    have c1 := (q5 0 _ rfl).1
    have c1f := (q5 0 _ rfl).2
    have c2 := (q1 0 _ rfl).1
    have c2f := (q1 0 _ rfl).2
    have hne : s.data.toList ≠ [] := by
      rcases tst2 s [] with ⟨k, _⟩ | ⟨_, k⟩
      · rw [h1] at k; exact absurd k (by decide)
      · exact k
    have hpe : (cutL 32 s.data.toList).map ptV = ps := by
      rw [← hps]
      unfold wdsL
      rw [List.map_map]; rfl
    have hpb : ∀ x ∈ cutL 32 s.data.toList, ptB x = true := fun x hx => by
      have h := q3 ⟨x.toArray⟩ (by unfold wdsL; exact List.mem_map.2 ⟨x, hx, rfl⟩)
      exact h
    have hrc : readC s.data.toList = shC ps := by rw [readC_ok hne hpb, hpe]
    have hrl0 := fun (h : readC s.data.toList = (0, none)) => (readL_ok hne h).trans hpe
    have hrln := fun (h : (readC s.data.toList).1 ≠ 0) => readL_no h
    rw [hrc] at hrl0 hrln ⊢
    have H_hps := Lib.hid hps
    clear hps
    have H_hsl := Lib.hid hsl
    clear hsl
    have H_hrl0 := Lib.hid hrl0
    clear hrl0
    have H_hrln := Lib.hid hrln
    clear hrln
    gi_wp2
    ((try go_simp); (repeat go_step))
    refine HK.mono ?_
    rintro e W2 ⟨y, rfl, hy, hb⟩
    have hDW : D < W.heap.size := (Array.getElem?_eq_some_iff.1 hK).1
    have hK2 : W2.heap[D]? = some (.deferred (some [])) := (hb.block D hDW).trans hK
    have hB2 : Below w.heap.size w W2 := below_via q7 hb
    have g0 : Hc W2 w.heap.size #[.slice none 0 0] := hc_same q4 (hb.block _ (by omega))
    have g1 : Hc W2 (w.heap.size + 1) #[.nilIface] := hc_same q5 (hb.block _ (by omega))
    have g2 := hc_same q1 (hb.block (w.heap.size + 2) (by omega))
    have hown2 : OwnP W2 W0.heap.size 102 (.slice oa ps.length cap) ps := OwnP.keep q2 hb
    have hs2 := hb.size
    clear c0 c0f c1 c1f c2 c2f
    have c0 := (g0 0 _ rfl).1
    have c0f := (g0 0 _ rfl).2
    have c1 := (g1 0 _ rfl).1
    have c1f := (g1 0 _ rfl).2
    have c2 := (g2 0 _ rfl).1
    have c2f := (g2 0 _ rfl).2
    have hset : ∀ (u0 u1 : Value) (k : Nat), k ≠ w.heap.size → k ≠ w.heap.size + 1 → k ≠ D → (((W2.setCell ⟨w.heap.size, 0, none⟩ u0).setCell ⟨w.heap.size + 1, 0, none⟩ u1).putObj D (.deferred none)).heap[k]? = W2.heap[k]? := fun u0 u1 k h1 h2 h3 =>
      (World.putObj_heap_other h3).trans ((Below.heap_setCell _ ⟨w.heap.size + 1, 0, none⟩ u1 k h2).trans (Below.heap_setCell W2 ⟨w.heap.size, 0, none⟩ u0 k h1))
    have hkD : ∀ (u0 u1 : Value), ((W2.setCell ⟨w.heap.size, 0, none⟩ u0).setCell ⟨w.heap.size + 1, 0, none⟩ u1).heap[D]? = some (.deferred (some [])) := fun u0 u1 =>
      ((Below.heap_setCell _ ⟨w.heap.size + 1, 0, none⟩ u1 D (by show D ≠ w.heap.size + 1; omega)).trans (Below.heap_setCell W2 ⟨w.heap.size, 0, none⟩ u0 D (by show D ≠ w.heap.size; omega))).trans hK2
    have hbel : ∀ (u0 u1 : Value), Below w.heap.size w (((W2.setCell ⟨w.heap.size, 0, none⟩ u0).setCell ⟨w.heap.size + 1, 0, none⟩ u1).putObj D (.deferred none)) := fun u0 u1 =>
      below_put ((hB2.setCell (p := ⟨w.heap.size, 0, none⟩) (Nat.le_refl _) u0).setCell (p := ⟨w.heap.size + 1, 0, none⟩) (Nat.le_succ _) u1) (by omega)
    have hh0 : ∀ (u0 u1 : Value), Hc (((W2.setCell ⟨w.heap.size, 0, none⟩ u0).setCell ⟨w.heap.size + 1, 0, none⟩ u1).putObj D (.deferred none)) w.heap.size #[u0] := fun u0 u1 => hc_put (hc_oth (hc_set g0 u0) (by omega) u1) (by omega)
    have hh1 : ∀ (u0 u1 : Value), Hc (((W2.setCell ⟨w.heap.size, 0, none⟩ u0).setCell ⟨w.heap.size + 1, 0, none⟩ u1).putObj D (.deferred none)) (w.heap.size + 1) #[u1] := fun u0 u1 => hc_put (hc_set (hc_oth g1 (by omega) u0) u1) (by omega)
    rcases shC_some ps with hs3 | hs3
    · obtain rfl := hy.nil hs3
      have hl := H_hrl0.out hs3
      clear hy hb
      have H_hset := Lib.hid hset
      clear hset
      have H_hkD := Lib.hid hkD
      clear hkD
      have H_hbel := Lib.hid hbel
      clear hbel
      have H_hh0 := Lib.hid hh0
      clear hh0
      have H_hh1 := Lib.hid hh1
      clear hh1
      have H_hown2 := Lib.hid hown2
      clear hown2
      ((try go_simp); (repeat go_step))
      refine ⟨by simp, .inl ⟨_, _, rfl, run_takeDeferred (H_hkD.out (.slice oa ps.length cap) .nilIface), ?_⟩⟩
      refine ⟨_, res_sread _ _ (w.heap.size) (w.heap.size + 1) _ _ ?h2 ?h3 (H_hh0.out (.slice oa ps.length cap) .nilIface) (H_hh1.out (.slice oa ps.length cap) .nilIface), ?_⟩
      case h2 => simp
      case h3 => simp
      rw [hs3, hl]
      refine ⟨_, _, rfl, (evl_0 rfl).symm, ownp_same (base := W0.heap.size) H_hown2.out (fun k hk hc => H_hset.out (.slice oa ps.length cap) .nilIface k (by omega) (by omega) (fun e => ?_)) (by omega), H_hbel.out (.slice oa ps.length cap) .nilIface⟩
      obtain ⟨c, hc⟩ := hc
      rw [e, hK2] at hc
      cases hc
    · have hy2 := hy
      obtain ⟨t, ad, rfl⟩ := hy.some hs3
      have hl := H_hrln.out hs3
      clear hy hb
      have H_hset := Lib.hid hset
      clear hset
      have H_hkD := Lib.hid hkD
      clear hkD
      have H_hbel := Lib.hid hbel
      clear hbel
      have H_hh0 := Lib.hid hh0
      clear hh0
      have H_hh1 := Lib.hid hh1
      clear hh1
      have H_hy2 := Lib.hid hy2
      clear hy2
      ((try go_simp); (repeat go_step))
      refine ⟨by simp, .inl ⟨_, _, rfl, run_takeDeferred (H_hkD.out (.slice none 0 0) (.iface t (.pointer (some ad)))), ?_⟩⟩
      refine ⟨_, res_sread _ _ (w.heap.size) (w.heap.size + 1) _ _ ?h2 ?h3 (H_hh0.out (.slice none 0 0) (.iface t (.pointer (some ad)))) (H_hh1.out (.slice none 0 0) (.iface t (.pointer (some ad)))), ?_⟩
      case h2 => simp
      case h3 => simp
      rw [hl]
      exact ⟨_, _, rfl, err_same (lo := W.heap.size) H_hy2.out (fun k hk => H_hset.out (.slice none 0 0) (.iface t (.pointer (some ad))) k (by omega) (by omega) (by omega)) (by omega), OwnP.nil _ _ _, H_hbel.out (.slice none 0 0) (.iface t (.pointer (some ad)))⟩
  case stop =>
    rintro D pre W hD hpf ⟨q4, q5, ⟨x, hx, hbad⟩, q6, q7⟩ hK
    have hne : s.data.toList ≠ [] := by
      rcases tst2 s [] with ⟨k, _⟩ | ⟨_, k⟩
      · rw [h1] at k; exact absurd k (by decide)
      · exact k
    have hx2 : x ∈ wdsL 32 s.data.toList := hpf.subset hx
    unfold wdsL at hx2
    obtain ⟨y, hy, rfl⟩ := List.mem_map.1 hx2
    obtain ⟨r1, r2⟩ := readC_bad hne hy hbad
    rw [r1, r2]
    gi_wp2
    ((try go_simp); (repeat go_step))
    refine ⟨by simp, .inl ⟨_, _, rfl, run_takeDeferred hK, ?_⟩⟩
    refine ⟨_, res_sread _ _ (w.heap.size) (w.heap.size + 1) _ _ ?h2 ?h3 (hc_put q4 (by omega)) (hc_put q5 (by omega)), ?_⟩
    case h2 => simp
    case h3 => simp
    exact ⟨_, _, rfl, rfl, OwnP.nil _ _ _, below_put q7 (by omega)⟩
end Go.Proofs.YtpdaenldmgpkjaaGreatDoor
