/-
  A document as the walks carry it: its blocks; what its cells, its map and its elements read as; how it stays while other blocks turn.
-/
import Derived.Test.YtbcoccgfoionlaaDoorDm3
import Derived.Test.YtbcoccgfoionlaaDoorNd1
import Derived.Test.YtbcoccgfoionlaaDoorDm6
import Derived.Maps.OwnSet
import Derived.Laws.Rows
namespace Lead.Dc
open Go Go.RowKit Go.Maps Go.WideMaps Lead
/-- The types of a document: itself, its element, an attribute, int, its map, an element's pointer. -/
structure Tys where
  D : TypeId
  E : TypeId
  A : TypeId
  I : TypeId
  M : TypeId
  Q : TypeId
structure TysOk (P : Program) (T : Tys) : Prop where
  h1 : T.D ≠ T.E
  h2 : T.D ≠ T.A
  h3 : T.D ≠ T.I
  h4 : T.E ≠ T.A
  h5 : T.E ≠ T.I
  h6 : T.A ≠ T.I
  map : P.underlying T.M = some (.map T.I T.Q)
  int : P.underlying T.I = some (.int .i64)
  zero : ∀ w, (zeroValue T.Q).run P w = .ok (.pointer none) w
theorem hcell {w : World} {g j : Nat} {vs : Array Value} {t : TypeId} {v : Value} (h : w.heap[g]? = some (.cells vs t (0, 0))) (hj : vs[j]? = some v) : w.cell? ⟨g, j, none⟩ = some v := by
  simp [World.cell?, h, hj]
theorem hfree {w : World} {g i : Nat} {vs : Array Value} {t : TypeId} (h : w.heap[g]? = some (.cells vs t (0, 0))) : w.frozen? ⟨g, i, none⟩ = false := by
  simp [World.frozen?, h]
theorem hlt {w : World} {g : Nat} {o : Obj} (h : w.heap[g]? = some o) : g < w.heap.size := (Array.getElem?_eq_some_iff.1 h).1
variable {P : Program} {T : Tys} {w w' : World} {bd next bm cnt : Nat} {E : Els} {pl : Nat → Plc} {D : DataW Unit}
abbrev DAt (P : Program) (T : Tys) (w : World) (bd : Nat) (E : Els) (next : Nat) (pl : Nat → Plc) (bm cnt : Nat) (D : DataW Unit) : Prop := DocAt P T.D T.E T.A T.I 0 w bd E next pl bm cnt D
theorem DocAt.c0 {TD TE TA TI : TypeId} {base : Nat} (h : DocAt P TD TE TA TI base w bd E next pl bm cnt D) : w.cell? ⟨bd, 0, none⟩ = some (.map (some bm)) := hcell h.doc rfl
theorem DocAt.c1 {TD TE TA TI : TypeId} {base : Nat} (h : DocAt P TD TE TA TI base w bd E next pl bm cnt D) : w.cell? ⟨bd, 1, none⟩ = some (.int .i64 (next : Int)) := hcell h.doc rfl
theorem DocAt.fr {TD TE TA TI : TypeId} {base : Nat} (h : DocAt P TD TE TA TI base w bd E next pl bm cnt D) (j : Nat) : w.frozen? ⟨bd, j, none⟩ = false := hfree h.doc
theorem DocAt.ltD {TD TE TA TI : TypeId} {base : Nat} (h : DocAt P TD TE TA TI base w bd E next pl bm cnt D) : bd < w.heap.size := hlt h.doc
theorem DocAt.ltM {TD TE TA TI : TypeId} {base : Nat} (h : DocAt P TD TE TA TI base w bd E next pl bm cnt D) : bm < w.heap.size := h.map.lt
section
variable {TE TA TI : TypeId} {base : Nat} {e : El} {p : Plc}
theorem ElIn.e0 (h : ElIn TE TA TI base w e p) : w.cell? ⟨p.blk, 0, none⟩ = some (.string e.name) := hcell h.cell rfl
theorem ElIn.e1 (h : ElIn TE TA TI base w e p) : w.cell? ⟨p.blk, 1, none⟩ = some p.av := hcell h.cell rfl
theorem ElIn.e2 (h : ElIn TE TA TI base w e p) : w.cell? ⟨p.blk, 2, none⟩ = some (.int .i64 e.parent) := hcell h.cell rfl
theorem ElIn.e3 (h : ElIn TE TA TI base w e p) : w.cell? ⟨p.blk, 3, none⟩ = some p.kv := hcell h.cell rfl
theorem ElIn.fr (h : ElIn TE TA TI base w e p) (j : Nat) : w.frozen? ⟨p.blk, j, none⟩ = false := hfree h.cell
theorem ElIn.lt (h : ElIn TE TA TI base w e p) : p.blk < w.heap.size := hlt h.cell
end
variable {α : Type}
/-- A slice of the document's, as a slice that came in. -/
theorem OwnQ.sl {En : Enc α} {base : Nat} {e : TypeId} {v : Value} {xs : List α} (h : OwnQ En w base e v xs) : ∃ oa len cap, v = .slice oa len cap ∧ SlA En w oa len cap xs := by
  rcases h with h | ⟨a, rfl, rfl⟩
  · obtain ⟨h1, ⟨rfl, h2⟩ | ⟨g, cap, cur, rfl, hg, hh, hl, hm, hs, ht⟩⟩ := h
    · have : xs = [] := List.length_eq_zero_iff.1 h2
      subst this
      exact ⟨none, 0, 0, rfl, rfl, Nat.le_refl _, Nat.zero_le _, .inl rfl⟩
    · have hown : OwnR En w base e (.slice (some ⟨g, 0, none⟩) xs.length cap) xs := ⟨h1, .inr ⟨g, cap, cur, rfl, hg, hh, hl, hm, hs, ht⟩⟩
      refine ⟨_, _, _, rfl, rfl, hl, hm, .inr ⟨g, 0, rfl, hlt hh, ?_⟩⟩
      rcases hown.form with ⟨h3, h4⟩ | ⟨g', cap', h3, _, _, _, _, h4⟩
      · cases h3
      · cases h3; exact h4
  · exact ⟨some a, 0, 0, rfl, rfl, Nat.le_refl _, Nat.zero_le _, .inl rfl⟩
/-- All the blocks of a document lie in F, and F holds no block that is not there. -/
structure Foot (w : World) (F : Nat → Prop) (bd bm : Nat) (E : Els) (pl : Nat → Plc) : Prop where
  d : F bd
  m : F bm
  el : ∀ n e, elAt E n = some e → F (pl n).blk
  av : ∀ n e, elAt E n = some e → ∀ b, rowB (pl n).av = some b → F b
  kv : ∀ n e, elAt E n = some e → ∀ b, rowB (pl n).kv = some b → F b
  lt : ∀ k, F k → k < w.heap.size
/-- A document. -/
def Dok (P : Program) (T : Tys) (w : World) (bd : Nat) (F : Nat → Prop) (E : Els) (next : Nat) : Prop :=
  ∃ pl bm cnt D, DAt P T w bd E next pl bm cnt D ∧ cnt ≤ next ∧ Foot w F bd bm E pl
/-- Blocks of F alone have turned. -/
structure Turn (F : Nat → Prop) (w w' : World) : Prop where
  os : w'.os = w.os
  tape : w'.tape = w.tape
  output : w'.output = w.output
  size : w.heap.size ≤ w'.heap.size
  block : ∀ k, k < w.heap.size → ¬ F k → w'.heap[k]? = w.heap[k]?
theorem Turn.of_below {F : Nat → Prop} (h : Below w.heap.size w w') : Turn F w w' := ⟨h.os, h.tape, h.output, h.size, fun k hk _ => h.block k hk⟩
theorem Turn.refl (F : Nat → Prop) (w : World) : Turn F w w := ⟨rfl, rfl, rfl, Nat.le_refl _, fun _ _ _ => rfl⟩
/-- .. and then blocks of F', of which those that were there are F's. -/
theorem Turn.trans {F F' : Nat → Prop} {a b c : World} (h : Turn F a b) (k : Turn F' b c) (hF : ∀ i, i < a.heap.size → F' i → F i) : Turn F a c :=
  ⟨k.os.trans h.os, k.tape.trans h.tape, k.output.trans h.output, Nat.le_trans h.size k.size, fun i hi hn => (k.block i (Nat.lt_of_lt_of_le hi h.size) (fun h' => hn (hF i hi h'))).trans (h.block i hi hn)⟩
theorem Turn.below {F : Nat → Prop} {B : Nat} (h : Turn F w w') (hB : B ≤ w.heap.size) (hF : ∀ k, F k → B ≤ k) : Below B w w' :=
  ⟨h.os, h.tape, h.output, h.size, fun k hk => h.block k (Nat.lt_of_lt_of_le hk hB) (fun hf => by have := hF k hf; omega)⟩
theorem Turn.mono {F F' : Nat → Prop} (h : Turn F w w') (hF : ∀ k, F k → F' k) : Turn F' w w' := ⟨h.os, h.tape, h.output, h.size, fun k hk hn => h.block k hk (fun hf => hn (hF k hf))⟩
theorem Turn.cell {F : Nat → Prop} (h : Turn F w w') {p : Addr} (hp : p.block < w.heap.size) (hn : ¬ F p.block) : w'.cell? p = w.cell? p := World.cell?_of_block (w := w) (h.block p.block hp hn)
theorem Turn.frozen {F : Nat → Prop} (h : Turn F w w') {p : Addr} (hp : p.block < w.heap.size) (hn : ¬ F p.block) : w'.frozen? p = w.frozen? p := World.frozen?_of_block (w := w) (h.block p.block hp hn)
theorem Turn.row {F : Nat → Prop} {En : Enc α} {b off : Nat} {xs : List α} (h : Turn F w w') (hr : RowIn En w b off xs) (hp : b < w.heap.size) (hn : ¬ F b) : RowIn En w' b off xs := hr.of fun o => h.cell (p := ⟨b, o, none⟩) hp hn
theorem Foot.keep {F : Nat → Prop} {bm : Nat} (h : Foot w F bd bm E pl) (hs : w.heap.size ≤ w'.heap.size) : Foot w' F bd bm E pl := ⟨h.d, h.m, h.el, h.av, h.kv, fun k hk => Nat.lt_of_lt_of_le (h.lt k hk) hs⟩
theorem Dok.keep {F : Nat → Prop} (h : Dok P T w bd F E next) (hb : Below w.heap.size w w') : Dok P T w' bd F E next := by
  obtain ⟨pl, bm, cnt, D, h1, h2, h3⟩ := h
  exact ⟨pl, bm, cnt, D, h1.keep hb, h2, h3.keep hb.size⟩
theorem Dok.lt {F : Nat → Prop} (h : Dok P T w bd F E next) : bd < w.heap.size := by
  obtain ⟨pl, bm, cnt, D, h1, _⟩ := h
  exact h1.ltD
theorem Dok.inF {F : Nat → Prop} (h : Dok P T w bd F E next) : F bd := by
  obtain ⟨pl, bm, cnt, D, _, _, h3⟩ := h
  exact h3.d
theorem Dok.F_lt {F : Nat → Prop} (h : Dok P T w bd F E next) : ∀ k, F k → k < w.heap.size := by
  obtain ⟨pl, bm, cnt, D, _, _, h3⟩ := h
  exact h3.lt
/-- How the map is asked. -/
theorem i64_key {a : Int} (h : I64 a) : (Lit.int .i64 a).wf = true := by
  unfold I64 at h
  simp [Lit.wf, IntKind.min, IntKind.max, IntKind.signed, IntKind.bits]
  omega
theorem key_of (K : TysOk P T) {a : Int} (h : I64 a) : keyOf P T.I (.int .i64 a) = some (.int .i64 a) := keyOf_int_mk K.int (i64_key h)
theorem DocAt.hit (K : TysOk P T) (h : DAt P T w bd E next pl bm cnt D) {n : Nat} {e : El} (he : elAt E n = some e) (hn : I64 (n : Int)) :
    (Instr.lookup T.M (.map (some bm)) (.int .i64 (n : Int)) false).run P w = .ok (.pointer (some ⟨(pl n).blk, 0, none⟩)) w ∧ (Instr.lookup T.M (.map (some bm)) (.int .i64 (n : Int)) true).run P w = .ok (.tuple #[.pointer (some ⟨(pl n).blk, 0, none⟩), .bool true]) w := by
  obtain ⟨v, ps, hrun, hv⟩ := h.map.lookup (int_keyed K.int) K.map (K.zero w) (zd := .nil) (zp := []) rfl (key_of K hn)
  obtain ⟨v2, ps2, hrun2, hv2⟩ := h.map.look_ok (int_keyed K.int) K.map (K.zero w) (zd := .nil) (zp := []) rfl (key_of K hn)
  obtain ⟨h1, h2⟩ := h.md.hit n e he
  rw [h1] at hv hv2
  rw [h2] at hrun2
  rw [pElem_some hv] at hrun
  rw [pElem_some hv2] at hrun2
  exact ⟨hrun, hrun2⟩
theorem DocAt.miss (K : TysOk P T) (h : DAt P T w bd E next pl bm cnt D) {z : Int} (hz : ∀ n : Nat, z = n → elAt E n = none) (hn : I64 z) :
    (Instr.lookup T.M (.map (some bm)) (.int .i64 z) false).run P w = .ok (.pointer none) w ∧ (Instr.lookup T.M (.map (some bm)) (.int .i64 z) true).run P w = .ok (.tuple #[.pointer none, .bool false]) w := by
  obtain ⟨v, ps, hrun, hv⟩ := h.map.lookup (int_keyed K.int) K.map (K.zero w) (zd := .nil) (zp := []) rfl (key_of K hn)
  obtain ⟨v2, ps2, hrun2, hv2⟩ := h.map.look_ok (int_keyed K.int) K.map (K.zero w) (zd := .nil) (zp := []) rfl (key_of K hn)
  rw [h.md.nil hz] at hv hv2
  rw [h.md.miss z hz] at hrun2
  rw [pElem_nil hv] at hrun
  rw [pElem_nil hv2] at hrun2
  exact ⟨hrun, hrun2⟩
/-- .. at the operation. -/
theorem wp_hit {ops : Array Oper} {rest : List Oper} {o : Oper} {a : Act} {Q : Exit → Act → World → Prop} (K : TysOk P T) (hg : o.guard = none) (m x : Operand) (hop : o.op = Op.lookup T.M m x false)
    (hm : a.eval m = .map (some bm)) {n : Nat} {e : El} (hx : a.eval x = .int .i64 (n : Int)) (h : DAt P T w bd E next pl bm cnt D) (he : elAt E n = some e) (hn : I64 (n : Int))
    (hK : wpList P ops Q rest (a.put o.dst (.pointer (some ⟨(pl n).blk, 0, none⟩))) w) : wpList P ops Q (o :: rest) a w := by
  refine wpList_plain hg fun K' hK' => ?_
  obtain ⟨h1, h2⟩ := h.hit K he hn
  unfold Oper.wp
  simp [execOp, hop, hm, hx, h1, Result.andThen]
  exact hK' _ _ hK
theorem wp_hit_ok {ops : Array Oper} {rest : List Oper} {o : Oper} {a : Act} {Q : Exit → Act → World → Prop} (K : TysOk P T) (hg : o.guard = none) (m x : Operand) (hop : o.op = Op.lookup T.M m x true)
    (hm : a.eval m = .map (some bm)) {n : Nat} {e : El} (hx : a.eval x = .int .i64 (n : Int)) (h : DAt P T w bd E next pl bm cnt D) (he : elAt E n = some e) (hn : I64 (n : Int))
    (hK : wpList P ops Q rest (a.put o.dst (.tuple #[.pointer (some ⟨(pl n).blk, 0, none⟩), .bool true])) w) : wpList P ops Q (o :: rest) a w := by
  refine wpList_plain hg fun K' hK' => ?_
  obtain ⟨h1, h2⟩ := h.hit K he hn
  unfold Oper.wp
  simp [execOp, hop, hm, hx, h2, Result.andThen]
  exact hK' _ _ hK
theorem wp_miss_ok {ops : Array Oper} {rest : List Oper} {o : Oper} {a : Act} {Q : Exit → Act → World → Prop} (K : TysOk P T) (hg : o.guard = none) (m x : Operand) (hop : o.op = Op.lookup T.M m x true)
    (hm : a.eval m = .map (some bm)) {z : Int} (hx : a.eval x = .int .i64 z) (h : DAt P T w bd E next pl bm cnt D) (hz : ∀ n : Nat, z = n → elAt E n = none) (hn : I64 z)
    (hK : wpList P ops Q rest (a.put o.dst (.tuple #[.pointer none, .bool false])) w) : wpList P ops Q (o :: rest) a w := by
  refine wpList_plain hg fun K' hK' => ?_
  obtain ⟨h1, h2⟩ := h.miss K hz hn
  unfold Oper.wp
  simp [execOp, hop, hm, hx, h2, Result.andThen]
  exact hK' _ _ hK
/-- An element of any number. -/
def atZ (E : Els) (z : Int) : Option El := if 0 ≤ z then elAt E z.toNat else none
def parZ (E : Els) (z : Int) : Int := match atZ E z with
  | some e => e.parent
  | none => -1
def kidsZ (E : Els) (z : Int) : List Nat := match atZ E z with
  | some e => e.kids
  | none => []
def nameZ (E : Els) (z : Int) : ByteArray := match atZ E z with
  | some e => e.name
  | none => ⟨#[]⟩
theorem atZ_some {z : Int} {e : El} (h : atZ E z = some e) : ∃ n : Nat, z = n ∧ elAt E n = some e := by
  unfold atZ at h
  by_cases hz : 0 ≤ z
  · rw [if_pos hz] at h
    exact ⟨z.toNat, by omega, h⟩
  · rw [if_neg hz] at h; cases h
theorem atZ_none {z : Int} (h : atZ E z = none) : ∀ n : Nat, z = n → elAt E n = none := by
  rintro n rfl
  unfold atZ at h
  rw [if_pos (Int.natCast_nonneg n), Int.toNat_natCast] at h
  exact h
theorem atZ_nat (n : Nat) : atZ E (n : Int) = elAt E n := by unfold atZ; rw [if_pos (Int.natCast_nonneg n), Int.toNat_natCast]
theorem parZ_nat {n : Nat} {e : El} (h : elAt E n = some e) : parZ E n = e.parent := by unfold parZ; rw [atZ_nat, h]
theorem kidsZ_nat {n : Nat} {e : El} (h : elAt E n = some e) : kidsZ E n = e.kids := by unfold kidsZ; rw [atZ_nat, h]
theorem nameZ_nat {n : Nat} {e : El} (h : elAt E n = some e) : nameZ E n = e.name := by unfold nameZ; rw [atZ_nat, h]
theorem i64_nat {n : Nat} (h : n ≤ 1000000000) : I64 (n : Int) := by unfold I64; omega
/-- Children are no more than elements. -/
theorem Good.kids_len {d : Nat → Nat} (g : Good E next d) {n : Nat} {e : El} (h : elAt E n = some e) : e.kids.length ≤ E.length := by
  have h1 := g.nd n e h
  have h2 : e.kids ⊆ E.map (·.1) := fun x hx => by
    obtain ⟨ke, hke, _⟩ := g.down n e x h hx
    exact elAt_some.1 ⟨ke, hke⟩
  have h3 : e.kids.Perm ((E.map (·.1)).filter fun x => decide (x ∈ e.kids)) := (List.perm_ext_iff_of_nodup h1 (g.keys.sublist List.filter_sublist)).2 fun x => by
    rw [List.mem_filter]
    exact ⟨fun hx => ⟨h2 hx, decide_eq_true hx⟩, fun hx => of_decide_eq_true hx.2⟩
  have h4 := List.length_filter_le (fun x => decide (x ∈ e.kids)) (E.map (·.1))
  rw [h3.length_eq]
  rw [List.length_map] at h4
  exact h4
end Lead.Dc
