/-
  Plain: points, shapes; how they lie in memory; errors with a place.
-/
import Derived.Test.YthijgncjaophjaaDoorPl1
namespace Lead
open Go Go.RowKit

/-- A point. -/
structure Pt where
  xn : Int
  xd : Int
  yn : Int
  yd : Int

def Pt.c (p : Pt) : Nat := ptC p.xn p.xd p.yn p.yd
structure Pt.I (p : Pt) : Prop where
  xn : I64 p.xn
  xd : I64 p.xd
  yn : I64 p.yn
  yd : I64 p.yd

/-- Points that lie from a place on. -/
structure PtsIn (w : World) (b off : Nat) (ps : List Pt) : Prop where
  c0 : ∀ i (h : i < ps.length), w.cell? ⟨b, off + i * 4, none⟩ = some (.int .i64 ps[i].xn)
  c1 : ∀ i (h : i < ps.length), w.cell? ⟨b, off + i * 4 + 1, none⟩ = some (.int .i64 ps[i].xd)
  c2 : ∀ i (h : i < ps.length), w.cell? ⟨b, off + i * 4 + 2, none⟩ = some (.int .i64 ps[i].yn)
  c3 : ∀ i (h : i < ps.length), w.cell? ⟨b, off + i * 4 + 3, none⟩ = some (.int .i64 ps[i].yd)

theorem PtsIn.keep {w w1 : World} {b off : Nat} {ps : List Pt} {B : Nat} (h : PtsIn w b off ps) (hb : Below B w w1) (hB : b < B) : PtsIn w1 b off ps :=
  ⟨fun i hi => by rw [hb.cell hB]; exact h.c0 i hi, fun i hi => by rw [hb.cell hB]; exact h.c1 i hi, fun i hi => by rw [hb.cell hB]; exact h.c2 i hi, fun i hi => by rw [hb.cell hB]; exact h.c3 i hi⟩
theorem PtsIn.lt {w : World} {b off : Nat} {ps : List Pt} (h : PtsIn w b off ps) (h0 : 0 < ps.length) : b < w.heap.size := by
  have := World.block_lt_of_cell? w _ (h.c0 0 h0); exact this

/-- A slice of points: nil, or points that lie from a place on. -/
def SlP (w : World) (oa : Option Addr) (len cap : Nat) (ps : List Pt) : Prop :=
  len = ps.length ∧ len ≤ cap ∧ len ≤ maxLen ∧ (∀ p ∈ ps, p.I) ∧ ((oa = none ∧ len = 0 ∧ cap = 0) ∨ ∃ b off, oa = some ⟨b, off, none⟩ ∧ b < w.heap.size ∧ PtsIn w b off ps)
theorem SlP.keep {w w1 : World} {oa : Option Addr} {len cap : Nat} {ps : List Pt} {B : Nat} (h : SlP w oa len cap ps) (hb : Below B w w1) (hB : B = w.heap.size) : SlP w1 oa len cap ps := by
  obtain ⟨h1, h2, h3, h4, h5⟩ := h
  refine ⟨h1, h2, h3, h4, ?_⟩
  rcases h5 with h5 | ⟨b, off, h6, h7, h8⟩
  · exact .inl h5
  · exact .inr ⟨b, off, h6, Nat.lt_of_lt_of_le h7 hb.size, h8.keep hb (by omega)⟩

/-- The first point that is not right: the error's number, and the place. -/
def firstBad : List Pt → Nat → Nat × Option Nat
  | [], _ => (0, none)
  | p :: ps, i => if p.c = 0 then firstBad ps (i + 1) else (p.c, some i)
theorem firstBad_step {ps : List Pt} {k : Nat} (h : k < ps.length) (h0 : ps[k].c = 0) : firstBad (ps.drop k) k = firstBad (ps.drop (k + 1)) (k + 1) := by
  rw [List.drop_eq_getElem_cons h, firstBad, if_pos h0]
theorem firstBad_hit {ps : List Pt} {k : Nat} (h : k < ps.length) (h0 : ps[k].c ≠ 0) : firstBad (ps.drop k) k = (ps[k].c, some k) := by
  rw [List.drop_eq_getElem_cons h, firstBad, if_neg h0]
theorem firstBad_end {ps : List Pt} {k : Nat} (h : ps.length ≤ k) : firstBad (ps.drop k) k = (0, none) := by
  rw [List.drop_eq_nil_of_le h, firstBad]
/-- Shape.Check's error: its number, and its place. -/
def shC (ps : List Pt) : Nat × Option Nat := if 30 < ps.length then (2, none) else firstBad ps 0

/-- An error: a bare one of package api, or one with a place (in new memory). -/
def ErrAt (T F : Nat) (ea : Nat → Addr) (lo : Nat) (w : World) (v : Value) (c : Nat × Option Nat) : Prop :=
  match c.2 with
  | none => v = evl T ea c.1
  | some i => c.1 ≠ 0 ∧ ∃ b, lo ≤ b ∧ v = .iface F (.pointer (some ⟨b, 0, none⟩)) ∧ w.cell? ⟨b, 0, none⟩ = some (.int .i64 i) ∧ w.cell? ⟨b, 1, none⟩ = some (.iface T (.pointer (some (ea c.1))))
theorem ErrAt.keep {T F : Nat} {ea : Nat → Addr} {lo lo' B : Nat} {w w' : World} {v : Value} {c : Nat × Option Nat} (h : ErrAt T F ea lo w v c) (hb : Below B w w') (hB : B = w.heap.size) (hl : lo' ≤ lo) : ErrAt T F ea lo' w' v c := by
  obtain ⟨c1, c2⟩ := c
  cases c2 with
  | none => exact h
  | some i =>
    obtain ⟨h0, b, h1, h2, h3, h4⟩ := h
    exact ⟨h0, b, by omega, h2, gkeep hb h3 hB, gkeep hb h4 hB⟩
theorem ErrAt.nil {T F : Nat} {ea : Nat → Addr} {lo : Nat} {w : World} {v : Value} {c : Nat × Option Nat} (h : ErrAt T F ea lo w v c) (h0 : c = (0, none)) : v = .nilIface := by
  subst h0; exact h.trans (evl_0 rfl)

/-- A call that answers one error. -/
def RetE (T F : Nat) (ea : Nat → Addr) (c : Nat × Option Nat) (w : World) (e : Ending) (w' : World) : Prop :=
  ∃ v, e = .returned v ∧ ErrAt T F ea w.heap.size w' v c ∧ Below w.heap.size w w'

/-- A call that answers one error: behind it, what is known. -/
theorem call_e {P : Program} {f : FuncId} {args : Array Value} {w W : World} {R : Ending → World → Prop} {T F : Nat} {ea : Nat → Addr} {c : Nat × Option Nat} (hB : Below w.heap.size w W)
    (h : Below w.heap.size w W → Calls P f args W (RetE T F ea c W))
    (k : ∀ v w1, ErrAt T F ea W.heap.size w1 v c → Below w.heap.size w w1 → W.heap.size ≤ w1.heap.size → (∀ b o, b < W.heap.size → w1.cell? ⟨b, o, none⟩ = W.cell? ⟨b, o, none⟩) →
      (∀ b o, b < W.heap.size → w1.frozen? ⟨b, o, none⟩ = W.frozen? ⟨b, o, none⟩) → R (.returned v) w1) : Calls P f args W R :=
  (h hB).mono fun e w1 ⟨v, he, hv, hb⟩ => by
    subst he
    exact k v w1 hv (hB.trans (hb.mono hB.size)) hb.size (bcell hb).1 (bcell hb).2
/-- .. which answers none. -/
theorem call_e0 {P : Program} {f : FuncId} {args : Array Value} {w W : World} {R : Ending → World → Prop} {T F : Nat} {ea : Nat → Addr} {c : Nat × Option Nat} (hB : Below w.heap.size w W)
    (h : Below w.heap.size w W → Calls P f args W (RetE T F ea c W)) (h0 : c = (0, none))
    (k : ∀ w1, Below w.heap.size w w1 → W.heap.size ≤ w1.heap.size → (∀ b o, b < W.heap.size → w1.cell? ⟨b, o, none⟩ = W.cell? ⟨b, o, none⟩) →
      (∀ b o, b < W.heap.size → w1.frozen? ⟨b, o, none⟩ = W.frozen? ⟨b, o, none⟩) → R (.returned .nilIface) w1) : Calls P f args W R :=
  call_e hB h fun v w1 hv hb hz c d => by rw [hv.nil h0]; exact k w1 hb hz c d

end Lead
