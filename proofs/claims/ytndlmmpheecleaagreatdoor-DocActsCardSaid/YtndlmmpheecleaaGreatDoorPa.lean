/-
  Several texts as one: Base, Pl1, Pl7, Pl10, Pl11, Pl2, Pl3, Pl4, Pl5, Pl8, Pl6, Pl12.
-/
import Derived.WalkKit
import Derived.WalkSpells
import Derived.WalkLawsBesides
import Derived.Deep.QuietTactic
import Derived.Deep.Draws
import Derived.BigQuiet
import Derived.BigRegion
import Derived.RegionTactic
import Derived.ChangeAlike
import Derived.Handy
import Derived.Lib.Hide
import Derived.Deep.RegionHeld3
import Derived.Deep.RegionWith
/-
  Small general laws that all walks of this family use. No program in sight.
-/
namespace Lead
open Go Go.RowKit

/-- A 64-bit number. -/
def I64 (x : Int) : Prop := -9223372036854775808 ≤ x ∧ x ≤ 9223372036854775807

theorem I64.wf {x : Int} (h : (Lit.int .i64 x).wf = true) : I64 x := by
  simp [Lit.wf, IntKind.min, IntKind.max, IntKind.signed, IntKind.bits] at h
  unfold I64; omega

/-- A cell is known: so its block is there. -/
theorem zlt {w : World} {g : Nat} {v : Value} (h : w.cell? ⟨g, 0, none⟩ = some v) : g < w.heap.size := World.block_lt_of_cell? w _ h
theorem zlts {w : World} {g : Nat} {v : Value} (h : w.cell? ⟨g, 0, none⟩ = some v) : ∀ j, j ≤ g → j < w.heap.size := fun j hj => by have := zlt h; omega
theorem zne {w : World} {g : Nat} {v : Value} (h : w.cell? ⟨g, 0, none⟩ = some v) : ∀ j, j ≤ g → ¬ w.heap.size = j := fun j hj => by have := zlt h; omega
theorem gkeep {w w1 : World} {a : Addr} {v : Value} {B : Nat} (hb : Below B w w1) (h : w.cell? a = some v) (hB : B = w.heap.size) : w1.cell? a = some v := by
  rw [hb.cell (by rw [hB]; exact World.block_lt_of_cell? w _ h)]; exact h

/-- Behind a call: what lay before it reads as it did. -/
theorem bcell {W w1 : World} (hb : Below W.heap.size W w1) : (∀ b o, b < W.heap.size → w1.cell? ⟨b, o, none⟩ = W.cell? ⟨b, o, none⟩) ∧ (∀ b o, b < W.heap.size → w1.frozen? ⟨b, o, none⟩ = W.frozen? ⟨b, o, none⟩) :=
  ⟨fun b o h => hb.cell (p := ⟨b, o, none⟩) h, fun b o h => hb.frozen (p := ⟨b, o, none⟩) h⟩

theorem bwR (B : Nat) (w : World) : Below B w w := Below.refl B w
theorem bwA {B : Nat} {a w : World} (h : Below B a w) (hB : B ≤ w.heap.size) (o : Obj) : Below B a (w.alloc o) := h.alloc hB o
theorem bwD {B : Nat} {a w : World} (h : Below B a w) : Below B a w.drew := h.drew
theorem bwS {B : Nat} {a w : World} {p : Addr} (h : Below B a w) (hB : B ≤ p.block) (v : Value) : Below B a (w.setCell p v) := h.setCell hB v
theorem szA (w : World) (o : Obj) : (w.alloc o).heap.size = w.heap.size + 1 := World.size_alloc w o
theorem szD (w : World) : w.drew.heap.size = w.heap.size := World.size_drew w
theorem szS (w : World) (p : Addr) (v : Value) : (w.setCell p v).heap.size = w.heap.size := World.size_setCell _ _ _
theorem bdn {B n : Nat} {a w : World} (h : Below B a w) : Below B a (w.drewN n) := h.trans ⟨rfl, rfl, rfl, Nat.le_refl _, fun _ _ => rfl⟩

end Lead

/-
  Plain laws on numbers: what the walks over package frac come to. No program in sight.
-/
namespace Lead
open Go Go.RowKit

/-- Is a part of a fraction not too great? -/
def sml (x : Int) : Bool := decide (-1073741824 ≤ x ∧ x ≤ 1073741824)
theorem sml_true {x : Int} : sml x = true ↔ -1073741824 ≤ x ∧ x ≤ 1073741824 := by unfold sml; simp
/-- The number of the error of a fraction: 0 none, 2 ErrBound, 3 ErrShape. -/
def chk (n d : Int) : Nat := if d < 1 then 3 else if Int.gcd n d ≠ 1 then 3 else if sml n = true ∧ sml d = true then 0 else 2

/-- An error by its number; where the errors lie: 'ea'. -/
def evl (T : Nat) (ea : Nat → Addr) (c : Nat) : Value := if c = 0 then .nilIface else .iface T (.pointer (some (ea c)))
theorem evl_0 {T : Nat} {ea : Nat → Addr} {c : Nat} (h : c = 0) : evl T ea c = .nilIface := by unfold evl; rw [if_pos h]
theorem evl_n {T : Nat} {ea : Nat → Addr} {c : Nat} (h : c ≠ 0) : evl T ea c = .iface T (.pointer (some (ea c))) := by unfold evl; rw [if_neg h]

/-- Lowest terms: by what both parts are divided; the parts; the error's number. -/
def lowG (n d : Int) : Int := if d < 0 then -(Int.gcd n d : Int) else (Int.gcd n d : Int)
def lowN (n d : Int) : Int := n.tdiv (lowG n d)
def lowD (n d : Int) : Int := d.tdiv (lowG n d)
def lowC (n d : Int) : Nat := if sml (lowN n d) = true ∧ sml (lowD n d) = true then 0 else 2
/-- A number that can be divided and put together without a wrap. -/
def B62 (x : Int) : Prop := -4611686018427387904 ≤ x ∧ x ≤ 4611686018427387904
theorem B62.i64 {x : Int} (h : B62 x) : I64 x := by unfold B62 at h; unfold I64; omega

/-- What a right fraction has. -/
structure Right (n d : Int) : Prop where
  n0 : -1073741824 ≤ n
  n1 : n ≤ 1073741824
  d0 : 1 ≤ d
  d1 : d ≤ 1073741824
  gcd : Int.gcd n d = 1
theorem chk_right {n d : Int} (h : Right n d) : chk n d = 0 := by
  obtain ⟨h1, h2, h3, h4, h5⟩ := h
  have a : sml n = true := sml_true.2 ⟨h1, h2⟩
  have b : sml d = true := sml_true.2 ⟨by omega, h4⟩
  unfold chk
  rw [if_neg (by omega), if_neg (by omega), if_pos ⟨a, b⟩]
theorem wrap_60 {x : Int} (h : -2305843009213693952 ≤ x ∧ x ≤ 2305843009213693952) : wrap64 x = x := by
  apply IntWalk.wrap64_in; omega
theorem Right.nb {n d : Int} (h : Right n d) : -1073741824 ≤ n ∧ n ≤ 1073741824 := ⟨h.n0, h.n1⟩
theorem Right.db {n d : Int} (h : Right n d) : -1073741824 ≤ d ∧ d ≤ 1073741824 := ⟨by have := h.d0; omega, h.d1⟩
theorem Right.ni {n d : Int} (h : Right n d) : I64 n := by have := h.nb; unfold I64; omega
theorem Right.di {n d : Int} (h : Right n d) : I64 d := by have := h.db; unfold I64; omega
/-- Package shape's small: of a right fraction. -/
def shSml (n d : Int) : Bool := decide (d ≤ 20 ∧ n ≤ 1000 * d ∧ -1000 * d ≤ n)
/-- The number of a point's error. -/
def ptC (xn xd yn yd : Int) : Nat := if chk xn xd ≠ 0 then chk xn xd else if chk yn yd ≠ 0 then chk yn yd else if shSml xn xd = true ∧ shSml yn yd = true then 0 else 2
end Lead

/-
  Plain: fractions in lowest terms: what they are, when they are one, their order and their sums.
-/
namespace Lead
open Go Go.RowKit

/-- A fraction. -/
structure Fr where
  n : Int
  d : Int
def Fr.R (a : Fr) : Prop := Right a.n a.d
def Fr.c (a : Fr) : Nat := chk a.n a.d
def addN (a b : Fr) : Int := a.n * b.d + b.n * a.d
def addD (a b : Fr) : Int := a.d * b.d
def Fr.add (a b : Fr) : Fr := ⟨lowN (addN a b) (addD a b), lowD (addN a b) (addD a b)⟩
def Fr.addC (a b : Fr) : Nat := lowC (addN a b) (addD a b)

end Lead

/-
  Plain: what was added is taken off, what was multiplied divided.
-/
namespace Lead
open Go Go.RowKit

def subN (a b : Fr) : Int := a.n * b.d - b.n * a.d
def Fr.sub (a b : Fr) : Fr := ⟨lowN (subN a b) (addD a b), lowD (subN a b) (addD a b)⟩
end Lead

/-
  Plain: the reference's lowest terms are package frac's; values with an error's number.
-/
namespace Lead
open Go Go.RowKit

/-- A number where there is no error, else 0. -/
def z0 (c : Nat) (q : Int) : Int := if c = 0 then q else 0
theorem B62.neg {x : Int} (h : B62 x) : B62 (-x) := by unfold B62 at *; omega
end Lead

/-
  Plain: points, shapes; how they lie in memory; errors with a place.
-/
namespace Lead
open Go Go.RowKit

/-- A point. -/
structure Pt where
  xn : Int
  xd : Int
  yn : Int
  yd : Int

def Pt.c (p : Pt) : Nat := ptC p.xn p.xd p.yn p.yd
structure Pt.I (p : Pt) : Prop where
  xn : I64 p.xn
  xd : I64 p.xd
  yn : I64 p.yn
  yd : I64 p.yd

/-- Points that lie from a place on. -/
structure PtsIn (w : World) (b off : Nat) (ps : List Pt) : Prop where
  c0 : ∀ i (h : i < ps.length), w.cell? ⟨b, off + i * 4, none⟩ = some (.int .i64 ps[i].xn)
  c1 : ∀ i (h : i < ps.length), w.cell? ⟨b, off + i * 4 + 1, none⟩ = some (.int .i64 ps[i].xd)
  c2 : ∀ i (h : i < ps.length), w.cell? ⟨b, off + i * 4 + 2, none⟩ = some (.int .i64 ps[i].yn)
  c3 : ∀ i (h : i < ps.length), w.cell? ⟨b, off + i * 4 + 3, none⟩ = some (.int .i64 ps[i].yd)

theorem PtsIn.keep {w w1 : World} {b off : Nat} {ps : List Pt} {B : Nat} (h : PtsIn w b off ps) (hb : Below B w w1) (hB : b < B) : PtsIn w1 b off ps :=
  ⟨fun i hi => by rw [hb.cell hB]; exact h.c0 i hi, fun i hi => by rw [hb.cell hB]; exact h.c1 i hi, fun i hi => by rw [hb.cell hB]; exact h.c2 i hi, fun i hi => by rw [hb.cell hB]; exact h.c3 i hi⟩
theorem PtsIn.lt {w : World} {b off : Nat} {ps : List Pt} (h : PtsIn w b off ps) (h0 : 0 < ps.length) : b < w.heap.size := by
  have := World.block_lt_of_cell? w _ (h.c0 0 h0); exact this

/-- A slice of points: nil, or points that lie from a place on. -/
def SlP (w : World) (oa : Option Addr) (len cap : Nat) (ps : List Pt) : Prop :=
  len = ps.length ∧ len ≤ cap ∧ len ≤ maxLen ∧ (∀ p ∈ ps, p.I) ∧ ((oa = none ∧ len = 0 ∧ cap = 0) ∨ ∃ b off, oa = some ⟨b, off, none⟩ ∧ b < w.heap.size ∧ PtsIn w b off ps)
theorem SlP.keep {w w1 : World} {oa : Option Addr} {len cap : Nat} {ps : List Pt} {B : Nat} (h : SlP w oa len cap ps) (hb : Below B w w1) (hB : B = w.heap.size) : SlP w1 oa len cap ps := by
  obtain ⟨h1, h2, h3, h4, h5⟩ := h
  refine ⟨h1, h2, h3, h4, ?_⟩
  rcases h5 with h5 | ⟨b, off, h6, h7, h8⟩
  · exact .inl h5
  · exact .inr ⟨b, off, h6, Nat.lt_of_lt_of_le h7 hb.size, h8.keep hb (by omega)⟩

/-- An error: a bare one of package api, or one with a place (in new memory). -/
def ErrAt (T F : Nat) (ea : Nat → Addr) (lo : Nat) (w : World) (v : Value) (c : Nat × Option Nat) : Prop :=
  match c.2 with
  | none => v = evl T ea c.1
  | some i => c.1 ≠ 0 ∧ ∃ b, lo ≤ b ∧ v = .iface F (.pointer (some ⟨b, 0, none⟩)) ∧ w.cell? ⟨b, 0, none⟩ = some (.int .i64 i) ∧ w.cell? ⟨b, 1, none⟩ = some (.iface T (.pointer (some (ea c.1))))
theorem ErrAt.keep {T F : Nat} {ea : Nat → Addr} {lo lo' B : Nat} {w w' : World} {v : Value} {c : Nat × Option Nat} (h : ErrAt T F ea lo w v c) (hb : Below B w w') (hB : B = w.heap.size) (hl : lo' ≤ lo) : ErrAt T F ea lo' w' v c := by
  obtain ⟨c1, c2⟩ := c
  cases c2 with
  | none => exact h
  | some i =>
    obtain ⟨h0, b, h1, h2, h3, h4⟩ := h
    exact ⟨h0, b, by omega, h2, gkeep hb h3 hB, gkeep hb h4 hB⟩
theorem ErrAt.nil {T F : Nat} {ea : Nat → Addr} {lo : Nat} {w : World} {v : Value} {c : Nat × Option Nat} (h : ErrAt T F ea lo w v c) (h0 : c = (0, none)) : v = .nilIface := by
  subst h0; exact h.trans (evl_0 rfl)

/-- A call that answers one error. -/
def RetE (T F : Nat) (ea : Nat → Addr) (c : Nat × Option Nat) (w : World) (e : Ending) (w' : World) : Prop :=
  ∃ v, e = .returned v ∧ ErrAt T F ea w.heap.size w' v c ∧ Below w.heap.size w w'

/-- A call that answers one error: behind it, what is known. -/
theorem call_e {P : Program} {f : FuncId} {args : Array Value} {w W : World} {R : Ending → World → Prop} {T F : Nat} {ea : Nat → Addr} {c : Nat × Option Nat} (hB : Below w.heap.size w W)
    (h : Below w.heap.size w W → Calls P f args W (RetE T F ea c W))
    (k : ∀ v w1, ErrAt T F ea W.heap.size w1 v c → Below w.heap.size w w1 → W.heap.size ≤ w1.heap.size → (∀ b o, b < W.heap.size → w1.cell? ⟨b, o, none⟩ = W.cell? ⟨b, o, none⟩) →
      (∀ b o, b < W.heap.size → w1.frozen? ⟨b, o, none⟩ = W.frozen? ⟨b, o, none⟩) → R (.returned v) w1) : Calls P f args W R :=
  (h hB).mono fun e w1 ⟨v, he, hv, hb⟩ => by
    subst he
    exact k v w1 hv (hB.trans (hb.mono hB.size)) hb.size (bcell hb).1 (bcell hb).2
end Lead

/-
  Plain: which edges are crossed.
-/
namespace Lead
open Go Go.RowKit

/-- An own row is what it was, behind a call that makes memory alone. -/
theorem own_below {w w' : World} {base : Nat} {e : TypeId} {size : Nat} {v : Value} {n : Nat} {xs : List Value} (h : w.ownsRow base e size v n xs) (hb : Below w.heap.size w w') : w'.ownsRow base e size v n xs := by
  obtain ⟨h1, h2⟩ := h
  refine ⟨h1, ?_⟩
  rcases h2 with h2 | ⟨g, cap, cur, h3, h4, h5, h6⟩
  · exact .inl h2
  · refine .inr ⟨g, cap, cur, h3, h4, ?_, h6⟩
    have hg : g < w.heap.size := by
      rcases Nat.lt_or_ge g w.heap.size with h | h
      · exact h
      · rw [Array.getElem?_eq_none h] at h5; exact absurd h5 (by simp)
    rw [hb.block g hg]; exact h5
theorem own_base {w : World} {base base' : Nat} {e : TypeId} {size : Nat} {v : Value} {n : Nat} {xs : List Value} (h : w.ownsRow base e size v n xs) (hb : base' ≤ base) : w.ownsRow base' e size v n xs := by
  obtain ⟨h1, h2⟩ := h
  refine ⟨h1, ?_⟩
  rcases h2 with h2 | ⟨g, cap, cur, h3, h4, h5⟩
  · exact .inl h2
  · exact .inr ⟨g, cap, cur, h3, by omega, h5⟩
/-- A point that is right, as package shape asks. -/
structure PtOk (p : Pt) : Prop where
  x : Right p.xn p.xd
  y : Right p.yn p.yd
  xs : p.xd ≤ 20 ∧ p.xn ≤ 1000 * p.xd ∧ -1000 * p.xd ≤ p.xn
  ys : p.yd ≤ 20 ∧ p.yn ≤ 1000 * p.yd ∧ -1000 * p.yd ≤ p.yn
theorem PtOk.c0 {p : Pt} (h : PtOk p) : p.c = 0 := by
  have h1 := chk_right h.x
  have h2 := chk_right h.y
  have h3 : shSml p.xn p.xd = true := by unfold shSml; simpa using h.xs
  have h4 : shSml p.yn p.yd = true := by unfold shSml; simpa using h.ys
  unfold Pt.c ptC
  rw [if_neg (by omega), if_neg (by omega), if_pos ⟨h3, h4⟩]
theorem PtOk.I {p : Pt} (h : PtOk p) : p.I := ⟨h.x.ni, h.x.di, h.y.ni, h.y.di⟩
theorem PtOk.b {p : Pt} (h : PtOk p) : (-20000 ≤ p.xn ∧ p.xn ≤ 20000) ∧ (-20 ≤ p.xd ∧ p.xd ≤ 20) ∧ (-20000 ≤ p.yn ∧ p.yn ≤ 20000) ∧ (-20 ≤ p.yd ∧ p.yd ≤ 20) := by
  have h1 := h.xs; have h2 := h.ys; have h3 := h.x.d0; have h4 := h.y.d0
  omega

/-- A call that answers a number and an error. -/
def RetNE (T F : Nat) (ea : Nat → Addr) (c : Nat × Option Nat) (n : Int) (w : World) (en : Ending) (w' : World) : Prop :=
  ∃ x, en = .returned (.tuple #[.int .i64 n, x]) ∧ ErrAt T F ea w.heap.size w' x c ∧ Below w.heap.size w w'

/-- An error that is none. -/
theorem ErrAt.some {T F : Nat} {ea : Nat → Addr} {lo : Nat} {w : World} {v : Value} {c : Nat × Option Nat} (h : ErrAt T F ea lo w v c) (h0 : c.1 ≠ 0) : ∃ t a, v = .iface t (.pointer (some a)) := by
  obtain ⟨c1, c2⟩ := c
  cases c2 with
  | none => exact ⟨_, _, h.trans (evl_n h0)⟩
  | some i => obtain ⟨_, b, _, h2, _⟩ := h; exact ⟨_, _, h2⟩
end Lead

/-
  Plain: how often a shape goes around a point.
-/
namespace Lead
open Go Go.RowKit

end Lead

/-
  Plain: points as a row of cells; rows of points that a call owns.
-/
namespace Lead
open Go Go.RowKit

def Pt.vals (p : Pt) : List Value := [.int .i64 p.xn, .int .i64 p.xd, .int .i64 p.yn, .int .i64 p.yd]
def flat (ps : List Pt) : List Value := ps.flatMap Pt.vals
theorem flat_cons (p : Pt) (ps : List Pt) : flat (p :: ps) = p.vals ++ flat ps := by simp [flat]
theorem flat_append (a b : List Pt) : flat (a ++ b) = flat a ++ flat b := by simp [flat]
theorem flat_len (ps : List Pt) : (flat ps).length = ps.length * 4 := by
  induction ps with
  | nil => rfl
  | cons p ps ih => rw [flat_cons, List.length_append, ih]; simp [Pt.vals]; omega
theorem flat_at (ps : List Pt) : ∀ (i j : Nat) (h : i < ps.length), j < 4 → (flat ps)[i * 4 + j]? = ps[i].vals[j]? := by
  induction ps with
  | nil => intro i j h; exact absurd h (by simp)
  | cons p ps ih =>
    intro i j h hj
    rw [flat_cons]
    cases i with
    | zero => rw [List.getElem?_append_left (by simp [Pt.vals]; omega)]; simp
    | succ i =>
      rw [List.getElem?_append_right (by simp [Pt.vals]; omega)]
      have : (i + 1) * 4 + j - p.vals.length = i * 4 + j := by simp [Pt.vals]; omega
      rw [this, ih i j (by simpa using h) hj]
      simp
theorem flat_one (ps : List Pt) : ∀ u ∈ flat ps, u.oneCell' = true := by
  intro u hu
  obtain ⟨p, _, hp⟩ := List.mem_flatMap.1 hu
  simp [Pt.vals] at hp
  rcases hp with rfl | rfl | rfl | rfl <;> rfl

theorem add_cell (b off j : Nat) : (⟨b, off, none⟩ : Addr).add j = ⟨b, off + j, none⟩ := by
  unfold Addr.add; split
  · rename_i h; subst h; rfl
  · rfl

theorem PtsIn.cells {w : World} {b off : Nat} {ps : List Pt} (h : PtsIn w b off ps) : ∀ j u, (flat ps)[j]? = some u → w.cell? ((⟨b, off, none⟩ : Addr).add j) = some u := by
  intro j u hu
  rw [add_cell]
  have hj : j < ps.length * 4 := by
    rw [← flat_len]; exact (List.getElem?_eq_some_iff.1 hu).1
  have hi : j / 4 < ps.length := by omega
  have he : j = (j / 4) * 4 + j % 4 := by omega
  rw [he, flat_at ps _ _ hi (by omega)] at hu
  rw [he]
  have h4 : j % 4 = 0 ∨ j % 4 = 1 ∨ j % 4 = 2 ∨ j % 4 = 3 := by omega
  rcases h4 with h4 | h4 | h4 | h4 <;> rw [h4] at hu ⊢ <;> simp [Pt.vals] at hu <;> subst hu
  · exact h.c0 _ hi
  · rw [← Nat.add_assoc]; exact h.c1 _ hi
  · rw [← Nat.add_assoc]; exact h.c2 _ hi
  · rw [← Nat.add_assoc]; exact h.c3 _ hi
theorem ptsIn_of_cells {w : World} {b off : Nat} {ps : List Pt} (h : ∀ j u, (flat ps)[j]? = some u → w.cell? ⟨b, off + j, none⟩ = some u) : PtsIn w b off ps := by
  refine ⟨fun i hi => ?_, fun i hi => ?_, fun i hi => ?_, fun i hi => ?_⟩
  · exact h (i * 4) _ (by rw [← Nat.add_zero (i * 4), flat_at ps i 0 hi (by omega)]; rfl)
  · rw [Nat.add_assoc]; exact h _ _ (by rw [flat_at ps i 1 hi (by omega)]; rfl)
  · rw [Nat.add_assoc]; exact h _ _ (by rw [flat_at ps i 2 hi (by omega)]; rfl)
  · rw [Nat.add_assoc]; exact h _ _ (by rw [flat_at ps i 3 hi (by omega)]; rfl)
theorem PtsIn.drop {w : World} {b off : Nat} {ps : List Pt} (h : PtsIn w b off ps) (k : Nat) : PtsIn w b (off + k * 4) (ps.drop k) := by
  have e : ∀ i, off + k * 4 + i * 4 = off + (k + i) * 4 := fun i => by omega
  refine ⟨fun i hi => ?_, fun i hi => ?_, fun i hi => ?_, fun i hi => ?_⟩ <;> rw [e] <;> rw [List.length_drop] at hi <;> rw [List.getElem_drop]
  · exact h.c0 _ (by omega)
  · exact h.c1 _ (by omega)
  · exact h.c2 _ (by omega)
  · exact h.c3 _ (by omega)
theorem PtsIn.take {w : World} {b off : Nat} {ps : List Pt} (h : PtsIn w b off ps) (k : Nat) : PtsIn w b off (ps.take k) := by
  refine ⟨fun i hi => ?_, fun i hi => ?_, fun i hi => ?_, fun i hi => ?_⟩ <;> rw [List.length_take] at hi <;> rw [List.getElem_take]
  · exact h.c0 _ (by omega)
  · exact h.c1 _ (by omega)
  · exact h.c2 _ (by omega)
  · exact h.c3 _ (by omega)

/-- A row of points that the call owns. -/
def OwnP (w : World) (base : Nat) (e : TypeId) (v : Value) (ps : List Pt) : Prop := w.ownsRow base e 4 v ps.length (flat ps)
theorem OwnP.nil (w : World) (base : Nat) (e : TypeId) : OwnP w base e (.slice none 0 0) [] := World.ownsRow_nil _ _ _ _
theorem OwnP.keep {w w' : World} {base : Nat} {e : TypeId} {v : Value} {ps : List Pt} (h : OwnP w base e v ps) (hb : Below w.heap.size w w') : OwnP w' base e v ps := own_below h hb
theorem OwnP.alloc {w : World} {base : Nat} {e : TypeId} {v : Value} {ps : List Pt} (h : OwnP w base e v ps) (o : Obj) : OwnP (w.alloc o) base e v ps := World.ownsRow.alloc h o
theorem OwnP.base {w : World} {base base' : Nat} {e : TypeId} {v : Value} {ps : List Pt} (h : OwnP w base e v ps) (hb : base' ≤ base) : OwnP w base' e v ps := own_base h hb
/-- .. its value: nil, or a slice from the head of a block on; and the points that lie there. -/
theorem OwnP.form {w : World} {base : Nat} {e : TypeId} {v : Value} {ps : List Pt} (h : OwnP w base e v ps) :
    (v = .slice none 0 0 ∧ ps = []) ∨ ∃ g cap, v = .slice (some ⟨g, 0, none⟩) ps.length cap ∧ base ≤ g ∧ g < w.heap.size ∧ ps.length ≤ cap ∧ ps.length ≤ maxLen ∧ PtsIn w g 0 ps := by
  obtain ⟨h1, h2⟩ := h
  rcases h2 with ⟨h2, h3⟩ | ⟨g, cap, cur, h3, h4, h5, h6, h7, h8, h9⟩
  · exact .inl ⟨h2, List.length_eq_zero_iff.1 h3⟩
  · have hown : w.ownsRow base e 4 (.slice (some ⟨g, 0, none⟩) ps.length cap) ps.length (flat ps) := ⟨h1, .inr ⟨g, cap, cur, rfl, h4, h5, h6, h7, h8, h9⟩⟩
    have hg : g < w.heap.size := by
      rcases Nat.lt_or_ge g w.heap.size with h | h
      · exact h
      · rw [Array.getElem?_eq_none h] at h5; exact absurd h5 (by simp)
    refine .inr ⟨g, cap, h3, h4, hg, h6, by omega, ptsIn_of_cells fun j u hu => ?_⟩
    have hj : j < ps.length * 4 := by rw [← flat_len]; exact (List.getElem?_eq_some_iff.1 hu).1
    rw [Nat.zero_add, hown.cellAt j hj]; exact hu
theorem OwnP.lt {w : World} {base : Nat} {e : TypeId} {v : Value} {ps : List Pt} (h : OwnP w base e v ps) : ∀ k, v.ownBlock = some k → base ≤ k ∧ k < w.heap.size := World.ownsRow.lt h

theorem below_via {w2 W w3 : World} (h : Below w2.heap.size w2 W) (hW : Below W.heap.size W w3) : Below w2.heap.size w2 w3 := h.trans (hW.mono h.size)
theorem call_bel {P : Program} {f : FuncId} {args : Array Value} {w W : World} {v : Value} {R : Ending → World → Prop} (hB : Below w.heap.size w W)
    (h : Below w.heap.size w W → Calls P f args W fun e w' => e = .returned v ∧ Below W.heap.size W w')
    (k : ∀ w1, Below w.heap.size w w1 → W.heap.size ≤ w1.heap.size → (∀ b o, b < W.heap.size → w1.cell? ⟨b, o, none⟩ = W.cell? ⟨b, o, none⟩) →
      (∀ b o, b < W.heap.size → w1.frozen? ⟨b, o, none⟩ = W.frozen? ⟨b, o, none⟩) → Below W.heap.size W w1 → R (.returned v) w1) : Calls P f args W R :=
  (h hB).mono fun e w1 ⟨he, hb⟩ => by
    subst he
    exact k w1 (hB.trans (hb.mono hB.size)) hb.size (bcell hb).1 (bcell hb).2 hb

end Lead

/-
  Plain: boxes: their points, their errors; calls that answer own points and an error.
-/
namespace Lead
open Go Go.RowKit

structure Fr.I (a : Fr) : Prop where
  n : I64 a.n
  d : I64 a.d

/-- A call that answers one error: as call_e, and the call's own frame. -/
theorem call_ew {P : Program} {f : FuncId} {args : Array Value} {w W : World} {R : Ending → World → Prop} {T F : Nat} {ea : Nat → Addr} {c : Nat × Option Nat} (hB : Below w.heap.size w W)
    (h : Below w.heap.size w W → Calls P f args W (RetE T F ea c W))
    (k : ∀ v w1, ErrAt T F ea W.heap.size w1 v c → Below w.heap.size w w1 → W.heap.size ≤ w1.heap.size → (∀ b o, b < W.heap.size → w1.cell? ⟨b, o, none⟩ = W.cell? ⟨b, o, none⟩) →
      (∀ b o, b < W.heap.size → w1.frozen? ⟨b, o, none⟩ = W.frozen? ⟨b, o, none⟩) → Below W.heap.size W w1 → R (.returned v) w1) : Calls P f args W R :=
  (h hB).mono fun e w1 ⟨v, he, hv, hb⟩ => by
    subst he
    exact k v w1 hv (hB.trans (hb.mono hB.size)) hb.size (bcell hb).1 (bcell hb).2 hb
theorem own_set {w : World} {base : Nat} {e : TypeId} {size : Nat} {v : Value} {n : Nat} {xs : List Value} (h : w.ownsRow base e size v n xs) (a : Addr) (x : Value) (ha : a.block < base) : (w.setCell a x).ownsRow base e size v n xs := by
  obtain ⟨h1, h2⟩ := h
  refine ⟨h1, ?_⟩
  rcases h2 with h2 | ⟨g, cap, cur, h3, h4, h5, h6⟩
  · exact .inl h2
  · refine .inr ⟨g, cap, cur, h3, h4, ?_, h6⟩
    rw [Below.heap_setCell _ _ _ _ (by omega)]; exact h5
theorem ErrAt.set {T F : Nat} {ea : Nat → Addr} {lo lo' : Nat} {w : World} {v : Value} {c : Nat × Option Nat} (h : ErrAt T F ea lo w v c) (a : Addr) (x : Value) (ha : a.block < lo) (hl : lo' ≤ lo) : ErrAt T F ea lo' (w.setCell a x) v c := by
  obtain ⟨c1, c2⟩ := c
  cases c2 with
  | none => exact h
  | some i =>
    obtain ⟨h0, b, h1, h2, h3, h4⟩ := h
    have hne : a.block ≠ b := by omega
    exact ⟨h0, b, by omega, h2, by rw [World.cell?_setCell_other (h := fun e => hne (by rw [e]))]; exact h3, by rw [World.cell?_setCell_other (h := fun e => hne (by rw [e]))]; exact h4⟩
end Lead

/-
  Plain: JORDAN: winding numbers of lists of points: begun elsewhere, turned around, there and back.
-/
namespace Lead
open Go Go.RowKit

end Lead

/-
  Plain: the reference's crossings are package shape's.
-/
namespace Lead
open Go Go.RowKit

def atI (o : Option Nat) : Int := match o with
  | none => -1
  | some i => i

end Lead
