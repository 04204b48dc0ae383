/-
  Several texts as one: Mv1, Mv3, Rat, Mvp.
-/
import Derived.Test.YtlhadgnpkooiaaaGreatDoorPa
import Derived.Test.YtlhadgnpkooiaaaGreatDoorFa
import Derived.OneCell
/-
  Plain: moves of the plane; a world in which one cell was written besides new blocks; sums that remember an error.
-/
namespace Lead
open Go Go.RowKit

/-- The world W is w with new blocks, and with v in the one cell of block s. -/
structure But (s : Nat) (t : TypeId) (v : Value) (w W : World) : Prop where
  os : W.os = w.os
  tape : W.tape = w.tape
  output : W.output = w.output
  size : w.heap.size ≤ W.heap.size
  block : ∀ k, k < w.heap.size → k ≠ s → W.heap[k]? = w.heap[k]?
  lt : s < w.heap.size
  at' : W.heap[s]? = some (.cells #[v] t (0, 0))
theorem But.refl {s : Nat} {t : TypeId} {v : Value} {w : World} (h : w.heap[s]? = some (.cells #[v] t (0, 0))) : But s t v w w :=
  ⟨rfl, rfl, rfl, Nat.le_refl _, fun _ _ _ => rfl, lt_of_block h, h⟩
theorem But.below {s : Nat} {t : TypeId} {v : Value} {w W W' : World} (h : But s t v w W) (hb : Below W.heap.size W W') : But s t v w W' :=
  ⟨hb.os.trans h.os, hb.tape.trans h.tape, hb.output.trans h.output, Nat.le_trans h.size hb.size, fun k hk hs => (hb.block k (Nat.lt_of_lt_of_le hk h.size)).trans (h.block k hk hs), h.lt, (hb.block s (Nat.lt_of_lt_of_le h.lt h.size)).trans h.at'⟩
theorem But.alloc {s : Nat} {t : TypeId} {v : Value} {w W : World} (h : But s t v w W) (o : Obj) : But s t v w (W.alloc o) := h.below ((Below.refl _ _).alloc (Nat.le_refl _) o)
theorem But.drew {s : Nat} {t : TypeId} {v : Value} {w W : World} (h : But s t v w W) : But s t v w W.drew := h.below (Below.refl _ _).drew
theorem But.drewN {s : Nat} {t : TypeId} {v : Value} {w W : World} {n : Nat} (h : But s t v w W) : But s t v w (W.drewN n) := h.below (bdn (Below.refl _ _))
theorem But.setCell {s : Nat} {t : TypeId} {v : Value} {w W : World} (h : But s t v w W) {a : Addr} (ha : w.heap.size ≤ a.block) (u : Value) : But s t v w (W.setCell a u) := by
  have hne : s ≠ a.block := by have := h.lt; omega
  exact ⟨h.os, h.tape, h.output, by simpa [World.setCell] using h.size, fun k hk hs => (Below.heap_setCell _ _ _ _ (by omega)).trans (h.block k hk hs), h.lt, (Below.heap_setCell _ _ _ _ hne).trans h.at'⟩
theorem But.put {s : Nat} {t : TypeId} {v : Value} {w W : World} (h : But s t v w W) (u : Value) : But s t u w (W.setCell ⟨s, 0, none⟩ u) :=
  ⟨h.os, h.tape, h.output, by simpa [World.setCell] using h.size, fun k hk hs => (Below.heap_setCell _ _ _ _ hs).trans (h.block k hk hs), h.lt, one_setCell h.at'⟩
theorem But.trans {s : Nat} {t : TypeId} {v v' : Value} {w W W' : World} (h : But s t v w W) (k : But s t v' W W') : But s t v' w W' :=
  ⟨k.os.trans h.os, k.tape.trans h.tape, k.output.trans h.output, Nat.le_trans h.size k.size, fun i hi hs => (k.block i (Nat.lt_of_lt_of_le hi h.size) hs).trans (h.block i hi hs), h.lt, k.at'⟩
theorem But.toBelow {s : Nat} {t : TypeId} {v : Value} {w W : World} {B : Nat} (h : But s t v w W) (hs : B ≤ s) (hB : B ≤ w.heap.size) : Below B w W :=
  ⟨h.os, h.tape, h.output, h.size, fun k hk => h.block k (by omega) (by omega)⟩
theorem But.cell {s : Nat} {t : TypeId} {v : Value} {w W : World} (h : But s t v w W) (b o : Nat) (hb : b < w.heap.size) (hs : b ≠ s) : W.cell? ⟨b, o, none⟩ = w.cell? ⟨b, o, none⟩ := World.cell?_of_block (w := w) (h.block b hb hs)
theorem But.frozen {s : Nat} {t : TypeId} {v : Value} {w W : World} (h : But s t v w W) (b o : Nat) (hb : b < w.heap.size) (hs : b ≠ s) : W.frozen? ⟨b, o, none⟩ = w.frozen? ⟨b, o, none⟩ := World.frozen?_of_block (w := w) (h.block b hb hs)
theorem But.here {s : Nat} {t : TypeId} {v : Value} {w W : World} (h : But s t v w W) : W.cell? ⟨s, 0, none⟩ = some v := cell_of_one h.at'
theorem But.free {s : Nat} {t : TypeId} {v : Value} {w W : World} (h : But s t v w W) : W.frozen? ⟨s, 0, none⟩ = false := free_of_one h.at'
theorem But.glob {s : Nat} {t : TypeId} {v : Value} {w W : World} {g : Nat} {u : Value} (h : But s t v w W) (hg : w.cell? ⟨g, 0, none⟩ = some u) (hs : g ≠ s) : W.cell? ⟨g, 0, none⟩ = some u := by
  rw [h.cell g 0 (zlt hg) hs]; exact hg

/-- A call of a function that gives back a value and writes the one cell of block s: the caller's own frame being But. -/
theorem call_s2 {P : Program} {f : FuncId} {args : Array Value} {w W : World} {R : Ending → World → Prop} {s : Nat} {t : TypeId} {e0 e1 v : Value} (hB : But s t e0 w W)
    (h : But s t e0 w W → Calls P f args W fun e w' => e = .returned v ∧ But s t e1 W w')
    (k : ∀ w1, But s t e1 w w1 → W.heap.size ≤ w1.heap.size → (∀ b o, b < W.heap.size → b ≠ s → w1.cell? ⟨b, o, none⟩ = W.cell? ⟨b, o, none⟩) →
      (∀ b o, b < W.heap.size → b ≠ s → w1.frozen? ⟨b, o, none⟩ = W.frozen? ⟨b, o, none⟩) → But s t e1 W w1 → R (.returned v) w1) : Calls P f args W R :=
  (h hB).mono fun e w1 ⟨he, hb⟩ => by
    subst he
    exact k w1 (hB.trans hb) hb.size hb.cell hb.frozen hb
/-- A call that makes memory alone, the caller's own frame being But. -/
theorem call_b2 {P : Program} {f : FuncId} {args : Array Value} {w W : World} {R : Ending → World → Prop} {s : Nat} {t : TypeId} {e0 v : Value} (hB : But s t e0 w W)
    (h : But s t e0 w W → Calls P f args W fun e w' => e = .returned v ∧ Below W.heap.size W w')
    (k : ∀ w1, But s t e0 w w1 → W.heap.size ≤ w1.heap.size → (∀ b o, b < W.heap.size → w1.cell? ⟨b, o, none⟩ = W.cell? ⟨b, o, none⟩) →
      (∀ b o, b < W.heap.size → w1.frozen? ⟨b, o, none⟩ = W.frozen? ⟨b, o, none⟩) → Below W.heap.size W w1 → R (.returned v) w1) : Calls P f args W R :=
  (h hB).mono fun e w1 ⟨he, hb⟩ => by
    subst he
    exact k w1 (hB.below hb) hb.size (bcell hb).1 (bcell hb).2 hb

/-- A sum of products that remembers an error: the error behind an act, and its value. -/
def dE (e K : Nat) : Nat := if e = 0 then K else e
def dV (e K : Nat) (x : Fr) : Fr := if e = 0 ∧ K = 0 then x else ⟨0, 0⟩
theorem dE_0 {e K : Nat} (h : e = 0) : dE e K = K := if_pos h
theorem dE_n {e K : Nat} (h : e ≠ 0) : dE e K = e := if_neg h
theorem dV_n {e K : Nat} {x : Fr} (h : e ≠ 0) : dV e K x = ⟨0, 0⟩ := if_neg (fun k => h k.1)
theorem dV_0 {e K : Nat} {x : Fr} (h : e = 0) : dV e K x = ⟨z0 K x.n, z0 K x.d⟩ := by
  unfold dV
  by_cases hK : K = 0
  · rw [if_pos ⟨h, hK⟩, z0_0 hK, z0_0 hK]
  · rw [if_neg (fun k => hK k.2), z0_n hK, z0_n hK]
theorem I00 : Fr.I ⟨0, 0⟩ := ⟨by unfold I64; decide, by unfold I64; decide⟩
theorem dV_I {e K : Nat} {x : Fr} (h : K = 0 → x.R) : (dV e K x).I := by
  unfold dV
  by_cases hK : e = 0 ∧ K = 0
  · rw [if_pos hK]; exact (h hK.2).i
  · rw [if_neg hK]; exact I00
theorem mulK_R {a b : Fr} (h : a.mulK b = 0) : (a.mul b).R := by
  obtain ⟨h1, h2, h3⟩ := opC_0 h
  exact mul_right h1.d0 h2.d0 h3
theorem addK_R {a b : Fr} (h : a.addK b = 0) : (a.add b).R := by
  obtain ⟨h1, h2, h3⟩ := opC_0 h
  exact add_right h1.d0 h2.d0 h3
/-- a times b, and c times d. -/
def ofE1 (e : Nat) (a b : Fr) : Nat := dE e (a.mulK b)
def ofX (e : Nat) (a b : Fr) : Fr := dV e (a.mulK b) (a.mul b)
def ofE2 (e : Nat) (a b c d : Fr) : Nat := dE (ofE1 e a b) (c.mulK d)
def ofY (e : Nat) (a b c d : Fr) : Fr := dV (ofE1 e a b) (c.mulK d) (c.mul d)
def ofE (e : Nat) (a b c d : Fr) : Nat := dE (ofE2 e a b c d) ((ofX e a b).addK (ofY e a b c d))
def ofV (e : Nat) (a b c d : Fr) : Fr := dV (ofE2 e a b c d) ((ofX e a b).addK (ofY e a b c d)) ((ofX e a b).add (ofY e a b c d))
theorem ofX_I (e : Nat) (a b : Fr) : (ofX e a b).I := dV_I mulK_R
theorem ofY_I (e : Nat) (a b c d : Fr) : (ofY e a b c d).I := dV_I mulK_R
theorem ofV_I (e : Nat) (a b c d : Fr) : (ofV e a b c d).I := dV_I addK_R
/-- .. and f. -/
def dotE (e : Nat) (a b c d f : Fr) : Nat := dE (ofE e a b c d) ((ofV e a b c d).addK f)
def dotV (e : Nat) (a b c d f : Fr) : Fr := dV (ofE e a b c d) ((ofV e a b c d).addK f) ((ofV e a b c d).add f)
/-- A move of the plane. -/
structure Mv where
  A : Fr
  B : Fr
  C : Fr
  D : Fr
  E : Fr
  F : Fr
def Mv.l (m : Mv) : List Fr := [m.A, m.B, m.C, m.D, m.E, m.F]
structure Mv.I (m : Mv) : Prop where
  A : m.A.I
  B : m.B.I
  C : m.C.I
  D : m.D.I
  E : m.E.I
  F : m.F.I
theorem Mv.I.all {m : Mv} (h : m.I) : ∀ a ∈ m.l, a.I := by
  intro a ha
  simp only [Mv.l, List.mem_cons, List.not_mem_nil, or_false] at ha
  rcases ha with rfl | rfl | rfl | rfl | rfl | rfl
  · exact h.A
  · exact h.B
  · exact h.C
  · exact h.D
  · exact h.E
  · exact h.F
abbrev Pt.X (p : Pt) : Fr := ⟨p.xn, p.xd⟩
abbrev Pt.Y (p : Pt) : Fr := ⟨p.yn, p.yd⟩
def toE1 (e : Nat) (m : Mv) (p : Pt) : Nat := dotE e m.A p.X m.C p.Y m.E
def toX (e : Nat) (m : Mv) (p : Pt) : Fr := dotV e m.A p.X m.C p.Y m.E
def toE (e : Nat) (m : Mv) (p : Pt) : Nat := dotE (toE1 e m p) m.B p.X m.D p.Y m.F
def toY (e : Nat) (m : Mv) (p : Pt) : Fr := dotV (toE1 e m p) m.B p.X m.D p.Y m.F

/-- The first fraction that is not right: the error's number, and the place. -/
def firstF : List Fr → Nat → Nat × Option Nat
  | [], _ => (0, none)
  | a :: l, i => if a.c = 0 then firstF l (i + 1) else (a.c, some i)
theorem firstF_step {l : List Fr} {k j : Nat} (h : k < l.length) (h0 : l[k].c = 0) : firstF (l.drop k) j = firstF (l.drop (k + 1)) (j + 1) := by
  rw [List.drop_eq_getElem_cons h, firstF, if_pos h0]
theorem firstF_hit {l : List Fr} {k j : Nat} (h : k < l.length) (h0 : l[k].c ≠ 0) : firstF (l.drop k) j = (l[k].c, some j) := by
  rw [List.drop_eq_getElem_cons h, firstF, if_neg h0]
theorem firstF_end {l : List Fr} {k j : Nat} (h : l.length ≤ k) : firstF (l.drop k) j = (0, none) := by
  rw [List.drop_eq_nil_of_le h, firstF]
theorem firstF_all {l : List Fr} : ∀ {k : Nat}, firstF l k = (0, none) → ∀ a ∈ l, a.R := by
  induction l with
  | nil => intro k _ q hq; cases hq
  | cons p ps ih =>
    intro k h q hq
    unfold firstF at h
    by_cases h0 : p.c = 0
    · rw [if_pos h0] at h
      rcases List.mem_cons.1 hq with rfl | hq
      · exact chk_0 h0
      · exact ih h q hq
    · rw [if_neg h0] at h
      exact absurd (congrArg Prod.fst h) h0
theorem firstF_ok {l : List Fr} (h : ∀ a ∈ l, a.R) : ∀ k, firstF l k = (0, none) := by
  induction l with
  | nil => intro k; rfl
  | cons p ps ih =>
    intro k
    unfold firstF
    rw [if_pos (show p.c = 0 from chk_right (h p (by simp)))]
    exact ih (fun a ha => h a (by simp [ha])) _
theorem firstF_some {l : List Fr} : ∀ {k : Nat}, firstF l k = (0, none) ∨ (firstF l k).1 ≠ 0 := by
  induction l with
  | nil => intro k; exact .inl rfl
  | cons p ps ih =>
    intro k
    unfold firstF
    by_cases h0 : p.c = 0
    · rw [if_pos h0]; exact ih
    · rw [if_neg h0]; exact .inr h0
theorem firstF_le {l : List Fr} : ∀ {k : Nat}, (firstF l k).1 ≤ 11 := by
  induction l with
  | nil => intro k; exact Nat.zero_le _
  | cons p ps ih =>
    intro k
    unfold firstF
    by_cases h0 : p.c = 0
    · rw [if_pos h0]; exact ih
    · rw [if_neg h0]
      change chk p.n p.d ≤ 11
      rcases chk_cases p.n p.d with ⟨_, h⟩ | ⟨_, _, h⟩ | ⟨_, _, _, h⟩ | ⟨_, _, _, _, h⟩ | ⟨_, _, _, _, h⟩ <;> omega
/-- Check's error of a move. -/
def Mv.c (m : Mv) : Nat × Option Nat := firstF m.l 0
structure Mv.R (m : Mv) : Prop where
  A : m.A.R
  B : m.B.R
  C : m.C.R
  D : m.D.R
  E : m.E.R
  F : m.F.R
theorem Mv.c_0 {m : Mv} (h : m.c = (0, none)) : m.R := by
  have := firstF_all h
  exact ⟨this _ (by simp [Mv.l]), this _ (by simp [Mv.l]), this _ (by simp [Mv.l]), this _ (by simp [Mv.l]), this _ (by simp [Mv.l]), this _ (by simp [Mv.l])⟩
theorem Mv.R.c {m : Mv} (h : m.R) : m.c = (0, none) := by
  refine firstF_ok (fun a ha => ?_) 0
  simp only [Mv.l, List.mem_cons, List.not_mem_nil, or_false] at ha
  rcases ha with rfl | rfl | rfl | rfl | rfl | rfl
  · exact h.A
  · exact h.B
  · exact h.C
  · exact h.D
  · exact h.E
  · exact h.F
theorem Mv.R.I {m : Mv} (h : m.R) : m.I := ⟨h.A.i, h.B.i, h.C.i, h.D.i, h.E.i, h.F.i⟩

/-- Fractions that lie from a place on. -/
structure FrsIn (w : World) (b off : Nat) (fs : List Fr) : Prop where
  c0 : ∀ i (h : i < fs.length), w.cell? ⟨b, off + i * 2, none⟩ = some (.int .i64 fs[i].n)
  c1 : ∀ i (h : i < fs.length), w.cell? ⟨b, off + i * 2 + 1, none⟩ = some (.int .i64 fs[i].d)
theorem FrsIn.keep {w w1 : World} {b off : Nat} {fs : List Fr} {B : Nat} (h : FrsIn w b off fs) (hb : Below B w w1) (hB : b < B) : FrsIn w1 b off fs :=
  ⟨fun i hi => by rw [hb.cell hB]; exact h.c0 i hi, fun i hi => by rw [hb.cell hB]; exact h.c1 i hi⟩
def fflat (fs : List Fr) : List Value := fs.flatMap fun a => [.int .i64 a.n, .int .i64 a.d]
theorem fflat_at (fs : List Fr) : ∀ (i j : Nat) (h : i < fs.length), j < 2 → (fflat fs)[i * 2 + j]? = [Value.int .i64 fs[i].n, Value.int .i64 fs[i].d][j]? := by
  induction fs with
  | nil => intro i j h; exact absurd h (by simp)
  | cons p ps ih =>
    intro i j h hj
    have e : fflat (p :: ps) = [Value.int .i64 p.n, Value.int .i64 p.d] ++ fflat ps := by simp [fflat]
    rw [e]
    cases i with
    | zero => rw [List.getElem?_append_left (by simp; omega)]; simp
    | succ i =>
      rw [List.getElem?_append_right (by simp; omega)]
      have : (i + 1) * 2 + j - [Value.int .i64 p.n, Value.int .i64 p.d].length = i * 2 + j := by simp; omega
      rw [this, ih i j (by simpa using h) hj]
      simp
theorem frs_cells {w : World} {b : Nat} {fs : List Fr} {vs : Array Value} (hv : vs.toList = fflat fs) (h : ∀ j, w.cell? ⟨b, j, none⟩ = vs[j]?) : FrsIn w b 0 fs := by
  refine ⟨fun i hi => ?_, fun i hi => ?_⟩
  · rw [Nat.zero_add, h, ← Array.getElem?_toList, hv, show i * 2 = i * 2 + 0 from rfl, fflat_at fs i 0 hi (by omega)]; rfl
  · rw [Nat.zero_add, h, ← Array.getElem?_toList, hv, fflat_at fs i 1 hi (by omega)]; rfl
end Lead

/-
  Plain: a shape that is moved by whole steps.
-/
namespace Lead
open Go Go.RowKit

def Fr.w (n : Int) : Fr := ⟨n, 1⟩
def addI (a : Fr) (x : Int) : Fr := ⟨a.n + x * a.d, a.d⟩
theorem w_R {x : Int} (h : -1000 ≤ x ∧ x ≤ 1000) : (Fr.w x).R := ⟨by show _ ≤ x; omega, by show x ≤ _; omega, by show (1 : Int) ≤ 1; omega, by show (1 : Int) ≤ _; omega, by show Int.gcd x 1 = 1; exact Int.gcd_one⟩
/-- What is of a right fraction's value, reckoned: that one, without an error. -/
theorem mul_same {a b c : Fr} (ha : a.R) (hb : b.R) (hc : c.R) (h : mulN a b * c.d = c.n * addD a b) : a.mul b = c ∧ a.mulK b = 0 := by
  have hd := addD_pos (a := a) (b := b) ha.d0 hb.d0
  obtain ⟨h1, h2, h3⟩ := low_same (by omega) hc h
  exact ⟨by unfold Fr.mul; rw [h1, h2], opC_ok ha hb h3⟩
theorem add_same {a b c : Fr} (ha : a.R) (hb : b.R) (hc : c.R) (h : addN a b * c.d = c.n * addD a b) : a.add b = c ∧ a.addK b = 0 := by
  have hd := addD_pos (a := a) (b := b) ha.d0 hb.d0
  obtain ⟨h1, h2, h3⟩ := low_same (by omega) hc h
  exact ⟨by unfold Fr.add; rw [h1, h2], opC_ok ha hb h3⟩
theorem w1_mul {a : Fr} (ha : a.R) : (Fr.w 1).mul a = a ∧ (Fr.w 1).mulK a = 0 := mul_same (w_R (by omega)) ha ha (by unfold mulN addD Fr.w; simp only; grind)
theorem w0_mul {a : Fr} (ha : a.R) : (Fr.w 0).mul a = Fr.w 0 ∧ (Fr.w 0).mulK a = 0 := mul_same (w_R (by omega)) ha (w_R (by omega)) (by unfold mulN addD Fr.w; simp only; grind)
theorem add_w0 {a : Fr} (ha : a.R) : a.add (Fr.w 0) = a ∧ a.addK (Fr.w 0) = 0 := add_same ha (w_R (by omega)) ha (by unfold addN addD Fr.w; simp only; grind)
theorem w0_add {a : Fr} (ha : a.R) : (Fr.w 0).add a = a ∧ (Fr.w 0).addK a = 0 := add_same (w_R (by omega)) ha ha (by unfold addN addD Fr.w; simp only; grind)
theorem addI_R {a : Fr} {x : Int} (ha : a.R) (h1 : -1073741824 ≤ a.n + x * a.d) (h2 : a.n + x * a.d ≤ 1073741824) : (addI a x).R := by
  refine ⟨h1, h2, ha.d0, ha.d1, ?_⟩
  show Int.gcd (a.n + x * a.d) a.d = 1
  rw [Int.gcd_add_mul_right_left]
  exact ha.gcd
theorem add_w {a : Fr} {x : Int} (ha : a.R) (hx : (Fr.w x).R) (hR : (addI a x).R) : a.add (Fr.w x) = addI a x ∧ a.addK (Fr.w x) = 0 := add_same ha hx hR (by unfold addN addD addI Fr.w; simp only; grind)

/-- .. in a row of acts. -/
theorem dE_z {K : Nat} (h : K = 0) : dE 0 K = 0 := by rw [dE_0 rfl, h]
theorem dV_z {K : Nat} {x : Fr} (h : K = 0) : dV 0 K x = x := if_pos ⟨rfl, h⟩
/-- a times b, and c times d, where all goes well. -/
theorem of_ok {a b c d x y z : Fr} (h1 : a.mul b = x ∧ a.mulK b = 0) (h2 : c.mul d = y ∧ c.mulK d = 0) (h3 : x.add y = z ∧ x.addK y = 0) : ofV 0 a b c d = z ∧ ofE 0 a b c d = 0 := by
  have e1 : ofE1 0 a b = 0 := dE_z h1.2
  have e2 : ofX 0 a b = x := by unfold ofX; rw [dV_z h1.2, h1.1]
  have e3 : ofE2 0 a b c d = 0 := by unfold ofE2; rw [e1, dE_z h2.2]
  have e4 : ofY 0 a b c d = y := by unfold ofY; rw [e1, dV_z h2.2, h2.1]
  unfold ofV ofE
  rw [e2, e3, e4]
  exact ⟨by rw [dV_z h3.2, h3.1], dE_z h3.2⟩
theorem dot_ok {a b c d f x y z t : Fr} (h1 : a.mul b = x ∧ a.mulK b = 0) (h2 : c.mul d = y ∧ c.mulK d = 0) (h3 : x.add y = z ∧ x.addK y = 0) (h4 : z.add f = t ∧ z.addK f = 0) : dotV 0 a b c d f = t ∧ dotE 0 a b c d f = 0 := by
  obtain ⟨e1, e2⟩ := of_ok h1 h2 h3
  unfold dotV dotE
  rw [e1, e2]
  exact ⟨by rw [dV_z h4.2, h4.1], dE_z h4.2⟩
/-- The move by whole steps. -/
def stepM (x y : Int) : Mv := ⟨Fr.w 1, Fr.w 0, Fr.w 0, Fr.w 1, Fr.w x, Fr.w y⟩
theorem stepM_R {x y : Int} (hx : -1000 ≤ x ∧ x ≤ 1000) (hy : -1000 ≤ y ∧ y ≤ 1000) : (stepM x y).R := ⟨w_R (by omega), w_R (by omega), w_R (by omega), w_R (by omega), w_R hx, w_R hy⟩
def shPt (x y : Int) (p : Pt) : Pt := ⟨p.xn + x * p.xd, p.xd, p.yn + y * p.yd, p.yd⟩
theorem sh_bound {n d x : Int} (hd : 1 ≤ d ∧ d ≤ 20) (hn : n ≤ 1000 * d ∧ -1000 * d ≤ n) (hx : -1000 ≤ x ∧ x ≤ 1000) : -40000 ≤ n + x * d ∧ n + x * d ≤ 40000 := by
  have := mb (a := x) (b := d) 1000 20 20000 (by omega) (by omega) rfl
  omega
theorem step_to {x y : Int} {p : Pt} (hp : PtOk p) (hx : -1000 ≤ x ∧ x ≤ 1000) (hy : -1000 ≤ y ∧ y ≤ 1000) :
    toX 0 (stepM x y) p = (shPt x y p).X ∧ toY 0 (stepM x y) p = (shPt x y p).Y ∧ toE 0 (stepM x y) p = 0 := by
  have hX : p.X.R := hp.x
  have hY : p.Y.R := hp.y
  have b1 := sh_bound ⟨hp.x.d0, hp.xs.1⟩ hp.xs.2 hx
  have b2 := sh_bound ⟨hp.y.d0, hp.ys.1⟩ hp.ys.2 hy
  have r1 : (addI p.X x).R := addI_R hX (by show _ ≤ p.xn + x * p.xd; omega) (by show p.xn + x * p.xd ≤ _; omega)
  have r2 : (addI p.Y y).R := addI_R hY (by show _ ≤ p.yn + y * p.yd; omega) (by show p.yn + y * p.yd ≤ _; omega)
  have h1 := dot_ok (w1_mul hX) (w0_mul hY) (add_w0 hX) (add_w hX (w_R hx) r1)
  have h2 := dot_ok (w0_mul hX) (w1_mul hY) (w0_add hY) (add_w hY (w_R hy) r2)
  have e1 : toE1 0 (stepM x y) p = 0 := h1.2
  refine ⟨h1.1, ?_, ?_⟩
  · unfold toY; rw [e1]; exact h2.1
  · unfold toE; rw [e1]; exact h2.2
/-- Where a point goes: the error, and the point. -/
def mvPt (m : Mv) (p : Pt) : Pt := ⟨(toX 0 m p).n, (toX 0 m p).d, (toY 0 m p).n, (toY 0 m p).d⟩
def atC (m : Mv) (p : Pt) : Nat × Option Nat := if m.c = (0, none) then (if firstF [p.X, p.Y] 6 = (0, none) then (if toE 0 m p = 0 then (0, none) else (2, none)) else firstF [p.X, p.Y] 6) else m.c
def atV (m : Mv) (p : Pt) : Pt := if atC m p = (0, none) then mvPt m p else ⟨0, 0, 0, 0⟩
theorem atV_0 {m : Mv} {p : Pt} (h : atC m p = (0, none)) : atV m p = mvPt m p := if_pos h
theorem atV_n {m : Mv} {p : Pt} (h : (atC m p).1 ≠ 0) : atV m p = ⟨0, 0, 0, 0⟩ := if_neg (fun e => h (by rw [e]))
theorem at_cases (m : Mv) (p : Pt) : (m.c.1 ≠ 0 ∧ atC m p = m.c) ∨ (m.c = (0, none) ∧ p.X.c ≠ 0 ∧ atC m p = (p.X.c, some 6)) ∨ (m.c = (0, none) ∧ p.X.c = 0 ∧ p.Y.c ≠ 0 ∧ atC m p = (p.Y.c, some 7)) ∨
    (m.c = (0, none) ∧ p.X.c = 0 ∧ p.Y.c = 0 ∧ toE 0 m p ≠ 0 ∧ atC m p = (2, none)) ∨ (m.c = (0, none) ∧ p.X.c = 0 ∧ p.Y.c = 0 ∧ toE 0 m p = 0 ∧ atC m p = (0, none)) := by
  unfold atC
  rcases firstF_some (l := m.l) (k := 0) with h | h
  · have h' : m.c = (0, none) := h
    right
    rw [if_pos h']
    by_cases h1 : p.X.c = 0
    · right
      by_cases h2 : p.Y.c = 0
      · right
        have h3 : firstF [p.X, p.Y] 6 = (0, none) := by simp [firstF, h1, h2]
        rw [if_pos h3]
        by_cases h4 : toE 0 m p = 0
        · right; exact ⟨h', h1, h2, h4, if_pos h4⟩
        · left; exact ⟨h', h1, h2, h4, if_neg h4⟩
      · left
        have h3 : firstF [p.X, p.Y] 6 = (p.Y.c, some 7) := by simp [firstF, h1, h2]
        rw [h3, if_neg (fun e => h2 (congrArg Prod.fst e))]
        exact ⟨h', h1, h2, rfl⟩
    · left
      have h3 : firstF [p.X, p.Y] 6 = (p.X.c, some 6) := by simp [firstF, h1]
      rw [h3, if_neg (fun e => h1 (congrArg Prod.fst e))]
      exact ⟨h', h1, rfl⟩
  · left
    have h' : m.c.1 ≠ 0 := h
    rw [if_neg (fun e => h' (by rw [e]))]
    exact ⟨h', rfl⟩
/-- A call that answers a point and an error. -/
def RetQE (T F : Nat) (ea : Nat → Addr) (c : Nat × Option Nat) (q : Pt) (w : World) (en : Ending) (w' : World) : Prop :=
  ∃ x, en = .returned (.tuple #[.agg #[.int .i64 q.xn, .int .i64 q.xd, .int .i64 q.yn, .int .i64 q.yd], x]) ∧ ErrAt T F ea w.heap.size w' x c ∧ Below w.heap.size w w'
theorem call_qe {P : Program} {f : FuncId} {args : Array Value} {w W : World} {R : Ending → World → Prop} {T F : Nat} {ea : Nat → Addr} {c : Nat × Option Nat} {q : Pt} (hB : Below w.heap.size w W)
    (h : Below w.heap.size w W → Calls P f args W (RetQE T F ea c q W))
    (k : ∀ x w1, ErrAt T F ea W.heap.size w1 x c → Below w.heap.size w w1 → W.heap.size ≤ w1.heap.size → (∀ b o, b < W.heap.size → w1.cell? ⟨b, o, none⟩ = W.cell? ⟨b, o, none⟩) →
      (∀ b o, b < W.heap.size → w1.frozen? ⟨b, o, none⟩ = W.frozen? ⟨b, o, none⟩) → Below W.heap.size W w1 → R (.returned (.tuple #[.agg #[.int .i64 q.xn, .int .i64 q.xd, .int .i64 q.yn, .int .i64 q.yd], x])) w1) : Calls P f args W R :=
  (h hB).mono fun en w1 ⟨x, he, hx, hb⟩ => by
    subst he
    exact k x w1 hx (hB.trans (hb.mono hB.size)) hb.size (bcell hb).1 (bcell hb).2 hb
/-- By whole steps. -/
theorem mv_step {x y : Int} {p : Pt} (hp : PtOk p) (hx : -1000 ≤ x ∧ x ≤ 1000) (hy : -1000 ≤ y ∧ y ≤ 1000) : mvPt (stepM x y) p = shPt x y p ∧ toE 0 (stepM x y) p = 0 := by
  obtain ⟨h1, h2, h3⟩ := step_to hp hx hy
  refine ⟨?_, h3⟩
  unfold mvPt
  rw [h1, h2]
end Lead

/-
  Plain: right fractions as rational numbers; moves of the plane by their six numbers.
-/
namespace Lead
open Go Go.RowKit

theorem opK_le (n d n' d' x y : Int) : opC n d n' d' x y ≤ 11 := by
  rcases opC_cases n d n' d' x y with ⟨_, h⟩ | ⟨_, h⟩
  · rw [h]
    have c1 : ∀ n d, chk n d ≤ 11 := fun n d => by
      rcases chk_cases n d with ⟨_, h⟩ | ⟨_, _, h⟩ | ⟨_, _, _, h⟩ | ⟨_, _, _, _, h⟩ | ⟨_, _, _, _, h⟩ <;> omega
    unfold bothC; split
    · exact c1 _ _
    · exact c1 _ _
  · rw [h]
    rcases lowC_cases x y with ⟨_, h⟩ | ⟨_, _, h⟩ | ⟨_, _, h⟩ <;> omega
/-- The number that a fraction is. -/
def Fr.v (a : Fr) : Rat := Rat.divInt a.n a.d
theorem low_v {n d : Int} (hd : d ≠ 0) : Fr.v ⟨lowN n d, lowD n d⟩ = Rat.divInt n d := by
  obtain ⟨e1, e2, e3⟩ := low_any (n := n) hd
  exact (Rat.divInt_eq_divInt_iff (by show lowD n d ≠ 0; omega) hd).2 e1
theorem mul_v {a b : Fr} (ha : a.R) (hb : b.R) : (a.mul b).v = a.v * b.v := by
  have a0 := ha.d0
  have b0 := hb.d0
  have hd := addD_pos (a := a) (b := b) a0 b0
  unfold Fr.mul
  rw [low_v (by omega)]
  unfold Fr.v mulN addD
  rw [Rat.divInt_mul_divInt]
theorem add_v {a b : Fr} (ha : a.R) (hb : b.R) : (a.add b).v = a.v + b.v := by
  have a0 := ha.d0
  have b0 := hb.d0
  have hd := addD_pos (a := a) (b := b) a0 b0
  unfold Fr.add
  rw [low_v (by omega)]
  unfold Fr.v addN addD
  rw [Rat.divInt_add_divInt _ _ (by omega) (by omega)]
def Fr.neg (a : Fr) : Fr := ⟨-a.n, a.d⟩
/-- An act that brings no error had none before it. -/
theorem dE_zero {e K : Nat} (h : dE e K = 0) : e = 0 ∧ K = 0 := by
  unfold dE at h
  by_cases he : e = 0
  · rw [if_pos he] at h; exact ⟨he, h⟩
  · rw [if_neg he] at h; exact absurd h he
theorem dV_zero {e K : Nat} {x : Fr} (he : e = 0) (hK : K = 0) : dV e K x = x := if_pos ⟨he, hK⟩
/-- a times b, and c times d: what it is where no error comes. -/
theorem of_val {e : Nat} {a b c d : Fr} (ra : a.R) (rb : b.R) (rc : c.R) (rd : d.R) (h : ofE e a b c d = 0) :
    e = 0 ∧ (ofV e a b c d).R ∧ (ofV e a b c d).v = a.v * b.v + c.v * d.v ∧ a.mulK b = 0 ∧ c.mulK d = 0 ∧ (a.mul b).addK (c.mul d) = 0 ∧ ofV e a b c d = (a.mul b).add (c.mul d) := by
  obtain ⟨h2, h3⟩ := dE_zero h
  obtain ⟨h1, k2⟩ := dE_zero h2
  obtain ⟨h0, k1⟩ := dE_zero h1
  have eX : ofX e a b = a.mul b := dV_zero h0 k1
  have eY : ofY e a b c d = c.mul d := dV_zero h1 k2
  have eV : ofV e a b c d = (ofX e a b).add (ofY e a b c d) := dV_zero h2 h3
  rw [eX, eY] at eV h3
  rw [eV]
  exact ⟨h0, addK_R h3, by rw [add_v (mulK_R k1) (mulK_R k2), mul_v ra rb, mul_v rc rd], k1, k2, h3, rfl⟩
theorem dot_val {e : Nat} {a b c d f : Fr} (ra : a.R) (rb : b.R) (rc : c.R) (rd : d.R) (rf : f.R) (h : dotE e a b c d f = 0) :
    e = 0 ∧ (dotV e a b c d f).R ∧ (dotV e a b c d f).v = a.v * b.v + c.v * d.v + f.v ∧ ofE e a b c d = 0 ∧ (ofV e a b c d).addK f = 0 ∧ dotV e a b c d f = (ofV e a b c d).add f := by
  obtain ⟨h1, k⟩ := dE_zero h
  obtain ⟨h0, r, v, _⟩ := of_val ra rb rc rd h1
  have eV : dotV e a b c d f = (ofV e a b c d).add f := dV_zero h1 k
  exact ⟨h0, by rw [eV]; exact addK_R k, by rw [eV, add_v r rf, v], h1, k, eV⟩
structure Pt.R (p : Pt) : Prop where
  x : p.X.R
  y : p.Y.R
theorem to_val {e : Nat} {m : Mv} {p : Pt} (hm : m.R) (hp : p.R) (h : toE e m p = 0) :
    e = 0 ∧ (toX e m p).R ∧ (toX e m p).v = m.A.v * p.X.v + m.C.v * p.Y.v + m.E.v ∧ (toY e m p).R ∧ (toY e m p).v = m.B.v * p.X.v + m.D.v * p.Y.v + m.F.v := by
  have h' : dotE (toE1 e m p) m.B p.X m.D p.Y m.F = 0 := h
  have F2 := dot_val (e := toE1 e m p) hm.B hp.x hm.D hp.y hm.F h'
  have h1 : dotE e m.A p.X m.C p.Y m.E = 0 := F2.1
  have F1 := dot_val (e := e) hm.A hp.x hm.C hp.y hm.E h1
  have a1 : (toX e m p).R := F1.2.1
  have a2 : (toX e m p).v = m.A.v * p.X.v + m.C.v * p.Y.v + m.E.v := F1.2.2.1
  have a3 : (toY e m p).R := F2.2.1
  have a4 : (toY e m p).v = m.B.v * p.X.v + m.D.v * p.Y.v + m.F.v := F2.2.2.1
  exact ⟨F1.1, a1, a2, a3, a4⟩
theorem fr_eta (a : Fr) : Fr.mk a.n a.d = a := rfl
def ptOf (x y : Fr) : Pt := ⟨x.n, x.d, y.n, y.d⟩
theorem ptOf_X (x y : Fr) : (ptOf x y).X = x := rfl
theorem ptOf_Y (x y : Fr) : (ptOf x y).Y = y := rfl
theorem mvPt_of (m : Mv) (p : Pt) : mvPt m p = ptOf (toX 0 m p) (toY 0 m p) := rfl
theorem mvPt_X (m : Mv) (p : Pt) : (mvPt m p).X = toX 0 m p := by rw [mvPt_of, ptOf_X]
theorem mvPt_Y (m : Mv) (p : Pt) : (mvPt m p).Y = toY 0 m p := by rw [mvPt_of, ptOf_Y]
/-! One move behind the other. -/
def thA (m n : Mv) : Nat := ofE 0 n.A m.A n.C m.B
def thB (m n : Mv) : Nat := ofE (thA m n) n.B m.A n.D m.B
def thC (m n : Mv) : Nat := ofE (thB m n) n.A m.C n.C m.D
def thD (m n : Mv) : Nat := ofE (thC m n) n.B m.C n.D m.D
def thP (m : Mv) : Pt := ⟨m.E.n, m.E.d, m.F.n, m.F.d⟩
def thE (m n : Mv) : Nat := toE (thD m n) n (thP m)
def thV (m n : Mv) : Mv := ⟨ofV 0 n.A m.A n.C m.B, ofV (thA m n) n.B m.A n.D m.B, ofV (thB m n) n.A m.C n.C m.D, ofV (thC m n) n.B m.C n.D m.D, toX (thD m n) n (thP m), toY (thD m n) n (thP m)⟩
def zMv : Mv := ⟨⟨0, 0⟩, ⟨0, 0⟩, ⟨0, 0⟩, ⟨0, 0⟩, ⟨0, 0⟩, ⟨0, 0⟩⟩
def thenC (m n : Mv) : Nat × Option Nat := if m.c = (0, none) then (if n.c = (0, none) then (if thE m n = 0 then (0, none) else (2, none)) else n.c) else m.c
def thenV (m n : Mv) : Mv := if thenC m n = (0, none) then thV m n else zMv
theorem thP_X (m : Mv) : (thP m).X = m.E := fr_eta _
theorem thP_Y (m : Mv) : (thP m).Y = m.F := fr_eta _
structure Mv.Is (m : Mv) (a b c d e f : Rat) : Prop where
  r : m.R
  a : m.A.v = a
  b : m.B.v = b
  c : m.C.v = c
  d : m.D.v = d
  e : m.E.v = e
  f : m.F.v = f
theorem is_mk {A B C D E F : Fr} {a b c d e f : Rat} (h1 : A.R) (h2 : B.R) (h3 : C.R) (h4 : D.R) (h5 : E.R) (h6 : F.R) (k1 : A.v = a) (k2 : B.v = b) (k3 : C.v = c) (k4 : D.v = d) (k5 : E.v = e) (k6 : F.v = f) : (Mv.mk A B C D E F).Is a b c d e f :=
  ⟨⟨h1, h2, h3, h4, h5, h6⟩, k1, k2, k3, k4, k5, k6⟩
theorem then_val {m n : Mv} (hm : m.R) (hn : n.R) (h : thE m n = 0) :
    (thV m n).Is (n.A.v * m.A.v + n.C.v * m.B.v) (n.B.v * m.A.v + n.D.v * m.B.v) (n.A.v * m.C.v + n.C.v * m.D.v) (n.B.v * m.C.v + n.D.v * m.D.v)
      (n.A.v * m.E.v + n.C.v * m.F.v + n.E.v) (n.B.v * m.E.v + n.D.v * m.F.v + n.F.v) := by
  have hp : (thP m).R := ⟨by rw [thP_X]; exact hm.E, by rw [thP_Y]; exact hm.F⟩
  have h' : toE (thD m n) n (thP m) = 0 := h
  have T := to_val (e := thD m n) hn hp h'
  rw [thP_X, thP_Y] at T
  have hD : ofE (thC m n) n.B m.C n.D m.D = 0 := T.1
  have D := of_val (e := thC m n) hn.B hm.C hn.D hm.D hD
  have hC : ofE (thB m n) n.A m.C n.C m.D = 0 := D.1
  have C := of_val (e := thB m n) hn.A hm.C hn.C hm.D hC
  have hB : ofE (thA m n) n.B m.A n.D m.B = 0 := C.1
  have B := of_val (e := thA m n) hn.B hm.A hn.D hm.B hB
  have hA : ofE 0 n.A m.A n.C m.B = 0 := B.1
  have A := of_val (e := 0) hn.A hm.A hn.C hm.B hA
  exact is_mk A.2.1 B.2.1 C.2.1 D.2.1 T.2.1 T.2.2.2.1 A.2.2.1 B.2.2.1 C.2.2.1 D.2.2.1 T.2.2.1 T.2.2.2.2
theorem thenC_cases (m n : Mv) : (m.c.1 ≠ 0 ∧ thenC m n = m.c) ∨ (m.c = (0, none) ∧ n.c.1 ≠ 0 ∧ thenC m n = n.c) ∨ (m.c = (0, none) ∧ n.c = (0, none) ∧ thE m n ≠ 0 ∧ thenC m n = (2, none)) ∨
    (m.c = (0, none) ∧ n.c = (0, none) ∧ thE m n = 0 ∧ thenC m n = (0, none)) := by
  unfold thenC
  rcases firstF_some (l := m.l) (k := 0) with h | h
  · have h' : m.c = (0, none) := h
    right
    rw [if_pos h']
    rcases firstF_some (l := n.l) (k := 0) with k | k
    · have k' : n.c = (0, none) := k
      right
      rw [if_pos k']
      by_cases h4 : thE m n = 0
      · right; exact ⟨h', k', h4, if_pos h4⟩
      · left; exact ⟨h', k', h4, if_neg h4⟩
    · have k' : n.c.1 ≠ 0 := k
      left
      rw [if_neg (fun e => k' (by rw [e]))]
      exact ⟨h', k', rfl⟩
  · have h' : m.c.1 ≠ 0 := h
    left
    rw [if_neg (fun e => h' (by rw [e]))]
    exact ⟨h', rfl⟩
theorem then_ok {m n : Mv} (h : thenC m n = (0, none)) : m.R ∧ n.R ∧ thE m n = 0 ∧ thenV m n = thV m n := by
  rcases thenC_cases m n with ⟨h1, h2⟩ | ⟨_, h1, h2⟩ | ⟨_, _, _, h2⟩ | ⟨h1, h2, h3, _⟩
  · rw [h2] at h; rw [h] at h1; exact absurd rfl h1
  · rw [h2] at h; rw [h] at h1; exact absurd rfl h1
  · rw [h2] at h; exact absurd (congrArg Prod.fst h) (by decide)
  · exact ⟨Mv.c_0 h1, Mv.c_0 h2, h3, if_pos h⟩
theorem then_is {m n : Mv} (h : thenC m n = (0, none)) : (thenV m n).Is (n.A.v * m.A.v + n.C.v * m.B.v) (n.B.v * m.A.v + n.D.v * m.B.v) (n.A.v * m.C.v + n.C.v * m.D.v) (n.B.v * m.C.v + n.D.v * m.D.v)
      (n.A.v * m.E.v + n.C.v * m.F.v + n.E.v) (n.B.v * m.E.v + n.D.v * m.F.v + n.F.v) := by
  obtain ⟨h1, h2, h3, h4⟩ := then_ok h
  rw [h4]; exact then_val h1 h2 h3
/-- One makes no difference. -/
def oneM : Mv := ⟨Fr.w 1, Fr.w 0, Fr.w 0, Fr.w 1, Fr.w 0, Fr.w 0⟩
theorem oneM_R : oneM.R := ⟨w_R (by omega), w_R (by omega), w_R (by omega), w_R (by omega), w_R (by omega), w_R (by omega)⟩
/-! What takes a move back. -/
end Lead

/-
  Plain: what the statement ShapeMoves asks, of a shape that is moved by whole steps.
-/
namespace Lead
open Go Go.RowKit
theorem step_at {x y : Int} {p : Pt} (hp : PtOk p) (hx : -1000 ≤ x ∧ x ≤ 1000) (hy : -1000 ≤ y ∧ y ≤ 1000) : atC (stepM x y) p = (0, none) ∧ atV (stepM x y) p = shPt x y p := by
  obtain ⟨h1, h2⟩ := mv_step hp hx hy
  have hf : firstF [p.X, p.Y] 6 = (0, none) := firstF_ok (fun a ha => by
    simp only [List.mem_cons, List.not_mem_nil, or_false] at ha
    rcases ha with rfl | rfl
    · exact hp.x
    · exact hp.y) 6
  have hc : atC (stepM x y) p = (0, none) := by unfold atC; rw [if_pos (stepM_R hx hy).c, if_pos hf, if_pos h2]
  exact ⟨hc, by rw [atV_0 hc, h1]⟩
end Lead
