/-
  Several texts as one: Mv1, Mv3, Rat, Mvp.
-/
import Derived.Test.YtpdaenldmgpkjaaGreatDoorPa
import Derived.Test.YtpdaenldmgpkjaaGreatDoorFa
import Derived.OneCell
/-
  Plain: moves of the plane; a world in which one cell was written besides new blocks; sums that remember an error.
-/
namespace Lead
open Go Go.RowKit

/-- The world W is w with new blocks, and with v in the one cell of block s. -/
structure But (s : Nat) (t : TypeId) (v : Value) (w W : World) : Prop where
  os : W.os = w.os
  tape : W.tape = w.tape
  output : W.output = w.output
  size : w.heap.size ≤ W.heap.size
  block : ∀ k, k < w.heap.size → k ≠ s → W.heap[k]? = w.heap[k]?
  lt : s < w.heap.size
  at' : W.heap[s]? = some (.cells #[v] t (0, 0))
theorem But.refl {s : Nat} {t : TypeId} {v : Value} {w : World} (h : w.heap[s]? = some (.cells #[v] t (0, 0))) : But s t v w w :=
  ⟨rfl, rfl, rfl, Nat.le_refl _, fun _ _ _ => rfl, lt_of_block h, h⟩
theorem But.below {s : Nat} {t : TypeId} {v : Value} {w W W' : World} (h : But s t v w W) (hb : Below W.heap.size W W') : But s t v w W' :=
  ⟨hb.os.trans h.os, hb.tape.trans h.tape, hb.output.trans h.output, Nat.le_trans h.size hb.size, fun k hk hs => (hb.block k (Nat.lt_of_lt_of_le hk h.size)).trans (h.block k hk hs), h.lt, (hb.block s (Nat.lt_of_lt_of_le h.lt h.size)).trans h.at'⟩
theorem But.alloc {s : Nat} {t : TypeId} {v : Value} {w W : World} (h : But s t v w W) (o : Obj) : But s t v w (W.alloc o) := h.below ((Below.refl _ _).alloc (Nat.le_refl _) o)
theorem But.drew {s : Nat} {t : TypeId} {v : Value} {w W : World} (h : But s t v w W) : But s t v w W.drew := h.below (Below.refl _ _).drew
theorem But.drewN {s : Nat} {t : TypeId} {v : Value} {w W : World} {n : Nat} (h : But s t v w W) : But s t v w (W.drewN n) := h.below (bdn (Below.refl _ _))
theorem But.setCell {s : Nat} {t : TypeId} {v : Value} {w W : World} (h : But s t v w W) {a : Addr} (ha : w.heap.size ≤ a.block) (u : Value) : But s t v w (W.setCell a u) := by
  have hne : s ≠ a.block := by have := h.lt; omega
  exact ⟨h.os, h.tape, h.output, by simpa [World.setCell] using h.size, fun k hk hs => (Below.heap_setCell _ _ _ _ (by omega)).trans (h.block k hk hs), h.lt, (Below.heap_setCell _ _ _ _ hne).trans h.at'⟩
theorem But.put {s : Nat} {t : TypeId} {v : Value} {w W : World} (h : But s t v w W) (u : Value) : But s t u w (W.setCell ⟨s, 0, none⟩ u) :=
  ⟨h.os, h.tape, h.output, by simpa [World.setCell] using h.size, fun k hk hs => (Below.heap_setCell _ _ _ _ hs).trans (h.block k hk hs), h.lt, one_setCell h.at'⟩
theorem But.trans {s : Nat} {t : TypeId} {v v' : Value} {w W W' : World} (h : But s t v w W) (k : But s t v' W W') : But s t v' w W' :=
  ⟨k.os.trans h.os, k.tape.trans h.tape, k.output.trans h.output, Nat.le_trans h.size k.size, fun i hi hs => (k.block i (Nat.lt_of_lt_of_le hi h.size) hs).trans (h.block i hi hs), h.lt, k.at'⟩
theorem But.toBelow {s : Nat} {t : TypeId} {v : Value} {w W : World} {B : Nat} (h : But s t v w W) (hs : B ≤ s) (hB : B ≤ w.heap.size) : Below B w W :=
  ⟨h.os, h.tape, h.output, h.size, fun k hk => h.block k (by omega) (by omega)⟩
theorem But.cell {s : Nat} {t : TypeId} {v : Value} {w W : World} (h : But s t v w W) (b o : Nat) (hb : b < w.heap.size) (hs : b ≠ s) : W.cell? ⟨b, o, none⟩ = w.cell? ⟨b, o, none⟩ := World.cell?_of_block (w := w) (h.block b hb hs)
theorem But.frozen {s : Nat} {t : TypeId} {v : Value} {w W : World} (h : But s t v w W) (b o : Nat) (hb : b < w.heap.size) (hs : b ≠ s) : W.frozen? ⟨b, o, none⟩ = w.frozen? ⟨b, o, none⟩ := World.frozen?_of_block (w := w) (h.block b hb hs)
theorem But.here {s : Nat} {t : TypeId} {v : Value} {w W : World} (h : But s t v w W) : W.cell? ⟨s, 0, none⟩ = some v := cell_of_one h.at'
theorem But.free {s : Nat} {t : TypeId} {v : Value} {w W : World} (h : But s t v w W) : W.frozen? ⟨s, 0, none⟩ = false := free_of_one h.at'
theorem But.self {s : Nat} {t : TypeId} {v : Value} {w W : World} (h : But s t v w W) : But s t v W W := But.refl h.at'
theorem But.glob {s : Nat} {t : TypeId} {v : Value} {w W : World} {g : Nat} {u : Value} (h : But s t v w W) (hg : w.cell? ⟨g, 0, none⟩ = some u) (hs : g ≠ s) : W.cell? ⟨g, 0, none⟩ = some u := by
  rw [h.cell g 0 (zlt hg) hs]; exact hg

/-- A call of a function that gives back a value and writes the one cell of block s: the caller's own frame being But. -/
theorem call_s2 {P : Program} {f : FuncId} {args : Array Value} {w W : World} {R : Ending → World → Prop} {s : Nat} {t : TypeId} {e0 e1 v : Value} (hB : But s t e0 w W)
    (h : But s t e0 w W → Calls P f args W fun e w' => e = .returned v ∧ But s t e1 W w')
    (k : ∀ w1, But s t e1 w w1 → W.heap.size ≤ w1.heap.size → (∀ b o, b < W.heap.size → b ≠ s → w1.cell? ⟨b, o, none⟩ = W.cell? ⟨b, o, none⟩) →
      (∀ b o, b < W.heap.size → b ≠ s → w1.frozen? ⟨b, o, none⟩ = W.frozen? ⟨b, o, none⟩) → But s t e1 W w1 → R (.returned v) w1) : Calls P f args W R :=
  (h hB).mono fun e w1 ⟨he, hb⟩ => by
    subst he
    exact k w1 (hB.trans hb) hb.size hb.cell hb.frozen hb
/-- .. the caller's own frame being Below, block s its own. -/
theorem call_s1 {P : Program} {f : FuncId} {args : Array Value} {w W : World} {R : Ending → World → Prop} {s : Nat} {t : TypeId} {e1 v : Value} (hB : Below w.heap.size w W) (hs : w.heap.size ≤ s)
    (h : Below w.heap.size w W → Calls P f args W fun e w' => e = .returned v ∧ But s t e1 W w')
    (k : ∀ w1, Below w.heap.size w w1 → W.heap.size ≤ w1.heap.size → (∀ b o, b < W.heap.size → b ≠ s → w1.cell? ⟨b, o, none⟩ = W.cell? ⟨b, o, none⟩) →
      (∀ b o, b < W.heap.size → b ≠ s → w1.frozen? ⟨b, o, none⟩ = W.frozen? ⟨b, o, none⟩) → But s t e1 W w1 → R (.returned v) w1) : Calls P f args W R :=
  (h hB).mono fun e w1 ⟨he, hb⟩ => by
    subst he
    exact k w1 (hB.trans (hb.toBelow hs hB.size)) hb.size hb.cell hb.frozen hb
/-- A call that makes memory alone, the caller's own frame being But. -/
theorem call_b2 {P : Program} {f : FuncId} {args : Array Value} {w W : World} {R : Ending → World → Prop} {s : Nat} {t : TypeId} {e0 v : Value} (hB : But s t e0 w W)
    (h : But s t e0 w W → Calls P f args W fun e w' => e = .returned v ∧ Below W.heap.size W w')
    (k : ∀ w1, But s t e0 w w1 → W.heap.size ≤ w1.heap.size → (∀ b o, b < W.heap.size → w1.cell? ⟨b, o, none⟩ = W.cell? ⟨b, o, none⟩) →
      (∀ b o, b < W.heap.size → w1.frozen? ⟨b, o, none⟩ = W.frozen? ⟨b, o, none⟩) → Below W.heap.size W w1 → R (.returned v) w1) : Calls P f args W R :=
  (h hB).mono fun e w1 ⟨he, hb⟩ => by
    subst he
    exact k w1 (hB.below hb) hb.size (bcell hb).1 (bcell hb).2 hb

/-- A sum of products that remembers an error: the error behind an act, and its value. -/
def dE (e K : Nat) : Nat := if e = 0 then K else e
def dV (e K : Nat) (x : Fr) : Fr := if e = 0 ∧ K = 0 then x else ⟨0, 0⟩
theorem dE_0 {e K : Nat} (h : e = 0) : dE e K = K := if_pos h
theorem dE_n {e K : Nat} (h : e ≠ 0) : dE e K = e := if_neg h
theorem dV_n {e K : Nat} {x : Fr} (h : e ≠ 0) : dV e K x = ⟨0, 0⟩ := if_neg (fun k => h k.1)
theorem dV_0 {e K : Nat} {x : Fr} (h : e = 0) : dV e K x = ⟨z0 K x.n, z0 K x.d⟩ := by
  unfold dV
  by_cases hK : K = 0
  · rw [if_pos ⟨h, hK⟩, z0_0 hK, z0_0 hK]
  · rw [if_neg (fun k => hK k.2), z0_n hK, z0_n hK]
theorem I00 : Fr.I ⟨0, 0⟩ := ⟨by unfold I64; decide, by unfold I64; decide⟩
theorem dV_I {e K : Nat} {x : Fr} (h : K = 0 → x.R) : (dV e K x).I := by
  unfold dV
  by_cases hK : e = 0 ∧ K = 0
  · rw [if_pos hK]; exact (h hK.2).i
  · rw [if_neg hK]; exact I00
theorem mulK_R {a b : Fr} (h : a.mulK b = 0) : (a.mul b).R := by
  obtain ⟨h1, h2, h3⟩ := opC_0 h
  exact mul_right h1.d0 h2.d0 h3
theorem addK_R {a b : Fr} (h : a.addK b = 0) : (a.add b).R := by
  obtain ⟨h1, h2, h3⟩ := opC_0 h
  exact add_right h1.d0 h2.d0 h3
theorem low_R {n d : Int} (hd : d ≠ 0) (hc : lowC n d = 0) : Right (lowN n d) (lowD n d) := chk_0 ((chk_low hd).trans hc)
theorem subK_R {a b : Fr} (h : a.subK b = 0) : (a.sub b).R := by
  obtain ⟨h1, h2, h3⟩ := opC_0 h
  have := addD_pos (a := a) (b := b) h1.d0 h2.d0
  exact low_R (by omega) h3
theorem divK_R {a b : Fr} (h : a.divK b = 0) : (a.div b).R := by
  unfold Fr.divK at h
  rcases divC_cases a.n a.d b.n b.d (divN a b) (divD a b) with ⟨h1, h2⟩ | ⟨h1, _, h2⟩ | ⟨h1, h0, h2⟩
  · exact absurd (h2.symm.trans h) h1
  · exact absurd (h2.symm.trans h) (by decide)
  · exact low_R (by unfold divD; exact Int.mul_ne_zero (by have := (bothC_0 h1).1.d0; omega) h0) (h2.symm.trans h)

/-- a times b, and c times d. -/
def ofE1 (e : Nat) (a b : Fr) : Nat := dE e (a.mulK b)
def ofX (e : Nat) (a b : Fr) : Fr := dV e (a.mulK b) (a.mul b)
def ofE2 (e : Nat) (a b c d : Fr) : Nat := dE (ofE1 e a b) (c.mulK d)
def ofY (e : Nat) (a b c d : Fr) : Fr := dV (ofE1 e a b) (c.mulK d) (c.mul d)
def ofE (e : Nat) (a b c d : Fr) : Nat := dE (ofE2 e a b c d) ((ofX e a b).addK (ofY e a b c d))
def ofV (e : Nat) (a b c d : Fr) : Fr := dV (ofE2 e a b c d) ((ofX e a b).addK (ofY e a b c d)) ((ofX e a b).add (ofY e a b c d))
theorem ofX_I (e : Nat) (a b : Fr) : (ofX e a b).I := dV_I mulK_R
theorem ofY_I (e : Nat) (a b c d : Fr) : (ofY e a b c d).I := dV_I mulK_R
theorem ofV_I (e : Nat) (a b c d : Fr) : (ofV e a b c d).I := dV_I addK_R
/-- .. and f. -/
def dotE (e : Nat) (a b c d f : Fr) : Nat := dE (ofE e a b c d) ((ofV e a b c d).addK f)
def dotV (e : Nat) (a b c d f : Fr) : Fr := dV (ofE e a b c d) ((ofV e a b c d).addK f) ((ofV e a b c d).add f)
theorem dotV_I (e : Nat) (a b c d f : Fr) : (dotV e a b c d f).I := dV_I addK_R

/-- A move of the plane. -/
structure Mv where
  A : Fr
  B : Fr
  C : Fr
  D : Fr
  E : Fr
  F : Fr
def Mv.l (m : Mv) : List Fr := [m.A, m.B, m.C, m.D, m.E, m.F]
structure Mv.I (m : Mv) : Prop where
  A : m.A.I
  B : m.B.I
  C : m.C.I
  D : m.D.I
  E : m.E.I
  F : m.F.I
theorem Mv.I.all {m : Mv} (h : m.I) : ∀ a ∈ m.l, a.I := by
  intro a ha
  simp only [Mv.l, List.mem_cons, List.not_mem_nil, or_false] at ha
  rcases ha with rfl | rfl | rfl | rfl | rfl | rfl
  · exact h.A
  · exact h.B
  · exact h.C
  · exact h.D
  · exact h.E
  · exact h.F
abbrev Pt.X (p : Pt) : Fr := ⟨p.xn, p.xd⟩
abbrev Pt.Y (p : Pt) : Fr := ⟨p.yn, p.yd⟩
def toE1 (e : Nat) (m : Mv) (p : Pt) : Nat := dotE e m.A p.X m.C p.Y m.E
def toX (e : Nat) (m : Mv) (p : Pt) : Fr := dotV e m.A p.X m.C p.Y m.E
def toE (e : Nat) (m : Mv) (p : Pt) : Nat := dotE (toE1 e m p) m.B p.X m.D p.Y m.F
def toY (e : Nat) (m : Mv) (p : Pt) : Fr := dotV (toE1 e m p) m.B p.X m.D p.Y m.F

/-- The first fraction that is not right: the error's number, and the place. -/
def firstF : List Fr → Nat → Nat × Option Nat
  | [], _ => (0, none)
  | a :: l, i => if a.c = 0 then firstF l (i + 1) else (a.c, some i)
theorem firstF_step {l : List Fr} {k j : Nat} (h : k < l.length) (h0 : l[k].c = 0) : firstF (l.drop k) j = firstF (l.drop (k + 1)) (j + 1) := by
  rw [List.drop_eq_getElem_cons h, firstF, if_pos h0]
theorem firstF_hit {l : List Fr} {k j : Nat} (h : k < l.length) (h0 : l[k].c ≠ 0) : firstF (l.drop k) j = (l[k].c, some j) := by
  rw [List.drop_eq_getElem_cons h, firstF, if_neg h0]
theorem firstF_end {l : List Fr} {k j : Nat} (h : l.length ≤ k) : firstF (l.drop k) j = (0, none) := by
  rw [List.drop_eq_nil_of_le h, firstF]
theorem firstF_all {l : List Fr} : ∀ {k : Nat}, firstF l k = (0, none) → ∀ a ∈ l, a.R := by
  induction l with
  | nil => intro k _ q hq; cases hq
  | cons p ps ih =>
    intro k h q hq
    unfold firstF at h
    by_cases h0 : p.c = 0
    · rw [if_pos h0] at h
      rcases List.mem_cons.1 hq with rfl | hq
      · exact chk_0 h0
      · exact ih h q hq
    · rw [if_neg h0] at h
      exact absurd (congrArg Prod.fst h) h0
theorem firstF_ok {l : List Fr} (h : ∀ a ∈ l, a.R) : ∀ k, firstF l k = (0, none) := by
  induction l with
  | nil => intro k; rfl
  | cons p ps ih =>
    intro k
    unfold firstF
    rw [if_pos (show p.c = 0 from chk_right (h p (by simp)))]
    exact ih (fun a ha => h a (by simp [ha])) _
theorem firstF_some {l : List Fr} : ∀ {k : Nat}, firstF l k = (0, none) ∨ (firstF l k).1 ≠ 0 := by
  induction l with
  | nil => intro k; exact .inl rfl
  | cons p ps ih =>
    intro k
    unfold firstF
    by_cases h0 : p.c = 0
    · rw [if_pos h0]; exact ih
    · rw [if_neg h0]; exact .inr h0
theorem firstF_le {l : List Fr} : ∀ {k : Nat}, (firstF l k).1 ≤ 11 := by
  induction l with
  | nil => intro k; exact Nat.zero_le _
  | cons p ps ih =>
    intro k
    unfold firstF
    by_cases h0 : p.c = 0
    · rw [if_pos h0]; exact ih
    · rw [if_neg h0]
      change chk p.n p.d ≤ 11
      rcases chk_cases p.n p.d with ⟨_, h⟩ | ⟨_, _, h⟩ | ⟨_, _, _, h⟩ | ⟨_, _, _, _, h⟩ | ⟨_, _, _, _, h⟩ <;> omega
/-- Check's error of a move. -/
def Mv.c (m : Mv) : Nat × Option Nat := firstF m.l 0
structure Mv.R (m : Mv) : Prop where
  A : m.A.R
  B : m.B.R
  C : m.C.R
  D : m.D.R
  E : m.E.R
  F : m.F.R
theorem Mv.c_0 {m : Mv} (h : m.c = (0, none)) : m.R := by
  have := firstF_all h
  exact ⟨this _ (by simp [Mv.l]), this _ (by simp [Mv.l]), this _ (by simp [Mv.l]), this _ (by simp [Mv.l]), this _ (by simp [Mv.l]), this _ (by simp [Mv.l])⟩
theorem Mv.R.c {m : Mv} (h : m.R) : m.c = (0, none) := by
  refine firstF_ok (fun a ha => ?_) 0
  simp only [Mv.l, List.mem_cons, List.not_mem_nil, or_false] at ha
  rcases ha with rfl | rfl | rfl | rfl | rfl | rfl
  · exact h.A
  · exact h.B
  · exact h.C
  · exact h.D
  · exact h.E
  · exact h.F
theorem Mv.R.I {m : Mv} (h : m.R) : m.I := ⟨h.A.i, h.B.i, h.C.i, h.D.i, h.E.i, h.F.i⟩

/-- Fractions that lie from a place on. -/
structure FrsIn (w : World) (b off : Nat) (fs : List Fr) : Prop where
  c0 : ∀ i (h : i < fs.length), w.cell? ⟨b, off + i * 2, none⟩ = some (.int .i64 fs[i].n)
  c1 : ∀ i (h : i < fs.length), w.cell? ⟨b, off + i * 2 + 1, none⟩ = some (.int .i64 fs[i].d)
theorem FrsIn.keep {w w1 : World} {b off : Nat} {fs : List Fr} {B : Nat} (h : FrsIn w b off fs) (hb : Below B w w1) (hB : b < B) : FrsIn w1 b off fs :=
  ⟨fun i hi => by rw [hb.cell hB]; exact h.c0 i hi, fun i hi => by rw [hb.cell hB]; exact h.c1 i hi⟩
def fflat (fs : List Fr) : List Value := fs.flatMap fun a => [.int .i64 a.n, .int .i64 a.d]
theorem fflat_at (fs : List Fr) : ∀ (i j : Nat) (h : i < fs.length), j < 2 → (fflat fs)[i * 2 + j]? = [Value.int .i64 fs[i].n, Value.int .i64 fs[i].d][j]? := by
  induction fs with
  | nil => intro i j h; exact absurd h (by simp)
  | cons p ps ih =>
    intro i j h hj
    have e : fflat (p :: ps) = [Value.int .i64 p.n, Value.int .i64 p.d] ++ fflat ps := by simp [fflat]
    rw [e]
    cases i with
    | zero => rw [List.getElem?_append_left (by simp; omega)]; simp
    | succ i =>
      rw [List.getElem?_append_right (by simp; omega)]
      have : (i + 1) * 2 + j - [Value.int .i64 p.n, Value.int .i64 p.d].length = i * 2 + j := by simp; omega
      rw [this, ih i j (by simpa using h) hj]
      simp
theorem frs_cells {w : World} {b : Nat} {fs : List Fr} {vs : Array Value} (hv : vs.toList = fflat fs) (h : ∀ j, w.cell? ⟨b, j, none⟩ = vs[j]?) : FrsIn w b 0 fs := by
  refine ⟨fun i hi => ?_, fun i hi => ?_⟩
  · rw [Nat.zero_add, h, ← Array.getElem?_toList, hv, show i * 2 = i * 2 + 0 from rfl, fflat_at fs i 0 hi (by omega)]; rfl
  · rw [Nat.zero_add, h, ← Array.getElem?_toList, hv, fflat_at fs i 1 hi (by omega)]; rfl
end Lead

/-
  Plain: a shape that is moved by whole steps.
-/
namespace Lead
open Go Go.RowKit

def Fr.w (n : Int) : Fr := ⟨n, 1⟩
def addI (a : Fr) (x : Int) : Fr := ⟨a.n + x * a.d, a.d⟩
theorem w_R {x : Int} (h : -1000 ≤ x ∧ x ≤ 1000) : (Fr.w x).R := ⟨by show _ ≤ x; omega, by show x ≤ _; omega, by show (1 : Int) ≤ 1; omega, by show (1 : Int) ≤ _; omega, by show Int.gcd x 1 = 1; exact Int.gcd_one⟩
/-- What is of a right fraction's value, reckoned: that one, without an error. -/
theorem mul_same {a b c : Fr} (ha : a.R) (hb : b.R) (hc : c.R) (h : mulN a b * c.d = c.n * addD a b) : a.mul b = c ∧ a.mulK b = 0 := by
  have hd := addD_pos (a := a) (b := b) ha.d0 hb.d0
  obtain ⟨h1, h2, h3⟩ := low_same (by omega) hc h
  exact ⟨by unfold Fr.mul; rw [h1, h2], opC_ok ha hb h3⟩
theorem add_same {a b c : Fr} (ha : a.R) (hb : b.R) (hc : c.R) (h : addN a b * c.d = c.n * addD a b) : a.add b = c ∧ a.addK b = 0 := by
  have hd := addD_pos (a := a) (b := b) ha.d0 hb.d0
  obtain ⟨h1, h2, h3⟩ := low_same (by omega) hc h
  exact ⟨by unfold Fr.add; rw [h1, h2], opC_ok ha hb h3⟩
theorem sub_same {a b c : Fr} (ha : a.R) (hb : b.R) (hc : c.R) (h : subN a b * c.d = c.n * addD a b) : a.sub b = c ∧ a.subK b = 0 := by
  have hd := addD_pos (a := a) (b := b) ha.d0 hb.d0
  obtain ⟨h1, h2, h3⟩ := low_same (by omega) hc h
  exact ⟨by unfold Fr.sub; rw [h1, h2], opC_ok ha hb h3⟩
theorem div_same {a b c : Fr} (ha : a.R) (hb : b.R) (hc : c.R) (h0 : b.n ≠ 0) (h : divN a b * c.d = c.n * divD a b) : a.div b = c ∧ a.divK b = 0 := by
  have hd : divD a b ≠ 0 := by unfold divD; exact Int.mul_ne_zero (by have := ha.d0; omega) h0
  obtain ⟨h1, h2, h3⟩ := low_same hd hc h
  refine ⟨by unfold Fr.div; rw [h1, h2], ?_⟩
  unfold Fr.divK divC
  rw [if_pos (both_R ha hb), if_neg h0]; exact h3
theorem w1_mul {a : Fr} (ha : a.R) : (Fr.w 1).mul a = a ∧ (Fr.w 1).mulK a = 0 := mul_same (w_R (by omega)) ha ha (by unfold mulN addD Fr.w; simp only; grind)
theorem w0_mul {a : Fr} (ha : a.R) : (Fr.w 0).mul a = Fr.w 0 ∧ (Fr.w 0).mulK a = 0 := mul_same (w_R (by omega)) ha (w_R (by omega)) (by unfold mulN addD Fr.w; simp only; grind)
theorem mul_w1 {a : Fr} (ha : a.R) : a.mul (Fr.w 1) = a ∧ a.mulK (Fr.w 1) = 0 := mul_same ha (w_R (by omega)) ha (by unfold mulN addD Fr.w; simp only; grind)
theorem mul_w0 {a : Fr} (ha : a.R) : a.mul (Fr.w 0) = Fr.w 0 ∧ a.mulK (Fr.w 0) = 0 := mul_same ha (w_R (by omega)) (w_R (by omega)) (by unfold mulN addD Fr.w; simp only; grind)
theorem add_w0 {a : Fr} (ha : a.R) : a.add (Fr.w 0) = a ∧ a.addK (Fr.w 0) = 0 := add_same ha (w_R (by omega)) ha (by unfold addN addD Fr.w; simp only; grind)
theorem w0_add {a : Fr} (ha : a.R) : (Fr.w 0).add a = a ∧ (Fr.w 0).addK a = 0 := add_same (w_R (by omega)) ha ha (by unfold addN addD Fr.w; simp only; grind)
theorem addI_R {a : Fr} {x : Int} (ha : a.R) (h1 : -1073741824 ≤ a.n + x * a.d) (h2 : a.n + x * a.d ≤ 1073741824) : (addI a x).R := by
  refine ⟨h1, h2, ha.d0, ha.d1, ?_⟩
  show Int.gcd (a.n + x * a.d) a.d = 1
  rw [Int.gcd_add_mul_right_left]
  exact ha.gcd
theorem add_w {a : Fr} {x : Int} (ha : a.R) (hx : (Fr.w x).R) (hR : (addI a x).R) : a.add (Fr.w x) = addI a x ∧ a.addK (Fr.w x) = 0 := add_same ha hx hR (by unfold addN addD addI Fr.w; simp only; grind)

/-- .. in a row of acts. -/
theorem dE_z {K : Nat} (h : K = 0) : dE 0 K = 0 := by rw [dE_0 rfl, h]
theorem dV_z {K : Nat} {x : Fr} (h : K = 0) : dV 0 K x = x := if_pos ⟨rfl, h⟩
/-- a times b, and c times d, where all goes well. -/
theorem of_ok {a b c d x y z : Fr} (h1 : a.mul b = x ∧ a.mulK b = 0) (h2 : c.mul d = y ∧ c.mulK d = 0) (h3 : x.add y = z ∧ x.addK y = 0) : ofV 0 a b c d = z ∧ ofE 0 a b c d = 0 := by
  have e1 : ofE1 0 a b = 0 := dE_z h1.2
  have e2 : ofX 0 a b = x := by unfold ofX; rw [dV_z h1.2, h1.1]
  have e3 : ofE2 0 a b c d = 0 := by unfold ofE2; rw [e1, dE_z h2.2]
  have e4 : ofY 0 a b c d = y := by unfold ofY; rw [e1, dV_z h2.2, h2.1]
  unfold ofV ofE
  rw [e2, e3, e4]
  exact ⟨by rw [dV_z h3.2, h3.1], dE_z h3.2⟩
theorem dot_ok {a b c d f x y z t : Fr} (h1 : a.mul b = x ∧ a.mulK b = 0) (h2 : c.mul d = y ∧ c.mulK d = 0) (h3 : x.add y = z ∧ x.addK y = 0) (h4 : z.add f = t ∧ z.addK f = 0) : dotV 0 a b c d f = t ∧ dotE 0 a b c d f = 0 := by
  obtain ⟨e1, e2⟩ := of_ok h1 h2 h3
  unfold dotV dotE
  rw [e1, e2]
  exact ⟨by rw [dV_z h4.2, h4.1], dE_z h4.2⟩
/-- The move by whole steps. -/
def stepM (x y : Int) : Mv := ⟨Fr.w 1, Fr.w 0, Fr.w 0, Fr.w 1, Fr.w x, Fr.w y⟩
theorem stepM_R {x y : Int} (hx : -1000 ≤ x ∧ x ≤ 1000) (hy : -1000 ≤ y ∧ y ≤ 1000) : (stepM x y).R := ⟨w_R (by omega), w_R (by omega), w_R (by omega), w_R (by omega), w_R hx, w_R hy⟩
def shPt (x y : Int) (p : Pt) : Pt := ⟨p.xn + x * p.xd, p.xd, p.yn + y * p.yd, p.yd⟩
theorem sh_bound {n d x : Int} (hd : 1 ≤ d ∧ d ≤ 20) (hn : n ≤ 1000 * d ∧ -1000 * d ≤ n) (hx : -1000 ≤ x ∧ x ≤ 1000) : -40000 ≤ n + x * d ∧ n + x * d ≤ 40000 := by
  have := mb (a := x) (b := d) 1000 20 20000 (by omega) (by omega) rfl
  omega
theorem step_to {x y : Int} {p : Pt} (hp : PtOk p) (hx : -1000 ≤ x ∧ x ≤ 1000) (hy : -1000 ≤ y ∧ y ≤ 1000) :
    toX 0 (stepM x y) p = (shPt x y p).X ∧ toY 0 (stepM x y) p = (shPt x y p).Y ∧ toE 0 (stepM x y) p = 0 := by
  have hX : p.X.R := hp.x
  have hY : p.Y.R := hp.y
  have b1 := sh_bound ⟨hp.x.d0, hp.xs.1⟩ hp.xs.2 hx
  have b2 := sh_bound ⟨hp.y.d0, hp.ys.1⟩ hp.ys.2 hy
  have r1 : (addI p.X x).R := addI_R hX (by show _ ≤ p.xn + x * p.xd; omega) (by show p.xn + x * p.xd ≤ _; omega)
  have r2 : (addI p.Y y).R := addI_R hY (by show _ ≤ p.yn + y * p.yd; omega) (by show p.yn + y * p.yd ≤ _; omega)
  have h1 := dot_ok (w1_mul hX) (w0_mul hY) (add_w0 hX) (add_w hX (w_R hx) r1)
  have h2 := dot_ok (w0_mul hX) (w1_mul hY) (w0_add hY) (add_w hY (w_R hy) r2)
  have e1 : toE1 0 (stepM x y) p = 0 := h1.2
  refine ⟨h1.1, ?_, ?_⟩
  · unfold toY; rw [e1]; exact h2.1
  · unfold toE; rw [e1]; exact h2.2
theorem cross_shift (x y : Int) (a b p : Pt) : crossPt (shPt x y a) (shPt x y b) (shPt x y p) = crossPt a b p := by
  have h1 : ((shPt x y p).yn * (shPt x y a).yd < (shPt x y a).yn * (shPt x y p).yd) ↔ (p.yn * a.yd < a.yn * p.yd) := by
    simp only [shPt]
    have : (p.yn + y * p.yd) * a.yd = p.yn * a.yd + y * p.yd * a.yd := by grind
    have : (a.yn + y * a.yd) * p.yd = a.yn * p.yd + y * p.yd * a.yd := by grind
    omega
  have h2 : ((shPt x y p).yn * (shPt x y b).yd < (shPt x y b).yn * (shPt x y p).yd) ↔ (p.yn * b.yd < b.yn * p.yd) := by
    simp only [shPt]
    have : (p.yn + y * p.yd) * b.yd = p.yn * b.yd + y * p.yd * b.yd := by grind
    have : (b.yn + y * b.yd) * p.yd = b.yn * p.yd + y * p.yd * b.yd := by grind
    omega
  have h3 : sideI (shPt x y a) (shPt x y b) (shPt x y p) = sideI a b p := by
    unfold sideI shPt
    simp only
    grind
  unfold crossPt
  rw [decide_eq_decide.2 h1, decide_eq_decide.2 h2, h3]
theorem getD_shift (x y : Int) (ps : List Pt) {i : Nat} (h : i < ps.length) : (ps.map (shPt x y)).getD i zpt = shPt x y (ps.getD i zpt) := by
  simp [h]
theorem crsTo_shift (x y : Int) (ps : List Pt) (p : Pt) : crsTo (ps.map (shPt x y)) (shPt x y p) (ps.map (shPt x y)).length = crsTo ps p ps.length := by
  unfold crsTo
  rw [List.length_map]
  congr 1
  refine List.map_congr_left fun i hi => ?_
  have hi := List.mem_range.1 hi
  rw [getD_shift x y ps hi, getD_shift x y ps (Nat.mod_lt _ (by omega)), cross_shift]
theorem shPt_back (x y : Int) (p : Pt) : shPt (-x) (-y) (shPt x y p) = p := by
  obtain ⟨a, b, c, d⟩ := p
  simp only [shPt, Pt.mk.injEq]
  refine ⟨by grind, trivial, by grind, trivial⟩

/-- Where a point goes: the error, and the point. -/
def mvPt (m : Mv) (p : Pt) : Pt := ⟨(toX 0 m p).n, (toX 0 m p).d, (toY 0 m p).n, (toY 0 m p).d⟩
def atC (m : Mv) (p : Pt) : Nat × Option Nat := if m.c = (0, none) then (if firstF [p.X, p.Y] 6 = (0, none) then (if toE 0 m p = 0 then (0, none) else (2, none)) else firstF [p.X, p.Y] 6) else m.c
def atV (m : Mv) (p : Pt) : Pt := if atC m p = (0, none) then mvPt m p else ⟨0, 0, 0, 0⟩
theorem atV_0 {m : Mv} {p : Pt} (h : atC m p = (0, none)) : atV m p = mvPt m p := if_pos h
theorem atV_n {m : Mv} {p : Pt} (h : (atC m p).1 ≠ 0) : atV m p = ⟨0, 0, 0, 0⟩ := if_neg (fun e => h (by rw [e]))
theorem at_cases (m : Mv) (p : Pt) : (m.c.1 ≠ 0 ∧ atC m p = m.c) ∨ (m.c = (0, none) ∧ p.X.c ≠ 0 ∧ atC m p = (p.X.c, some 6)) ∨ (m.c = (0, none) ∧ p.X.c = 0 ∧ p.Y.c ≠ 0 ∧ atC m p = (p.Y.c, some 7)) ∨
    (m.c = (0, none) ∧ p.X.c = 0 ∧ p.Y.c = 0 ∧ toE 0 m p ≠ 0 ∧ atC m p = (2, none)) ∨ (m.c = (0, none) ∧ p.X.c = 0 ∧ p.Y.c = 0 ∧ toE 0 m p = 0 ∧ atC m p = (0, none)) := by
  unfold atC
  rcases firstF_some (l := m.l) (k := 0) with h | h
  · have h' : m.c = (0, none) := h
    right
    rw [if_pos h']
    by_cases h1 : p.X.c = 0
    · right
      by_cases h2 : p.Y.c = 0
      · right
        have h3 : firstF [p.X, p.Y] 6 = (0, none) := by simp [firstF, h1, h2]
        rw [if_pos h3]
        by_cases h4 : toE 0 m p = 0
        · right; exact ⟨h', h1, h2, h4, if_pos h4⟩
        · left; exact ⟨h', h1, h2, h4, if_neg h4⟩
      · left
        have h3 : firstF [p.X, p.Y] 6 = (p.Y.c, some 7) := by simp [firstF, h1, h2]
        rw [h3, if_neg (fun e => h2 (congrArg Prod.fst e))]
        exact ⟨h', h1, h2, rfl⟩
    · left
      have h3 : firstF [p.X, p.Y] 6 = (p.X.c, some 6) := by simp [firstF, h1]
      rw [h3, if_neg (fun e => h1 (congrArg Prod.fst e))]
      exact ⟨h', h1, rfl⟩
  · left
    have h' : m.c.1 ≠ 0 := h
    rw [if_neg (fun e => h' (by rw [e]))]
    exact ⟨h', rfl⟩
/-- A call that answers a point and an error. -/
def RetQE (T F : Nat) (ea : Nat → Addr) (c : Nat × Option Nat) (q : Pt) (w : World) (en : Ending) (w' : World) : Prop :=
  ∃ x, en = .returned (.tuple #[.agg #[.int .i64 q.xn, .int .i64 q.xd, .int .i64 q.yn, .int .i64 q.yd], x]) ∧ ErrAt T F ea w.heap.size w' x c ∧ Below w.heap.size w w'
theorem call_qe {P : Program} {f : FuncId} {args : Array Value} {w W : World} {R : Ending → World → Prop} {T F : Nat} {ea : Nat → Addr} {c : Nat × Option Nat} {q : Pt} (hB : Below w.heap.size w W)
    (h : Below w.heap.size w W → Calls P f args W (RetQE T F ea c q W))
    (k : ∀ x w1, ErrAt T F ea W.heap.size w1 x c → Below w.heap.size w w1 → W.heap.size ≤ w1.heap.size → (∀ b o, b < W.heap.size → w1.cell? ⟨b, o, none⟩ = W.cell? ⟨b, o, none⟩) →
      (∀ b o, b < W.heap.size → w1.frozen? ⟨b, o, none⟩ = W.frozen? ⟨b, o, none⟩) → Below W.heap.size W w1 → R (.returned (.tuple #[.agg #[.int .i64 q.xn, .int .i64 q.xd, .int .i64 q.yn, .int .i64 q.yd], x])) w1) : Calls P f args W R :=
  (h hB).mono fun en w1 ⟨x, he, hx, hb⟩ => by
    subst he
    exact k x w1 hx (hB.trans (hb.mono hB.size)) hb.size (bcell hb).1 (bcell hb).2 hb
/-- The first point that does not go well: its place. -/
def movF (m : Mv) : List Pt → Nat → Nat × Option Nat
  | [], _ => (0, none)
  | p :: ps, i => if toE 0 m p = 0 ∧ (mvPt m p).c = 0 then movF m ps (i + 1) else (2, some i)
theorem movF_step {m : Mv} {ps : List Pt} {k : Nat} (h : k < ps.length) (h0 : toE 0 m ps[k] = 0 ∧ (mvPt m ps[k]).c = 0) : movF m (ps.drop k) k = movF m (ps.drop (k + 1)) (k + 1) := by
  rw [List.drop_eq_getElem_cons h, movF, if_pos h0]
theorem movF_hit {m : Mv} {ps : List Pt} {k : Nat} (h : k < ps.length) (h0 : ¬ (toE 0 m ps[k] = 0 ∧ (mvPt m ps[k]).c = 0)) : movF m (ps.drop k) k = (2, some k) := by
  rw [List.drop_eq_getElem_cons h, movF, if_neg h0]
theorem movF_end {m : Mv} {ps : List Pt} {k : Nat} (h : ps.length ≤ k) : movF m (ps.drop k) k = (0, none) := by
  rw [List.drop_eq_nil_of_le h, movF]
theorem movF_some {m : Mv} {ps : List Pt} : ∀ {k : Nat}, movF m ps k = (0, none) ∨ ((movF m ps k).1 = 2 ∧ (movF m ps k).2.isSome = true) := by
  induction ps with
  | nil => intro k; exact .inl rfl
  | cons p ps ih =>
    intro k
    unfold movF
    by_cases h0 : toE 0 m p = 0 ∧ (mvPt m p).c = 0
    · rw [if_pos h0]; exact ih
    · rw [if_neg h0]; exact .inr ⟨rfl, rfl⟩
theorem movF_all {m : Mv} {ps : List Pt} : ∀ {k : Nat}, movF m ps k = (0, none) → ∀ p ∈ ps, toE 0 m p = 0 ∧ (mvPt m p).c = 0 := by
  induction ps with
  | nil => intro k _ q hq; cases hq
  | cons p ps ih =>
    intro k h q hq
    unfold movF at h
    by_cases h0 : toE 0 m p = 0 ∧ (mvPt m p).c = 0
    · rw [if_pos h0] at h
      rcases List.mem_cons.1 hq with rfl | hq
      · exact h0
      · exact ih h q hq
    · rw [if_neg h0] at h; cases h
theorem movF_ok {m : Mv} {ps : List Pt} (h : ∀ p ∈ ps, toE 0 m p = 0 ∧ (mvPt m p).c = 0) : ∀ k, movF m ps k = (0, none) := by
  induction ps with
  | nil => intro k; rfl
  | cons p ps ih =>
    intro k
    unfold movF
    rw [if_pos (h p (by simp))]
    exact ih (fun a ha => h a (by simp [ha])) _
def movC (m : Mv) (ps : List Pt) : Nat × Option Nat := if m.c = (0, none) then (if shC ps = (0, none) then movF m ps 0 else shC ps) else m.c
def movL (m : Mv) (ps : List Pt) : List Pt := if movC m ps = (0, none) then ps.map (mvPt m) else []
/-- By whole steps. -/
theorem mv_step {x y : Int} {p : Pt} (hp : PtOk p) (hx : -1000 ≤ x ∧ x ≤ 1000) (hy : -1000 ≤ y ∧ y ≤ 1000) : mvPt (stepM x y) p = shPt x y p ∧ toE 0 (stepM x y) p = 0 := by
  obtain ⟨h1, h2, h3⟩ := step_to hp hx hy
  refine ⟨?_, h3⟩
  unfold mvPt
  rw [h1, h2]
end Lead

/-
  Plain: right fractions as rational numbers; moves of the plane by their six numbers.
-/
namespace Lead
open Go Go.RowKit

theorem opK_le (n d n' d' x y : Int) : opC n d n' d' x y ≤ 11 := by
  rcases opC_cases n d n' d' x y with ⟨_, h⟩ | ⟨_, h⟩
  · rw [h]
    have c1 : ∀ n d, chk n d ≤ 11 := fun n d => by
      rcases chk_cases n d with ⟨_, h⟩ | ⟨_, _, h⟩ | ⟨_, _, _, h⟩ | ⟨_, _, _, _, h⟩ | ⟨_, _, _, _, h⟩ <;> omega
    unfold bothC; split
    · exact c1 _ _
    · exact c1 _ _
  · rw [h]
    rcases lowC_cases x y with ⟨_, h⟩ | ⟨_, _, h⟩ | ⟨_, _, h⟩ <;> omega
/-- The number that a fraction is. -/
def Fr.v (a : Fr) : Rat := Rat.divInt a.n a.d
theorem v_eq {n d : Int} {a : Fr} (hd : d ≠ 0) (ha : a.d ≠ 0) (h : n * a.d = a.n * d) : Rat.divInt n d = a.v := (Rat.divInt_eq_divInt_iff hd ha).2 h
theorem v_inj {a b : Fr} (ha : a.R) (hb : b.R) (h : a.v = b.v) : a = b := by
  have a0 := ha.d0
  have b0 := hb.d0
  have e := (Rat.divInt_eq_divInt_iff (by omega) (by omega)).1 h
  obtain ⟨h1, h2⟩ := right_one ha.co ha.d0 hb.co hb.d0 e
  cases a; cases b; simp_all
theorem low_v {n d : Int} (hd : d ≠ 0) : Fr.v ⟨lowN n d, lowD n d⟩ = Rat.divInt n d := by
  obtain ⟨e1, e2, e3⟩ := low_any (n := n) hd
  exact (Rat.divInt_eq_divInt_iff (by show lowD n d ≠ 0; omega) hd).2 e1
theorem mul_v {a b : Fr} (ha : a.R) (hb : b.R) : (a.mul b).v = a.v * b.v := by
  have a0 := ha.d0
  have b0 := hb.d0
  have hd := addD_pos (a := a) (b := b) a0 b0
  unfold Fr.mul
  rw [low_v (by omega)]
  unfold Fr.v mulN addD
  rw [Rat.divInt_mul_divInt]
theorem add_v {a b : Fr} (ha : a.R) (hb : b.R) : (a.add b).v = a.v + b.v := by
  have a0 := ha.d0
  have b0 := hb.d0
  have hd := addD_pos (a := a) (b := b) a0 b0
  unfold Fr.add
  rw [low_v (by omega)]
  unfold Fr.v addN addD
  rw [Rat.divInt_add_divInt _ _ (by omega) (by omega)]
theorem sub_v {a b : Fr} (ha : a.R) (hb : b.R) : (a.sub b).v = a.v - b.v := by
  have a0 := ha.d0
  have b0 := hb.d0
  have hd := addD_pos (a := a) (b := b) a0 b0
  unfold Fr.sub
  rw [low_v (by omega)]
  unfold Fr.v subN addD
  rw [Rat.divInt_sub_divInt _ _ (by omega) (by omega)]
theorem v_zero {a : Fr} (ha : a.R) : a.v = 0 ↔ a.n = 0 := by
  have a0 := ha.d0
  unfold Fr.v
  rw [← Rat.zero_divInt 1, Rat.divInt_eq_divInt_iff (by omega) (by decide)]
  constructor <;> intro h <;> omega
theorem div_v {a b : Fr} (ha : a.R) (hb : b.R) (h0 : b.n ≠ 0) : (a.div b).v = a.v / b.v := by
  have a0 := ha.d0
  have b0 := hb.d0
  have hd : divD a b ≠ 0 := by unfold divD; exact Int.mul_ne_zero (by omega) h0
  unfold Fr.div
  rw [low_v hd]
  unfold Fr.v divN divD
  rw [Rat.div_def, Rat.inv_divInt, Rat.divInt_mul_divInt]
theorem w_v (n : Int) : (Fr.w n).v = (n : Rat) := by
  show Rat.divInt n 1 = _
  rw [Rat.divInt_eq_div]
  show (n : Rat) / 1 = n
  grind
def Fr.neg (a : Fr) : Fr := ⟨-a.n, a.d⟩
theorem neg_R {a : Fr} (ha : a.R) : a.neg.R := by
  have h1 := ha.n0
  have h2 := ha.n1
  refine ⟨?_, ?_, ha.d0, ha.d1, ?_⟩
  · show _ ≤ -a.n; omega
  · show -a.n ≤ _; omega
  · show Int.gcd (-a.n) a.d = 1
    rw [Int.neg_gcd]; exact ha.gcd
theorem neg_v (a : Fr) : a.neg.v = -a.v := by unfold Fr.v Fr.neg; rw [Rat.neg_divInt]

/-- An act that brings no error had none before it. -/
theorem dE_zero {e K : Nat} (h : dE e K = 0) : e = 0 ∧ K = 0 := by
  unfold dE at h
  by_cases he : e = 0
  · rw [if_pos he] at h; exact ⟨he, h⟩
  · rw [if_neg he] at h; exact absurd h he
theorem dV_zero {e K : Nat} {x : Fr} (he : e = 0) (hK : K = 0) : dV e K x = x := if_pos ⟨he, hK⟩
/-- a times b, and c times d: what it is where no error comes. -/
theorem of_val {e : Nat} {a b c d : Fr} (ra : a.R) (rb : b.R) (rc : c.R) (rd : d.R) (h : ofE e a b c d = 0) :
    e = 0 ∧ (ofV e a b c d).R ∧ (ofV e a b c d).v = a.v * b.v + c.v * d.v ∧ a.mulK b = 0 ∧ c.mulK d = 0 ∧ (a.mul b).addK (c.mul d) = 0 ∧ ofV e a b c d = (a.mul b).add (c.mul d) := by
  obtain ⟨h2, h3⟩ := dE_zero h
  obtain ⟨h1, k2⟩ := dE_zero h2
  obtain ⟨h0, k1⟩ := dE_zero h1
  have eX : ofX e a b = a.mul b := dV_zero h0 k1
  have eY : ofY e a b c d = c.mul d := dV_zero h1 k2
  have eV : ofV e a b c d = (ofX e a b).add (ofY e a b c d) := dV_zero h2 h3
  rw [eX, eY] at eV h3
  rw [eV]
  exact ⟨h0, addK_R h3, by rw [add_v (mulK_R k1) (mulK_R k2), mul_v ra rb, mul_v rc rd], k1, k2, h3, rfl⟩
theorem of_zero {a b c d : Fr} (k1 : a.mulK b = 0) (k2 : c.mulK d = 0) (k3 : (a.mul b).addK (c.mul d) = 0) : ofE 0 a b c d = 0 := (of_ok ⟨rfl, k1⟩ ⟨rfl, k2⟩ ⟨rfl, k3⟩).2
theorem dot_val {e : Nat} {a b c d f : Fr} (ra : a.R) (rb : b.R) (rc : c.R) (rd : d.R) (rf : f.R) (h : dotE e a b c d f = 0) :
    e = 0 ∧ (dotV e a b c d f).R ∧ (dotV e a b c d f).v = a.v * b.v + c.v * d.v + f.v ∧ ofE e a b c d = 0 ∧ (ofV e a b c d).addK f = 0 ∧ dotV e a b c d f = (ofV e a b c d).add f := by
  obtain ⟨h1, k⟩ := dE_zero h
  obtain ⟨h0, r, v, _⟩ := of_val ra rb rc rd h1
  have eV : dotV e a b c d f = (ofV e a b c d).add f := dV_zero h1 k
  exact ⟨h0, by rw [eV]; exact addK_R k, by rw [eV, add_v r rf, v], h1, k, eV⟩
theorem dotE_0 {e : Nat} {a b c d f : Fr} (h : ofE e a b c d = 0) (k : (ofV e a b c d).addK f = 0) : dotE e a b c d f = 0 := by
  unfold dotE; rw [h, dE_z k]

structure Pt.R (p : Pt) : Prop where
  x : p.X.R
  y : p.Y.R
theorem pt_ext {p q : Pt} (hx : p.X = q.X) (hy : p.Y = q.Y) : p = q := by
  have h1 := Fr.mk.inj hx
  have h2 := Fr.mk.inj hy
  cases p; cases q; simp_all
theorem to_val {e : Nat} {m : Mv} {p : Pt} (hm : m.R) (hp : p.R) (h : toE e m p = 0) :
    e = 0 ∧ (toX e m p).R ∧ (toX e m p).v = m.A.v * p.X.v + m.C.v * p.Y.v + m.E.v ∧ (toY e m p).R ∧ (toY e m p).v = m.B.v * p.X.v + m.D.v * p.Y.v + m.F.v := by
  have h' : dotE (toE1 e m p) m.B p.X m.D p.Y m.F = 0 := h
  have F2 := dot_val (e := toE1 e m p) hm.B hp.x hm.D hp.y hm.F h'
  have h1 : dotE e m.A p.X m.C p.Y m.E = 0 := F2.1
  have F1 := dot_val (e := e) hm.A hp.x hm.C hp.y hm.E h1
  have a1 : (toX e m p).R := F1.2.1
  have a2 : (toX e m p).v = m.A.v * p.X.v + m.C.v * p.Y.v + m.E.v := F1.2.2.1
  have a3 : (toY e m p).R := F2.2.1
  have a4 : (toY e m p).v = m.B.v * p.X.v + m.D.v * p.Y.v + m.F.v := F2.2.2.1
  exact ⟨F1.1, a1, a2, a3, a4⟩
theorem fr_eta (a : Fr) : Fr.mk a.n a.d = a := rfl
def ptOf (x y : Fr) : Pt := ⟨x.n, x.d, y.n, y.d⟩
theorem ptOf_X (x y : Fr) : (ptOf x y).X = x := rfl
theorem ptOf_Y (x y : Fr) : (ptOf x y).Y = y := rfl
theorem mvPt_of (m : Mv) (p : Pt) : mvPt m p = ptOf (toX 0 m p) (toY 0 m p) := rfl
theorem mvPt_X (m : Mv) (p : Pt) : (mvPt m p).X = toX 0 m p := by rw [mvPt_of, ptOf_X]
theorem mvPt_Y (m : Mv) (p : Pt) : (mvPt m p).Y = toY 0 m p := by rw [mvPt_of, ptOf_Y]
theorem mvPt_val {m : Mv} {p : Pt} (hm : m.R) (hp : p.R) (h : toE 0 m p = 0) :
    (mvPt m p).R ∧ (mvPt m p).X.v = m.A.v * p.X.v + m.C.v * p.Y.v + m.E.v ∧ (mvPt m p).Y.v = m.B.v * p.X.v + m.D.v * p.Y.v + m.F.v := by
  obtain ⟨_, r1, v1, r2, v2⟩ := to_val hm hp h
  rw [mvPt_X, mvPt_Y]
  exact ⟨⟨by rw [mvPt_X]; exact r1, by rw [mvPt_Y]; exact r2⟩, v1, v2⟩
theorem at_ok {m : Mv} {p : Pt} (h : atC m p = (0, none)) : m.R ∧ p.R ∧ toE 0 m p = 0 ∧ atV m p = mvPt m p := by
  rcases at_cases m p with ⟨h1, h2⟩ | ⟨_, h1, h2⟩ | ⟨_, _, h1, h2⟩ | ⟨_, _, _, _, h2⟩ | ⟨h1, h2, h3, h4, _⟩
  · rw [h2] at h; rw [h] at h1; exact absurd rfl h1
  · rw [h2] at h; exact absurd (congrArg Prod.fst h) h1
  · rw [h2] at h; exact absurd (congrArg Prod.fst h) h1
  · rw [h2] at h; exact absurd (congrArg Prod.fst h) (by decide)
  · exact ⟨Mv.c_0 h1, ⟨chk_0 h2, chk_0 h3⟩, h4, atV_0 h⟩

/-! One move behind the other. -/
def thA (m n : Mv) : Nat := ofE 0 n.A m.A n.C m.B
def thB (m n : Mv) : Nat := ofE (thA m n) n.B m.A n.D m.B
def thC (m n : Mv) : Nat := ofE (thB m n) n.A m.C n.C m.D
def thD (m n : Mv) : Nat := ofE (thC m n) n.B m.C n.D m.D
def thP (m : Mv) : Pt := ⟨m.E.n, m.E.d, m.F.n, m.F.d⟩
def thE (m n : Mv) : Nat := toE (thD m n) n (thP m)
def thV (m n : Mv) : Mv := ⟨ofV 0 n.A m.A n.C m.B, ofV (thA m n) n.B m.A n.D m.B, ofV (thB m n) n.A m.C n.C m.D, ofV (thC m n) n.B m.C n.D m.D, toX (thD m n) n (thP m), toY (thD m n) n (thP m)⟩
def zMv : Mv := ⟨⟨0, 0⟩, ⟨0, 0⟩, ⟨0, 0⟩, ⟨0, 0⟩, ⟨0, 0⟩, ⟨0, 0⟩⟩
def thenC (m n : Mv) : Nat × Option Nat := if m.c = (0, none) then (if n.c = (0, none) then (if thE m n = 0 then (0, none) else (2, none)) else n.c) else m.c
def thenV (m n : Mv) : Mv := if thenC m n = (0, none) then thV m n else zMv
theorem thP_X (m : Mv) : (thP m).X = m.E := fr_eta _
theorem thP_Y (m : Mv) : (thP m).Y = m.F := fr_eta _
structure Mv.Is (m : Mv) (a b c d e f : Rat) : Prop where
  r : m.R
  a : m.A.v = a
  b : m.B.v = b
  c : m.C.v = c
  d : m.D.v = d
  e : m.E.v = e
  f : m.F.v = f
theorem Mv.one_of {m n : Mv} {a b c d e f : Rat} (h : m.Is a b c d e f) (k : n.Is a b c d e f) : m = n := by
  have h1 := v_inj h.r.A k.r.A (h.a.trans k.a.symm)
  have h2 := v_inj h.r.B k.r.B (h.b.trans k.b.symm)
  have h3 := v_inj h.r.C k.r.C (h.c.trans k.c.symm)
  have h4 := v_inj h.r.D k.r.D (h.d.trans k.d.symm)
  have h5 := v_inj h.r.E k.r.E (h.e.trans k.e.symm)
  have h6 := v_inj h.r.F k.r.F (h.f.trans k.f.symm)
  cases m; cases n; simp_all
theorem is_mk {A B C D E F : Fr} {a b c d e f : Rat} (h1 : A.R) (h2 : B.R) (h3 : C.R) (h4 : D.R) (h5 : E.R) (h6 : F.R) (k1 : A.v = a) (k2 : B.v = b) (k3 : C.v = c) (k4 : D.v = d) (k5 : E.v = e) (k6 : F.v = f) : (Mv.mk A B C D E F).Is a b c d e f :=
  ⟨⟨h1, h2, h3, h4, h5, h6⟩, k1, k2, k3, k4, k5, k6⟩
theorem then_val {m n : Mv} (hm : m.R) (hn : n.R) (h : thE m n = 0) :
    (thV m n).Is (n.A.v * m.A.v + n.C.v * m.B.v) (n.B.v * m.A.v + n.D.v * m.B.v) (n.A.v * m.C.v + n.C.v * m.D.v) (n.B.v * m.C.v + n.D.v * m.D.v)
      (n.A.v * m.E.v + n.C.v * m.F.v + n.E.v) (n.B.v * m.E.v + n.D.v * m.F.v + n.F.v) := by
  have hp : (thP m).R := ⟨by rw [thP_X]; exact hm.E, by rw [thP_Y]; exact hm.F⟩
  have h' : toE (thD m n) n (thP m) = 0 := h
  have T := to_val (e := thD m n) hn hp h'
  rw [thP_X, thP_Y] at T
  have hD : ofE (thC m n) n.B m.C n.D m.D = 0 := T.1
  have D := of_val (e := thC m n) hn.B hm.C hn.D hm.D hD
  have hC : ofE (thB m n) n.A m.C n.C m.D = 0 := D.1
  have C := of_val (e := thB m n) hn.A hm.C hn.C hm.D hC
  have hB : ofE (thA m n) n.B m.A n.D m.B = 0 := C.1
  have B := of_val (e := thA m n) hn.B hm.A hn.D hm.B hB
  have hA : ofE 0 n.A m.A n.C m.B = 0 := B.1
  have A := of_val (e := 0) hn.A hm.A hn.C hm.B hA
  exact is_mk A.2.1 B.2.1 C.2.1 D.2.1 T.2.1 T.2.2.2.1 A.2.2.1 B.2.2.1 C.2.2.1 D.2.2.1 T.2.2.1 T.2.2.2.2
theorem thenC_cases (m n : Mv) : (m.c.1 ≠ 0 ∧ thenC m n = m.c) ∨ (m.c = (0, none) ∧ n.c.1 ≠ 0 ∧ thenC m n = n.c) ∨ (m.c = (0, none) ∧ n.c = (0, none) ∧ thE m n ≠ 0 ∧ thenC m n = (2, none)) ∨
    (m.c = (0, none) ∧ n.c = (0, none) ∧ thE m n = 0 ∧ thenC m n = (0, none)) := by
  unfold thenC
  rcases firstF_some (l := m.l) (k := 0) with h | h
  · have h' : m.c = (0, none) := h
    right
    rw [if_pos h']
    rcases firstF_some (l := n.l) (k := 0) with k | k
    · have k' : n.c = (0, none) := k
      right
      rw [if_pos k']
      by_cases h4 : thE m n = 0
      · right; exact ⟨h', k', h4, if_pos h4⟩
      · left; exact ⟨h', k', h4, if_neg h4⟩
    · have k' : n.c.1 ≠ 0 := k
      left
      rw [if_neg (fun e => k' (by rw [e]))]
      exact ⟨h', k', rfl⟩
  · have h' : m.c.1 ≠ 0 := h
    left
    rw [if_neg (fun e => h' (by rw [e]))]
    exact ⟨h', rfl⟩
theorem then_ok {m n : Mv} (h : thenC m n = (0, none)) : m.R ∧ n.R ∧ thE m n = 0 ∧ thenV m n = thV m n := by
  rcases thenC_cases m n with ⟨h1, h2⟩ | ⟨_, h1, h2⟩ | ⟨_, _, _, h2⟩ | ⟨h1, h2, h3, _⟩
  · rw [h2] at h; rw [h] at h1; exact absurd rfl h1
  · rw [h2] at h; rw [h] at h1; exact absurd rfl h1
  · rw [h2] at h; exact absurd (congrArg Prod.fst h) (by decide)
  · exact ⟨Mv.c_0 h1, Mv.c_0 h2, h3, if_pos h⟩
theorem then_is {m n : Mv} (h : thenC m n = (0, none)) : (thenV m n).Is (n.A.v * m.A.v + n.C.v * m.B.v) (n.B.v * m.A.v + n.D.v * m.B.v) (n.A.v * m.C.v + n.C.v * m.D.v) (n.B.v * m.C.v + n.D.v * m.D.v)
      (n.A.v * m.E.v + n.C.v * m.F.v + n.E.v) (n.B.v * m.E.v + n.D.v * m.F.v + n.F.v) := by
  obtain ⟨h1, h2, h3, h4⟩ := then_ok h
  rw [h4]; exact then_val h1 h2 h3
/-- Where both go. -/
theorem then_goes {m n : Mv} {p : Pt} (h : thenC m n = (0, none)) (h1 : atC m p = (0, none)) (h2 : atC n (atV m p) = (0, none)) (h3 : atC (thenV m n) p = (0, none)) : atV n (atV m p) = atV (thenV m n) p := by
  obtain ⟨_, kp, k1, k2⟩ := at_ok h1
  obtain ⟨hn, kq, l1, l2⟩ := at_ok h2
  obtain ⟨hx, _, n1, n2⟩ := at_ok h3
  obtain ⟨hm, _, _, _⟩ := then_ok h
  have T := then_is h
  obtain ⟨_, a1, a2⟩ := mvPt_val hm kp k1
  rw [l2, n2]
  obtain ⟨r1, b1, b2⟩ := mvPt_val hn kq l1
  obtain ⟨r2, c1, c2⟩ := mvPt_val hx kp n1
  rw [T.a, T.c, T.e] at c1
  rw [T.b, T.d, T.f] at c2
  rw [k2, a1, a2] at b1 b2
  refine pt_ext (v_inj r1.x r2.x ?_) (v_inj r1.y r2.y ?_)
  · rw [k2, c1]; exact b1.trans (by grind)
  · rw [k2, c2]; exact b2.trans (by grind)
/-- Three in a row. -/
theorem then_three {m n o : Mv} (h : thenC m n = (0, none)) (h1 : thenC (thenV m n) o = (0, none)) (h2 : thenC n o = (0, none)) (h3 : thenC m (thenV n o) = (0, none)) : thenV m (thenV n o) = thenV (thenV m n) o := by
  have X := then_is h
  have Y := then_is h1
  have Z := then_is h2
  have U := then_is h3
  rw [X.a, X.b, X.c, X.d, X.e, X.f] at Y
  rw [Z.a, Z.b, Z.c, Z.d, Z.e, Z.f] at U
  refine Mv.one_of U ⟨Y.r, Y.a.trans ?_, Y.b.trans ?_, Y.c.trans ?_, Y.d.trans ?_, Y.e.trans ?_, Y.f.trans ?_⟩ <;> grind
/-- One makes no difference. -/
def oneM : Mv := ⟨Fr.w 1, Fr.w 0, Fr.w 0, Fr.w 1, Fr.w 0, Fr.w 0⟩
theorem oneM_R : oneM.R := ⟨w_R (by omega), w_R (by omega), w_R (by omega), w_R (by omega), w_R (by omega), w_R (by omega)⟩
theorem th_ok {m n o : Mv} (hA : ofV 0 n.A m.A n.C m.B = o.A ∧ ofE 0 n.A m.A n.C m.B = 0) (hB : ofV 0 n.B m.A n.D m.B = o.B ∧ ofE 0 n.B m.A n.D m.B = 0)
    (hC : ofV 0 n.A m.C n.C m.D = o.C ∧ ofE 0 n.A m.C n.C m.D = 0) (hD : ofV 0 n.B m.C n.D m.D = o.D ∧ ofE 0 n.B m.C n.D m.D = 0)
    (hE : dotV 0 n.A m.E n.C m.F n.E = o.E ∧ dotE 0 n.A m.E n.C m.F n.E = 0) (hF : dotV 0 n.B m.E n.D m.F n.F = o.F ∧ dotE 0 n.B m.E n.D m.F n.F = 0) : thV m n = o ∧ thE m n = 0 := by
  have a0 : thA m n = 0 := hA.2
  have b0 : thB m n = 0 := by unfold thB; rw [a0]; exact hB.2
  have c0 : thC m n = 0 := by unfold thC; rw [b0]; exact hC.2
  have d0 : thD m n = 0 := by unfold thD; rw [c0]; exact hD.2
  have e0 : toE1 0 n (thP m) = 0 := hE.2
  have eX : toX 0 n (thP m) = o.E := hE.1
  have eY : toY 0 n (thP m) = o.F := by unfold toY; rw [e0]; exact hF.1
  have eE : toE 0 n (thP m) = 0 := by unfold toE; rw [e0]; exact hF.2
  refine ⟨?_, by unfold thE; rw [d0]; exact eE⟩
  unfold thV
  rw [a0, b0, c0, d0, eX, eY, hA.1, hB.1, hC.1, hD.1]
theorem thenC_0 {m n : Mv} (hm : m.R) (hn : n.R) (h : thE m n = 0) : thenC m n = (0, none) ∧ thenV m n = thV m n := by
  have : thenC m n = (0, none) := by unfold thenC; rw [if_pos hm.c, if_pos hn.c, if_pos h]
  exact ⟨this, if_pos this⟩
theorem w00 : (Fr.w 0).add (Fr.w 0) = Fr.w 0 ∧ (Fr.w 0).addK (Fr.w 0) = 0 := add_w0 (w_R (by omega))
theorem then_one {m : Mv} (h : m.R) : thenC m oneM = (0, none) ∧ thenV m oneM = m := by
  obtain ⟨h1, h2⟩ := th_ok (m := m) (n := oneM) (o := m) (of_ok (w1_mul h.A) (w0_mul h.B) (add_w0 h.A)) (of_ok (w0_mul h.A) (w1_mul h.B) (w0_add h.B)) (of_ok (w1_mul h.C) (w0_mul h.D) (add_w0 h.C)) (of_ok (w0_mul h.C) (w1_mul h.D) (w0_add h.D))
    (dot_ok (w1_mul h.E) (w0_mul h.F) (add_w0 h.E) (add_w0 h.E)) (dot_ok (w0_mul h.E) (w1_mul h.F) (w0_add h.F) (add_w0 h.F))
  obtain ⟨k1, k2⟩ := thenC_0 h oneM_R h2
  exact ⟨k1, k2.trans h1⟩
theorem one_then {m : Mv} (h : m.R) : thenC oneM m = (0, none) ∧ thenV oneM m = m := by
  obtain ⟨h1, h2⟩ := th_ok (m := oneM) (n := m) (o := m) (of_ok (mul_w1 h.A) (mul_w0 h.C) (add_w0 h.A)) (of_ok (mul_w1 h.B) (mul_w0 h.D) (add_w0 h.B)) (of_ok (mul_w0 h.A) (mul_w1 h.C) (w0_add h.C)) (of_ok (mul_w0 h.B) (mul_w1 h.D) (w0_add h.D))
    (dot_ok (mul_w0 h.A) (mul_w0 h.C) w00 (w0_add h.E)) (dot_ok (mul_w0 h.B) (mul_w0 h.D) w00 (w0_add h.F))
  obtain ⟨k1, k2⟩ := thenC_0 oneM_R h h2
  exact ⟨k1, k2.trans h1⟩

/-! What takes a move back. -/
def bk1 (m : Mv) : Nat := dE 0 (m.A.mulK m.D)
def bkx (m : Mv) : Fr := dV 0 (m.A.mulK m.D) (m.A.mul m.D)
def bk2 (m : Mv) : Nat := dE (bk1 m) (m.B.mulK m.C)
def bky (m : Mv) : Fr := dV (bk1 m) (m.B.mulK m.C) (m.B.mul m.C)
def bk3 (m : Mv) : Nat := dE (bk2 m) ((bkx m).subK (bky m))
def bkd (m : Mv) : Fr := dV (bk2 m) ((bkx m).subK (bky m)) ((bkx m).sub (bky m))
def bk4 (m : Mv) : Nat := dE 0 (m.D.divK (bkd m))
def bkA (m : Mv) : Fr := dV 0 (m.D.divK (bkd m)) (m.D.div (bkd m))
def bk5 (m : Mv) : Nat := dE (bk4 m) (m.B.neg.divK (bkd m))
def bkB (m : Mv) : Fr := dV (bk4 m) (m.B.neg.divK (bkd m)) (m.B.neg.div (bkd m))
def bk6 (m : Mv) : Nat := dE (bk5 m) (m.C.neg.divK (bkd m))
def bkC (m : Mv) : Fr := dV (bk5 m) (m.C.neg.divK (bkd m)) (m.C.neg.div (bkd m))
def bk7 (m : Mv) : Nat := dE (bk6 m) (m.A.divK (bkd m))
def bkD (m : Mv) : Fr := dV (bk6 m) (m.A.divK (bkd m)) (m.A.div (bkd m))
def bk8 (m : Mv) : Nat := ofE (bk7 m) (bkA m) m.E (bkC m) m.F
def bkE (m : Mv) : Fr := ofV (bk7 m) (bkA m) m.E (bkC m) m.F
def bk9 (m : Mv) : Nat := ofE (bk8 m) (bkB m) m.E (bkD m) m.F
def bkF (m : Mv) : Fr := ofV (bk8 m) (bkB m) m.E (bkD m) m.F
def backC (m : Mv) : Nat × Option Nat := if m.c = (0, none) then (if bk3 m ≠ 0 then (2, none) else if (bkd m).n = 0 then (11, none) else if bk9 m ≠ 0 then (2, none) else (0, none)) else m.c
def backV (m : Mv) : Mv := if backC m = (0, none) then ⟨bkA m, bkB m, bkC m, bkD m, (bkE m).neg, (bkF m).neg⟩ else zMv
theorem backC_cases (m : Mv) : (m.c.1 ≠ 0 ∧ backC m = m.c) ∨ (m.c = (0, none) ∧ bk3 m ≠ 0 ∧ backC m = (2, none)) ∨ (m.c = (0, none) ∧ bk3 m = 0 ∧ (bkd m).n = 0 ∧ backC m = (11, none)) ∨
    (m.c = (0, none) ∧ bk3 m = 0 ∧ (bkd m).n ≠ 0 ∧ bk9 m ≠ 0 ∧ backC m = (2, none)) ∨ (m.c = (0, none) ∧ bk3 m = 0 ∧ (bkd m).n ≠ 0 ∧ bk9 m = 0 ∧ backC m = (0, none)) := by
  unfold backC
  rcases firstF_some (l := m.l) (k := 0) with h | h
  · have h' : m.c = (0, none) := h
    right
    rw [if_pos h']
    by_cases h1 : bk3 m = 0
    · rw [if_neg (fun e => e h1)]
      by_cases h2 : (bkd m).n = 0
      · right; left; exact ⟨h', h1, h2, if_pos h2⟩
      · rw [if_neg h2]
        by_cases h3 : bk9 m = 0
        · right; right; right; exact ⟨h', h1, h2, h3, if_neg (fun e => e h3)⟩
        · right; right; left; exact ⟨h', h1, h2, h3, if_pos h3⟩
    · left; exact ⟨h', h1, if_pos h1⟩
  · have h' : m.c.1 ≠ 0 := h
    left
    rw [if_neg (fun e => h' (by rw [e]))]
    exact ⟨h', rfl⟩
theorem bk3_zero {m : Mv} (h : bk3 m = 0) : m.A.mulK m.D = 0 ∧ m.B.mulK m.C = 0 ∧ (m.A.mul m.D).subK (m.B.mul m.C) = 0 ∧ bkd m = (m.A.mul m.D).sub (m.B.mul m.C) := by
  obtain ⟨h2, h3⟩ := dE_zero h
  obtain ⟨h1, k2⟩ := dE_zero h2
  obtain ⟨_, k1⟩ := dE_zero h1
  have eX : bkx m = m.A.mul m.D := dV_zero rfl k1
  have eY : bky m = m.B.mul m.C := dV_zero h1 k2
  have eD : bkd m = (bkx m).sub (bky m) := dV_zero h2 h3
  rw [eX, eY] at eD h3
  exact ⟨k1, k2, h3, eD⟩
theorem bkd_val {m : Mv} (hm : m.R) (h : bk3 m = 0) : (bkd m).R ∧ (bkd m).v = m.A.v * m.D.v - m.B.v * m.C.v := by
  obtain ⟨h1, h2, h3, h4⟩ := bk3_zero h
  rw [h4]
  exact ⟨subK_R h3, by rw [sub_v (mulK_R h1) (mulK_R h2), mul_v hm.A hm.D, mul_v hm.B hm.C]⟩
theorem back_is {m : Mv} (h : backC m = (0, none)) : m.R ∧ ∃ d : Rat, d ≠ 0 ∧ d = m.A.v * m.D.v - m.B.v * m.C.v ∧
    (backV m).Is (m.D.v / d) (-m.B.v / d) (-m.C.v / d) (m.A.v / d) (-(m.D.v / d * m.E.v + -m.C.v / d * m.F.v)) (-(-m.B.v / d * m.E.v + m.A.v / d * m.F.v)) := by
  rcases backC_cases m with ⟨h1, h2⟩ | ⟨_, _, h2⟩ | ⟨_, _, _, h2⟩ | ⟨_, _, _, _, h2⟩ | ⟨h1, h2, h3, h4, _⟩
  · rw [h2] at h; rw [h] at h1; exact absurd rfl h1
  · rw [h2] at h; exact absurd (congrArg Prod.fst h) (by decide)
  · rw [h2] at h; exact absurd (congrArg Prod.fst h) (by decide)
  · rw [h2] at h; exact absurd (congrArg Prod.fst h) (by decide)
  · have hm := Mv.c_0 h1
    have rd := bkd_val hm h2
    have e : backV m = ⟨bkA m, bkB m, bkC m, bkD m, (bkE m).neg, (bkF m).neg⟩ := if_pos h
    have n0 : (bkd m).v ≠ 0 := fun e => h3 ((v_zero rd.1).1 e)
    have F1 : bk8 m = 0 := by
      have := h4; unfold bk9 at this
      obtain ⟨q, _⟩ := dE_zero this
      obtain ⟨q, _⟩ := dE_zero q
      exact (dE_zero q).1
    have E1 : bk7 m = 0 := by
      have := F1; unfold bk8 at this
      obtain ⟨q, _⟩ := dE_zero this
      obtain ⟨q, _⟩ := dE_zero q
      exact (dE_zero q).1
    obtain ⟨D1, kD⟩ := dE_zero E1
    obtain ⟨C1, kC⟩ := dE_zero D1
    obtain ⟨B1, kB⟩ := dE_zero C1
    obtain ⟨_, kA⟩ := dE_zero B1
    have eA : bkA m = m.D.div (bkd m) := dV_zero rfl kA
    have eB : bkB m = m.B.neg.div (bkd m) := dV_zero B1 kB
    have eC : bkC m = m.C.neg.div (bkd m) := dV_zero C1 kC
    have eD : bkD m = m.A.div (bkd m) := dV_zero D1 kD
    have rA : (bkA m).R := by rw [eA]; exact divK_R kA
    have rB : (bkB m).R := by rw [eB]; exact divK_R kB
    have rC : (bkC m).R := by rw [eC]; exact divK_R kC
    have rD : (bkD m).R := by rw [eD]; exact divK_R kD
    have vA : (bkA m).v = m.D.v / (bkd m).v := by rw [eA, div_v hm.D rd.1 h3]
    have vB : (bkB m).v = -m.B.v / (bkd m).v := by rw [eB, div_v (neg_R hm.B) rd.1 h3, neg_v]
    have vC : (bkC m).v = -m.C.v / (bkd m).v := by rw [eC, div_v (neg_R hm.C) rd.1 h3, neg_v]
    have vD : (bkD m).v = m.A.v / (bkd m).v := by rw [eD, div_v hm.A rd.1 h3]
    obtain ⟨_, rF, vF, _⟩ := of_val rB hm.E rD hm.F h4
    obtain ⟨_, rE, vE, _⟩ := of_val rA hm.E rC hm.F F1
    refine ⟨hm, (bkd m).v, n0, rd.2, ?_⟩
    rw [e]
    refine ⟨⟨rA, rB, rC, rD, neg_R rE, neg_R rF⟩, vA, vB, vC, vD, ?_, ?_⟩
    · show (bkE m).neg.v = _
      rw [neg_v, bkE, vE, vA, vC]
    · show (bkF m).neg.v = _
      rw [neg_v, bkF, vF, vB, vD]
theorem oneM_is : oneM.Is 1 0 0 1 0 0 := ⟨oneM_R, w_v 1, w_v 0, w_v 0, w_v 1, w_v 0, w_v 0⟩
/-- Moved, and moved back: One. -/
theorem back_then {m : Mv} (h : backC m = (0, none)) (h1 : thenC m (backV m) = (0, none)) : thenV m (backV m) = oneM := by
  obtain ⟨hm, d, hd, he, B⟩ := back_is h
  have T := then_is h1
  rw [B.a, B.b, B.c, B.d, B.e, B.f] at T
  generalize m.A.v = a at *
  generalize m.B.v = b at *
  generalize m.C.v = c at *
  generalize m.D.v = e at *
  generalize m.E.v = f at *
  generalize m.F.v = g at *
  refine Mv.one_of ⟨T.r, T.a.trans ?_, T.b.trans ?_, T.c.trans ?_, T.d.trans ?_, T.e.trans ?_, T.f.trans ?_⟩ oneM_is <;> grind
/-- .. and so is a point. -/
theorem back_at {m : Mv} {p : Pt} (h : backC m = (0, none)) (h1 : atC m p = (0, none)) (h2 : atC (backV m) (atV m p) = (0, none)) : atV (backV m) (atV m p) = p := by
  obtain ⟨hm, d, hd, he, B⟩ := back_is h
  obtain ⟨_, kp, k1, k2⟩ := at_ok h1
  obtain ⟨hn, kq, l1, l2⟩ := at_ok h2
  obtain ⟨_, a1, a2⟩ := mvPt_val hm kp k1
  rw [l2]
  obtain ⟨r1, b1, b2⟩ := mvPt_val hn kq l1
  rw [B.a, B.c, B.e] at b1
  rw [B.b, B.d, B.f] at b2
  rw [k2, a1, a2] at b1 b2
  refine pt_ext (v_inj r1.x kp.x ?_) (v_inj r1.y kp.y ?_)
  · rw [k2]
    refine b1.trans ?_
    generalize p.X.v = x at *
    generalize p.Y.v = y at *
    generalize m.A.v = a at *
    generalize m.B.v = b at *
    generalize m.C.v = c at *
    generalize m.D.v = e at *
    clear b1 b2 a1 a2 B
    grind
  · rw [k2]
    refine b2.trans ?_
    generalize p.X.v = x at *
    generalize p.Y.v = y at *
    generalize m.A.v = a at *
    generalize m.B.v = b at *
    generalize m.C.v = c at *
    generalize m.D.v = e at *
    clear b1 b2 a1 a2 B
    grind
end Lead

/-
  Plain: what the statement ShapeMoves asks, of a shape that is moved by whole steps.
-/
namespace Lead
open Go Go.RowKit
theorem movC_of {m : Mv} {ps : List Pt} (hm : m.R) (hs : shC ps = (0, none)) : movC m ps = movF m ps 0 := by
  unfold movC; rw [if_pos hm.c, if_pos hs]
theorem movC_some {m : Mv} {ps : List Pt} (hm : m.R) (hs : shC ps = (0, none)) : movC m ps = (0, none) ∨ ((movC m ps).1 ≠ 0 ∧ movL m ps = []) := by
  have e := movC_of hm hs
  rcases movF_some (m := m) (ps := ps) (k := 0) with h | ⟨h, _⟩
  · exact .inl (e.trans h)
  · refine .inr ⟨by rw [e, h]; decide, if_neg fun k => ?_⟩
    rw [e] at k
    rw [k] at h
    exact absurd h (by decide)
theorem movC_m {m : Mv} {ps : List Pt} (h : m.c.1 ≠ 0) : movC m ps = m.c ∧ movL m ps = [] := by
  have e : movC m ps = m.c := by unfold movC; rw [if_neg (fun k => h (by rw [k]))]
  exact ⟨e, if_neg fun k => h (by rw [← e, k])⟩
theorem movC_s {m : Mv} {ps : List Pt} (h : m.c = (0, none)) (h2 : (shC ps).1 ≠ 0) : movC m ps = shC ps ∧ movL m ps = [] := by
  have e : movC m ps = shC ps := by unfold movC; rw [if_pos h, if_neg (fun k => h2 (by rw [k]))]
  exact ⟨e, if_neg fun k => h2 (by rw [← e, k])⟩
theorem movC_f {m : Mv} {ps : List Pt} (h : m.c = (0, none)) (hs : shC ps = (0, none)) : movC m ps = movF m ps 0 := by
  unfold movC; rw [if_pos h, if_pos hs]
theorem movL_n {m : Mv} {ps : List Pt} {k : Nat} (h : movC m ps = (2, some k)) : movL m ps = [] := if_neg fun e => absurd (h.symm.trans e) (by simp)
theorem movL_0 {m : Mv} {ps : List Pt} (h : movC m ps = (0, none)) : movL m ps = ps.map (mvPt m) := if_pos h
theorem take_map {α β : Type} (f : α → β) {l : List α} {k : Nat} (h : k < l.length) : (l.take (k + 1)).map f = (l.take k).map f ++ [f l[k]] := by
  rw [List.take_succ_eq_append_getElem h, List.map_append]; rfl
theorem mat_pt {m : Mv} {p : Pt} (hm : m.c = (0, none)) (hp : PtOk p) : atC m p = if toE 0 m p = 0 then (0, none) else (2, none) := by
  have hf : firstF [p.X, p.Y] 6 = (0, none) := firstF_ok (fun a ha => by
    simp only [List.mem_cons, List.not_mem_nil, or_false] at ha
    rcases ha with rfl | rfl
    · exact hp.x
    · exact hp.y) 6
  unfold atC; rw [if_pos hm, if_pos hf]
theorem But.belowB {s : Nat} {t : TypeId} {v : Value} {w W W' : World} {B : Nat} (h : But s t v w W) (hB : w.heap.size ≤ B) (hb : Below B W W') : But s t v w W' :=
  ⟨hb.os.trans h.os, hb.tape.trans h.tape, hb.output.trans h.output, Nat.le_trans h.size hb.size, fun k hk hs => (hb.block k (Nat.lt_of_lt_of_le hk hB)).trans (h.block k hk hs), h.lt, (hb.block s (Nat.lt_of_lt_of_le h.lt hB)).trans h.at'⟩
theorem shC_of {ps : List Pt} (h : ∀ q ∈ ps, PtOk q) (hl : ps.length ≤ 30) : shC ps = (0, none) := by
  unfold shC; rw [if_neg (by omega), firstBad_ok h]
/-- A shape that goes well, moved by whole steps. -/
theorem step_shape {x y : Int} {ps : List Pt} (h : ∀ q ∈ ps, PtOk q) (hl : ps.length ≤ 30) (hx : -1000 ≤ x ∧ x ≤ 1000) (hy : -1000 ≤ y ∧ y ≤ 1000) (hc : movC (stepM x y) ps = (0, none)) :
    movL (stepM x y) ps = ps.map (shPt x y) ∧ ∀ q ∈ ps.map (shPt x y), PtOk q := by
  have hm : ps.map (mvPt (stepM x y)) = ps.map (shPt x y) := List.map_congr_left fun q hq => (mv_step (h q hq) hx hy).1
  rw [movC_of (stepM_R hx hy) (shC_of h hl)] at hc
  refine ⟨?_, ?_⟩
  · unfold movL
    rw [movC_of (stepM_R hx hy) (shC_of h hl), if_pos hc, hm]
  · intro q hq
    obtain ⟨a, ha, rfl⟩ := List.mem_map.1 hq
    have := (movF_all hc a ha).2
    rw [(mv_step (h a ha) hx hy).1] at this
    exact pt_ok this
theorem step_at {x y : Int} {p : Pt} (hp : PtOk p) (hx : -1000 ≤ x ∧ x ≤ 1000) (hy : -1000 ≤ y ∧ y ≤ 1000) : atC (stepM x y) p = (0, none) ∧ atV (stepM x y) p = shPt x y p := by
  obtain ⟨h1, h2⟩ := mv_step hp hx hy
  have hf : firstF [p.X, p.Y] 6 = (0, none) := firstF_ok (fun a ha => by
    simp only [List.mem_cons, List.not_mem_nil, or_false] at ha
    rcases ha with rfl | rfl
    · exact hp.x
    · exact hp.y) 6
  have hc : atC (stepM x y) p = (0, none) := by unfold atC; rw [if_pos (stepM_R hx hy).c, if_pos hf, if_pos h2]
  exact ⟨hc, by rw [atV_0 hc, h1]⟩
theorem step_wind {x y : Int} {ps : List Pt} {p : Pt} (h : ∀ q ∈ ps, PtOk q) (hp : PtOk p) (hl : ps.length ≤ 30) (h' : ∀ q ∈ ps.map (shPt x y), PtOk q) (hp' : PtOk (shPt x y p)) :
    crC (ps.map (shPt x y)) (shPt x y p) = (0, none) ∧ (crL (ps.map (shPt x y)) (shPt x y p)).sum = (crL ps p).sum := by
  have k := crC_ok h' hp' (by rw [List.length_map]; exact hl)
  refine ⟨k, ?_⟩
  unfold crL
  rw [if_pos k, if_pos (crC_ok h hp hl), crsTo_shift]
theorem map_back (x y : Int) (ps : List Pt) : (ps.map (shPt x y)).map (shPt (-x) (-y)) = ps := by
  rw [List.map_map]
  exact (List.map_congr_left fun q _ => shPt_back x y q).trans (List.map_id' ps)
/-- .. and moved back. -/
theorem step_home {x y : Int} {ps : List Pt} (h : ∀ q ∈ ps, PtOk q) (hl : ps.length ≤ 30) (hx : -1000 ≤ x ∧ x ≤ 1000) (hy : -1000 ≤ y ∧ y ≤ 1000) (h' : ∀ q ∈ ps.map (shPt x y), PtOk q) :
    movC (stepM (-x) (-y)) (ps.map (shPt x y)) = (0, none) ∧ movL (stepM (-x) (-y)) (ps.map (shPt x y)) = ps := by
  have hx' : -1000 ≤ -x ∧ -x ≤ 1000 := by omega
  have hy' : -1000 ≤ -y ∧ -y ≤ 1000 := by omega
  have hs := shC_of h' (by rw [List.length_map]; exact hl)
  have hc : movC (stepM (-x) (-y)) (ps.map (shPt x y)) = (0, none) := by
    rw [movC_of (stepM_R hx' hy') hs]
    refine movF_ok (fun q hq => ?_) 0
    obtain ⟨h1, h2⟩ := mv_step (h' q hq) hx' hy'
    refine ⟨h2, ?_⟩
    obtain ⟨a, ha, rfl⟩ := List.mem_map.1 hq
    rw [h1, shPt_back]
    exact (h a ha).c0
  refine ⟨hc, ?_⟩
  rw [(step_shape h' (by rw [List.length_map]; exact hl) hx' hy' hc).1, map_back]
/-- The way back of a move by whole steps. -/
theorem step_back {x y : Int} (hx : -1000 ≤ x ∧ x ≤ 1000) (hy : -1000 ≤ y ∧ y ≤ 1000) : backC (stepM x y) = (0, none) ∧ backV (stepM x y) = stepM (-x) (-y) := by
  have r0 : (Fr.w 0).R := w_R (by omega)
  have r1 : (Fr.w 1).R := w_R (by omega)
  have rx := w_R hx
  have ry := w_R hy
  have k1 : bk1 (stepM x y) = 0 := dE_z (w1_mul r1).2
  have ex : bkx (stepM x y) = Fr.w 1 := (dV_z (w1_mul r1).2).trans (w1_mul r1).1
  have k2 : bk2 (stepM x y) = 0 := by unfold bk2; rw [k1]; exact dE_z (w0_mul r0).2
  have ey : bky (stepM x y) = Fr.w 0 := by unfold bky; rw [k1]; exact (dV_z (w0_mul r0).2).trans (w0_mul r0).1
  have hsub : (Fr.w 1).sub (Fr.w 0) = Fr.w 1 ∧ (Fr.w 1).subK (Fr.w 0) = 0 := sub_same r1 r0 r1 (by unfold subN addD Fr.w; simp only; decide)
  have k3 : bk3 (stepM x y) = 0 := by unfold bk3; rw [k2, ex, ey]; exact dE_z hsub.2
  have ed : bkd (stepM x y) = Fr.w 1 := by unfold bkd; rw [k2, ex, ey]; exact (dV_z hsub.2).trans hsub.1
  have d1 : (Fr.w 1).div (Fr.w 1) = Fr.w 1 ∧ (Fr.w 1).divK (Fr.w 1) = 0 := div_same r1 r1 r1 (by decide) (by unfold divN divD Fr.w; simp only; decide)
  have d0 : (Fr.w 0).neg.div (Fr.w 1) = Fr.w 0 ∧ (Fr.w 0).neg.divK (Fr.w 1) = 0 := div_same (neg_R r0) r1 r0 (by decide) (by unfold divN divD Fr.neg Fr.w; simp only; decide)
  have k4 : bk4 (stepM x y) = 0 := by unfold bk4; rw [ed]; exact dE_z d1.2
  have eA : bkA (stepM x y) = Fr.w 1 := by unfold bkA; rw [ed]; exact (dV_z d1.2).trans d1.1
  have k5 : bk5 (stepM x y) = 0 := by unfold bk5; rw [k4, ed]; exact dE_z d0.2
  have eB : bkB (stepM x y) = Fr.w 0 := by unfold bkB; rw [k4, ed]; exact (dV_z d0.2).trans d0.1
  have k6 : bk6 (stepM x y) = 0 := by unfold bk6; rw [k5, ed]; exact dE_z d0.2
  have eC : bkC (stepM x y) = Fr.w 0 := by unfold bkC; rw [k5, ed]; exact (dV_z d0.2).trans d0.1
  have k7 : bk7 (stepM x y) = 0 := by unfold bk7; rw [k6, ed]; exact dE_z d1.2
  have eD : bkD (stepM x y) = Fr.w 1 := by unfold bkD; rw [k6, ed]; exact (dV_z d1.2).trans d1.1
  have oE := of_ok (w1_mul rx) (w0_mul ry) (add_w0 rx)
  have oF := of_ok (w0_mul rx) (w1_mul ry) (w0_add ry)
  have k8 : bk8 (stepM x y) = 0 := by unfold bk8; rw [k7, eA, eC]; exact oE.2
  have eE : bkE (stepM x y) = Fr.w x := by unfold bkE; rw [k7, eA, eC]; exact oE.1
  have k9 : bk9 (stepM x y) = 0 := by unfold bk9; rw [k8, eB, eD]; exact oF.2
  have eF : bkF (stepM x y) = Fr.w y := by unfold bkF; rw [k8, eB, eD]; exact oF.1
  have hc : backC (stepM x y) = (0, none) := by
    unfold backC
    rw [if_pos (stepM_R hx hy).c, if_neg (by rw [k3]; decide), if_neg (by rw [ed]; decide), if_neg (by rw [k9]; decide)]
  refine ⟨hc, ?_⟩
  unfold backV
  rw [if_pos hc, eA, eB, eC, eD, eE, eF]
  rfl
end Lead
