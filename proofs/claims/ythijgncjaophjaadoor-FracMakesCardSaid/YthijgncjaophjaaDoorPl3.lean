/-
  Plain: which edges are crossed.
-/
import Derived.Test.YthijgncjaophjaaDoorPl2
namespace Lead
open Go Go.RowKit

/-- An own row is what it was, behind a call that makes memory alone. -/
theorem own_below {w w' : World} {base : Nat} {e : TypeId} {size : Nat} {v : Value} {n : Nat} {xs : List Value} (h : w.ownsRow base e size v n xs) (hb : Below w.heap.size w w') : w'.ownsRow base e size v n xs := by
  obtain ⟨h1, h2⟩ := h
  refine ⟨h1, ?_⟩
  rcases h2 with h2 | ⟨g, cap, cur, h3, h4, h5, h6⟩
  · exact .inl h2
  · refine .inr ⟨g, cap, cur, h3, h4, ?_, h6⟩
    have hg : g < w.heap.size := by
      rcases Nat.lt_or_ge g w.heap.size with h | h
      · exact h
      · rw [Array.getElem?_eq_none h] at h5; exact absurd h5 (by simp)
    rw [hb.block g hg]; exact h5
theorem own_base {w : World} {base base' : Nat} {e : TypeId} {size : Nat} {v : Value} {n : Nat} {xs : List Value} (h : w.ownsRow base e size v n xs) (hb : base' ≤ base) : w.ownsRow base' e size v n xs := by
  obtain ⟨h1, h2⟩ := h
  refine ⟨h1, ?_⟩
  rcases h2 with h2 | ⟨g, cap, cur, h3, h4, h5⟩
  · exact .inl h2
  · exact .inr ⟨g, cap, cur, h3, by omega, h5⟩
theorem own_drewN {w : World} {base : Nat} {e : TypeId} {size : Nat} {v : Value} {n : Nat} {xs : List Value} {k : Nat} (h : w.ownsRow base e size v n xs) : (w.drewN k).ownsRow base e size v n xs := h

def sideI (a b p : Pt) : Int :=
  (b.xn * a.xd - a.xn * b.xd) * (p.yn * a.yd - a.yn * p.yd) * b.yd * p.xd - (p.xn * a.xd - a.xn * p.xd) * (b.yn * a.yd - a.yn * b.yd) * b.xd * p.yd
def crossPt (a b p : Pt) : Int := crossB (decide (p.yn * a.yd < a.yn * p.yd)) (decide (p.yn * b.yd < b.yn * p.yd)) (sideI a b p)

/-- A point that is right, as package shape asks. -/
structure PtOk (p : Pt) : Prop where
  x : Right p.xn p.xd
  y : Right p.yn p.yd
  xs : p.xd ≤ 20 ∧ p.xn ≤ 1000 * p.xd ∧ -1000 * p.xd ≤ p.xn
  ys : p.yd ≤ 20 ∧ p.yn ≤ 1000 * p.yd ∧ -1000 * p.yd ≤ p.yn
theorem pt_ok {p : Pt} (h : p.c = 0) : PtOk p := by
  rcases ptC_cases p.xn p.xd p.yn p.yd with ⟨h5, hc⟩ | ⟨h5, h6, hc⟩ | ⟨h5, h6, h7, hc⟩ | ⟨h5, h6, h7, h8, hc⟩ | ⟨h5, h6, h7, h8, hc⟩
  · exact absurd (hc.symm.trans h) h5
  · exact absurd (hc.symm.trans h) h6
  · exact absurd (hc.symm.trans h) (by decide)
  · exact absurd (hc.symm.trans h) (by decide)
  · refine ⟨chk_0 h5, chk_0 h6, ?_, ?_⟩
    · unfold shSml at h7; simpa using h7
    · unfold shSml at h8; simpa using h8
theorem PtOk.c0 {p : Pt} (h : PtOk p) : p.c = 0 := by
  have h1 := chk_right h.x
  have h2 := chk_right h.y
  have h3 : shSml p.xn p.xd = true := by unfold shSml; simpa using h.xs
  have h4 : shSml p.yn p.yd = true := by unfold shSml; simpa using h.ys
  unfold Pt.c ptC
  rw [if_neg (by omega), if_neg (by omega), if_pos ⟨h3, h4⟩]
theorem PtOk.I {p : Pt} (h : PtOk p) : p.I := ⟨h.x.ni, h.x.di, h.y.ni, h.y.di⟩
theorem PtOk.b {p : Pt} (h : PtOk p) : (-20000 ≤ p.xn ∧ p.xn ≤ 20000) ∧ (-20 ≤ p.xd ∧ p.xd ≤ 20) ∧ (-20000 ≤ p.yn ∧ p.yn ≤ 20000) ∧ (-20 ≤ p.yd ∧ p.yd ≤ 20) := by
  have h1 := h.xs; have h2 := h.ys; have h3 := h.x.d0; have h4 := h.y.d0
  omega

theorem w60 {x : Int} (h : -1152921504606846976 ≤ x ∧ x ≤ 1152921504606846976) : wrap64 x = x := by
  apply IntWalk.wrap64_in; omega
theorem mb {a b : Int} (A B C : Int) (ha : -A ≤ a ∧ a ≤ A) (hb : -B ≤ b ∧ b ≤ B) (hC : A * B = C) : -C ≤ a * b ∧ a * b ≤ C := by
  have := mul_abs ha hb; rw [hC] at this; exact this

theorem side_wrap {a b p : Pt} (ha : PtOk a) (hb : PtOk b) (hp : PtOk p) :
    wrap64 (wrap64 (wrap64 (wrap64 (wrap64 (wrap64 (b.xn * a.xd) - wrap64 (a.xn * b.xd)) * wrap64 (wrap64 (p.yn * a.yd) - wrap64 (a.yn * p.yd))) * b.yd) * p.xd) - wrap64 (wrap64 (wrap64 (wrap64 (wrap64 (p.xn * a.xd) - wrap64 (a.xn * p.xd)) * wrap64 (wrap64 (b.yn * a.yd) - wrap64 (a.yn * b.yd))) * b.xd) * p.yd)) = sideI a b p := by
  obtain ⟨a1, a2, a3, a4⟩ := ha.b
  obtain ⟨b1, b2, b3, b4⟩ := hb.b
  obtain ⟨p1, p2, p3, p4⟩ := hp.b
  have e1 := mb 20000 20 400000 b1 a2 rfl
  have e2 := mb 20000 20 400000 a1 b2 rfl
  have e3 := mb 20000 20 400000 p3 a4 rfl
  have e4 := mb 20000 20 400000 a3 p4 rfl
  have e5 := mb 20000 20 400000 p1 a2 rfl
  have e6 := mb 20000 20 400000 a1 p2 rfl
  have e7 := mb 20000 20 400000 b3 a4 rfl
  have e8 := mb 20000 20 400000 a3 b4 rfl
  rw [w60 (x := b.xn * a.xd) (by omega), w60 (x := a.xn * b.xd) (by omega), w60 (x := p.yn * a.yd) (by omega), w60 (x := a.yn * p.yd) (by omega), w60 (x := p.xn * a.xd) (by omega), w60 (x := a.xn * p.xd) (by omega), w60 (x := b.yn * a.yd) (by omega), w60 (x := a.yn * b.yd) (by omega)]
  rw [w60 (x := b.xn * a.xd - a.xn * b.xd) (by omega), w60 (x := p.yn * a.yd - a.yn * p.yd) (by omega), w60 (x := p.xn * a.xd - a.xn * p.xd) (by omega), w60 (x := b.yn * a.yd - a.yn * b.yd) (by omega)]
  have f1 := mb (a := b.xn * a.xd - a.xn * b.xd) (b := p.yn * a.yd - a.yn * p.yd) 800000 800000 640000000000 (by omega) (by omega) rfl
  have f2 := mb (a := p.xn * a.xd - a.xn * p.xd) (b := b.yn * a.yd - a.yn * b.yd) 800000 800000 640000000000 (by omega) (by omega) rfl
  rw [w60 (x := (b.xn * a.xd - a.xn * b.xd) * (p.yn * a.yd - a.yn * p.yd)) (by omega), w60 (x := (p.xn * a.xd - a.xn * p.xd) * (b.yn * a.yd - a.yn * b.yd)) (by omega)]
  have g1 := mb 640000000000 20 12800000000000 f1 b4 rfl
  have g2 := mb 640000000000 20 12800000000000 f2 b2 rfl
  rw [w60 (x := (b.xn * a.xd - a.xn * b.xd) * (p.yn * a.yd - a.yn * p.yd) * b.yd) (by omega), w60 (x := (p.xn * a.xd - a.xn * p.xd) * (b.yn * a.yd - a.yn * b.yd) * b.xd) (by omega)]
  have k1 := mb 12800000000000 20 256000000000000 g1 p2 rfl
  have k2 := mb 12800000000000 20 256000000000000 g2 p4 rfl
  rw [w60 (x := (b.xn * a.xd - a.xn * b.xd) * (p.yn * a.yd - a.yn * p.yd) * b.yd * p.xd) (by omega), w60 (x := (p.xn * a.xd - a.xn * p.xd) * (b.yn * a.yd - a.yn * b.yd) * b.xd * p.yd) (by omega)]
  exact w60 (by omega)

theorem less_wrap {a p : Pt} (ha : PtOk a) (hp : PtOk p) : wrap64 (p.yn * a.yd) = p.yn * a.yd ∧ wrap64 (a.yn * p.yd) = a.yn * p.yd := by
  obtain ⟨a1, a2, a3, a4⟩ := ha.b
  obtain ⟨p1, p2, p3, p4⟩ := hp.b
  have e3 := mb 20000 20 400000 p3 a4 rfl
  have e4 := mb 20000 20 400000 a3 p4 rfl
  exact ⟨w60 (by omega), w60 (by omega)⟩

/-- A call that answers a list of numbers in memory of its own, and no error. -/
def RetL (e : TypeId) (l : List Int) (w : World) (en : Ending) (w' : World) : Prop :=
  ∃ v, en = .returned (.tuple #[v, .nilIface]) ∧ w'.ownsRow w.heap.size e 1 v l.length (l.map (Value.int .i64)) ∧ Below w.heap.size w w'

def zpt : Pt := ⟨0, 1, 0, 1⟩
/-- Which edges, of the first k, are crossed: each with its sign. -/
def crsTo (ps : List Pt) (p : Pt) (k : Nat) : List Int :=
  ((List.range k).map fun i => crossPt (ps.getD i zpt) (ps.getD ((i + 1) % ps.length) zpt) p).filter fun c => c != 0
theorem crsTo_succ (ps : List Pt) (p : Pt) (k : Nat) : crsTo ps p (k + 1) = crsTo ps p k ++ (if crossPt (ps.getD k zpt) (ps.getD ((k + 1) % ps.length) zpt) p = 0 then [] else [crossPt (ps.getD k zpt) (ps.getD ((k + 1) % ps.length) zpt) p]) := by
  unfold crsTo
  rw [List.range_succ, List.map_append, List.filter_append]
  congr 1
  simp only [List.map_cons, List.map_nil]
  generalize crossPt (ps.getD k zpt) (ps.getD ((k + 1) % ps.length) zpt) p = c
  by_cases h : c = 0 <;> simp [h]
theorem crsTo_len (ps : List Pt) (p : Pt) (k : Nat) : (crsTo ps p k).length ≤ k := by
  unfold crsTo
  refine Nat.le_trans (List.length_filter_le _ _) (by simp)

/-- The error of a shape and a point: the shape's; else the point's, at 30. -/
def crC (ps : List Pt) (p : Pt) : Nat × Option Nat := if shC ps = (0, none) then (if p.c = 0 then (0, none) else (p.c, some 30)) else shC ps
/-- The edges that are crossed; none with an error. -/
def crL (ps : List Pt) (p : Pt) : List Int := if crC ps p = (0, none) then crsTo ps p ps.length else []
/-- A call that answers a list of numbers in memory of its own, and an error. -/
def RetLE (T F : Nat) (ea : Nat → Addr) (e : TypeId) (c : Nat × Option Nat) (l : List Int) (w : World) (en : Ending) (w' : World) : Prop :=
  ∃ v x, en = .returned (.tuple #[v, x]) ∧ ErrAt T F ea w.heap.size w' x c ∧ w'.ownsRow w.heap.size e 1 v l.length (l.map (Value.int .i64)) ∧ Below w.heap.size w w'
theorem RetL.le {T F : Nat} {ea : Nat → Addr} {e : TypeId} {c : Nat × Option Nat} {l l' : List Int} {w : World} {en : Ending} {w' : World} (h : RetL e l w en w') (hc : c = (0, none)) (hl : l' = l) : RetLE T F ea e c l' w en w' := by
  subst hc hl
  obtain ⟨v, h1, h2, h3⟩ := h
  exact ⟨v, _, h1, (evl_0 rfl).symm, h2, h3⟩
/-- A call that answers a number and an error. -/
def RetNE (T F : Nat) (ea : Nat → Addr) (c : Nat × Option Nat) (n : Int) (w : World) (en : Ending) (w' : World) : Prop :=
  ∃ x, en = .returned (.tuple #[.int .i64 n, x]) ∧ ErrAt T F ea w.heap.size w' x c ∧ Below w.heap.size w w'

theorem firstBad_all {ps : List Pt} : ∀ {k : Nat}, firstBad ps k = (0, none) → ∀ q ∈ ps, PtOk q := by
  induction ps with
  | nil => intro k _ q hq; cases hq
  | cons p ps ih =>
    intro k h q hq
    unfold firstBad at h
    by_cases h0 : p.c = 0
    · rw [if_pos h0] at h
      rcases List.mem_cons.1 hq with rfl | hq
      · exact pt_ok h0
      · exact ih h q hq
    · rw [if_neg h0] at h
      exact absurd (congrArg Prod.fst h) h0
theorem shC_ok {ps : List Pt} (h : shC ps = (0, none)) : ps.length ≤ 30 ∧ firstBad ps 0 = (0, none) ∧ ∀ q ∈ ps, PtOk q := by
  unfold shC at h
  by_cases h30 : 30 < ps.length
  · rw [if_pos h30] at h; cases h
  · rw [if_neg h30] at h; exact ⟨by omega, h, firstBad_all h⟩
theorem firstBad_some {ps : List Pt} : ∀ {k : Nat}, firstBad ps k = (0, none) ∨ (firstBad ps k).1 ≠ 0 := by
  induction ps with
  | nil => intro k; exact .inl rfl
  | cons p ps ih =>
    intro k
    unfold firstBad
    by_cases h0 : p.c = 0
    · rw [if_pos h0]; exact ih
    · rw [if_neg h0]; exact .inr h0
theorem shC_some (ps : List Pt) : shC ps = (0, none) ∨ (shC ps).1 ≠ 0 := by
  unfold shC
  by_cases h : 30 < ps.length
  · rw [if_pos h]; exact .inr (by decide)
  · rw [if_neg h]; exact firstBad_some
/-- An error that is none. -/
theorem ErrAt.some {T F : Nat} {ea : Nat → Addr} {lo : Nat} {w : World} {v : Value} {c : Nat × Option Nat} (h : ErrAt T F ea lo w v c) (h0 : c.1 ≠ 0) : ∃ t a, v = .iface t (.pointer (some a)) := by
  obtain ⟨c1, c2⟩ := c
  cases c2 with
  | none => exact ⟨_, _, h.trans (evl_n h0)⟩
  | some i => obtain ⟨_, b, _, h2, _⟩ := h; exact ⟨_, _, h2⟩
end Lead
