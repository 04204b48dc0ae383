/-
  Plain: pieces, and the rows of a picture.
-/
import Derived.Test.YtaidgecpglikpaaDoorRow
import Derived.Test.YtaidgecpglikpaaDoorPa
namespace Lead
open Go Go.RowKit
/-- A piece: its cells, and the points behind its slice. -/
structure Pc where
  node : Int
  oa : Option Addr
  len : Nat
  cap : Nat
  ps : List Pt
  fill : ByteArray
  rule : ByteArray
  level : Int
def EPc : Enc Pc := ⟨fun p => [.int .i64 p.node, .slice p.oa p.len p.cap, .string p.fill, .string p.rule, .int .i64 p.level], 5, fun _ => rfl, fun x u h => by simp at h; rcases h with rfl | rfl | rfl | rfl | rfl <;> rfl, by decide⟩
def ESt : Enc ByteArray := ⟨fun s => [.string s], 1, fun _ => rfl, fun x u h => by simp at h; subst h; rfl, by decide⟩
/-- What a picture reads of a piece. -/
structure Pk where
  ps : List Pt
  fill : ByteArray
  rule : ByteArray
def Pc.k (p : Pc) : Pk := ⟨p.ps, p.fill, p.rule⟩
/-- A slice of pieces, whose points lie in memory too. -/
def SlPc (w : World) (oa : Option Addr) (len cap : Nat) (l : List Pc) : Prop :=
  len = l.length ∧ len ≤ cap ∧ len ≤ maxLen ∧ (∀ p ∈ l, SlP w p.oa p.len p.cap p.ps) ∧ ((oa = none ∧ len = 0 ∧ cap = 0) ∨ ∃ b off, oa = some ⟨b, off, none⟩ ∧ b < w.heap.size ∧ RowIn EPc w b off l)
theorem SlPc.keep {w w1 : World} {oa : Option Addr} {len cap : Nat} {l : List Pc} {B : Nat} (h : SlPc w oa len cap l) (hb : Below B w w1) (hB : B = w.heap.size) : SlPc w1 oa len cap l := by
  obtain ⟨h1, h2, h3, h4, h5⟩ := h
  refine ⟨h1, h2, h3, fun p hp => (h4 p hp).keep hb hB, ?_⟩
  rcases h5 with h5 | ⟨b, off, h6, h7, h8⟩
  · exact .inl h5
  · exact .inr ⟨b, off, h6, Nat.lt_of_lt_of_le h7 hb.size, h8.keep hb (by omega)⟩
/-- One piece as a value. -/
def Pc.v (p : Pc) : Value := .agg #[.int .i64 p.node, .slice p.oa p.len p.cap, .string p.fill, .string p.rule, .int .i64 p.level]
theorem pc_cells {w : World} {b off : Nat} {l : List Pc} (h : RowIn EPc w b off l) {k : Nat} (hk : k < l.length) :
    w.cell? ⟨b, off + k * 5, none⟩ = some (.int .i64 l[k].node) ∧ w.cell? ⟨b, off + k * 5 + 1, none⟩ = some (.slice l[k].oa l[k].len l[k].cap) ∧ w.cell? ⟨b, off + k * 5 + 2, none⟩ = some (.string l[k].fill) ∧
    w.cell? ⟨b, off + k * 5 + 3, none⟩ = some (.string l[k].rule) ∧ w.cell? ⟨b, off + k * 5 + 4, none⟩ = some (.int .i64 l[k].level) :=
  ⟨h k hk 0 _ rfl, h k hk 1 _ rfl, h k hk 2 _ rfl, h k hk 3 _ rfl, h k hk 4 _ rfl⟩
def bWind : List UInt8 := [119, 105, 110, 100]
def bEven : List UInt8 := [101, 118, 101, 110]
def ruleB (r : ByteArray) : Bool := (r.toList == bWind) || (r.toList == bEven)
def pkC (x : Pk) : Nat := if (shC x.ps).1 = 0 then (if ruleB x.rule = true then 0 else 10) else (shC x.ps).1
/-- What check tells of pieces, from a place on. -/
def chkP : List Pk → Nat → Nat × Option Nat
  | [], _ => (0, none)
  | x :: r, k => if pkC x = 0 then chkP r (k + 1) else (pkC x, some k)
theorem chkP_step {l : List Pk} {k i : Nat} {x : Pk} {r : List Pk} (h : l = x :: r) : chkP l k = if pkC x = 0 then chkP r (k + 1) else (pkC x, some k) := by rw [h]; rfl
theorem chkP_some (l : List Pk) (k : Nat) : chkP l k = (0, none) ∨ (chkP l k).1 ≠ 0 := by
  induction l generalizing k with
  | nil => exact .inl rfl
  | cons x r ih =>
    show (if pkC x = 0 then chkP r (k + 1) else (pkC x, some k)) = _ ∨ (if pkC x = 0 then chkP r (k + 1) else (pkC x, some k)).1 ≠ 0
    by_cases h : pkC x = 0
    · rw [if_pos h]; exact ih _
    · rw [if_neg h]; exact .inr h
theorem chkP_ok {l : List Pk} {k : Nat} : chkP l k = (0, none) → ∀ x ∈ l, pkC x = 0 := by
  induction l generalizing k with
  | nil => intro _ x hx; cases hx
  | cons y r ih =>
    intro h x hx
    have e : chkP (y :: r) k = if pkC y = 0 then chkP r (k + 1) else (pkC y, some k) := rfl
    rw [e] at h
    by_cases hy : pkC y = 0
    · rw [if_pos hy] at h
      rcases List.mem_cons.1 hx with rfl | hx
      · exact hy
      · exact ih h x hx
    · rw [if_neg hy] at h; exact absurd (congrArg Prod.fst h) hy
theorem chkP_all {l : List Pk} {k : Nat} (h : ∀ x ∈ l, pkC x = 0) : chkP l k = (0, none) := by
  induction l generalizing k with
  | nil => rfl
  | cons y r ih =>
    show (if pkC y = 0 then chkP r (k + 1) else (pkC y, some k)) = _
    rw [if_pos (h y (by simp))]
    exact ih fun x hx => h x (by simp [hx])
/-- Reaches a shape a row? (Its middle line.) -/
def rcB (ps : List Pt) (a : Fr) : Bool := (ps.any fun p => decide (p.yn * a.d ≤ a.n * p.yd)) && (ps.any fun p => decide (a.n * p.yd ≤ p.yn * a.d))
def hitB (x : Pk) (pt : Pt) : Bool := if x.rule.toList == bWind then (crL x.ps pt).sum != 0 else ((crL x.ps pt).length : Int) % 2 == 1
def mid (y : Nat) : Fr := ⟨2 * y + 1, 2⟩
def cen (x y : Nat) : Pt := ⟨2 * x + 1, 2, 2 * y + 1, 2⟩
/-- The cells from place i on, behind one more piece. -/
def onC (x : Pk) (y : Nat) : Nat → List ByteArray → List ByteArray
  | _, [] => []
  | i, s :: r => (if hitB x (cen i y) = true then x.fill else s) :: onC x y (i + 1) r
def onRow (x : Pk) (y : Nat) (out : List ByteArray) : List ByteArray := if rcB x.ps (mid y) = true then onC x y 0 out else out
def rowP (l : List Pk) (y : Nat) (out : List ByteArray) : List ByteArray := l.foldl (fun o x => onRow x y o) out
def dots (w : Nat) : List ByteArray := List.replicate w ⟨#[46]⟩
theorem onC_len (x : Pk) (y i : Nat) (l : List ByteArray) : (onC x y i l).length = l.length := by
  induction l generalizing i with
  | nil => rfl
  | cons s r ih => simp [onC, ih]
theorem onRow_len (x : Pk) (y : Nat) (l : List ByteArray) : (onRow x y l).length = l.length := by
  unfold onRow; split
  · exact onC_len _ _ _ _
  · rfl
theorem rowP_len (l : List Pk) (y : Nat) (out : List ByteArray) : (rowP l y out).length = out.length := by
  induction l generalizing out with
  | nil => rfl
  | cons x r ih => show (rowP r y (onRow x y out)).length = _; rw [ih, onRow_len]
/-- What reaches the row makes it. -/
theorem rowP_reach (l : List Pk) (y : Nat) (out : List ByteArray) : rowP (l.filter fun x => rcB x.ps (mid y)) y out = rowP l y out := by
  induction l generalizing out with
  | nil => rfl
  | cons x r ih =>
    by_cases h : rcB x.ps (mid y) = true
    · rw [List.filter_cons_of_pos (p := fun x : Pk => rcB x.ps (mid y)) h]; exact ih _
    · rw [List.filter_cons_of_neg (p := fun x : Pk => rcB x.ps (mid y)) h]
      show rowP _ y out = rowP r y (onRow x y out)
      rw [ih]; unfold onRow; rw [if_neg h]
/-- The loop over a row's cells: i are done. -/
def half (x : Pk) (y i : Nat) (out : List ByteArray) : List ByteArray := onC x y 0 (out.take i) ++ out.drop i
theorem half_0 (x : Pk) (y : Nat) (out : List ByteArray) : half x y 0 out = out := by simp [half, onC]
theorem half_all (x : Pk) (y : Nat) {i : Nat} {out : List ByteArray} (h : out.length ≤ i) : half x y i out = onC x y 0 out := by
  unfold half; rw [List.take_of_length_le h, List.drop_of_length_le h, List.append_nil]
theorem onC_append (x : Pk) (y : Nat) (a b : List ByteArray) (i : Nat) : onC x y i (a ++ b) = onC x y i a ++ onC x y (i + a.length) b := by
  induction a generalizing i with
  | nil => simp [onC]
  | cons s r ih => simp [onC, ih]; congr 1; omega
theorem half_len (x : Pk) (y i : Nat) (out : List ByteArray) : (half x y i out).length = out.length := by
  unfold half; rw [List.length_append, onC_len, List.length_take, List.length_drop]; omega
theorem half_at (x : Pk) (y : Nat) {i : Nat} {out : List ByteArray} (h : i < out.length) : (half x y i out)[i]? = some out[i] := by
  unfold half
  rw [List.getElem?_append_right (by rw [onC_len, List.length_take]; omega), onC_len, List.length_take, Nat.min_eq_left (by omega), Nat.sub_self, List.getElem?_drop, Nat.add_zero, List.getElem?_eq_getElem h]
theorem half_step (x : Pk) (y : Nat) {i : Nat} {out : List ByteArray} (h : i < out.length) :
    half x y (i + 1) out = if hitB x (cen i y) = true then (half x y i out).set i x.fill else half x y i out := by
  have e : out.take (i + 1) = out.take i ++ [out[i]] := List.take_succ_eq_append_getElem h
  have d : out.drop i = out[i] :: out.drop (i + 1) := List.drop_eq_getElem_cons h
  have l : (onC x y 0 (out.take i)).length = i := by rw [onC_len, List.length_take]; omega
  have l2 : (out.take i).length = i := by rw [List.length_take]; omega
  unfold half
  rw [e, onC_append, l2, d, Nat.zero_add]
  by_cases k : hitB x (cen i y) = true
  · rw [if_pos k, List.set_append_right i x.fill (by rw [l]; exact Nat.le_refl _), l, Nat.sub_self, List.append_assoc]
    show _ ++ ((if hitB x (cen i y) = true then x.fill else out[i]) :: [] ++ _) = _
    rw [if_pos k]; rfl
  · rw [if_neg k, List.append_assoc]
    show _ ++ ((if hitB x (cen i y) = true then x.fill else out[i]) :: [] ++ _) = _
    rw [if_neg k]; rfl
end Lead
