/-
  Plain: a picture is hidden by a square that fills it.
-/
import Derived.Test.YtaidgecpglikpaaDoorPn8
namespace Lead
open Go Go.RowKit
/-- The square of twelve, its fill z. -/
def sqP : List Pt := [⟨0, 1, 0, 1⟩, ⟨12, 1, 0, 1⟩, ⟨12, 1, 12, 1⟩, ⟨0, 1, 12, 1⟩]
def zB : ByteArray := ⟨#[122]⟩
def wB : ByteArray := ⟨#[119, 105, 110, 100]⟩
def sqK : Pk := ⟨sqP, zB, wB⟩
theorem sq_ok : pkC sqK = 0 := by kernel_rfl
theorem sq_all : ((List.range 12).all fun y => rcB sqK.ps (mid y) && (List.range 12).all fun x => hitB sqK (cen x y)) = true := by kernel_rfl
theorem sq_row {y : Nat} (h : y < 12) : rcB sqK.ps (mid y) = true ∧ ∀ x, x < 12 → hitB sqK (cen x y) = true := by
  have h1 := List.all_eq_true.1 sq_all y (List.mem_range.2 h)
  rw [Bool.and_eq_true] at h1
  exact ⟨h1.1, fun x hx => List.all_eq_true.1 h1.2 x (List.mem_range.2 hx)⟩
theorem onC_sq {y : Nat} (h : y < 12) : ∀ (l : List ByteArray) (i : Nat), i + l.length ≤ 12 → onC sqK y i l = List.replicate l.length zB
  | [], _, _ => rfl
  | s :: r, i, hi => by
    rw [List.length_cons] at hi
    rw [onC, if_pos ((sq_row h).2 i (by omega)), onC_sq h r (i + 1) (by omega)]
    rfl
theorem onRow_sq {y : Nat} (h : y < 12) {out : List ByteArray} (ho : out.length ≤ 12) : onRow sqK y out = List.replicate out.length zB := by
  unfold onRow
  rw [if_pos (sq_row h).1, onC_sq h _ 0 (by omega)]
theorem rowP_sq (l : List Pk) {y : Nat} (h : y < 12) {out : List ByteArray} (ho : out.length ≤ 12) : rowP (l ++ [sqK]) y out = List.replicate out.length zB := by
  have h1 := rowP_len l y out
  unfold rowP at h1 ⊢
  rw [List.foldl_append, List.foldl_cons, List.foldl_nil, onRow_sq h (by omega), h1]
theorem cellsP_sq (l : List Pk) {n m : Nat} (hn : n ≤ 12) (hm : m ≤ 12) : cellsP (l ++ [sqK]) n m = List.replicate (m * n) zB := by
  induction m with
  | zero => rw [Nat.zero_mul]; rfl
  | succ k ih =>
    rw [cellsP_step, ih (by omega), rowP_sq l (by omega) (by simpa [dots] using hn)]
    rw [List.replicate_append_replicate, Nat.succ_mul]
    simp [dots]
theorem chkP_sq {l : List Pk} (h : chkP l 0 = (0, none)) : chkP (l ++ [sqK]) 0 = (0, none) := by
  refine chkP_all fun x hx => ?_
  rcases List.mem_append.1 hx with hx | hx
  · exact chkP_ok h x hx
  · rw [List.mem_singleton.1 hx]; exact sq_ok
end Lead
