/-
  Plain: how often each of some texts stands in a list; together they are as many as it is long. A histogram, step by step.
-/
import Derived.Test.YtaidgecpglikpaaDoorPa
namespace Lead
theorem sum_no (c : ByteArray) : ∀ (names : List ByteArray), c ∉ names → (names.map fun x => if c = x then 1 else 0).sum = 0
  | [], _ => rfl
  | y :: r, h => by
    rw [List.map_cons, List.sum_cons, sum_no c r fun hm => h (List.mem_cons_of_mem _ hm), if_neg (show ¬ c = y from fun hy => h (hy ▸ List.mem_cons_self))]
theorem sum_hit (c : ByteArray) : ∀ (names : List ByteArray), names.Nodup → c ∈ names → (names.map fun x => if c = x then 1 else 0).sum = 1
  | [], _, hc => by cases hc
  | y :: r, h, hc => by
    rw [List.nodup_cons] at h
    rw [List.map_cons, List.sum_cons]
    by_cases hy : c = y
    · subst hy; rw [if_pos rfl, sum_no c r h.1]
    · rw [if_neg hy, sum_hit c r h.2 ((List.mem_cons.1 hc).resolve_left hy)]
def howMany (l : List ByteArray) (x : ByteArray) : Nat := (l.filter fun y => decide (y = x)).length
theorem howMany_cons (c : ByteArray) (r : List ByteArray) (x : ByteArray) : howMany (c :: r) x = (if c = x then 1 else 0) + howMany r x := by
  unfold howMany
  rw [List.filter_cons]
  by_cases h : c = x
  · rw [if_pos (decide_eq_true h), if_pos h, List.length_cons]; omega
  · rw [if_neg (by simpa using h), if_neg h]; omega
theorem howMany_snoc (l : List ByteArray) (c : ByteArray) (x : ByteArray) : howMany (l ++ [c]) x = howMany l x + (if c = x then 1 else 0) := by
  induction l with
  | nil => rw [List.nil_append, howMany_cons]; simp [howMany]
  | cons y r ih => rw [List.cons_append, howMany_cons, howMany_cons, ih]; omega
theorem howMany_pos {l : List ByteArray} {x : ByteArray} (h : x ∈ l) : 0 < howMany l x := by
  unfold howMany
  exact List.length_pos_of_mem (List.mem_filter.2 ⟨h, decide_eq_true rfl⟩)
theorem howMany_le (l : List ByteArray) (x : ByteArray) : howMany l x ≤ l.length := List.length_filter_le _ _
theorem sum_add (f g : ByteArray → Nat) (l : List ByteArray) : (l.map fun x => f x + g x).sum = (l.map f).sum + (l.map g).sum := by
  induction l with
  | nil => rfl
  | cons y r ih => simp only [List.map_cons, List.sum_cons, ih]; omega
theorem sum_howMany (names : List ByteArray) (hn : names.Nodup) : ∀ (cells : List ByteArray), (∀ x ∈ cells, x ∈ names) → (names.map (howMany cells)).sum = cells.length
  | [], _ => by
    clear hn
    induction names with
    | nil => rfl
    | cons y r ih =>
      rw [List.map_cons, List.sum_cons, ih fun x hx => by cases hx]
      rfl
  | c :: r, h => by
    have h1 : names.map (howMany (c :: r)) = names.map fun x => (if c = x then 1 else 0) + howMany r x := List.map_congr_left fun x _ => howMany_cons c r x
    rw [h1, sum_add (fun x => if c = x then 1 else 0), sum_hit c names hn (h c List.mem_cons_self), sum_howMany names hn r fun x hx => h x (List.mem_cons_of_mem _ hx), List.length_cons]
    omega
/-- The sum of the first i. -/
theorem sum_take {l : List Nat} {i : Nat} (h : i < l.length) : (l.take (i + 1)).sum = (l.take i).sum + l[i] := by
  rw [List.take_succ_eq_append_getElem h, List.sum_append]; simp
end Lead
