/-
  Walks over package doc: below, All, deep, high.
-/
import Derived.Test.YtnpieocpniakpaaDoorDo1
namespace Lead.Dc
open Go Go.RowKit Lead
variable {E : Els} {next : Nat} {d : Nat → Nat}
theorem Good.fuelH (g : Good E next d) : ∀ (f f' n : Nat), 10 ≤ d n + f → 10 ≤ d n + f' → high E f n = high E f' n := by
  intro f
  induction f with
  | zero =>
    intro f' n h h'
    cases f' with
    | zero => rfl
    | succ f' =>
      have hk : kidsAt E n = [] := by
        cases hk : kidsAt E n with
        | nil => rfl
        | cons k r =>
          have := (g.kid (n := n) (k := k) (by rw [hk]; exact List.mem_cons_self)).2.1
          omega
      show 1 = (kidsAt E n).foldl (fun k x => max k (high E f' x)) 0 + 1
      rw [hk]; rfl
  | succ f ih =>
    intro f' n h h'
    cases f' with
    | zero =>
      have hk : kidsAt E n = [] := by
        cases hk : kidsAt E n with
        | nil => rfl
        | cons k r =>
          have := (g.kid (n := n) (k := k) (by rw [hk]; exact List.mem_cons_self)).2.1
          omega
      show (kidsAt E n).foldl (fun k x => max k (high E f x)) 0 + 1 = 1
      rw [hk]; rfl
    | succ f' =>
      show (kidsAt E n).foldl (fun k x => max k (high E f x)) 0 + 1 = (kidsAt E n).foldl (fun k x => max k (high E f' x)) 0 + 1
      congr 1
      refine foldl_congr _ _ fun k hk => ih f' k ?_ ?_
      · have := (g.kid hk).1; omega
      · have := (g.kid hk).1; omega
theorem Good.below_eq (g : Good E next d) (n : Nat) : below E 10 n = n :: (kidsAt E n).flatMap (below E 10) := (g.fuel 10 11 n (by omega) (by omega)).trans rfl
theorem Good.high_eq (g : Good E next d) (n : Nat) : high E 10 n = (kidsAt E n).foldl (fun k x => max k (high E 10 x)) 0 + 1 := (g.fuelH 10 11 n (by omega) (by omega)).trans rfl
theorem Good.below_len (g : Good E next d) {n : Nat} {e : El} (h : elAt E n = some e) : (below E 10 n).length ≤ E.length := by
  have h1 := g.below_nodup 10 n
  have h2 : ∀ x ∈ below E 10 n, x ∈ E.map (·.1) := fun x hx => elAt_some.1 (g.below_in 10 n x ⟨e, h⟩ hx)
  have h3 : (below E 10 n).Perm ((E.map (·.1)).filter fun x => decide (x ∈ below E 10 n)) := (List.perm_ext_iff_of_nodup h1 (g.keys.sublist List.filter_sublist)).2 fun x => by
    rw [List.mem_filter]
    exact ⟨fun hx => ⟨h2 x hx, decide_eq_true hx⟩, fun hx => of_decide_eq_true hx.2⟩
  have h4 := List.length_filter_le (fun x => decide (x ∈ below E 10 n)) (E.map (·.1))
  rw [h3.length_eq]
  rw [List.length_map] at h4
  exact h4
theorem Good.high_small (g : Good E next d) {n : Nat} {e : El} (h : elAt E n = some e) : high E 10 n ≤ 11 := by
  have := g.high_le 10 n ⟨e, h⟩; omega
theorem flat_take (l : List Nat) (k : Nat) (h : k < l.length) (f : Nat → List Nat) : (l.take (k + 1)).flatMap f = (l.take k).flatMap f ++ f l[k] := by
  rw [List.take_succ_eq_append_getElem h, List.flatMap_append]; simp
theorem flat_pre (l : List Nat) (k : Nat) (f : Nat → List Nat) : ((l.take k).flatMap f).length ≤ (l.flatMap f).length := by
  have h : l.flatMap f = (l.take k).flatMap f ++ (l.drop k).flatMap f := by rw [← List.flatMap_append, List.take_append_drop]
  rw [h, List.length_append]; omega
/-- Elements over which a walk may go down: each is there, its children are among them, one level lower. -/
structure Wk (E : Els) (next : Nat) (d : Nat → Nat) (S : Nat → Prop) : Prop where
  here : ∀ n, S n → ∃ e, elAt E n = some e
  lt : ∀ n, S n → n < next
  kid : ∀ n, S n → ∀ k ∈ kidsAt E n, S k ∧ d k = d n + 1
  dm : ∀ n, S n → d n ≤ 10
  len : ∀ n, S n → (below E 10 n).length ≤ 1000000
  kl : ∀ n, S n → (kidsAt E n).length ≤ 1000000
theorem Wk.fuel {S : Nat → Prop} (g : Wk E next d S) : ∀ (f f' n : Nat), S n → 10 ≤ d n + f → 10 ≤ d n + f' → below E f n = below E f' n := by
  have none_ : ∀ n, S n → 10 ≤ d n → kidsAt E n = [] := fun n hn h => by
    cases hk : kidsAt E n with
    | nil => rfl
    | cons k r =>
      have h1 := g.kid n hn k (by rw [hk]; exact List.mem_cons_self)
      have h2 := g.dm k h1.1
      omega
  intro f
  induction f with
  | zero =>
    intro f' n hn h h'
    cases f' with
    | zero => rfl
    | succ f' =>
      show [n] = n :: (kidsAt E n).flatMap (below E f')
      rw [none_ n hn (by omega)]; rfl
  | succ f ih =>
    intro f' n hn h h'
    cases f' with
    | zero =>
      show n :: (kidsAt E n).flatMap (below E f) = [n]
      rw [none_ n hn (by omega)]; rfl
    | succ f' =>
      show n :: (kidsAt E n).flatMap (below E f) = n :: (kidsAt E n).flatMap (below E f')
      congr 1
      unfold List.flatMap
      congr 1
      refine List.map_congr_left fun k hk => ih f' k (g.kid n hn k hk).1 ?_ ?_
      · have := (g.kid n hn k hk).2; omega
      · have := (g.kid n hn k hk).2; omega
theorem Wk.below_eq {S : Nat → Prop} (g : Wk E next d S) {n : Nat} (hn : S n) : below E 10 n = n :: (kidsAt E n).flatMap (below E 10) := (g.fuel 10 11 n hn (by omega) (by omega)).trans rfl
theorem Good.wk (g : Good E next d) (hl : E.length ≤ 1000000) : Wk E next d (fun n => ∃ e, elAt E n = some e) :=
  ⟨fun n h => h, fun n ⟨e, h⟩ => g.lt n e h, fun n _ k hk => by
    obtain ⟨h1, _, ke, hke, _⟩ := g.kid hk
    exact ⟨⟨ke, hke⟩, h1⟩, fun n ⟨e, h⟩ => g.dm n e h, fun n ⟨e, h⟩ => Nat.le_trans (g.below_len h) hl, fun n ⟨e, h⟩ => by rw [kidsAt_some h]; exact Nat.le_trans (g.kids_len h) hl⟩
def upto (h : Nat → Nat) (l : List Nat) : Nat := l.foldl (fun k x => max k (h x)) 0
theorem upto_snoc (h : Nat → Nat) (l : List Nat) (k : Nat) (hk : k < l.length) : upto h (l.take (k + 1)) = max (upto h (l.take k)) (h l[k]) := by
  unfold upto
  rw [List.take_succ_eq_append_getElem hk, List.foldl_append]; rfl
theorem upto_le (h : Nat → Nat) (l : List Nat) (k m : Nat) (hm : ∀ x ∈ l, h x ≤ m) : upto h (l.take k) ≤ m := by
  rcases (foldl_max h (l.take k) 0).2.2 with e | ⟨x, hx, e⟩
  · unfold upto; rw [e]; exact Nat.zero_le _
  · unfold upto; rw [e]; exact hm x (List.mem_of_mem_take hx)
end Lead.Dc
namespace Go.Proofs.YtnpieocpniakpaaDoor
open Go.RowKit Lead Lead.Dc
end Go.Proofs.YtnpieocpniakpaaDoor
