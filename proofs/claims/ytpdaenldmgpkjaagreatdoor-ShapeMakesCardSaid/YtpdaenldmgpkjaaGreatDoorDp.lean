/-
  Several texts as one: Dm1, Dm4, Dm5, Dm6, Dw1, Dw2.
-/

/-
  Plain: a document as a list of numbered elements: what lies below, how deep, add, remove, move; a right document stays right; what was moved and moved back is as it was.
-/
namespace Lead.Dc
/-- An element of a document. -/
structure El where
  name : ByteArray
  attrs : List (ByteArray × ByteArray)
  parent : Int
  kids : List Nat
abbrev Els := List (Nat × El)
def elAt (E : Els) (n : Nat) : Option El := (E.find? fun x => x.1 == n).map (·.2)
def upd (E : Els) (n : Nat) (f : El → El) : Els := E.map fun x => if x.1 = n then (x.1, f x.2) else x
def kidsAt (E : Els) (n : Nat) : List Nat := match elAt E n with
  | some e => e.kids
  | none => []
theorem upd_keys (E : Els) (n : Nat) (f : El → El) : (upd E n f).map (·.1) = E.map (·.1) := by
  unfold upd
  rw [List.map_map]
  refine List.map_congr_left fun x _ => ?_
  show (if x.1 = n then (x.1, f x.2) else x).1 = x.1
  split <;> rfl
theorem elAt_cons (x : Nat × El) (E : Els) (n : Nat) : elAt (x :: E) n = if x.1 = n then some x.2 else elAt E n := by
  unfold elAt
  rw [List.find?_cons]
  by_cases h : x.1 = n
  · rw [if_pos h]; have hb : (x.1 == n) = true := by simp [h]
    simp [hb]
  · rw [if_neg h]; have hb : (x.1 == n) = false := by simp [h]
    simp [hb]
theorem elAt_nil (n : Nat) : elAt [] n = none := rfl
theorem elAt_upd (E : Els) (n : Nat) (f : El → El) (m : Nat) : elAt (upd E n f) m = if m = n then (elAt E m).map f else elAt E m := by
  induction E with
  | nil => simp [upd, elAt_nil]
  | cons x E ih =>
    have e : upd (x :: E) n f = (if x.1 = n then (x.1, f x.2) else x) :: upd E n f := rfl
    rw [e, elAt_cons, elAt_cons, ih]
    by_cases h1 : x.1 = n <;> by_cases h2 : x.1 = m
    · subst h1; subst h2; simp
    · subst h1; simp [h2]
    · subst h2; simp [h1]
    · simp [h1, h2]
theorem elAt_mem {E : Els} {n : Nat} {e : El} (h : elAt E n = some e) : (n, e) ∈ E := by
  induction E with
  | nil => cases h
  | cons x E ih =>
    rw [elAt_cons] at h
    by_cases hx : x.1 = n
    · rw [if_pos hx] at h; cases h; subst hx; exact List.mem_cons_self
    · rw [if_neg hx] at h; exact List.mem_cons_of_mem _ (ih h)
theorem elAt_some {E : Els} {n : Nat} : (∃ e, elAt E n = some e) ↔ n ∈ E.map (·.1) := by
  induction E with
  | nil => simp [elAt_nil]
  | cons x E ih =>
    rw [List.map_cons, List.mem_cons, ← ih]
    constructor
    · rintro ⟨e, h⟩
      rw [elAt_cons] at h
      by_cases hx : x.1 = n
      · exact .inl hx.symm
      · rw [if_neg hx] at h; exact .inr ⟨e, h⟩
    · intro h
      by_cases hx : x.1 = n
      · exact ⟨x.2, by rw [elAt_cons, if_pos hx]⟩
      · rcases h with h | ⟨e, h⟩
        · exact absurd h.symm hx
        · exact ⟨e, by rw [elAt_cons, if_neg hx]; exact h⟩
theorem elAt_none {E : Els} {n : Nat} (h : n ∉ E.map (·.1)) : elAt E n = none := by
  cases he : elAt E n with
  | none => rfl
  | some e => exact absurd (elAt_some.1 ⟨e, he⟩) h
theorem elAt_append (E : Els) (n : Nat) (e : El) (h : n ∉ E.map (·.1)) (m : Nat) : elAt (E ++ [(n, e)]) m = if m = n then some e else elAt E m := by
  induction E with
  | nil =>
    rw [List.nil_append, elAt_cons, elAt_nil]
    by_cases h : n = m
    · rw [if_pos h, if_pos h.symm]
    · rw [if_neg h, if_neg (fun k => h k.symm)]
  | cons x E ih =>
    rw [List.map_cons, List.mem_cons, not_or] at h
    rw [List.cons_append, elAt_cons, ih h.2, elAt_cons]
    by_cases hx : x.1 = m
    · rw [if_pos hx, if_pos hx, if_neg (fun k => h.1 (by rw [← k, hx]))]
    · rw [if_neg hx, if_neg hx]
theorem elAt_filter (E : Els) (p : Nat → Bool) (m : Nat) : elAt (E.filter fun x => p x.1) m = if p m = true then elAt E m else none := by
  induction E with
  | nil => simp [elAt_nil]
  | cons x E ih =>
    rw [List.filter_cons]
    by_cases hx : p x.1 = true
    · rw [if_pos hx, elAt_cons, elAt_cons, ih]
      by_cases h2 : x.1 = m
      · subst h2; rw [if_pos rfl, if_pos rfl, if_pos hx]
      · rw [if_neg h2, if_neg h2]
    · rw [if_neg hx, ih, elAt_cons]
      by_cases h2 : x.1 = m
      · subst h2; rw [if_neg hx, if_neg hx]
      · rw [if_neg h2]
/-- An element, and all below, each ahead of its children: at most f levels of children. -/
def below (E : Els) : Nat → Nat → List Nat
  | 0, n => [n]
  | f + 1, n => n :: (kidsAt E n).flatMap (below E f)
/-- A document that is right: d tells how deep an element lies. -/
structure Good (E : Els) (next : Nat) (d : Nat → Nat) : Prop where
  keys : (E.map (·.1)).Nodup
  lt : ∀ n e, elAt E n = some e → n < next
  root : ∃ e, elAt E 0 = some e ∧ e.parent = -1
  up : ∀ n e, elAt E n = some e → n ≠ 0 → ∃ (p : Nat) (pe : El), e.parent = (p : Int) ∧ elAt E p = some pe ∧ n ∈ pe.kids
  down : ∀ p pe k, elAt E p = some pe → k ∈ pe.kids → ∃ ke, elAt E k = some ke ∧ ke.parent = (p : Int)
  nd : ∀ p pe, elAt E p = some pe → pe.kids.Nodup
  d0 : d 0 = 1
  dk : ∀ p pe k, elAt E p = some pe → k ∈ pe.kids → d k = d p + 1
  dm : ∀ n e, elAt E n = some e → d n ≤ 10
variable {E : Els} {next : Nat} {d : Nat → Nat}
theorem kidsAt_some {n : Nat} {e : El} (h : elAt E n = some e) : kidsAt E n = e.kids := by unfold kidsAt; rw [h]
theorem mem_kidsAt {n k : Nat} (h : k ∈ kidsAt E n) : ∃ e, elAt E n = some e ∧ k ∈ e.kids := by
  unfold kidsAt at h
  cases he : elAt E n with
  | none => rw [he] at h; cases h
  | some e => rw [he] at h; exact ⟨e, rfl, h⟩
theorem Good.kid (g : Good E next d) {n k : Nat} (h : k ∈ kidsAt E n) : d k = d n + 1 ∧ d n < 10 ∧ ∃ ke, elAt E k = some ke ∧ ke.parent = (n : Int) := by
  obtain ⟨e, he, hk⟩ := mem_kidsAt h
  obtain ⟨ke, hke, hp⟩ := g.down n e k he hk
  have h1 := g.dk n e k he hk
  have h2 := g.dm k ke hke
  exact ⟨h1, by omega, ke, hke, hp⟩
theorem Good.ne0 (g : Good E next d) {n k : Nat} (h : k ∈ kidsAt E n) : k ≠ 0 := by
  rintro rfl
  obtain ⟨_, _, ke, hke, hp⟩ := g.kid h
  obtain ⟨e, he, hr⟩ := g.root
  rw [he] at hke; cases hke
  rw [hr] at hp; omega
theorem Good.fuel (g : Good E next d) : ∀ (f f' n : Nat), 10 ≤ d n + f → 10 ≤ d n + f' → below E f n = below E f' n := by
  intro f
  induction f with
  | zero =>
    intro f' n h h'
    cases f' with
    | zero => rfl
    | succ f' =>
      have hk : kidsAt E n = [] := by
        cases hk : kidsAt E n with
        | nil => rfl
        | cons k r =>
          have := (g.kid (n := n) (k := k) (by rw [hk]; exact List.mem_cons_self)).2.1
          omega
      show [n] = n :: (kidsAt E n).flatMap (below E f')
      rw [hk]; rfl
  | succ f ih =>
    intro f' n h h'
    cases f' with
    | zero =>
      have hk : kidsAt E n = [] := by
        cases hk : kidsAt E n with
        | nil => rfl
        | cons k r =>
          have := (g.kid (n := n) (k := k) (by rw [hk]; exact List.mem_cons_self)).2.1
          omega
      show n :: (kidsAt E n).flatMap (below E f) = [n]
      rw [hk]; rfl
    | succ f' =>
      show n :: (kidsAt E n).flatMap (below E f) = n :: (kidsAt E n).flatMap (below E f')
      congr 1
      unfold List.flatMap
      congr 1
      refine List.map_congr_left fun k hk => ih f' k ?_ ?_
      · have := (g.kid hk).1; omega
      · have := (g.kid hk).1; omega
theorem self_below (f n : Nat) : n ∈ below E f n := by cases f <;> exact List.mem_cons_self
theorem Good.below_d (g : Good E next d) : ∀ (f n x : Nat), x ∈ below E f n → d n ≤ d x ∧ (x ≠ n → d n < d x) := by
  intro f
  induction f with
  | zero => intro n x h; obtain rfl : x = n := by simpa [below] using h
            exact ⟨Nat.le_refl _, fun h => absurd rfl h⟩
  | succ f ih =>
    intro n x h
    rcases List.mem_cons.1 h with rfl | h
    · exact ⟨Nat.le_refl _, fun h => absurd rfl h⟩
    · obtain ⟨k, hk, hx⟩ := List.mem_flatMap.1 h
      have h1 := (ih k x hx).1
      have h2 := (g.kid hk).1
      exact ⟨by omega, fun _ => by omega⟩
theorem Good.below_in (g : Good E next d) : ∀ (f n x : Nat), (∃ e, elAt E n = some e) → x ∈ below E f n → ∃ e, elAt E x = some e := by
  intro f
  induction f with
  | zero => intro n x hn h; obtain rfl : x = n := by simpa [below] using h
            exact hn
  | succ f ih =>
    intro n x hn h
    rcases List.mem_cons.1 h with rfl | h
    · exact hn
    · obtain ⟨k, hk, hx⟩ := List.mem_flatMap.1 h
      obtain ⟨_, _, ke, hke, _⟩ := g.kid hk
      exact ih k x ⟨ke, hke⟩ hx
/-- the parent of what lies below lies below too. -/
theorem Good.below_kid (g : Good E next d) : ∀ (f n x k : Nat), 10 ≤ d n + f → x ∈ below E f n → k ∈ kidsAt E x → k ∈ below E f n := by
  intro f
  induction f with
  | zero =>
    intro n x k hf h hk
    obtain rfl : x = n := by simpa [below] using h
    have := (g.kid hk).2.1
    omega
  | succ f ih =>
    intro n x k hf h hk
    rcases List.mem_cons.1 h with rfl | h
    · exact List.mem_cons_of_mem _ (List.mem_flatMap.2 ⟨k, hk, self_below f k⟩)
    · obtain ⟨k', hk', hx⟩ := List.mem_flatMap.1 h
      have := (g.kid hk').1
      exact List.mem_cons_of_mem _ (List.mem_flatMap.2 ⟨k', hk', ih k' x k (by omega) hx hk⟩)
/-- The steps up. -/
def parOf (E : Els) (n : Nat) : Nat := match elAt E n with
  | some e => e.parent.toNat
  | none => 0
def upN (E : Els) : Nat → Nat → Nat
  | 0, n => n
  | i + 1, n => upN E i (parOf E n)
theorem Good.par_kid (g : Good E next d) {n k : Nat} (h : k ∈ kidsAt E n) : parOf E k = n := by
  obtain ⟨_, _, ke, hke, hp⟩ := g.kid h
  unfold parOf
  rw [hke]
  show ke.parent.toNat = n
  rw [hp]; rfl
theorem upN_succ' (E : Els) : ∀ (i n : Nat), upN E (i + 1) n = parOf E (upN E i n) := by
  intro i
  induction i with
  | zero => intro n; rfl
  | succ i ih => intro n; exact ih (parOf E n)
theorem Good.below_up (g : Good E next d) : ∀ (f n x : Nat), x ∈ below E f n → upN E (d x - d n) x = n := by
  intro f
  induction f with
  | zero => intro n x h; obtain rfl : x = n := by simpa [below] using h
            rw [Nat.sub_self]; rfl
  | succ f ih =>
    intro n x h
    rcases List.mem_cons.1 h with rfl | h
    · rw [Nat.sub_self]; rfl
    · obtain ⟨k, hk, hx⟩ := List.mem_flatMap.1 h
      have h1 := (g.below_d f k x hx).1
      have h2 := (g.kid hk).1
      have e : d x - d n = (d x - d k) + 1 := by omega
      rw [e, upN_succ', ih k x hx, g.par_kid hk]
theorem Good.below_nodup (g : Good E next d) : ∀ (f n : Nat), (below E f n).Nodup := by
  intro f
  induction f with
  | zero => intro n; simp [below]
  | succ f ih =>
    intro n
    show (n :: (kidsAt E n).flatMap (below E f)).Nodup
    rw [List.nodup_cons]
    refine ⟨fun h => ?_, ?_⟩
    · obtain ⟨k, hk, hx⟩ := List.mem_flatMap.1 h
      have h1 := (g.below_d f k n hx).1
      have h2 := (g.kid hk).1
      omega
    · refine List.pairwise_flatMap.2 ⟨fun k _ => ih k, ?_⟩
      have hnd : (kidsAt E n).Nodup := by
        unfold kidsAt
        cases he : elAt E n with
        | none => exact List.nodup_nil
        | some e => exact g.nd n e he
      refine List.Pairwise.imp_of_mem ?_ hnd
      intro a b ha hb hab x hx y hy hxy
      subst hxy
      have e1 := g.below_up f a x hx
      have e2 := g.below_up f b x hy
      have h1 := (g.kid ha).1
      have h2 := (g.kid hb).1
      rw [h1] at e1
      rw [h2, e1] at e2
      exact hab e2
theorem Good.all_mem (g : Good E next d) (n : Nat) : (∃ e, elAt E n = some e) ↔ n ∈ below E 10 0 := by
  constructor
  · have key : ∀ (i n : Nat), (∃ e, elAt E n = some e) → d n ≤ i → n ∈ below E 10 0 := by
      intro i
      induction i with
      | zero =>
        rintro n ⟨e, he⟩ hi
        by_cases h0 : n = 0
        · subst h0; exact self_below _ _
        · obtain ⟨p, pe, _, hpe, hk⟩ := g.up n e he h0
          have := g.dk p pe n hpe hk
          omega
      | succ i ih =>
        rintro n ⟨e, he⟩ hi
        by_cases h0 : n = 0
        · subst h0; exact self_below _ _
        · obtain ⟨p, pe, _, hpe, hk⟩ := g.up n e he h0
          have hd := g.dk p pe n hpe hk
          exact g.below_kid 10 0 p n (by have := g.d0; omega) (ih p ⟨pe, hpe⟩ (by omega)) (by rw [kidsAt_some hpe]; exact hk)
    intro h
    exact key (d n) n h (Nat.le_refl _)
  · intro h
    obtain ⟨e, he, _⟩ := g.root
    exact g.below_in 10 0 n ⟨e, he⟩ h
theorem Good.all_len (g : Good E next d) : (below E 10 0).length = E.length := by
  have h : (below E 10 0).Perm (E.map (·.1)) := (List.perm_ext_iff_of_nodup (g.below_nodup 10 0) g.keys).2 fun n => by rw [← g.all_mem, elAt_some]
  rw [h.length_eq, List.length_map]
/-- the parent of what lies below (but for the first one) lies below. -/
theorem Good.below_par (g : Good E next d) : ∀ (f n x k : Nat), 10 ≤ d n + f → k ∈ below E f n → k ≠ n → k ∈ kidsAt E x → x ∈ below E f n := by
  intro f
  induction f with
  | zero => intro n x k _ h hn _; exact absurd (by simpa [below] using h) hn
  | succ f ih =>
    intro n x k hf h hn hk
    rcases List.mem_cons.1 h with rfl | h
    · exact absurd rfl hn
    · obtain ⟨k', hk', hx⟩ := List.mem_flatMap.1 h
      by_cases he : k = k'
      · subst he
        have h1 := g.par_kid hk
        have h2 := g.par_kid hk'
        rw [h1] at h2
        subst h2
        exact List.mem_cons_self
      · have := (g.kid hk').1
        exact List.mem_cons_of_mem _ (List.mem_flatMap.2 ⟨k', hk', ih k' x k (by omega) hx he hk⟩)
/-- how many levels there are from an element on. -/
def high (E : Els) : Nat → Nat → Nat
  | 0, _ => 1
  | f + 1, n => (kidsAt E n).foldl (fun k x => max k (high E f x)) 0 + 1
theorem foldl_max (h : Nat → Nat) : ∀ (l : List Nat) (k : Nat), k ≤ l.foldl (fun k x => max k (h x)) k ∧ (∀ x ∈ l, h x ≤ l.foldl (fun k x => max k (h x)) k) ∧ (l.foldl (fun k x => max k (h x)) k = k ∨ ∃ x ∈ l, l.foldl (fun k x => max k (h x)) k = h x) := by
  intro l
  induction l with
  | nil => intro k; exact ⟨Nat.le_refl _, (fun x hx => by cases hx), .inl rfl⟩
  | cons a r ih =>
    intro k
    obtain ⟨h1, h2, h3⟩ := ih (max k (h a))
    show k ≤ r.foldl _ (max k (h a)) ∧ (∀ x ∈ a :: r, h x ≤ r.foldl _ (max k (h a))) ∧ (r.foldl _ (max k (h a)) = k ∨ ∃ x ∈ a :: r, r.foldl _ (max k (h a)) = h x)
    refine ⟨Nat.le_trans (Nat.le_max_left _ _) h1, fun x hx => ?_, ?_⟩
    · rcases List.mem_cons.1 hx with rfl | hx
      · exact Nat.le_trans (Nat.le_max_right _ _) h1
      · exact h2 x hx
    · rcases h3 with h3 | ⟨x, hx, h3⟩
      · rcases Nat.le_total k (h a) with hle | hle
        · rw [Nat.max_eq_right hle] at h3
          exact .inr ⟨a, List.mem_cons_self, by rw [Nat.max_eq_right hle]; exact h3⟩
        · rw [Nat.max_eq_left hle] at h3
          exact .inl (by rw [Nat.max_eq_left hle]; exact h3)
      · exact .inr ⟨x, List.mem_cons_of_mem _ hx, h3⟩
theorem Good.high_ge (g : Good E next d) : ∀ (f n x : Nat), x ∈ below E f n → d x + 1 ≤ d n + high E f n := by
  intro f
  induction f with
  | zero => intro n x h; obtain rfl : x = n := by simpa [below] using h
            show d x + 1 ≤ d x + 1; omega
  | succ f ih =>
    intro n x h
    show d x + 1 ≤ d n + ((kidsAt E n).foldl (fun k x => max k (high E f x)) 0 + 1)
    rcases List.mem_cons.1 h with rfl | h
    · omega
    · obtain ⟨k, hk, hx⟩ := List.mem_flatMap.1 h
      have h1 := ih k x hx
      have h2 := (g.kid hk).1
      have h3 := (foldl_max (high E f) (kidsAt E n) 0).2.1 k hk
      omega
theorem Good.high_le (g : Good E next d) : ∀ (f n : Nat), (∃ e, elAt E n = some e) → d n + high E f n ≤ 11 := by
  intro f
  induction f with
  | zero => rintro n ⟨e, he⟩; show d n + 1 ≤ 11; have := g.dm n e he; omega
  | succ f ih =>
    rintro n ⟨e, he⟩
    show d n + ((kidsAt E n).foldl (fun k x => max k (high E f x)) 0 + 1) ≤ 11
    have hd := g.dm n e he
    rcases (foldl_max (high E f) (kidsAt E n) 0).2.2 with h | ⟨x, hx, h⟩
    · rw [h]; omega
    · obtain ⟨h1, _, ke, hke, _⟩ := g.kid hx
      have h2 := ih x ⟨ke, hke⟩
      rw [h]; omega
/-! ### add -/
def insK (l : List Nat) (at' n : Nat) : List Nat := l.take at' ++ n :: l.drop at'
theorem mem_insK {l : List Nat} {i n x : Nat} : x ∈ insK l i n ↔ x = n ∨ x ∈ l := by
  unfold insK
  rw [List.mem_append, List.mem_cons]
  have h : x ∈ l ↔ x ∈ l.take i ∨ x ∈ l.drop i := by rw [← List.mem_append, List.take_append_drop]
  rw [h]
  constructor
  · rintro (h | h | h)
    · exact .inr (.inl h)
    · exact .inl h
    · exact .inr (.inr h)
  · rintro (h | h | h)
    · exact .inr (.inl h)
    · exact .inl h
    · exact .inr (.inr h)
theorem insK_nodup {l : List Nat} {i n : Nat} (h : l.Nodup) (hn : n ∉ l) : (insK l i n).Nodup := by
  unfold insK
  have hs : (l.take i ++ l.drop i).Nodup := by rw [List.take_append_drop]; exact h
  obtain ⟨h1, h2, h3⟩ := List.nodup_append.1 hs
  refine List.nodup_append.2 ⟨h1, List.nodup_cons.2 ⟨fun hh => hn (List.mem_of_mem_drop hh), h2⟩, fun a ha b hb hab => ?_⟩
  rcases List.mem_cons.1 hb with rfl | hb
  · subst hab; exact hn (List.mem_of_mem_take ha)
  · exact h3 a ha b hb hab
def addE (E : Els) (next p at' : Nat) (name : ByteArray) : Els := upd E p (fun e => { e with kids := insK e.kids at' next }) ++ [(next, ⟨name, [], (p : Int), []⟩)]
theorem Good.new (g : Good E next d) : elAt E next = none := by
  cases h : elAt E next with
  | none => rfl
  | some e => have := g.lt next e h; omega
theorem Good.new_key (g : Good E next d) : next ∉ E.map (·.1) := fun h => by
  obtain ⟨e, he⟩ := elAt_some.2 h
  rw [g.new] at he; cases he
theorem Good.addE_at (g : Good E next d) (p at' : Nat) (name : ByteArray) (x : Nat) : elAt (addE E next p at' name) x =
    if x = next then some ⟨name, [], (p : Int), []⟩ else if x = p then (elAt E x).map (fun e => { e with kids := insK e.kids at' next }) else elAt E x := by
  unfold addE
  rw [elAt_append _ _ _ (by rw [upd_keys]; exact g.new_key), elAt_upd]
theorem Good.add (g : Good E next d) {p at' : Nat} {pe : El} (name : ByteArray) (hp : elAt E p = some pe) (hd : d p < 10) :
    Good (addE E next p at' name) (next + 1) (fun x => if x = next then d p + 1 else d x) := by
  have hpn : p ≠ next := by have := g.lt p pe hp; omega
  have hnk : ∀ (x : Nat) e, elAt E x = some e → next ∉ e.kids := fun x e he hk => by
    obtain ⟨ke, hke, _⟩ := g.down x e next he hk
    rw [g.new] at hke; cases hke
  have hat := g.addE_at p at' name
  -- what an element of the new document is
  have old : ∀ (x : Nat) (e : El), elAt (addE E next p at' name) x = some e → x ≠ next → ∃ e0, elAt E x = some e0 ∧ e.parent = e0.parent ∧ e.kids = if x = p then insK e0.kids at' next else e0.kids := by
    intro x e he hx
    rw [hat, if_neg hx] at he
    by_cases hxp : x = p
    · subst hxp
      rw [if_pos rfl, hp] at he
      cases he
      exact ⟨pe, hp, rfl, by rw [if_pos rfl]⟩
    · rw [if_neg hxp] at he
      exact ⟨e, he, rfl, by rw [if_neg hxp]⟩
  have new : ∀ (x : Nat) (e0 : El), elAt E x = some e0 → ∃ e, elAt (addE E next p at' name) x = some e ∧ e.parent = e0.parent ∧ e.kids = if x = p then insK e0.kids at' next else e0.kids := by
    intro x e0 he
    have hx : x ≠ next := by have := g.lt x e0 he; omega
    rw [hat, if_neg hx]
    by_cases hxp : x = p
    · rw [if_pos hxp, he]; exact ⟨_, rfl, rfl, by rw [if_pos hxp]⟩
    · rw [if_neg hxp]; exact ⟨e0, he, rfl, by rw [if_neg hxp]⟩
  have nw : elAt (addE E next p at' name) next = some ⟨name, [], (p : Int), []⟩ := by rw [hat, if_pos rfl]
  refine ⟨?_, ?_, ?_, ?_, ?_, ?_, ?_, ?_, ?_⟩
  · unfold addE
    rw [List.map_append, upd_keys]
    refine List.nodup_append.2 ⟨g.keys, by simp, fun a ha b hb hab => ?_⟩
    obtain rfl : b = next := by simpa using hb
    subst hab; exact g.new_key ha
  · intro x e he
    by_cases hx : x = next
    · omega
    · obtain ⟨e0, h0, _⟩ := old x e he hx
      have := g.lt x e0 h0; omega
  · obtain ⟨r, hr, hpr⟩ := g.root
    obtain ⟨e, he, h1, _⟩ := new 0 r hr
    exact ⟨e, he, h1.trans hpr⟩
  · intro x e he h0
    by_cases hx : x = next
    · subst hx
      rw [nw] at he; cases he
      obtain ⟨pe', hpe', _, hk⟩ := new p pe hp
      exact ⟨p, pe', rfl, hpe', by rw [hk, if_pos rfl]; exact mem_insK.2 (.inl rfl)⟩
    · obtain ⟨e0, he0, h1, _⟩ := old x e he hx
      obtain ⟨q, qe, hq, hqe, hk⟩ := g.up x e0 he0 h0
      obtain ⟨qe', hqe', _, hk'⟩ := new q qe hqe
      refine ⟨q, qe', h1.trans hq, hqe', ?_⟩
      rw [hk']
      split
      · exact mem_insK.2 (.inr hk)
      · exact hk
  · intro x e k he hk
    by_cases hx : x = next
    · subst hx; rw [nw] at he; cases he; cases hk
    · obtain ⟨e0, he0, _, h2⟩ := old x e he hx
      rw [h2] at hk
      by_cases hxp : x = p
      · rw [if_pos hxp] at hk
        rcases mem_insK.1 hk with rfl | hk
        · exact ⟨_, nw, by rw [hxp]⟩
        · obtain ⟨ke, hke, hpk⟩ := g.down x e0 k he0 hk
          obtain ⟨ke', hke', h1, _⟩ := new k ke hke
          exact ⟨ke', hke', h1.trans hpk⟩
      · rw [if_neg hxp] at hk
        obtain ⟨ke, hke, hpk⟩ := g.down x e0 k he0 hk
        obtain ⟨ke', hke', h1, _⟩ := new k ke hke
        exact ⟨ke', hke', h1.trans hpk⟩
  · intro x e he
    by_cases hx : x = next
    · subst hx; rw [nw] at he; cases he; exact List.nodup_nil
    · obtain ⟨e0, he0, _, h2⟩ := old x e he hx
      rw [h2]
      split
      · exact insK_nodup (g.nd x e0 he0) (hnk x e0 he0)
      · exact g.nd x e0 he0
  · have : (0 : Nat) ≠ next := by obtain ⟨r, hr, _⟩ := g.root; have := g.lt 0 r hr; omega
    show (if 0 = next then d p + 1 else d 0) = 1
    rw [if_neg this]; exact g.d0
  · intro x e k he hk
    show (if k = next then d p + 1 else d k) = (if x = next then d p + 1 else d x) + 1
    by_cases hx : x = next
    · subst hx; rw [nw] at he; cases he; cases hk
    · obtain ⟨e0, he0, _, h2⟩ := old x e he hx
      rw [h2] at hk
      rw [if_neg hx]
      by_cases hkn : k = next
      · rw [if_pos hkn]
        by_cases hxp : x = p
        · rw [hxp]
        · rw [if_neg hxp] at hk; subst hkn; exact absurd hk (hnk x e0 he0)
      · rw [if_neg hkn]
        refine g.dk x e0 k he0 ?_
        by_cases hxp : x = p
        · rw [if_pos hxp] at hk
          rcases mem_insK.1 hk with h | h
          · exact absurd h hkn
          · exact h
        · rw [if_neg hxp] at hk; exact hk
  · intro x e he
    show (if x = next then d p + 1 else d x) ≤ 10
    by_cases hx : x = next
    · rw [if_pos hx]; omega
    · rw [if_neg hx]
      obtain ⟨e0, he0, _⟩ := old x e he hx
      exact g.dm x e0 he0
theorem Good.d1 (g : Good E next d) {n : Nat} {e : El} (h : elAt E n = some e) : 1 ≤ d n := by
  by_cases h0 : n = 0
  · subst h0; have := g.d0; omega
  · obtain ⟨p, pe, _, hpe, hk⟩ := g.up n e h h0
    have := g.dk p pe n hpe hk
    omega
/-! ### remove -/
def offK (l : List Nat) (n : Nat) : List Nat := l.filter fun x => x != n
theorem mem_offK {l : List Nat} {n x : Nat} : x ∈ offK l n ↔ x ∈ l ∧ x ≠ n := by unfold offK; simp
theorem offK_nodup {l : List Nat} {n : Nat} (h : l.Nodup) : (offK l n).Nodup := List.Nodup.sublist List.filter_sublist h
theorem offK_self {l : List Nat} {n : Nat} (h : n ∉ l) : offK l n = l := List.filter_eq_self.2 fun a ha => by
  have : a ≠ n := fun e => h (e ▸ ha)
  simpa using this
def removeE (E : Els) (n p : Nat) : Els := (upd E p (fun e => { e with kids := offK e.kids n })).filter fun x => !(below E 10 n).contains x.1
theorem removeE_at (E : Els) (n p x : Nat) : elAt (removeE E n p) x = if x ∈ below E 10 n then none else if x = p then (elAt E x).map (fun e => { e with kids := offK e.kids n }) else elAt E x := by
  unfold removeE
  rw [elAt_filter (p := fun x => !(below E 10 n).contains x), elAt_upd]
  by_cases h : x ∈ below E 10 n
  · rw [if_pos h, if_neg (by simp [h])]
  · rw [if_neg h, if_pos (by simp [h])]
theorem Good.remove (g : Good E next d) {n p : Nat} {e : El} (hn : elAt E n = some e) (h0 : n ≠ 0) (hp : e.parent = (p : Int)) : Good (removeE E n p) next d := by
  obtain ⟨q, pe, hq, hpe, hk⟩ := g.up n e hn h0
  obtain rfl : p = q := by rw [hp] at hq; exact Int.ofNat_inj.1 hq
  have hdn := g.dk p pe n hpe hk
  have hf : ∀ y, 10 ≤ d y + 10 := fun y => by omega
  have hpb : p ∉ below E 10 n := fun h => by have := (g.below_d 10 n p h).1; omega
  have hat := removeE_at E n p
  have old : ∀ (x : Nat) (e' : El), elAt (removeE E n p) x = some e' → x ∉ below E 10 n ∧ ∃ e0, elAt E x = some e0 ∧ e'.parent = e0.parent ∧ e'.kids = if x = p then offK e0.kids n else e0.kids := by
    intro x e' he
    rw [hat] at he
    by_cases hx : x ∈ below E 10 n
    · rw [if_pos hx] at he; cases he
    · rw [if_neg hx] at he
      refine ⟨hx, ?_⟩
      by_cases hxp : x = p
      · subst hxp
        rw [if_pos rfl, hpe] at he
        cases he
        exact ⟨pe, hpe, rfl, by rw [if_pos rfl]⟩
      · rw [if_neg hxp] at he
        exact ⟨e', he, rfl, by rw [if_neg hxp]⟩
  have new : ∀ (x : Nat) (e0 : El), x ∉ below E 10 n → elAt E x = some e0 → ∃ e', elAt (removeE E n p) x = some e' ∧ e'.parent = e0.parent ∧ e'.kids = if x = p then offK e0.kids n else e0.kids := by
    intro x e0 hx he
    rw [hat, if_neg hx]
    by_cases hxp : x = p
    · rw [if_pos hxp, he]; exact ⟨_, rfl, rfl, by rw [if_pos hxp]⟩
    · rw [if_neg hxp]; exact ⟨e0, he, rfl, by rw [if_neg hxp]⟩
  have h0b : 0 ∉ below E 10 n := fun h => by
    have h1 := (g.below_d 10 n 0 h).1
    have h2 := g.d0
    have h3 := g.d1 hpe
    omega
  refine ⟨?_, ?_, ?_, ?_, ?_, ?_, g.d0, ?_, ?_⟩
  · have hs : ((removeE E n p).map (·.1)).Sublist ((upd E p (fun e => { e with kids := offK e.kids n })).map (·.1)) := (List.filter_sublist).map _
    exact List.Nodup.sublist hs (by rw [upd_keys]; exact g.keys)
  · intro x e' he
    obtain ⟨_, e0, he0, _⟩ := old x e' he
    exact g.lt x e0 he0
  · obtain ⟨r, hr, hpr⟩ := g.root
    obtain ⟨e', he, h1, _⟩ := new 0 r h0b hr
    exact ⟨e', he, h1.trans hpr⟩
  · intro x e' he hx0
    obtain ⟨hxb, e0, he0, h1, _⟩ := old x e' he
    obtain ⟨q, qe, hq, hqe, hk'⟩ := g.up x e0 he0 hx0
    have hqb : q ∉ below E 10 n := fun h => hxb (g.below_kid 10 n q x (by omega) h (by rw [kidsAt_some hqe]; exact hk'))
    obtain ⟨qe', hqe', _, hkk⟩ := new q qe hqb hqe
    refine ⟨q, qe', h1.trans hq, hqe', ?_⟩
    rw [hkk]
    split
    · exact mem_offK.2 ⟨hk', fun h => hxb (by rw [h]; exact self_below 10 n)⟩
    · exact hk'
  · intro x e' k he hk'
    obtain ⟨hxb, e0, he0, _, h2⟩ := old x e' he
    rw [h2] at hk'
    have hk0 : k ∈ e0.kids := by
      by_cases hxp : x = p
      · rw [if_pos hxp] at hk'; exact (mem_offK.1 hk').1
      · rw [if_neg hxp] at hk'; exact hk'
    have hkb : k ∉ below E 10 n := fun h => by
      by_cases hkn : k = n
      · subst hkn
        have h3 := g.par_kid (n := x) (k := k) (by rw [kidsAt_some he0]; exact hk0)
        have h4 := g.par_kid (n := p) (k := k) (by rw [kidsAt_some hpe]; exact hk)
        have hxp : x = p := h3.symm.trans h4
        rw [if_pos hxp] at hk'
        exact (mem_offK.1 hk').2 rfl
      · exact hxb (g.below_par 10 n x k (by omega) h hkn (by rw [kidsAt_some he0]; exact hk0))
    obtain ⟨ke, hke, hpk⟩ := g.down x e0 k he0 hk0
    obtain ⟨ke', hke', h1, _⟩ := new k ke hkb hke
    exact ⟨ke', hke', h1.trans hpk⟩
  · intro x e' he
    obtain ⟨_, e0, he0, _, h2⟩ := old x e' he
    rw [h2]
    split
    · exact offK_nodup (g.nd x e0 he0)
    · exact g.nd x e0 he0
  · intro x e' k he hk'
    obtain ⟨_, e0, he0, _, h2⟩ := old x e' he
    refine g.dk x e0 k he0 ?_
    rw [h2] at hk'
    by_cases hxp : x = p
    · rw [if_pos hxp] at hk'; exact (mem_offK.1 hk').1
    · rw [if_neg hxp] at hk'; exact hk'
  · intro x e' he
    obtain ⟨_, e0, he0, _⟩ := old x e' he
    exact g.dm x e0 he0
/-! ### move -/
/-- Element k, where n is taken from p's children and put among m's. -/
def mvEl (n m i p k : Nat) (e : El) : El :=
  ⟨e.name, e.attrs, if k = n then (m : Int) else e.parent, if k = m then insK (if k = p then offK e.kids n else e.kids) i n else if k = p then offK e.kids n else e.kids⟩
def moveE (E : Els) (n m i p : Nat) : Els := E.map fun x => (x.1, mvEl n m i p x.1 x.2)
theorem moveE_keys (E : Els) (n m i p : Nat) : (moveE E n m i p).map (·.1) = E.map (·.1) := by
  unfold moveE; rw [List.map_map]; rfl
theorem moveE_at (E : Els) (n m i p x : Nat) : elAt (moveE E n m i p) x = (elAt E x).map (mvEl n m i p x) := by
  induction E with
  | nil => rfl
  | cons y E ih =>
    show elAt ((y.1, mvEl n m i p y.1 y.2) :: moveE E n m i p) x = _
    rw [elAt_cons, elAt_cons, ih]
    by_cases h : y.1 = x
    · subst h; simp
    · simp [h]
theorem Good.move (g : Good E next d) {n m i p : Nat} {e me : El} (hn : elAt E n = some e) (h0 : n ≠ 0) (hp : e.parent = (p : Int)) (hm : elAt E m = some me) (hmb : m ∉ below E 10 n) (hdeep : d m + high E 10 n ≤ 10) :
    Good (moveE E n m i p) next (fun x => if x ∈ below E 10 n then d x - d n + d m + 1 else d x) := by
  obtain ⟨q, pe, hq, hpe, hk⟩ := g.up n e hn h0
  obtain rfl : p = q := by rw [hp] at hq; exact Int.ofNat_inj.1 hq
  have hdn := g.dk p pe n hpe hk
  have hpb : p ∉ below E 10 n := fun h => by have := (g.below_d 10 n p h).1; omega
  have hnm : n ≠ m := fun h => hmb (h ▸ self_below 10 n)
  have hnp : n ≠ p := fun h => hpb (h ▸ self_below 10 n)
  have hnk : ∀ (x : Nat) e0, elAt E x = some e0 → n ∈ e0.kids → x = p := fun x e0 he hk' => by
    have h3 := g.par_kid (n := x) (k := n) (by rw [kidsAt_some he]; exact hk')
    have h4 := g.par_kid (n := p) (k := n) (by rw [kidsAt_some hpe]; exact hk)
    exact h3.symm.trans h4
  have h0b : 0 ∉ below E 10 n := fun h => by
    have h1 := (g.below_d 10 n 0 h).1
    have h2 := g.d0
    have h3 := g.d1 hpe
    omega
  have old : ∀ (x : Nat) (e' : El), elAt (moveE E n m i p) x = some e' → ∃ e0, elAt E x = some e0 ∧ e' = mvEl n m i p x e0 := by
    intro x e' he
    rw [moveE_at] at he
    cases h : elAt E x with
    | none => rw [h] at he; cases he
    | some e0 => rw [h] at he; cases he; exact ⟨e0, rfl, rfl⟩
  have new : ∀ (x : Nat) (e0 : El), elAt E x = some e0 → elAt (moveE E n m i p) x = some (mvEl n m i p x e0) := by
    intro x e0 he
    rw [moveE_at, he]; rfl
  -- what the children are
  have kid : ∀ (x : Nat) (e0 : El) (k : Nat), elAt E x = some e0 → (k ∈ (mvEl n m i p x e0).kids ↔ (k = n ∧ x = m) ∨ (k ≠ n ∧ k ∈ e0.kids)) := by
    intro x e0 k he
    show k ∈ (if x = m then insK (if x = p then offK e0.kids n else e0.kids) i n else if x = p then offK e0.kids n else e0.kids) ↔ _
    have h1 : k ∈ (if x = p then offK e0.kids n else e0.kids) ↔ k ≠ n ∧ k ∈ e0.kids := by
      by_cases hxp : x = p
      · rw [if_pos hxp, mem_offK]; exact ⟨fun h => ⟨h.2, h.1⟩, fun h => ⟨h.2, h.1⟩⟩
      · rw [if_neg hxp]
        exact ⟨fun h => ⟨fun e => hxp (hnk x e0 he (e ▸ h)), h⟩, fun h => h.2⟩
    by_cases hxm : x = m
    · rw [if_pos hxm, mem_insK, h1]
      exact ⟨fun h => h.imp (fun h => ⟨h, hxm⟩) id, fun h => h.imp (fun h => h.1) id⟩
    · rw [if_neg hxm, h1]
      exact ⟨fun h => .inr h, fun h => h.elim (fun h => absurd h.2 hxm) id⟩
  have dd : ∀ (x k : Nat) (e0 : El), elAt E x = some e0 → k ≠ n → k ∈ e0.kids → (x ∈ below E 10 n ↔ k ∈ below E 10 n) := fun x k e0 he hkn hk' =>
    ⟨fun h => g.below_kid 10 n x k (by omega) h (by rw [kidsAt_some he]; exact hk'), fun h => g.below_par 10 n x k (by omega) h hkn (by rw [kidsAt_some he]; exact hk')⟩
  refine ⟨by rw [moveE_keys]; exact g.keys, ?_, ?_, ?_, ?_, ?_, ?_, ?_, ?_⟩
  · intro x e' he
    obtain ⟨e0, he0, _⟩ := old x e' he
    exact g.lt x e0 he0
  · obtain ⟨r, hr, hpr⟩ := g.root
    refine ⟨_, new 0 r hr, ?_⟩
    show (if 0 = n then (m : Int) else r.parent) = -1
    rw [if_neg (fun h => h0 h.symm)]; exact hpr
  · intro x e' he hx0
    obtain ⟨e0, he0, rfl⟩ := old x e' he
    by_cases hxn : x = n
    · exact ⟨m, _, by show (if x = n then (m : Int) else e0.parent) = m; rw [if_pos hxn], new m me hm, (kid m me x hm).2 (.inl ⟨hxn, rfl⟩)⟩
    · obtain ⟨q, qe, hq, hqe, hk'⟩ := g.up x e0 he0 hx0
      exact ⟨q, _, by show (if x = n then (m : Int) else e0.parent) = q; rw [if_neg hxn]; exact hq, new q qe hqe, (kid q qe x hqe).2 (.inr ⟨hxn, hk'⟩)⟩
  · intro x e' k he hk'
    obtain ⟨e0, he0, rfl⟩ := old x e' he
    rcases (kid x e0 k he0).1 hk' with ⟨rfl, rfl⟩ | ⟨hkn, hk0⟩
    · exact ⟨_, new k e hn, by show (if k = k then (x : Int) else e.parent) = x; rw [if_pos rfl]⟩
    · obtain ⟨ke, hke, hpk⟩ := g.down x e0 k he0 hk0
      exact ⟨_, new k ke hke, by show (if k = n then (m : Int) else ke.parent) = x; rw [if_neg hkn]; exact hpk⟩
  · intro x e' he
    obtain ⟨e0, he0, rfl⟩ := old x e' he
    have hnd := g.nd x e0 he0
    show (if x = m then insK (if x = p then offK e0.kids n else e0.kids) i n else if x = p then offK e0.kids n else e0.kids).Nodup
    have h1 : (if x = p then offK e0.kids n else e0.kids).Nodup := by
      split
      · exact offK_nodup hnd
      · exact hnd
    split
    · refine insK_nodup h1 ?_
      by_cases hxp : x = p
      · rw [if_pos hxp]; exact fun h => (mem_offK.1 h).2 rfl
      · rw [if_neg hxp]; exact fun h => hxp (hnk x e0 he0 h)
    · exact h1
  · show (if 0 ∈ below E 10 n then d 0 - d n + d m + 1 else d 0) = 1
    rw [if_neg h0b]; exact g.d0
  · intro x e' k he hk'
    obtain ⟨e0, he0, rfl⟩ := old x e' he
    show (if k ∈ below E 10 n then d k - d n + d m + 1 else d k) = (if x ∈ below E 10 n then d x - d n + d m + 1 else d x) + 1
    rcases (kid x e0 k he0).1 hk' with ⟨rfl, rfl⟩ | ⟨hkn, hk0⟩
    · rw [if_pos (self_below 10 k), if_neg hmb]; omega
    · have h1 := g.dk x e0 k he0 hk0
      have h2 := dd x k e0 he0 hkn hk0
      by_cases hxb : x ∈ below E 10 n
      · have h3 := (g.below_d 10 n x hxb).1
        rw [if_pos hxb, if_pos (h2.1 hxb)]; omega
      · rw [if_neg hxb, if_neg (fun h => hxb (h2.2 h))]; exact h1
  · intro x e' he
    obtain ⟨e0, he0, _⟩ := old x e' he
    show (if x ∈ below E 10 n then d x - d n + d m + 1 else d x) ≤ 10
    by_cases hxb : x ∈ below E 10 n
    · rw [if_pos hxb]
      have h1 := (g.below_d 10 n x hxb).1
      have h2 := g.high_ge 10 n x hxb
      omega
    · rw [if_neg hxb]; exact g.dm x e0 he0
/-! ### moved, and moved back -/
theorem elAt_of_mem {E : Els} (hk : (E.map (·.1)).Nodup) {k : Nat} {e : El} (h : (k, e) ∈ E) : elAt E k = some e := by
  induction E with
  | nil => cases h
  | cons x E ih =>
    rw [List.map_cons, List.nodup_cons] at hk
    rw [elAt_cons]
    rcases List.mem_cons.1 h with rfl | h
    · rw [if_pos rfl]
    · rw [if_neg (fun hx => hk.1 (by rw [hx]; exact List.mem_map.2 ⟨_, h, rfl⟩))]
      exact ih hk.2 h
theorem offK_insK {l : List Nat} {i n : Nat} (h : n ∉ l) : offK (insK l i n) n = l := by
  unfold offK insK
  rw [List.filter_append, List.filter_cons]
  have h1 : (n != n) = false := by simp
  rw [h1, if_neg (by simp), ← List.filter_append, List.take_append_drop]
  exact offK_self h
theorem insK_offK : ∀ {l : List Nat} {n : Nat}, l.Nodup → n ∈ l → insK (offK l n) (l.idxOf n) n = l ∧ l.idxOf n ≤ (offK l n).length ∧ (offK l n).length + 1 = l.length := by
  intro l
  induction l with
  | nil => intro n _ h; cases h
  | cons a r ih =>
    intro n hnd hn
    rw [List.nodup_cons] at hnd
    by_cases ha : a = n
    · subst ha
      have h1 : offK (a :: r) a = r := by
        show (a :: r).filter (fun x => x != a) = r
        rw [List.filter_cons, if_neg (by simp)]
        exact offK_self hnd.1
      have h2 : (a :: r).idxOf a = 0 := by simp
      rw [h1, h2]
      exact ⟨rfl, Nat.zero_le _, rfl⟩
    · have hn' : n ∈ r := by
        rcases List.mem_cons.1 hn with h | h
        · exact absurd h.symm ha
        · exact h
      obtain ⟨h3, h4, h5⟩ := ih hnd.2 hn'
      have h1 : offK (a :: r) n = a :: offK r n := by
        show (a :: r).filter (fun x => x != n) = _
        rw [List.filter_cons, if_pos (by simpa using ha)]; rfl
      have h2 : (a :: r).idxOf n = r.idxOf n + 1 := by
        rw [List.idxOf_cons]
        have : (a == n) = false := by simpa using ha
        simp [this]
      rw [h1, h2]
      refine ⟨?_, by simp; exact h4, by simp; exact h5⟩
      show a :: ((offK r n).take (r.idxOf n) ++ n :: (offK r n).drop (r.idxOf n)) = a :: r
      exact congrArg _ h3
theorem below_congr {E E' : Els} : ∀ (f x : Nat), (∀ y ∈ below E f x, kidsAt E' y = kidsAt E y) → below E' f x = below E f x := by
  intro f
  induction f with
  | zero => intro x _; rfl
  | succ f ih =>
    intro x h
    show x :: (kidsAt E' x).flatMap (below E' f) = x :: (kidsAt E x).flatMap (below E f)
    rw [h x (self_below _ _)]
    congr 1
    unfold List.flatMap
    congr 1
    refine List.map_congr_left fun k hk => ih k fun y hy => h y ?_
    exact List.mem_cons_of_mem _ (List.mem_flatMap.2 ⟨k, hk, hy⟩)
theorem foldl_congr {h h' : Nat → Nat} : ∀ (l : List Nat) (k : Nat), (∀ x ∈ l, h' x = h x) → l.foldl (fun k x => max k (h' x)) k = l.foldl (fun k x => max k (h x)) k := by
  intro l
  induction l with
  | nil => intro k _; rfl
  | cons a r ih =>
    intro k hh
    show r.foldl _ (max k (h' a)) = r.foldl _ (max k (h a))
    rw [hh a List.mem_cons_self]
    exact ih _ fun x hx => hh x (List.mem_cons_of_mem _ hx)
theorem high_congr {E E' : Els} : ∀ (f x : Nat), (∀ y ∈ below E f x, kidsAt E' y = kidsAt E y) → high E' f x = high E f x := by
  intro f
  induction f with
  | zero => intro x _; rfl
  | succ f ih =>
    intro x h
    show (kidsAt E' x).foldl (fun k x => max k (high E' f x)) 0 + 1 = (kidsAt E x).foldl (fun k x => max k (high E f x)) 0 + 1
    rw [h x (self_below _ _)]
    congr 1
    refine foldl_congr _ _ fun k hk => ih k fun y hy => h y ?_
    exact List.mem_cons_of_mem _ (List.mem_flatMap.2 ⟨k, hk, hy⟩)
/-- Whatever was moved may be moved back, and then all is as it was. -/
theorem Good.move_back (g : Good E next d) {n m i p : Nat} {e pe : El} (hn : elAt E n = some e) (h0 : n ≠ 0) (hp : e.parent = (p : Int)) (hmb : m ∉ below E 10 n) (hpe : elAt E p = some pe) (hk : n ∈ pe.kids) :
    moveE (moveE E n m i p) n p (pe.kids.idxOf n) m = E ∧ p ∉ below (moveE E n m i p) 10 n ∧ high (moveE E n m i p) 10 n = high E 10 n ∧ p ∉ below E 10 n ∧ d p + high E 10 n ≤ 10 ∧
      (∀ me', elAt (moveE E n m i p) p = some me' → pe.kids.idxOf n ≤ me'.kids.length - (if m = p then 1 else 0)) := by
  have hdn := g.dk p pe n hpe hk
  have hpb : p ∉ below E 10 n := fun h => by have := (g.below_d 10 n p h).1; omega
  have hnm : n ≠ m := fun h => hmb (h ▸ self_below 10 n)
  have hnp : n ≠ p := fun h => hpb (h ▸ self_below 10 n)
  have hnk : ∀ (x : Nat) e0, elAt E x = some e0 → n ∈ e0.kids → x = p := fun x e0 he hk' => by
    have h3 := g.par_kid (n := x) (k := n) (by rw [kidsAt_some he]; exact hk')
    have h4 := g.par_kid (n := p) (k := n) (by rw [kidsAt_some hpe]; exact hk)
    exact h3.symm.trans h4
  have hsame : ∀ y ∈ below E 10 n, kidsAt (moveE E n m i p) y = kidsAt E y := by
    intro y hy
    have hym : y ≠ m := fun h => hmb (h ▸ hy)
    have hyp : y ≠ p := fun h => hpb (h ▸ hy)
    unfold kidsAt
    rw [moveE_at]
    cases he : elAt E y with
    | none => rfl
    | some e0 =>
      show (if y = m then insK (if y = p then offK e0.kids n else e0.kids) i n else if y = p then offK e0.kids n else e0.kids) = e0.kids
      rw [if_neg hym, if_neg hyp]
  have hio := insK_offK (g.nd p pe hpe) hk
  have hhl := g.high_le 10 n ⟨e, hn⟩
  refine ⟨?_, by rw [below_congr 10 n hsame]; exact hpb, high_congr 10 n hsame, hpb, by omega, ?_⟩
  · unfold moveE
    rw [List.map_map]
    have : ∀ x ∈ E, ((fun x : Nat × El => (x.1, mvEl n p (pe.kids.idxOf n) m x.1 x.2)) ∘ fun x => (x.1, mvEl n m i p x.1 x.2)) x = id x := by
      rintro ⟨k, e0⟩ hx
      have he := elAt_of_mem g.keys hx
      show (k, mvEl n p (pe.kids.idxOf n) m k (mvEl n m i p k e0)) = (k, e0)
      congr 1
      obtain ⟨nm, at', pa, ks⟩ := e0
      show (⟨nm, at', if k = n then (p : Int) else if k = n then (m : Int) else pa, if k = p then insK (if k = m then offK (if k = m then insK (if k = p then offK ks n else ks) i n else if k = p then offK ks n else ks) n else (if k = m then insK (if k = p then offK ks n else ks) i n else if k = p then offK ks n else ks)) (pe.kids.idxOf n) n
        else if k = m then offK (if k = m then insK (if k = p then offK ks n else ks) i n else if k = p then offK ks n else ks) n else (if k = m then insK (if k = p then offK ks n else ks) i n else if k = p then offK ks n else ks)⟩ : El) = ⟨nm, at', pa, ks⟩
      have e1 : (if k = n then (p : Int) else if k = n then (m : Int) else pa) = pa := by
        by_cases hkn : k = n
        · subst hkn
          rw [hn] at he; cases he
          rw [if_pos rfl]; exact hp.symm
        · rw [if_neg hkn, if_neg hkn]
      rw [e1]
      congr 1
      by_cases hkp : k = p
      · subst hkp
        rw [hpe] at he; cases he
        simp only [if_true] at *
        by_cases hkm : k = m
        · rw [if_pos hkm, if_pos hkm]
          rw [offK_insK (fun h => (mem_offK.1 h).2 rfl)]
          exact hio.1
        · rw [if_neg hkm, if_neg hkm]
          exact hio.1
      · have hnks : n ∉ ks := fun h => hkp (hnk k _ he h)
        simp only [if_neg hkp]
        by_cases hkm : k = m
        · simp only [if_pos hkm]
          exact offK_insK hnks
        · simp only [if_neg hkm]
    rw [List.map_congr_left this, List.map_id]
  · intro me' hme'
    rw [moveE_at, hpe] at hme'
    cases hme'
    show _ ≤ (if p = m then insK (if p = p then offK pe.kids n else pe.kids) i n else if p = p then offK pe.kids n else pe.kids).length - _
    rw [if_pos rfl]
    by_cases hpm : p = m
    · rw [if_pos hpm, if_pos hpm.symm]
      have : (insK (offK pe.kids n) i n).length = (offK pe.kids n).length + 1 := by
        unfold insK; simp; omega
      omega
    · rw [if_neg hpm, if_neg (fun h => hpm h.symm)]
      omega
end Lead.Dc

/-
  Plain: a node as a tree; the document that New lays out of it; it is a right one.
-/
namespace Lead.Dc
/-- A node as a tree. -/
inductive RT where
  | mk (name : ByteArray) (attrs : List (ByteArray × ByteArray)) (kids : List RT)
mutual
def RT.cnt : RT → Nat
  | .mk _ _ ks => RT.cntL ks + 1
def RT.cntL : List RT → Nat
  | [] => 0
  | x :: r => x.cnt + RT.cntL r
end
mutual
def RT.hgt : RT → Nat
  | .mk _ _ ks => RT.hgtL ks + 1
def RT.hgtL : List RT → Nat
  | [] => 0
  | x :: r => max x.hgt (RT.hgtL r)
end
def idsL : List RT → Nat → List Nat
  | [], _ => []
  | x :: r, k => k :: idsL r (k + x.cnt)
mutual
def treeE : RT → Int → Nat → Els
  | .mk nm at' ks, p, k => (k, ⟨nm, at', p, idsL ks (k + 1)⟩) :: treesE ks k (k + 1)
def treesE : List RT → Nat → Nat → Els
  | [], _, _ => []
  | x :: r, p, k => treeE x (p : Int) k ++ treesE r p (k + x.cnt)
end
theorem elAt_app (A B : Els) (x : Nat) : elAt (A ++ B) x = (elAt A x).or (elAt B x) := by
  induction A with
  | nil => simp [elAt_nil]
  | cons y A ih =>
    rw [List.cons_append, elAt_cons, elAt_cons, ih]
    split <;> simp
/-- A forest laid from number k on. -/
structure TreeOk (F : Els) (k c : Nat) (ids : List Nat) (p : Int) (dp h : Nat) (dep : Nat → Nat) : Prop where
  keys : F.map (·.1) = List.range' k c
  idsIn : ∀ x ∈ ids, k ≤ x ∧ x < k + c
  idsNd : ids.Nodup
  roots : ∀ x ∈ ids, ∃ e, elAt F x = some e ∧ e.parent = p
  up : ∀ x e, elAt F x = some e → x ∈ ids ∨ ∃ (q : Nat) (qe : El), e.parent = (q : Int) ∧ elAt F q = some qe ∧ x ∈ qe.kids
  down : ∀ q qe x, elAt F q = some qe → x ∈ qe.kids → ∃ e, elAt F x = some e ∧ e.parent = (q : Int)
  nd : ∀ q qe, elAt F q = some qe → qe.kids.Nodup
  d0 : ∀ x ∈ ids, dep x = dp
  dk : ∀ q qe x, elAt F q = some qe → x ∈ qe.kids → dep x = dep q + 1
  dm : ∀ x e, elAt F x = some e → dep x + 1 ≤ dp + h
theorem TreeOk.rng {F : Els} {k c : Nat} {ids : List Nat} {p : Int} {dp h : Nat} {dep : Nat → Nat} (t : TreeOk F k c ids p dp h dep) {x : Nat} {e : El} (he : elAt F x = some e) : k ≤ x ∧ x < k + c := by
  have h1 := elAt_some.1 ⟨e, he⟩
  rw [t.keys, List.mem_range'_1] at h1
  exact h1
theorem TreeOk.nil (k : Nat) (p : Int) (dp : Nat) : TreeOk [] k 0 [] p dp 0 (fun _ => 0) :=
  ⟨rfl, (fun x hx => by cases hx), List.nodup_nil, (fun x hx => by cases hx), (fun x e he => by cases he), (fun q qe x he => by cases he), (fun q qe he => by cases he), (fun x hx => by cases hx), (fun q qe x he => by cases he), (fun x e he => by cases he)⟩
theorem TreeOk.app {A B : Els} {k c1 c2 : Nat} {i1 i2 : List Nat} {p : Int} {dp h1 h2 : Nat} {d1 d2 : Nat → Nat} (a : TreeOk A k c1 i1 p dp h1 d1) (b : TreeOk B (k + c1) c2 i2 p dp h2 d2) :
    TreeOk (A ++ B) k (c1 + c2) (i1 ++ i2) p dp (max h1 h2) (fun x => if x < k + c1 then d1 x else d2 x) := by
  have hA : ∀ x e, elAt A x = some e → elAt (A ++ B) x = some e := fun x e he => by rw [elAt_app, he]; rfl
  have hB : ∀ x e, elAt B x = some e → elAt (A ++ B) x = some e := fun x e he => by
    rw [elAt_app]
    have : elAt A x = none := elAt_none fun hk => by
      rw [a.keys, List.mem_range'_1] at hk
      have := b.rng he; omega
    rw [this, he]; rfl
  have hAB : ∀ x e, elAt (A ++ B) x = some e → elAt A x = some e ∨ elAt B x = some e := fun x e he => by
    rw [elAt_app] at he
    cases hx : elAt A x with
    | none => rw [hx] at he; exact .inr he
    | some e0 => rw [hx] at he; cases he; exact .inl rfl
  refine ⟨?_, ?_, ?_, ?_, ?_, ?_, ?_, ?_, ?_, ?_⟩
  · rw [List.map_append, a.keys, b.keys, List.range'_append_1]
  · intro x hx
    rcases List.mem_append.1 hx with hx | hx
    · have := a.idsIn x hx; omega
    · have := b.idsIn x hx; omega
  · refine List.nodup_append.2 ⟨a.idsNd, b.idsNd, fun x hx y hy hxy => ?_⟩
    have h1 := a.idsIn x hx
    have h2 := b.idsIn y hy
    omega
  · intro x hx
    rcases List.mem_append.1 hx with hx | hx
    · obtain ⟨e, he, hp⟩ := a.roots x hx; exact ⟨e, hA x e he, hp⟩
    · obtain ⟨e, he, hp⟩ := b.roots x hx; exact ⟨e, hB x e he, hp⟩
  · intro x e he
    rcases hAB x e he with he | he
    · rcases a.up x e he with h | ⟨q, qe, h, hq, hk⟩
      · exact .inl (List.mem_append.2 (.inl h))
      · exact .inr ⟨q, qe, h, hA q qe hq, hk⟩
    · rcases b.up x e he with h | ⟨q, qe, h, hq, hk⟩
      · exact .inl (List.mem_append.2 (.inr h))
      · exact .inr ⟨q, qe, h, hB q qe hq, hk⟩
  · intro q qe x hq hk
    rcases hAB q qe hq with hq | hq
    · obtain ⟨e, he, hp⟩ := a.down q qe x hq hk; exact ⟨e, hA x e he, hp⟩
    · obtain ⟨e, he, hp⟩ := b.down q qe x hq hk; exact ⟨e, hB x e he, hp⟩
  · intro q qe hq
    rcases hAB q qe hq with hq | hq
    · exact a.nd q qe hq
    · exact b.nd q qe hq
  · intro x hx
    rcases List.mem_append.1 hx with hx | hx
    · have := a.idsIn x hx
      show (if x < k + c1 then d1 x else d2 x) = dp
      rw [if_pos (by omega)]; exact a.d0 x hx
    · have := b.idsIn x hx
      show (if x < k + c1 then d1 x else d2 x) = dp
      rw [if_neg (by omega)]; exact b.d0 x hx
  · intro q qe x hq hk
    show (if x < k + c1 then d1 x else d2 x) = (if q < k + c1 then d1 q else d2 q) + 1
    rcases hAB q qe hq with hq | hq
    · obtain ⟨e, he, _⟩ := a.down q qe x hq hk
      have h1 := a.rng hq
      have h2 := a.rng he
      rw [if_pos (by omega), if_pos (by omega)]; exact a.dk q qe x hq hk
    · obtain ⟨e, he, _⟩ := b.down q qe x hq hk
      have h1 := b.rng hq
      have h2 := b.rng he
      rw [if_neg (by omega), if_neg (by omega)]; exact b.dk q qe x hq hk
  · intro x e he
    show (if x < k + c1 then d1 x else d2 x) + 1 ≤ dp + max h1 h2
    rcases hAB x e he with he | he
    · have h1 := a.rng he
      have h2 := a.dm x e he
      rw [if_pos (by omega)]; omega
    · have h1 := b.rng he
      have h2 := b.dm x e he
      rw [if_neg (by omega)]; omega
theorem TreeOk.node {F : Els} {k c : Nat} {ids : List Nat} {dp h : Nat} {dep : Nat → Nat} (t : TreeOk F (k + 1) c ids (k : Int) (dp + 1) h dep) (nm : ByteArray) (at' : List (ByteArray × ByteArray)) (p : Int) :
    TreeOk ((k, ⟨nm, at', p, ids⟩) :: F) k (c + 1) [k] p dp (h + 1) (fun x => if x = k then dp else dep x) := by
  have h0 : elAt ((k, ⟨nm, at', p, ids⟩) :: F) k = some ⟨nm, at', p, ids⟩ := by rw [elAt_cons, if_pos rfl]
  have hF : ∀ x e, elAt F x = some e → x ≠ k ∧ elAt ((k, ⟨nm, at', p, ids⟩) :: F) x = some e := fun x e he => by
    have h1 := t.rng he
    have hx : k ≠ x := by omega
    exact ⟨fun h => hx h.symm, by rw [elAt_cons, if_neg hx]; exact he⟩
  have hold : ∀ x e, elAt ((k, ⟨nm, at', p, ids⟩) :: F) x = some e → (x = k ∧ e = ⟨nm, at', p, ids⟩) ∨ (x ≠ k ∧ elAt F x = some e) := fun x e he => by
    rw [elAt_cons] at he
    by_cases hx : k = x
    · rw [if_pos hx] at he; cases he; exact .inl ⟨hx.symm, rfl⟩
    · rw [if_neg hx] at he; exact .inr ⟨fun h => hx h.symm, he⟩
  refine ⟨?_, ?_, by simp, ?_, ?_, ?_, ?_, ?_, ?_, ?_⟩
  · rw [List.map_cons, t.keys, List.range'_succ]
  · intro x hx
    obtain rfl : x = k := by simpa using hx
    omega
  · intro x hx
    obtain rfl : x = k := by simpa using hx
    exact ⟨_, h0, rfl⟩
  · intro x e he
    rcases hold x e he with ⟨rfl, _⟩ | ⟨hx, he⟩
    · exact .inl (by simp)
    · rcases t.up x e he with hi | ⟨q, qe, h1, h2, h3⟩
      · obtain ⟨e', he', hp⟩ := t.roots x hi
        rw [he] at he'; cases he'
        exact .inr ⟨k, _, hp, h0, hi⟩
      · exact .inr ⟨q, qe, h1, (hF q qe h2).2, h3⟩
  · intro q qe x hq hk
    rcases hold q qe hq with ⟨rfl, rfl⟩ | ⟨_, hq⟩
    · obtain ⟨e, he, hp⟩ := t.roots x hk
      exact ⟨e, (hF x e he).2, hp⟩
    · obtain ⟨e, he, hp⟩ := t.down q qe x hq hk
      exact ⟨e, (hF x e he).2, hp⟩
  · intro q qe hq
    rcases hold q qe hq with ⟨rfl, rfl⟩ | ⟨_, hq⟩
    · exact t.idsNd
    · exact t.nd q qe hq
  · intro x hx
    obtain rfl : x = k := by simpa using hx
    show (if x = x then dp else dep x) = dp
    rw [if_pos rfl]
  · intro q qe x hq hk
    show (if x = k then dp else dep x) = (if q = k then dp else dep q) + 1
    rcases hold q qe hq with ⟨rfl, rfl⟩ | ⟨hqk, hq⟩
    · have h1 := t.idsIn x hk
      rw [if_neg (by omega), if_pos rfl]; exact t.d0 x hk
    · obtain ⟨e, he, _⟩ := t.down q qe x hq hk
      rw [if_neg (hF x e he).1, if_neg hqk]; exact t.dk q qe x hq hk
  · intro x e he
    show (if x = k then dp else dep x) + 1 ≤ dp + (h + 1)
    rcases hold x e he with ⟨rfl, _⟩ | ⟨hx, he⟩
    · rw [if_pos rfl]; omega
    · rw [if_neg hx]; have := t.dm x e he; omega
mutual
theorem treeE_ok : ∀ (n : RT) (p : Int) (k dp : Nat), ∃ dep, TreeOk (treeE n p k) k n.cnt [k] p dp n.hgt dep
  | .mk nm at' ks, p, k, dp => by
    obtain ⟨dep, h⟩ := treesE_ok ks k (k + 1) (dp + 1)
    have := h.node nm at' p
    exact ⟨fun x => if x = k then dp else dep x, by simp only [treeE, RT.cnt, RT.hgt]; exact this⟩
theorem treesE_ok : ∀ (ks : List RT) (p k dp : Nat), ∃ dep, TreeOk (treesE ks p k) k (RT.cntL ks) (idsL ks k) (p : Int) dp (RT.hgtL ks) dep
  | [], p, k, dp => ⟨_, by simpa only [treesE, RT.cntL, idsL, RT.hgtL] using TreeOk.nil k (p : Int) dp⟩
  | x :: r, p, k, dp => by
    obtain ⟨d1, h1⟩ := treeE_ok x (p : Int) k dp
    obtain ⟨d2, h2⟩ := treesE_ok r p (k + x.cnt) dp
    have := h1.app h2
    exact ⟨fun y => if y < k + x.cnt then d1 y else d2 y, by simp only [treesE, RT.cntL, idsL, RT.hgtL]; exact this⟩
end
/-- A node that is not too deep is a right document. -/
theorem good_tree (n : RT) (h : n.hgt ≤ 10) : ∃ d, Good (treeE n (-1) 0) n.cnt d := by
  obtain ⟨dep, t⟩ := treeE_ok n (-1) 0 1
  refine ⟨dep, ?_, ?_, ?_, ?_, t.down, t.nd, t.d0 0 (by simp), t.dk, ?_⟩
  · rw [t.keys]; exact List.nodup_range'
  · intro x e he
    have := t.rng he; omega
  · exact t.roots 0 (by simp)
  · intro x e he hx
    rcases t.up x e he with hi | ⟨q, qe, h1, h2, h3⟩
    · exact absurd (by simpa using hi) hx
    · exact ⟨q, qe, h1, h2, h3⟩
  · intro x e he
    have := t.dm x e he; omega
/-! ### how it is laid -/
mutual
def layN : RT → Int → Els × Nat → Els × Nat
  | .mk nm at' ks, p, s => layL ks s.2 (s.1 ++ [(s.2, ⟨nm, at', p, []⟩)], s.2 + 1)
def layL : List RT → Nat → Els × Nat → Els × Nat
  | [], _, s => s
  | x :: r, k, s => layL r k (upd (layN x (k : Int) s).1 k (fun e => { e with kids := e.kids ++ [s.2] }), (layN x (k : Int) s).2)
end
theorem upd_app (A B : Els) (n : Nat) (f : El → El) : upd (A ++ B) n f = upd A n f ++ upd B n f := by unfold upd; rw [List.map_append]
theorem upd_miss (A : Els) (n : Nat) (f : El → El) (h : n ∉ A.map (·.1)) : upd A n f = A := by
  unfold upd
  have : ∀ x ∈ A, (if x.1 = n then (x.1, f x.2) else x) = id x := fun x hx => if_neg fun he => h (List.mem_map.2 ⟨x, hx, he⟩)
  rw [List.map_congr_left this, List.map_id]
mutual
theorem layN_eq : ∀ (n : RT) (p : Int) (E : Els) (next : Nat), (∀ x ∈ E.map (·.1), x < next) → layN n p (E, next) = (E ++ treeE n p next, next + n.cnt)
  | .mk nm at' ks, p, E, next, h => by
    have h1 := layL_eq ks next E [] (next + 1) nm at' p h (Nat.lt_succ_self _) [] (fun x hx => by cases hx)
    simp only [layN, treeE, RT.cnt]
    rw [List.append_nil, List.nil_append] at h1
    rw [h1, List.nil_append, Nat.add_assoc, Nat.add_comm 1, List.append_assoc, List.singleton_append]
theorem layL_eq : ∀ (ks : List RT) (k : Nat) (E M : Els) (next : Nat) (nm : ByteArray) (at' : List (ByteArray × ByteArray)) (p : Int), (∀ x ∈ E.map (·.1), x < k) → k < next → ∀ (is : List Nat), (∀ x ∈ M.map (·.1), k < x ∧ x < next) →
    layL ks k (E ++ [(k, ⟨nm, at', p, is⟩)] ++ M, next) = (E ++ [(k, ⟨nm, at', p, is ++ idsL ks next⟩)] ++ (M ++ treesE ks k next), next + RT.cntL ks)
  | [], k, E, M, next, nm, at', p, h, hk, is, hM => by simp [layL, idsL, treesE, RT.cntL]
  | x :: r, k, E, M, next, nm, at', p, h, hk, is, hM => by
    have hlt : ∀ y ∈ (E ++ [(k, (⟨nm, at', p, is⟩ : El))] ++ M).map (·.1), y < next := fun y hy => by
      rw [List.map_append, List.map_append, List.mem_append, List.mem_append] at hy
      rcases hy with (hy | hy) | hy
      · have := h y hy; omega
      · obtain rfl : y = k := by simpa using hy
        exact hk
      · exact (hM y hy).2
    have h1 := layN_eq x (k : Int) (E ++ [(k, ⟨nm, at', p, is⟩)] ++ M) next hlt
    simp only [layL]
    rw [h1]
    obtain ⟨_, tk⟩ := treeE_ok x (k : Int) next 1
    have e1 : upd (E ++ [(k, (⟨nm, at', p, is⟩ : El))] ++ M ++ treeE x (k : Int) next) k (fun e => { e with kids := e.kids ++ [next] }) = E ++ [(k, ⟨nm, at', p, is ++ [next]⟩)] ++ (M ++ treeE x (k : Int) next) := by
      rw [upd_app, upd_app, upd_app, upd_miss E k _ (fun hh => by have := h k hh; omega), upd_miss M k _ (fun hh => by have := (hM k hh).1; omega), upd_miss (treeE x (k : Int) next) k _ (fun hh => by rw [tk.keys, List.mem_range'_1] at hh; omega)]
      have : upd [(k, (⟨nm, at', p, is⟩ : El))] k (fun e => { e with kids := e.kids ++ [next] }) = [(k, ⟨nm, at', p, is ++ [next]⟩)] := by simp [upd]
      rw [this]; simp only [List.append_assoc]
    show layL r k (upd (E ++ [(k, (⟨nm, at', p, is⟩ : El))] ++ M ++ treeE x (k : Int) next) k (fun e => { e with kids := e.kids ++ [next] }), next + x.cnt) = _
    rw [e1]
    have h2 := layL_eq r k E (M ++ treeE x (k : Int) next) (next + x.cnt) nm at' p h (by omega) (is ++ [next]) (fun y hy => by
      rw [List.map_append, List.mem_append] at hy
      rcases hy with hy | hy
      · have := hM y hy; omega
      · rw [tk.keys, List.mem_range'_1] at hy; omega)
    rw [h2]
    simp only [idsL, treesE, RT.cntL, List.append_assoc, List.cons_append, List.nil_append, Nat.add_assoc]
end
end Lead.Dc

/-
  Plain: what mark.Check says of a node; a node that it lets pass is neither too deep nor too great; a node's flats, with the bound at which they stop.
-/
namespace Lead.Dc
/-- A byte of a name. -/
def nmC (c : UInt8) : Bool := (decide (97 ≤ c) && decide (c ≤ 122)) || (decide (48 ≤ c) && decide (c ≤ 57)) || decide (c = 45)
def nmL : List UInt8 → Bool
  | [] => false
  | c :: r => decide ((c :: r).length ≤ 12) && decide (97 ≤ c) && decide (c ≤ 122) && (c :: r).all nmC
def nmOk (s : ByteArray) : Bool := nmL s.data.toList
def vlC (c : UInt8) : Bool := decide (32 ≤ c) && decide (c ≤ 126)
def vlOk (s : ByteArray) : Bool := decide (s.size ≤ 200) && s.data.toList.all vlC
/-- Attributes behind others: 0, or the first one's error. -/
def atC : List (ByteArray × ByteArray) → List (ByteArray × ByteArray) → Nat
  | _, [] => 0
  | l, a :: r => if nmOk a.1 = false then 4 else if l.any (fun b => decide (b.1 = a.1)) then 6 else if vlOk a.2 = false then 10 else atC (l ++ [a]) r
def atE (l : List (ByteArray × ByteArray)) : Nat := if 12 < l.length then 7 else atC [] l
def nodeE (nm : ByteArray) (ats : List (ByteArray × ByteArray)) (i deep : Nat) : Nat :=
  if 10 < deep then 8 else if 100 ≤ i then 7 else if nmOk nm = false then 4 else atE ats
mutual
/-- A node and all below: how many there were, and the error, or 0. -/
def chkN : RT → Nat → Nat → Nat × Nat
  | .mk nm ats ks, i, deep => if nodeE nm ats i deep ≠ 0 then (i, nodeE nm ats i deep) else chkL ks (i + 1) (deep + 1)
def chkL : List RT → Nat → Nat → Nat × Nat
  | [], i, _ => (i, 0)
  | x :: r, i, deep => if (chkN x i deep).2 ≠ 0 then chkN x i deep else chkL r (chkN x i deep).1 deep
end
theorem nodeE_ok {nm : ByteArray} {ats : List (ByteArray × ByteArray)} {i deep : Nat} (h : nodeE nm ats i deep = 0) : deep ≤ 10 ∧ i < 100 := by
  unfold nodeE at h
  split at h
  · exact absurd h (by decide)
  · split at h
    · exact absurd h (by decide)
    · omega
mutual
theorem chkN_ok : ∀ (n : RT) (i deep : Nat), (chkN n i deep).2 = 0 → (chkN n i deep).1 = i + n.cnt ∧ deep + n.hgt ≤ 11 ∧ i + n.cnt ≤ 100
  | .mk nm ats ks, i, deep, h => by
    simp only [chkN, RT.cnt, RT.hgt] at h ⊢
    split at h
    · next hc => exact absurd h hc
    · next hc =>
      have h0 := nodeE_ok (Decidable.not_not.1 hc)
      have := chkL_ok ks (i + 1) (deep + 1) (by omega) (by omega) h
      rw [if_neg hc]; omega
theorem chkL_ok : ∀ (ks : List RT) (i deep : Nat), i ≤ 100 → deep ≤ 11 → (chkL ks i deep).2 = 0 → (chkL ks i deep).1 = i + RT.cntL ks ∧ deep + RT.hgtL ks ≤ 11 ∧ i + RT.cntL ks ≤ 100
  | [], i, deep, hi, hd, h => by simp only [chkL, RT.cntL, RT.hgtL]; omega
  | x :: r, i, deep, hi, hd, h => by
    simp only [chkL, RT.cntL, RT.hgtL] at h ⊢
    split at h
    · next hc => exact absurd h hc
    · next hc =>
      have h1 := chkN_ok x i deep (Decidable.not_not.1 hc)
      have h2 := chkL_ok r (chkN x i deep).1 deep (by omega) hd h
      rw [if_neg hc]; omega
end
/-- A node of a list. -/
structure FlatV where
  name : ByteArray
  attrs : List (ByteArray × ByteArray)
  parent : Int
  deep : Int
def flat0 : FlatV := ⟨⟨#[]⟩, [], 0, 0⟩
mutual
def flN : RT → Int → Nat → List FlatV → List FlatV
  | .mk nm ats ks, p, deep, l => if 150 < l.length ∨ 15 < deep then List.replicate 151 flat0 else flL ks l.length (deep + 1) (l ++ [⟨nm, ats, p, deep⟩])
def flL : List RT → Nat → Nat → List FlatV → List FlatV
  | [], _, _, out => out
  | x :: r, k, deep, out => if 150 < (flN x (k : Int) deep out).length then flN x (k : Int) deep out else flL r k deep (flN x (k : Int) deep out)
end
mutual
theorem flN_len : ∀ (n : RT) (p : Int) (deep : Nat) (l : List FlatV), 0 < (flN n p deep l).length ∧ (flN n p deep l).length ≤ 151
  | .mk nm ats ks, p, deep, l => by
    simp only [flN]
    split
    · rw [List.length_replicate]; omega
    · next hc =>
      have hl : (l ++ [(⟨nm, ats, p, deep⟩ : FlatV)]).length = l.length + 1 := by simp
      exact flL_len ks l.length (deep + 1) _ (by omega) (by omega)
theorem flL_len : ∀ (ks : List RT) (k deep : Nat) (out : List FlatV), 0 < out.length → out.length ≤ 151 → 0 < (flL ks k deep out).length ∧ (flL ks k deep out).length ≤ 151
  | [], _, _, out, h0, h => ⟨h0, h⟩
  | x :: r, k, deep, out, h0, h => by
    have h1 := flN_len x (k : Int) deep out
    simp only [flL]
    split
    · exact h1
    · exact flL_len r k deep _ h1.1 h1.2
end
mutual
/-- The flats without a bound. -/
def allF : RT → Int → Nat → Nat → List FlatV
  | .mk nm ats ks, p, deep, k => ⟨nm, ats, p, deep⟩ :: allFs ks k (deep + 1) (k + 1)
def allFs : List RT → Nat → Nat → Nat → List FlatV
  | [], _, _, _ => []
  | x :: r, p, deep, k => allF x (p : Int) deep k ++ allFs r p deep (k + x.cnt)
end
mutual
theorem allF_len : ∀ (n : RT) (p : Int) (deep k : Nat), (allF n p deep k).length = n.cnt
  | .mk nm ats ks, p, deep, k => by simp only [allF, RT.cnt, List.length_cons]; rw [allFs_len ks]
theorem allFs_len : ∀ (ks : List RT) (p deep k : Nat), (allFs ks p deep k).length = RT.cntL ks
  | [], _, _, _ => rfl
  | x :: r, p, deep, k => by simp only [allFs, RT.cntL, List.length_append]; rw [allF_len x, allFs_len r]
end
mutual
/-- Below the bound they are all of them. -/
theorem flN_all : ∀ (n : RT) (p : Int) (deep : Nat) (l : List FlatV), (flN n p deep l).length ≤ 150 → flN n p deep l = l ++ allF n p deep l.length ∧ deep + n.hgt ≤ 16
  | .mk nm ats ks, p, deep, l, h => by
    simp only [flN] at h ⊢
    split at h
    · rw [List.length_replicate] at h; omega
    · next hc =>
      have hl : (l ++ [(⟨nm, ats, p, deep⟩ : FlatV)]).length = l.length + 1 := by simp
      have := flL_all ks l.length (deep + 1) _ (by omega) h
      rw [if_neg hc, this.1]
      simp only [allF, RT.hgt]
      rw [hl, List.append_assoc, List.singleton_append]
      exact ⟨rfl, by omega⟩
theorem flL_all : ∀ (ks : List RT) (k deep : Nat) (out : List FlatV), deep ≤ 16 → (flL ks k deep out).length ≤ 150 → flL ks k deep out = out ++ allFs ks k deep out.length ∧ deep + RT.hgtL ks ≤ 16
  | [], k, deep, out, hd, h => by simp only [flL, allFs, RT.hgtL, List.append_nil]; exact ⟨trivial, by omega⟩
  | x :: r, k, deep, out, hd, h => by
    simp only [flL] at h ⊢
    split at h
    · omega
    · next hc =>
      have h1 := flN_all x (k : Int) deep out (by omega)
      have h2 := flL_all r k deep _ hd h
      rw [if_neg hc, h2.1]
      simp only [allFs, RT.hgtL]
      have hn : (flN x (k : Int) deep out).length = out.length + x.cnt := by rw [h1.1, List.length_append, allF_len]
      rw [hn, h1.1, List.append_assoc]
      exact ⟨rfl, by omega⟩
end
end Lead.Dc

/-
  Plain: what a right document says of each element's parent, and of how its list begins; what Add, Remove and Move answer.
-/
namespace Lead.Dc
theorem count_one {l : List Nat} {x : Nat} (h : l.Nodup) (hx : x ∈ l) : l.count x = 1 := by
  have h1 := (List.nodup_iff_count.1 h) x
  have h2 := List.count_pos_iff.2 hx
  omega
variable {E : Els} {next : Nat} {d : Nat → Nat}
/-- An element but the root is the child of one parent, once. -/
theorem Good.par (g : Good E next d) {x : Nat} {e : El} (h : elAt E x = some e) (h0 : x ≠ 0) : ∃ (p : Nat) (pe : El), e.parent = (p : Int) ∧ elAt E p = some pe ∧ d x = d p + 1 ∧ x ∈ pe.kids ∧ pe.kids.count x = 1 := by
  obtain ⟨p, pe, h1, h2, h3⟩ := g.up x e h h0
  exact ⟨p, pe, h1, h2, g.dk p pe x h2 h3, h3, count_one (g.nd p pe h2) h3⟩
theorem below_head (f n : Nat) : ∃ r, below E f n = n :: r := by cases f <;> exact ⟨_, rfl⟩
/-- The list of all: the root, then others. -/
theorem Good.all_list (g : Good E next d) : ∃ r, below E 10 0 = 0 :: r ∧ r.length + 1 = E.length ∧ ∀ x ∈ r, x ≠ 0 ∧ ∃ e, elAt E x = some e := by
  obtain ⟨r, hr⟩ := below_head (E := E) 10 0
  have hl := g.all_len
  have hn := g.below_nodup 10 0
  rw [hr] at hl hn
  refine ⟨r, hr, by simpa using hl, fun x hx => ⟨fun h => ?_, ?_⟩⟩
  · rw [List.nodup_cons] at hn; exact hn.1 (h ▸ hx)
  · exact (g.all_mem x).2 (by rw [hr]; exact List.mem_cons_of_mem _ hx)
/-- What Add answers: 0, or the error. -/
def addC (E : Els) (d : Nat → Nat) (p : Int) (i : Int) (nm : ByteArray) : Nat := match (if 0 ≤ p then elAt E p.toNat else none) with
  | none => 5
  | some pe => if i < 0 ∨ (pe.kids.length : Int) < i then 2 else if nmOk nm = false then 4 else if 10 ≤ d p.toNat then 8 else if 100 ≤ E.length then 7 else 0
def remC (E : Els) (n : Int) : Nat := match (if 0 ≤ n then elAt E n.toNat else none) with
  | none => 5
  | some _ => if n = 0 then 3 else 0
def movC (E : Els) (d : Nat → Nat) (n m : Int) (i : Int) : Nat :=
  match (if 0 ≤ n then elAt E n.toNat else none), (if 0 ≤ m then elAt E m.toNat else none) with
  | some e, some me => if n = 0 then 3 else if m.toNat ∈ below E 10 n.toNat then 9 else
      if i < 0 ∨ ((if e.parent = m then me.kids.length - 1 else me.kids.length : Nat) : Int) < i then 2 else if 10 < d m.toNat + high E 10 n.toNat then 8 else 0
  | _, _ => 5
theorem addC_ok {p i : Int} {nm : ByteArray} (h : addC E d p i nm = 0) : ∃ (q k : Nat) (pe : El), p = (q : Int) ∧ i = (k : Int) ∧ elAt E q = some pe ∧ k ≤ pe.kids.length ∧ nmOk nm = true ∧ d q < 10 ∧ E.length < 100 := by
  unfold addC at h
  by_cases hp : 0 ≤ p
  · rw [if_pos hp] at h
    obtain ⟨q, rfl⟩ := Int.eq_ofNat_of_zero_le hp
    rw [Int.toNat_natCast] at h
    cases he : elAt E q with
    | none => rw [he] at h; cases h
    | some pe =>
      rw [he] at h
      dsimp only at h
      split at h
      · exact absurd h (by decide)
      · split at h
        · exact absurd h (by decide)
        · split at h
          · exact absurd h (by decide)
          · split at h
            · exact absurd h (by decide)
            · next h1 h2 h3 h4 =>
              obtain ⟨k, rfl⟩ := Int.eq_ofNat_of_zero_le (show 0 ≤ i by omega)
              exact ⟨q, k, pe, rfl, rfl, he, by omega, by simpa using h2, by omega, by omega⟩
  · rw [if_neg hp] at h; cases h
theorem remC_ok {n : Int} (h : remC E n = 0) : ∃ (k : Nat) (e : El), n = (k : Int) ∧ elAt E k = some e ∧ k ≠ 0 := by
  unfold remC at h
  by_cases hp : 0 ≤ n
  · rw [if_pos hp] at h
    obtain ⟨q, rfl⟩ := Int.eq_ofNat_of_zero_le hp
    rw [Int.toNat_natCast] at h
    cases he : elAt E q with
    | none => rw [he] at h; cases h
    | some pe =>
      rw [he] at h
      dsimp only at h
      split at h
      · exact absurd h (by decide)
      · next h1 => exact ⟨q, pe, rfl, he, by omega⟩
  · rw [if_neg hp] at h; cases h
theorem movC_at {a b : Nat} {i : Int} {e me : El} (he : elAt E a = some e) (hm : elAt E b = some me) : movC E d (a : Int) (b : Int) i = (if a = 0 then 3 else if b ∈ below E 10 a then 9 else
      if i < 0 ∨ ((if e.parent = (b : Int) then me.kids.length - 1 else me.kids.length : Nat) : Int) < i then 2 else if 10 < d b + high E 10 a then 8 else 0) := by
  unfold movC
  rw [if_pos (Int.natCast_nonneg a), if_pos (Int.natCast_nonneg b), Int.toNat_natCast, Int.toNat_natCast, he, hm]
  dsimp only
  by_cases h0 : a = 0
  · rw [if_pos (by omega), if_pos h0]
  · rw [if_neg (by omega), if_neg h0]
theorem movC_ok {n m i : Int} (h : movC E d n m i = 0) : ∃ (a b j : Nat) (e me : El), n = (a : Int) ∧ m = (b : Int) ∧ i = (j : Int) ∧ elAt E a = some e ∧ elAt E b = some me ∧ a ≠ 0 ∧ b ∉ below E 10 a ∧
    j ≤ (if e.parent = (b : Int) then me.kids.length - 1 else me.kids.length) ∧ d b + high E 10 a ≤ 10 := by
  by_cases hn : 0 ≤ n
  · by_cases hm : 0 ≤ m
    · obtain ⟨a, rfl⟩ := Int.eq_ofNat_of_zero_le hn
      obtain ⟨b, rfl⟩ := Int.eq_ofNat_of_zero_le hm
      cases he : elAt E a with
      | none => unfold movC at h; rw [if_pos hn, Int.toNat_natCast, he] at h; cases h
      | some e =>
        cases hb : elAt E b with
        | none => unfold movC at h; rw [if_pos hn, if_pos hm, Int.toNat_natCast, Int.toNat_natCast, he, hb] at h; cases h
        | some me =>
          rw [movC_at he hb] at h
          by_cases h1 : a = 0
          · rw [if_pos h1] at h; cases h
          · by_cases h2 : b ∈ below E 10 a
            · rw [if_neg h1, if_pos h2] at h; cases h
            · rw [if_neg h1, if_neg h2] at h
              generalize hN : (if e.parent = (b : Int) then me.kids.length - 1 else me.kids.length) = N at h
              by_cases h3 : i < 0 ∨ (N : Int) < i
              · rw [if_pos h3] at h; cases h
              · by_cases h4 : 10 < d b + high E 10 a
                · rw [if_neg h3, if_pos h4] at h; cases h
                · obtain ⟨j, rfl⟩ := Int.eq_ofNat_of_zero_le (show 0 ≤ i by omega)
                  exact ⟨a, b, j, e, me, rfl, rfl, rfl, he, hb, h1, h2, by rw [hN]; omega, by omega⟩
    · unfold movC at h; rw [if_neg hm] at h; exact absurd h (by split <;> simp_all)
  · unfold movC at h; rw [if_neg hn] at h; cases h
/-- What was moved goes back, and all is as it was. -/
theorem Good.mov_back (g : Good E next d) {a b j p : Nat} {e me pe : El} (he : elAt E a = some e) (_hb : elAt E b = some me) (h0 : a ≠ 0) (hp : e.parent = (p : Int)) (hmb : b ∉ below E 10 a) (hpe : elAt E p = some pe) (hk : a ∈ pe.kids) :
    movC (moveE E a b j p) (fun x => if x ∈ below E 10 a then d x - d a + d b + 1 else d x) (a : Int) (p : Int) (pe.kids.idxOf a : Nat) = 0 ∧ moveE (moveE E a b j p) a p (pe.kids.idxOf a) b = E := by
  obtain ⟨h1, h2, h3, h4, h5, h6⟩ := g.move_back (i := j) he h0 hp hmb hpe hk
  refine ⟨?_, h1⟩
  have ha' : elAt (moveE E a b j p) a = some (mvEl a b j p a e) := by rw [moveE_at, he]; rfl
  have hp' : elAt (moveE E a b j p) p = some (mvEl a b j p p pe) := by rw [moveE_at, hpe]; rfl
  have h7 := h6 _ hp'
  have hpar : (mvEl a b j p a e).parent = (b : Int) := by unfold mvEl; rw [if_pos rfl]
  rw [movC_at ha' hp', if_neg h0, if_neg h2, if_neg, if_neg]
  · rw [if_neg h4, h3]; omega
  · rw [hpar]
    by_cases hbp : b = p
    · subst hbp; rw [if_pos rfl] at h7 ⊢; omega
    · rw [if_neg hbp] at h7; rw [if_neg (by omega)]; omega
end Lead.Dc

/-
  Plain, for DocNew: the flats' parents are the elements' parents, one by one.
-/
namespace Lead.Dc
mutual
theorem allF_par : ∀ (n : RT) (p : Int) (deep k : Nat), (allF n p deep k).map (·.parent) = (treeE n p k).map (·.2.parent)
  | .mk nm ats ks, p, deep, k => by
    simp only [allF, treeE, List.map_cons]
    rw [allFs_par ks k (deep + 1) (k + 1)]
theorem allFs_par : ∀ (ks : List RT) (p deep k : Nat), (allFs ks p deep k).map (·.parent) = (treesE ks p k).map (·.2.parent)
  | [], _, _, _ => rfl
  | x :: r, p, deep, k => by
    simp only [allFs, treesE, List.map_append]
    rw [allF_par x (p : Int) deep k, allFs_par r p deep (k + x.cnt)]
end
end Lead.Dc

/-
  Plain, for DocNew: in a tree as it was laid a parent stands ahead of its children; what lies below an element, one by one; how many are left; no name is empty.
-/
namespace Lead.Dc
mutual
theorem treeE_lo : ∀ (n : RT) (p : Int) (k : Nat), ∀ y ∈ treeE n p k, (y.1 = k ∧ y.2.parent = p) ∨ ((k : Int) ≤ y.2.parent ∧ y.2.parent < (y.1 : Int))
  | .mk nm ats ks, p, k, y, hy => by
    simp only [treeE, List.mem_cons] at hy
    rcases hy with rfl | hy
    · exact .inl ⟨rfl, rfl⟩
    · rcases treesE_lo ks k (k + 1) y hy with ⟨h1, h2⟩ | ⟨h1, h2⟩
      · right; rw [h1]; omega
      · right; omega
theorem treesE_lo : ∀ (ks : List RT) (p k : Nat), ∀ y ∈ treesE ks p k, (y.2.parent = (p : Int) ∧ k ≤ y.1) ∨ ((k : Int) ≤ y.2.parent ∧ y.2.parent < (y.1 : Int))
  | [], _, _, y, hy => by simp only [treesE] at hy; cases hy
  | x :: r, p, k, y, hy => by
    simp only [treesE, List.mem_append] at hy
    rcases hy with hy | hy
    · rcases treeE_lo x (p : Int) k y hy with ⟨h1, h2⟩ | ⟨h1, h2⟩
      · left; exact ⟨h2, by omega⟩
      · right; omega
    · rcases treesE_lo r p (k + x.cnt) y hy with ⟨h1, h2⟩ | ⟨h1, h2⟩
      · left; exact ⟨h1, by omega⟩
      · right; omega
end
theorem tree_keys (n : RT) : (treeE n (-1) 0).map (·.1) = List.range' 0 n.cnt := by
  obtain ⟨_, t⟩ := treeE_ok n (-1) 0 1
  exact t.keys
/-- The i-th element and the i-th flat have one parent, and it stands ahead of them. -/
theorem tree_at (n : RT) {i : Nat} (hi : i < n.cnt) : ∃ e, elAt (treeE n (-1) 0) i = some e ∧ ((allF n (-1) 1 0).map (·.parent))[i]? = some e.parent ∧ (i = 0 → e.parent = -1) ∧ (i ≠ 0 → 0 ≤ e.parent ∧ e.parent < (i : Int)) := by
  have hk := tree_keys n
  have hl : (treeE n (-1) 0).length = n.cnt := by
    have h := congrArg List.length hk
    simpa using h
  have hil : i < (treeE n (-1) 0).length := by omega
  have h1 : ((treeE n (-1) 0)[i]).1 = i := by
    have h : ((treeE n (-1) 0).map (·.1))[i]? = (List.range' 0 n.cnt)[i]? := by rw [hk]
    rw [List.getElem?_map, List.getElem?_eq_getElem hil, List.getElem?_range' (by omega)] at h
    simpa using h
  have hmem : (i, ((treeE n (-1) 0)[i]).2) ∈ treeE n (-1) 0 := by
    have h := List.getElem_mem hil
    have h2 : (treeE n (-1) 0)[i] = (i, ((treeE n (-1) 0)[i]).2) := Prod.ext h1 rfl
    rw [← h2]; exact h
  refine ⟨((treeE n (-1) 0)[i]).2, elAt_of_mem (by rw [hk]; exact List.nodup_range') hmem, ?_, ?_, ?_⟩
  · rw [allF_par, List.getElem?_map, List.getElem?_eq_getElem hil]; rfl
  · intro h0
    rcases treeE_lo n (-1) 0 _ hmem with ⟨_, h⟩ | ⟨h2, h3⟩
    · exact h
    · have h4 : (((treeE n (-1) 0)[i]).2).parent < (i : Int) := h3
      have h5 : (0 : Int) ≤ (((treeE n (-1) 0)[i]).2).parent := h2
      omega
  · intro h0
    rcases treeE_lo n (-1) 0 _ hmem with ⟨h, _⟩ | ⟨h2, h3⟩
    · exact absurd h h0
    · exact ⟨h2, h3⟩
variable {E : Els} {next : Nat} {d : Nat → Nat}
theorem Good.d1' (g : Good E next d) {x : Nat} {e : El} (h : elAt E x = some e) : 1 ≤ d x := by
  by_cases h0 : x = 0
  · subst h0; have := g.d0; omega
  · obtain ⟨p, pe, _, _, h, _⟩ := g.par h h0; omega
/-- An element lies below another one if it is that one, or its parent lies below it. -/
theorem Good.gone_iff (g : Good E next d) {k a : Nat} {e ae : El} (he : elAt E k = some e) (ha : elAt E a = some ae) : k ∈ below E 10 a ↔ k = a ∨ (0 ≤ e.parent ∧ e.parent.toNat ∈ below E 10 a) := by
  by_cases h0 : k = 0
  · subst h0
    obtain ⟨e0, h1, h2⟩ := g.root
    rw [he] at h1
    cases h1
    constructor
    · intro h
      by_cases hka : 0 = a
      · exact .inl hka
      · have h3 := (g.below_d 10 a 0 h).2 hka
        have h4 := g.d1' ha
        have h5 := g.d0
        omega
    · rintro (rfl | ⟨h3, _⟩)
      · exact self_below _ _
      · omega
  · obtain ⟨p, pe, h1, h2, h3⟩ := g.up k e he h0
    have hk : k ∈ kidsAt E p := by rw [kidsAt_some h2]; exact h3
    rw [h1, Int.toNat_natCast]
    constructor
    · intro h
      by_cases hka : k = a
      · exact .inl hka
      · exact .inr ⟨Int.natCast_nonneg p, g.below_par 10 a p k (by omega) h hka hk⟩
    · rintro (rfl | ⟨_, h4⟩)
      · exact self_below _ _
      · exact g.below_kid 10 a p k (by omega) h4 hk
/-- How many of the first k lie below an element. -/
def goneN (E : Els) (a k : Nat) : Nat := (List.range k).countP fun j => (below E 10 a).contains j
theorem goneN_succ (E : Els) (a k : Nat) : goneN E a (k + 1) = goneN E a k + if (below E 10 a).contains k = true then 1 else 0 := by
  unfold goneN
  rw [List.range_succ, List.countP_append, List.countP_singleton]
theorem goneN_le (E : Els) (a k : Nat) : goneN E a k ≤ k := by
  unfold goneN
  have h := List.countP_le_length (p := fun j => (below E 10 a).contains j) (l := List.range k)
  simpa using h
theorem removeE_cnt {N a : Nat} (p : Nat) (hk : E.map (·.1) = List.range' 0 N) : (removeE E a p).length + goneN E a N = N := by
  have h1 : (removeE E a p).length = (List.range N).countP fun j => !(below E 10 a).contains j := by
    unfold removeE
    rw [← List.countP_eq_length_filter]
    have h : List.countP ((fun j => !(below E 10 a).contains j) ∘ (·.1)) (upd E p fun e => { e with kids := offK e.kids a }) = (List.range N).countP fun j => !(below E 10 a).contains j := by
      rw [← List.countP_map, upd_keys, hk, List.range_eq_range']
    exact h
  have h2 := List.length_eq_countP_add_countP (fun j => (below E 10 a).contains j) (l := List.range N)
  rw [List.length_range] at h2
  rw [h1]
  unfold goneN
  have h3 : (List.range N).countP (fun j => !(below E 10 a).contains j) = (List.range N).countP (fun j => decide ¬(below E 10 a).contains j = true) := by
    refine List.countP_congr fun x _ => ?_
    simp
  rw [h3]; omega
theorem nodeE_nm {nm : ByteArray} {ats : List (ByteArray × ByteArray)} {i deep : Nat} (h : nodeE nm ats i deep = 0) : nmOk nm = true := by
  unfold nodeE at h
  split at h
  · exact absurd h (by decide)
  · split at h
    · exact absurd h (by decide)
    · split at h
      · exact absurd h (by decide)
      · next h3 => simpa using h3
mutual
theorem treeE_nm : ∀ (n : RT) (i deep : Nat) (p : Int) (k : Nat), (chkN n i deep).2 = 0 → ∀ y ∈ treeE n p k, nmOk y.2.name = true
  | .mk nm ats ks, i, deep, p, k, h, y, hy => by
    simp only [chkN] at h
    split at h
    · next hc => exact absurd h hc
    · next hc =>
      simp only [treeE, List.mem_cons] at hy
      rcases hy with rfl | hy
      · exact nodeE_nm (Decidable.not_not.1 hc)
      · exact treesE_nm ks (i + 1) (deep + 1) k (k + 1) h y hy
theorem treesE_nm : ∀ (ks : List RT) (i deep p k : Nat), (chkL ks i deep).2 = 0 → ∀ y ∈ treesE ks p k, nmOk y.2.name = true
  | [], _, _, _, _, _, y, hy => by simp only [treesE] at hy; cases hy
  | x :: r, i, deep, p, k, h, y, hy => by
    simp only [chkL] at h
    split at h
    · next hc => exact absurd h hc
    · next hc =>
      simp only [treesE, List.mem_append] at hy
      rcases hy with hy | hy
      · exact treeE_nm x i deep (p : Int) k (Decidable.not_not.1 hc) y hy
      · exact treesE_nm r (chkN x i deep).1 deep p (k + x.cnt) h y hy
end
theorem nmOk_ne {s : ByteArray} (h : nmOk s = true) : s.data.toList ≠ [] := by
  intro h0
  unfold nmOk at h
  rw [h0] at h
  cases h
end Lead.Dc
