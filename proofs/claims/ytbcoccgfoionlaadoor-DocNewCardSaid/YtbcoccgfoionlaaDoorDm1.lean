/-
  Plain: a document as a list of numbered elements: what lies below, how deep, add, remove, move; a right document stays right; what was moved and moved back is as it was.
-/
namespace Lead.Dc
/-- An element of a document. -/
structure El where
  name : ByteArray
  attrs : List (ByteArray × ByteArray)
  parent : Int
  kids : List Nat
abbrev Els := List (Nat × El)
def elAt (E : Els) (n : Nat) : Option El := (E.find? fun x => x.1 == n).map (·.2)
def upd (E : Els) (n : Nat) (f : El → El) : Els := E.map fun x => if x.1 = n then (x.1, f x.2) else x
def kidsAt (E : Els) (n : Nat) : List Nat := match elAt E n with
  | some e => e.kids
  | none => []
theorem upd_keys (E : Els) (n : Nat) (f : El → El) : (upd E n f).map (·.1) = E.map (·.1) := by
  unfold upd
  rw [List.map_map]
  refine List.map_congr_left fun x _ => ?_
  show (if x.1 = n then (x.1, f x.2) else x).1 = x.1
  split <;> rfl
theorem elAt_cons (x : Nat × El) (E : Els) (n : Nat) : elAt (x :: E) n = if x.1 = n then some x.2 else elAt E n := by
  unfold elAt
  rw [List.find?_cons]
  by_cases h : x.1 = n
  · rw [if_pos h]; have hb : (x.1 == n) = true := by simp [h]
    simp [hb]
  · rw [if_neg h]; have hb : (x.1 == n) = false := by simp [h]
    simp [hb]
theorem elAt_nil (n : Nat) : elAt [] n = none := rfl
theorem elAt_upd (E : Els) (n : Nat) (f : El → El) (m : Nat) : elAt (upd E n f) m = if m = n then (elAt E m).map f else elAt E m := by
  induction E with
  | nil => simp [upd, elAt_nil]
  | cons x E ih =>
    have e : upd (x :: E) n f = (if x.1 = n then (x.1, f x.2) else x) :: upd E n f := rfl
    rw [e, elAt_cons, elAt_cons, ih]
    by_cases h1 : x.1 = n <;> by_cases h2 : x.1 = m
    · subst h1; subst h2; simp
    · subst h1; simp [h2]
    · subst h2; simp [h1]
    · simp [h1, h2]
theorem elAt_mem {E : Els} {n : Nat} {e : El} (h : elAt E n = some e) : (n, e) ∈ E := by
  induction E with
  | nil => cases h
  | cons x E ih =>
    rw [elAt_cons] at h
    by_cases hx : x.1 = n
    · rw [if_pos hx] at h; cases h; subst hx; exact List.mem_cons_self
    · rw [if_neg hx] at h; exact List.mem_cons_of_mem _ (ih h)
theorem elAt_some {E : Els} {n : Nat} : (∃ e, elAt E n = some e) ↔ n ∈ E.map (·.1) := by
  induction E with
  | nil => simp [elAt_nil]
  | cons x E ih =>
    rw [List.map_cons, List.mem_cons, ← ih]
    constructor
    · rintro ⟨e, h⟩
      rw [elAt_cons] at h
      by_cases hx : x.1 = n
      · exact .inl hx.symm
      · rw [if_neg hx] at h; exact .inr ⟨e, h⟩
    · intro h
      by_cases hx : x.1 = n
      · exact ⟨x.2, by rw [elAt_cons, if_pos hx]⟩
      · rcases h with h | ⟨e, h⟩
        · exact absurd h.symm hx
        · exact ⟨e, by rw [elAt_cons, if_neg hx]; exact h⟩
theorem elAt_none {E : Els} {n : Nat} (h : n ∉ E.map (·.1)) : elAt E n = none := by
  cases he : elAt E n with
  | none => rfl
  | some e => exact absurd (elAt_some.1 ⟨e, he⟩) h
theorem elAt_append (E : Els) (n : Nat) (e : El) (h : n ∉ E.map (·.1)) (m : Nat) : elAt (E ++ [(n, e)]) m = if m = n then some e else elAt E m := by
  induction E with
  | nil =>
    rw [List.nil_append, elAt_cons, elAt_nil]
    by_cases h : n = m
    · rw [if_pos h, if_pos h.symm]
    · rw [if_neg h, if_neg (fun k => h k.symm)]
  | cons x E ih =>
    rw [List.map_cons, List.mem_cons, not_or] at h
    rw [List.cons_append, elAt_cons, ih h.2, elAt_cons]
    by_cases hx : x.1 = m
    · rw [if_pos hx, if_pos hx, if_neg (fun k => h.1 (by rw [← k, hx]))]
    · rw [if_neg hx, if_neg hx]
theorem elAt_filter (E : Els) (p : Nat → Bool) (m : Nat) : elAt (E.filter fun x => p x.1) m = if p m = true then elAt E m else none := by
  induction E with
  | nil => simp [elAt_nil]
  | cons x E ih =>
    rw [List.filter_cons]
    by_cases hx : p x.1 = true
    · rw [if_pos hx, elAt_cons, elAt_cons, ih]
      by_cases h2 : x.1 = m
      · subst h2; rw [if_pos rfl, if_pos rfl, if_pos hx]
      · rw [if_neg h2, if_neg h2]
    · rw [if_neg hx, ih, elAt_cons]
      by_cases h2 : x.1 = m
      · subst h2; rw [if_neg hx, if_neg hx]
      · rw [if_neg h2]
/-- An element, and all below, each ahead of its children: at most f levels of children. -/
def below (E : Els) : Nat → Nat → List Nat
  | 0, n => [n]
  | f + 1, n => n :: (kidsAt E n).flatMap (below E f)
/-- A document that is right: d tells how deep an element lies. -/
structure Good (E : Els) (next : Nat) (d : Nat → Nat) : Prop where
  keys : (E.map (·.1)).Nodup
  lt : ∀ n e, elAt E n = some e → n < next
  root : ∃ e, elAt E 0 = some e ∧ e.parent = -1
  up : ∀ n e, elAt E n = some e → n ≠ 0 → ∃ (p : Nat) (pe : El), e.parent = (p : Int) ∧ elAt E p = some pe ∧ n ∈ pe.kids
  down : ∀ p pe k, elAt E p = some pe → k ∈ pe.kids → ∃ ke, elAt E k = some ke ∧ ke.parent = (p : Int)
  nd : ∀ p pe, elAt E p = some pe → pe.kids.Nodup
  d0 : d 0 = 1
  dk : ∀ p pe k, elAt E p = some pe → k ∈ pe.kids → d k = d p + 1
  dm : ∀ n e, elAt E n = some e → d n ≤ 10
variable {E : Els} {next : Nat} {d : Nat → Nat}
theorem kidsAt_some {n : Nat} {e : El} (h : elAt E n = some e) : kidsAt E n = e.kids := by unfold kidsAt; rw [h]
theorem mem_kidsAt {n k : Nat} (h : k ∈ kidsAt E n) : ∃ e, elAt E n = some e ∧ k ∈ e.kids := by
  unfold kidsAt at h
  cases he : elAt E n with
  | none => rw [he] at h; cases h
  | some e => rw [he] at h; exact ⟨e, rfl, h⟩
theorem Good.kid (g : Good E next d) {n k : Nat} (h : k ∈ kidsAt E n) : d k = d n + 1 ∧ d n < 10 ∧ ∃ ke, elAt E k = some ke ∧ ke.parent = (n : Int) := by
  obtain ⟨e, he, hk⟩ := mem_kidsAt h
  obtain ⟨ke, hke, hp⟩ := g.down n e k he hk
  have h1 := g.dk n e k he hk
  have h2 := g.dm k ke hke
  exact ⟨h1, by omega, ke, hke, hp⟩
theorem Good.ne0 (g : Good E next d) {n k : Nat} (h : k ∈ kidsAt E n) : k ≠ 0 := by
  rintro rfl
  obtain ⟨_, _, ke, hke, hp⟩ := g.kid h
  obtain ⟨e, he, hr⟩ := g.root
  rw [he] at hke; cases hke
  rw [hr] at hp; omega
theorem Good.fuel (g : Good E next d) : ∀ (f f' n : Nat), 10 ≤ d n + f → 10 ≤ d n + f' → below E f n = below E f' n := by
  intro f
  induction f with
  | zero =>
    intro f' n h h'
    cases f' with
    | zero => rfl
    | succ f' =>
      have hk : kidsAt E n = [] := by
        cases hk : kidsAt E n with
        | nil => rfl
        | cons k r =>
          have := (g.kid (n := n) (k := k) (by rw [hk]; exact List.mem_cons_self)).2.1
          omega
      show [n] = n :: (kidsAt E n).flatMap (below E f')
      rw [hk]; rfl
  | succ f ih =>
    intro f' n h h'
    cases f' with
    | zero =>
      have hk : kidsAt E n = [] := by
        cases hk : kidsAt E n with
        | nil => rfl
        | cons k r =>
          have := (g.kid (n := n) (k := k) (by rw [hk]; exact List.mem_cons_self)).2.1
          omega
      show n :: (kidsAt E n).flatMap (below E f) = [n]
      rw [hk]; rfl
    | succ f' =>
      show n :: (kidsAt E n).flatMap (below E f) = n :: (kidsAt E n).flatMap (below E f')
      congr 1
      unfold List.flatMap
      congr 1
      refine List.map_congr_left fun k hk => ih f' k ?_ ?_
      · have := (g.kid hk).1; omega
      · have := (g.kid hk).1; omega
theorem self_below (f n : Nat) : n ∈ below E f n := by cases f <;> exact List.mem_cons_self
theorem Good.below_d (g : Good E next d) : ∀ (f n x : Nat), x ∈ below E f n → d n ≤ d x ∧ (x ≠ n → d n < d x) := by
  intro f
  induction f with
  | zero => intro n x h; obtain rfl : x = n := by simpa [below] using h
            exact ⟨Nat.le_refl _, fun h => absurd rfl h⟩
  | succ f ih =>
    intro n x h
    rcases List.mem_cons.1 h with rfl | h
    · exact ⟨Nat.le_refl _, fun h => absurd rfl h⟩
    · obtain ⟨k, hk, hx⟩ := List.mem_flatMap.1 h
      have h1 := (ih k x hx).1
      have h2 := (g.kid hk).1
      exact ⟨by omega, fun _ => by omega⟩
theorem Good.below_in (g : Good E next d) : ∀ (f n x : Nat), (∃ e, elAt E n = some e) → x ∈ below E f n → ∃ e, elAt E x = some e := by
  intro f
  induction f with
  | zero => intro n x hn h; obtain rfl : x = n := by simpa [below] using h
            exact hn
  | succ f ih =>
    intro n x hn h
    rcases List.mem_cons.1 h with rfl | h
    · exact hn
    · obtain ⟨k, hk, hx⟩ := List.mem_flatMap.1 h
      obtain ⟨_, _, ke, hke, _⟩ := g.kid hk
      exact ih k x ⟨ke, hke⟩ hx
/-- the parent of what lies below lies below too. -/
theorem Good.below_kid (g : Good E next d) : ∀ (f n x k : Nat), 10 ≤ d n + f → x ∈ below E f n → k ∈ kidsAt E x → k ∈ below E f n := by
  intro f
  induction f with
  | zero =>
    intro n x k hf h hk
    obtain rfl : x = n := by simpa [below] using h
    have := (g.kid hk).2.1
    omega
  | succ f ih =>
    intro n x k hf h hk
    rcases List.mem_cons.1 h with rfl | h
    · exact List.mem_cons_of_mem _ (List.mem_flatMap.2 ⟨k, hk, self_below f k⟩)
    · obtain ⟨k', hk', hx⟩ := List.mem_flatMap.1 h
      have := (g.kid hk').1
      exact List.mem_cons_of_mem _ (List.mem_flatMap.2 ⟨k', hk', ih k' x k (by omega) hx hk⟩)
/-- The steps up. -/
def parOf (E : Els) (n : Nat) : Nat := match elAt E n with
  | some e => e.parent.toNat
  | none => 0
def upN (E : Els) : Nat → Nat → Nat
  | 0, n => n
  | i + 1, n => upN E i (parOf E n)
theorem Good.par_kid (g : Good E next d) {n k : Nat} (h : k ∈ kidsAt E n) : parOf E k = n := by
  obtain ⟨_, _, ke, hke, hp⟩ := g.kid h
  unfold parOf
  rw [hke]
  show ke.parent.toNat = n
  rw [hp]; rfl
theorem upN_succ' (E : Els) : ∀ (i n : Nat), upN E (i + 1) n = parOf E (upN E i n) := by
  intro i
  induction i with
  | zero => intro n; rfl
  | succ i ih => intro n; exact ih (parOf E n)
theorem Good.below_up (g : Good E next d) : ∀ (f n x : Nat), x ∈ below E f n → upN E (d x - d n) x = n := by
  intro f
  induction f with
  | zero => intro n x h; obtain rfl : x = n := by simpa [below] using h
            rw [Nat.sub_self]; rfl
  | succ f ih =>
    intro n x h
    rcases List.mem_cons.1 h with rfl | h
    · rw [Nat.sub_self]; rfl
    · obtain ⟨k, hk, hx⟩ := List.mem_flatMap.1 h
      have h1 := (g.below_d f k x hx).1
      have h2 := (g.kid hk).1
      have e : d x - d n = (d x - d k) + 1 := by omega
      rw [e, upN_succ', ih k x hx, g.par_kid hk]
theorem Good.below_nodup (g : Good E next d) : ∀ (f n : Nat), (below E f n).Nodup := by
  intro f
  induction f with
  | zero => intro n; simp [below]
  | succ f ih =>
    intro n
    show (n :: (kidsAt E n).flatMap (below E f)).Nodup
    rw [List.nodup_cons]
    refine ⟨fun h => ?_, ?_⟩
    · obtain ⟨k, hk, hx⟩ := List.mem_flatMap.1 h
      have h1 := (g.below_d f k n hx).1
      have h2 := (g.kid hk).1
      omega
    · refine List.pairwise_flatMap.2 ⟨fun k _ => ih k, ?_⟩
      have hnd : (kidsAt E n).Nodup := by
        unfold kidsAt
        cases he : elAt E n with
        | none => exact List.nodup_nil
        | some e => exact g.nd n e he
      refine List.Pairwise.imp_of_mem ?_ hnd
      intro a b ha hb hab x hx y hy hxy
      subst hxy
      have e1 := g.below_up f a x hx
      have e2 := g.below_up f b x hy
      have h1 := (g.kid ha).1
      have h2 := (g.kid hb).1
      rw [h1] at e1
      rw [h2, e1] at e2
      exact hab e2
theorem Good.all_mem (g : Good E next d) (n : Nat) : (∃ e, elAt E n = some e) ↔ n ∈ below E 10 0 := by
  constructor
  · have key : ∀ (i n : Nat), (∃ e, elAt E n = some e) → d n ≤ i → n ∈ below E 10 0 := by
      intro i
      induction i with
      | zero =>
        rintro n ⟨e, he⟩ hi
        by_cases h0 : n = 0
        · subst h0; exact self_below _ _
        · obtain ⟨p, pe, _, hpe, hk⟩ := g.up n e he h0
          have := g.dk p pe n hpe hk
          omega
      | succ i ih =>
        rintro n ⟨e, he⟩ hi
        by_cases h0 : n = 0
        · subst h0; exact self_below _ _
        · obtain ⟨p, pe, _, hpe, hk⟩ := g.up n e he h0
          have hd := g.dk p pe n hpe hk
          exact g.below_kid 10 0 p n (by have := g.d0; omega) (ih p ⟨pe, hpe⟩ (by omega)) (by rw [kidsAt_some hpe]; exact hk)
    intro h
    exact key (d n) n h (Nat.le_refl _)
  · intro h
    obtain ⟨e, he, _⟩ := g.root
    exact g.below_in 10 0 n ⟨e, he⟩ h
theorem Good.all_len (g : Good E next d) : (below E 10 0).length = E.length := by
  have h : (below E 10 0).Perm (E.map (·.1)) := (List.perm_ext_iff_of_nodup (g.below_nodup 10 0) g.keys).2 fun n => by rw [← g.all_mem, elAt_some]
  rw [h.length_eq, List.length_map]
/-- the parent of what lies below (but for the first one) lies below. -/
theorem Good.below_par (g : Good E next d) : ∀ (f n x k : Nat), 10 ≤ d n + f → k ∈ below E f n → k ≠ n → k ∈ kidsAt E x → x ∈ below E f n := by
  intro f
  induction f with
  | zero => intro n x k _ h hn _; exact absurd (by simpa [below] using h) hn
  | succ f ih =>
    intro n x k hf h hn hk
    rcases List.mem_cons.1 h with rfl | h
    · exact absurd rfl hn
    · obtain ⟨k', hk', hx⟩ := List.mem_flatMap.1 h
      by_cases he : k = k'
      · subst he
        have h1 := g.par_kid hk
        have h2 := g.par_kid hk'
        rw [h1] at h2
        subst h2
        exact List.mem_cons_self
      · have := (g.kid hk').1
        exact List.mem_cons_of_mem _ (List.mem_flatMap.2 ⟨k', hk', ih k' x k (by omega) hx he hk⟩)
/-- how many levels there are from an element on. -/
def high (E : Els) : Nat → Nat → Nat
  | 0, _ => 1
  | f + 1, n => (kidsAt E n).foldl (fun k x => max k (high E f x)) 0 + 1
theorem foldl_max (h : Nat → Nat) : ∀ (l : List Nat) (k : Nat), k ≤ l.foldl (fun k x => max k (h x)) k ∧ (∀ x ∈ l, h x ≤ l.foldl (fun k x => max k (h x)) k) ∧ (l.foldl (fun k x => max k (h x)) k = k ∨ ∃ x ∈ l, l.foldl (fun k x => max k (h x)) k = h x) := by
  intro l
  induction l with
  | nil => intro k; exact ⟨Nat.le_refl _, (fun x hx => by cases hx), .inl rfl⟩
  | cons a r ih =>
    intro k
    obtain ⟨h1, h2, h3⟩ := ih (max k (h a))
    show k ≤ r.foldl _ (max k (h a)) ∧ (∀ x ∈ a :: r, h x ≤ r.foldl _ (max k (h a))) ∧ (r.foldl _ (max k (h a)) = k ∨ ∃ x ∈ a :: r, r.foldl _ (max k (h a)) = h x)
    refine ⟨Nat.le_trans (Nat.le_max_left _ _) h1, fun x hx => ?_, ?_⟩
    · rcases List.mem_cons.1 hx with rfl | hx
      · exact Nat.le_trans (Nat.le_max_right _ _) h1
      · exact h2 x hx
    · rcases h3 with h3 | ⟨x, hx, h3⟩
      · rcases Nat.le_total k (h a) with hle | hle
        · rw [Nat.max_eq_right hle] at h3
          exact .inr ⟨a, List.mem_cons_self, by rw [Nat.max_eq_right hle]; exact h3⟩
        · rw [Nat.max_eq_left hle] at h3
          exact .inl (by rw [Nat.max_eq_left hle]; exact h3)
      · exact .inr ⟨x, List.mem_cons_of_mem _ hx, h3⟩
theorem Good.high_ge (g : Good E next d) : ∀ (f n x : Nat), x ∈ below E f n → d x + 1 ≤ d n + high E f n := by
  intro f
  induction f with
  | zero => intro n x h; obtain rfl : x = n := by simpa [below] using h
            show d x + 1 ≤ d x + 1; omega
  | succ f ih =>
    intro n x h
    show d x + 1 ≤ d n + ((kidsAt E n).foldl (fun k x => max k (high E f x)) 0 + 1)
    rcases List.mem_cons.1 h with rfl | h
    · omega
    · obtain ⟨k, hk, hx⟩ := List.mem_flatMap.1 h
      have h1 := ih k x hx
      have h2 := (g.kid hk).1
      have h3 := (foldl_max (high E f) (kidsAt E n) 0).2.1 k hk
      omega
theorem Good.high_le (g : Good E next d) : ∀ (f n : Nat), (∃ e, elAt E n = some e) → d n + high E f n ≤ 11 := by
  intro f
  induction f with
  | zero => rintro n ⟨e, he⟩; show d n + 1 ≤ 11; have := g.dm n e he; omega
  | succ f ih =>
    rintro n ⟨e, he⟩
    show d n + ((kidsAt E n).foldl (fun k x => max k (high E f x)) 0 + 1) ≤ 11
    have hd := g.dm n e he
    rcases (foldl_max (high E f) (kidsAt E n) 0).2.2 with h | ⟨x, hx, h⟩
    · rw [h]; omega
    · obtain ⟨h1, _, ke, hke, _⟩ := g.kid hx
      have h2 := ih x ⟨ke, hke⟩
      rw [h]; omega
/-! ### add -/
def insK (l : List Nat) (at' n : Nat) : List Nat := l.take at' ++ n :: l.drop at'
theorem mem_insK {l : List Nat} {i n x : Nat} : x ∈ insK l i n ↔ x = n ∨ x ∈ l := by
  unfold insK
  rw [List.mem_append, List.mem_cons]
  have h : x ∈ l ↔ x ∈ l.take i ∨ x ∈ l.drop i := by rw [← List.mem_append, List.take_append_drop]
  rw [h]
  constructor
  · rintro (h | h | h)
    · exact .inr (.inl h)
    · exact .inl h
    · exact .inr (.inr h)
  · rintro (h | h | h)
    · exact .inr (.inl h)
    · exact .inl h
    · exact .inr (.inr h)
theorem insK_nodup {l : List Nat} {i n : Nat} (h : l.Nodup) (hn : n ∉ l) : (insK l i n).Nodup := by
  unfold insK
  have hs : (l.take i ++ l.drop i).Nodup := by rw [List.take_append_drop]; exact h
  obtain ⟨h1, h2, h3⟩ := List.nodup_append.1 hs
  refine List.nodup_append.2 ⟨h1, List.nodup_cons.2 ⟨fun hh => hn (List.mem_of_mem_drop hh), h2⟩, fun a ha b hb hab => ?_⟩
  rcases List.mem_cons.1 hb with rfl | hb
  · subst hab; exact hn (List.mem_of_mem_take ha)
  · exact h3 a ha b hb hab
def addE (E : Els) (next p at' : Nat) (name : ByteArray) : Els := upd E p (fun e => { e with kids := insK e.kids at' next }) ++ [(next, ⟨name, [], (p : Int), []⟩)]
theorem Good.new (g : Good E next d) : elAt E next = none := by
  cases h : elAt E next with
  | none => rfl
  | some e => have := g.lt next e h; omega
theorem Good.new_key (g : Good E next d) : next ∉ E.map (·.1) := fun h => by
  obtain ⟨e, he⟩ := elAt_some.2 h
  rw [g.new] at he; cases he
theorem Good.addE_at (g : Good E next d) (p at' : Nat) (name : ByteArray) (x : Nat) : elAt (addE E next p at' name) x =
    if x = next then some ⟨name, [], (p : Int), []⟩ else if x = p then (elAt E x).map (fun e => { e with kids := insK e.kids at' next }) else elAt E x := by
  unfold addE
  rw [elAt_append _ _ _ (by rw [upd_keys]; exact g.new_key), elAt_upd]
theorem Good.add (g : Good E next d) {p at' : Nat} {pe : El} (name : ByteArray) (hp : elAt E p = some pe) (hd : d p < 10) :
    Good (addE E next p at' name) (next + 1) (fun x => if x = next then d p + 1 else d x) := by
  have hpn : p ≠ next := by have := g.lt p pe hp; omega
  have hnk : ∀ (x : Nat) e, elAt E x = some e → next ∉ e.kids := fun x e he hk => by
    obtain ⟨ke, hke, _⟩ := g.down x e next he hk
    rw [g.new] at hke; cases hke
  have hat := g.addE_at p at' name
  -- what an element of the new document is
  have old : ∀ (x : Nat) (e : El), elAt (addE E next p at' name) x = some e → x ≠ next → ∃ e0, elAt E x = some e0 ∧ e.parent = e0.parent ∧ e.kids = if x = p then insK e0.kids at' next else e0.kids := by
    intro x e he hx
    rw [hat, if_neg hx] at he
    by_cases hxp : x = p
    · subst hxp
      rw [if_pos rfl, hp] at he
      cases he
      exact ⟨pe, hp, rfl, by rw [if_pos rfl]⟩
    · rw [if_neg hxp] at he
      exact ⟨e, he, rfl, by rw [if_neg hxp]⟩
  have new : ∀ (x : Nat) (e0 : El), elAt E x = some e0 → ∃ e, elAt (addE E next p at' name) x = some e ∧ e.parent = e0.parent ∧ e.kids = if x = p then insK e0.kids at' next else e0.kids := by
    intro x e0 he
    have hx : x ≠ next := by have := g.lt x e0 he; omega
    rw [hat, if_neg hx]
    by_cases hxp : x = p
    · rw [if_pos hxp, he]; exact ⟨_, rfl, rfl, by rw [if_pos hxp]⟩
    · rw [if_neg hxp]; exact ⟨e0, he, rfl, by rw [if_neg hxp]⟩
  have nw : elAt (addE E next p at' name) next = some ⟨name, [], (p : Int), []⟩ := by rw [hat, if_pos rfl]
  refine ⟨?_, ?_, ?_, ?_, ?_, ?_, ?_, ?_, ?_⟩
  · unfold addE
    rw [List.map_append, upd_keys]
    refine List.nodup_append.2 ⟨g.keys, by simp, fun a ha b hb hab => ?_⟩
    obtain rfl : b = next := by simpa using hb
    subst hab; exact g.new_key ha
  · intro x e he
    by_cases hx : x = next
    · omega
    · obtain ⟨e0, h0, _⟩ := old x e he hx
      have := g.lt x e0 h0; omega
  · obtain ⟨r, hr, hpr⟩ := g.root
    obtain ⟨e, he, h1, _⟩ := new 0 r hr
    exact ⟨e, he, h1.trans hpr⟩
  · intro x e he h0
    by_cases hx : x = next
    · subst hx
      rw [nw] at he; cases he
      obtain ⟨pe', hpe', _, hk⟩ := new p pe hp
      exact ⟨p, pe', rfl, hpe', by rw [hk, if_pos rfl]; exact mem_insK.2 (.inl rfl)⟩
    · obtain ⟨e0, he0, h1, _⟩ := old x e he hx
      obtain ⟨q, qe, hq, hqe, hk⟩ := g.up x e0 he0 h0
      obtain ⟨qe', hqe', _, hk'⟩ := new q qe hqe
      refine ⟨q, qe', h1.trans hq, hqe', ?_⟩
      rw [hk']
      split
      · exact mem_insK.2 (.inr hk)
      · exact hk
  · intro x e k he hk
    by_cases hx : x = next
    · subst hx; rw [nw] at he; cases he; cases hk
    · obtain ⟨e0, he0, _, h2⟩ := old x e he hx
      rw [h2] at hk
      by_cases hxp : x = p
      · rw [if_pos hxp] at hk
        rcases mem_insK.1 hk with rfl | hk
        · exact ⟨_, nw, by rw [hxp]⟩
        · obtain ⟨ke, hke, hpk⟩ := g.down x e0 k he0 hk
          obtain ⟨ke', hke', h1, _⟩ := new k ke hke
          exact ⟨ke', hke', h1.trans hpk⟩
      · rw [if_neg hxp] at hk
        obtain ⟨ke, hke, hpk⟩ := g.down x e0 k he0 hk
        obtain ⟨ke', hke', h1, _⟩ := new k ke hke
        exact ⟨ke', hke', h1.trans hpk⟩
  · intro x e he
    by_cases hx : x = next
    · subst hx; rw [nw] at he; cases he; exact List.nodup_nil
    · obtain ⟨e0, he0, _, h2⟩ := old x e he hx
      rw [h2]
      split
      · exact insK_nodup (g.nd x e0 he0) (hnk x e0 he0)
      · exact g.nd x e0 he0
  · have : (0 : Nat) ≠ next := by obtain ⟨r, hr, _⟩ := g.root; have := g.lt 0 r hr; omega
    show (if 0 = next then d p + 1 else d 0) = 1
    rw [if_neg this]; exact g.d0
  · intro x e k he hk
    show (if k = next then d p + 1 else d k) = (if x = next then d p + 1 else d x) + 1
    by_cases hx : x = next
    · subst hx; rw [nw] at he; cases he; cases hk
    · obtain ⟨e0, he0, _, h2⟩ := old x e he hx
      rw [h2] at hk
      rw [if_neg hx]
      by_cases hkn : k = next
      · rw [if_pos hkn]
        by_cases hxp : x = p
        · rw [hxp]
        · rw [if_neg hxp] at hk; subst hkn; exact absurd hk (hnk x e0 he0)
      · rw [if_neg hkn]
        refine g.dk x e0 k he0 ?_
        by_cases hxp : x = p
        · rw [if_pos hxp] at hk
          rcases mem_insK.1 hk with h | h
          · exact absurd h hkn
          · exact h
        · rw [if_neg hxp] at hk; exact hk
  · intro x e he
    show (if x = next then d p + 1 else d x) ≤ 10
    by_cases hx : x = next
    · rw [if_pos hx]; omega
    · rw [if_neg hx]
      obtain ⟨e0, he0, _⟩ := old x e he hx
      exact g.dm x e0 he0
theorem Good.d1 (g : Good E next d) {n : Nat} {e : El} (h : elAt E n = some e) : 1 ≤ d n := by
  by_cases h0 : n = 0
  · subst h0; have := g.d0; omega
  · obtain ⟨p, pe, _, hpe, hk⟩ := g.up n e h h0
    have := g.dk p pe n hpe hk
    omega
/-! ### remove -/
def offK (l : List Nat) (n : Nat) : List Nat := l.filter fun x => x != n
theorem mem_offK {l : List Nat} {n x : Nat} : x ∈ offK l n ↔ x ∈ l ∧ x ≠ n := by unfold offK; simp
theorem offK_nodup {l : List Nat} {n : Nat} (h : l.Nodup) : (offK l n).Nodup := List.Nodup.sublist List.filter_sublist h
theorem offK_self {l : List Nat} {n : Nat} (h : n ∉ l) : offK l n = l := List.filter_eq_self.2 fun a ha => by
  have : a ≠ n := fun e => h (e ▸ ha)
  simpa using this
def removeE (E : Els) (n p : Nat) : Els := (upd E p (fun e => { e with kids := offK e.kids n })).filter fun x => !(below E 10 n).contains x.1
theorem removeE_at (E : Els) (n p x : Nat) : elAt (removeE E n p) x = if x ∈ below E 10 n then none else if x = p then (elAt E x).map (fun e => { e with kids := offK e.kids n }) else elAt E x := by
  unfold removeE
  rw [elAt_filter (p := fun x => !(below E 10 n).contains x), elAt_upd]
  by_cases h : x ∈ below E 10 n
  · rw [if_pos h, if_neg (by simp [h])]
  · rw [if_neg h, if_pos (by simp [h])]
theorem Good.remove (g : Good E next d) {n p : Nat} {e : El} (hn : elAt E n = some e) (h0 : n ≠ 0) (hp : e.parent = (p : Int)) : Good (removeE E n p) next d := by
  obtain ⟨q, pe, hq, hpe, hk⟩ := g.up n e hn h0
  obtain rfl : p = q := by rw [hp] at hq; exact Int.ofNat_inj.1 hq
  have hdn := g.dk p pe n hpe hk
  have hf : ∀ y, 10 ≤ d y + 10 := fun y => by omega
  have hpb : p ∉ below E 10 n := fun h => by have := (g.below_d 10 n p h).1; omega
  have hat := removeE_at E n p
  have old : ∀ (x : Nat) (e' : El), elAt (removeE E n p) x = some e' → x ∉ below E 10 n ∧ ∃ e0, elAt E x = some e0 ∧ e'.parent = e0.parent ∧ e'.kids = if x = p then offK e0.kids n else e0.kids := by
    intro x e' he
    rw [hat] at he
    by_cases hx : x ∈ below E 10 n
    · rw [if_pos hx] at he; cases he
    · rw [if_neg hx] at he
      refine ⟨hx, ?_⟩
      by_cases hxp : x = p
      · subst hxp
        rw [if_pos rfl, hpe] at he
        cases he
        exact ⟨pe, hpe, rfl, by rw [if_pos rfl]⟩
      · rw [if_neg hxp] at he
        exact ⟨e', he, rfl, by rw [if_neg hxp]⟩
  have new : ∀ (x : Nat) (e0 : El), x ∉ below E 10 n → elAt E x = some e0 → ∃ e', elAt (removeE E n p) x = some e' ∧ e'.parent = e0.parent ∧ e'.kids = if x = p then offK e0.kids n else e0.kids := by
    intro x e0 hx he
    rw [hat, if_neg hx]
    by_cases hxp : x = p
    · rw [if_pos hxp, he]; exact ⟨_, rfl, rfl, by rw [if_pos hxp]⟩
    · rw [if_neg hxp]; exact ⟨e0, he, rfl, by rw [if_neg hxp]⟩
  have h0b : 0 ∉ below E 10 n := fun h => by
    have h1 := (g.below_d 10 n 0 h).1
    have h2 := g.d0
    have h3 := g.d1 hpe
    omega
  refine ⟨?_, ?_, ?_, ?_, ?_, ?_, g.d0, ?_, ?_⟩
  · have hs : ((removeE E n p).map (·.1)).Sublist ((upd E p (fun e => { e with kids := offK e.kids n })).map (·.1)) := (List.filter_sublist).map _
    exact List.Nodup.sublist hs (by rw [upd_keys]; exact g.keys)
  · intro x e' he
    obtain ⟨_, e0, he0, _⟩ := old x e' he
    exact g.lt x e0 he0
  · obtain ⟨r, hr, hpr⟩ := g.root
    obtain ⟨e', he, h1, _⟩ := new 0 r h0b hr
    exact ⟨e', he, h1.trans hpr⟩
  · intro x e' he hx0
    obtain ⟨hxb, e0, he0, h1, _⟩ := old x e' he
    obtain ⟨q, qe, hq, hqe, hk'⟩ := g.up x e0 he0 hx0
    have hqb : q ∉ below E 10 n := fun h => hxb (g.below_kid 10 n q x (by omega) h (by rw [kidsAt_some hqe]; exact hk'))
    obtain ⟨qe', hqe', _, hkk⟩ := new q qe hqb hqe
    refine ⟨q, qe', h1.trans hq, hqe', ?_⟩
    rw [hkk]
    split
    · exact mem_offK.2 ⟨hk', fun h => hxb (by rw [h]; exact self_below 10 n)⟩
    · exact hk'
  · intro x e' k he hk'
    obtain ⟨hxb, e0, he0, _, h2⟩ := old x e' he
    rw [h2] at hk'
    have hk0 : k ∈ e0.kids := by
      by_cases hxp : x = p
      · rw [if_pos hxp] at hk'; exact (mem_offK.1 hk').1
      · rw [if_neg hxp] at hk'; exact hk'
    have hkb : k ∉ below E 10 n := fun h => by
      by_cases hkn : k = n
      · subst hkn
        have h3 := g.par_kid (n := x) (k := k) (by rw [kidsAt_some he0]; exact hk0)
        have h4 := g.par_kid (n := p) (k := k) (by rw [kidsAt_some hpe]; exact hk)
        have hxp : x = p := h3.symm.trans h4
        rw [if_pos hxp] at hk'
        exact (mem_offK.1 hk').2 rfl
      · exact hxb (g.below_par 10 n x k (by omega) h hkn (by rw [kidsAt_some he0]; exact hk0))
    obtain ⟨ke, hke, hpk⟩ := g.down x e0 k he0 hk0
    obtain ⟨ke', hke', h1, _⟩ := new k ke hkb hke
    exact ⟨ke', hke', h1.trans hpk⟩
  · intro x e' he
    obtain ⟨_, e0, he0, _, h2⟩ := old x e' he
    rw [h2]
    split
    · exact offK_nodup (g.nd x e0 he0)
    · exact g.nd x e0 he0
  · intro x e' k he hk'
    obtain ⟨_, e0, he0, _, h2⟩ := old x e' he
    refine g.dk x e0 k he0 ?_
    rw [h2] at hk'
    by_cases hxp : x = p
    · rw [if_pos hxp] at hk'; exact (mem_offK.1 hk').1
    · rw [if_neg hxp] at hk'; exact hk'
  · intro x e' he
    obtain ⟨_, e0, he0, _⟩ := old x e' he
    exact g.dm x e0 he0
/-! ### move -/
/-- Element k, where n is taken from p's children and put among m's. -/
def mvEl (n m i p k : Nat) (e : El) : El :=
  ⟨e.name, e.attrs, if k = n then (m : Int) else e.parent, if k = m then insK (if k = p then offK e.kids n else e.kids) i n else if k = p then offK e.kids n else e.kids⟩
def moveE (E : Els) (n m i p : Nat) : Els := E.map fun x => (x.1, mvEl n m i p x.1 x.2)
theorem moveE_keys (E : Els) (n m i p : Nat) : (moveE E n m i p).map (·.1) = E.map (·.1) := by
  unfold moveE; rw [List.map_map]; rfl
theorem moveE_at (E : Els) (n m i p x : Nat) : elAt (moveE E n m i p) x = (elAt E x).map (mvEl n m i p x) := by
  induction E with
  | nil => rfl
  | cons y E ih =>
    show elAt ((y.1, mvEl n m i p y.1 y.2) :: moveE E n m i p) x = _
    rw [elAt_cons, elAt_cons, ih]
    by_cases h : y.1 = x
    · subst h; simp
    · simp [h]
theorem Good.move (g : Good E next d) {n m i p : Nat} {e me : El} (hn : elAt E n = some e) (h0 : n ≠ 0) (hp : e.parent = (p : Int)) (hm : elAt E m = some me) (hmb : m ∉ below E 10 n) (hdeep : d m + high E 10 n ≤ 10) :
    Good (moveE E n m i p) next (fun x => if x ∈ below E 10 n then d x - d n + d m + 1 else d x) := by
  obtain ⟨q, pe, hq, hpe, hk⟩ := g.up n e hn h0
  obtain rfl : p = q := by rw [hp] at hq; exact Int.ofNat_inj.1 hq
  have hdn := g.dk p pe n hpe hk
  have hpb : p ∉ below E 10 n := fun h => by have := (g.below_d 10 n p h).1; omega
  have hnm : n ≠ m := fun h => hmb (h ▸ self_below 10 n)
  have hnp : n ≠ p := fun h => hpb (h ▸ self_below 10 n)
  have hnk : ∀ (x : Nat) e0, elAt E x = some e0 → n ∈ e0.kids → x = p := fun x e0 he hk' => by
    have h3 := g.par_kid (n := x) (k := n) (by rw [kidsAt_some he]; exact hk')
    have h4 := g.par_kid (n := p) (k := n) (by rw [kidsAt_some hpe]; exact hk)
    exact h3.symm.trans h4
  have h0b : 0 ∉ below E 10 n := fun h => by
    have h1 := (g.below_d 10 n 0 h).1
    have h2 := g.d0
    have h3 := g.d1 hpe
    omega
  have old : ∀ (x : Nat) (e' : El), elAt (moveE E n m i p) x = some e' → ∃ e0, elAt E x = some e0 ∧ e' = mvEl n m i p x e0 := by
    intro x e' he
    rw [moveE_at] at he
    cases h : elAt E x with
    | none => rw [h] at he; cases he
    | some e0 => rw [h] at he; cases he; exact ⟨e0, rfl, rfl⟩
  have new : ∀ (x : Nat) (e0 : El), elAt E x = some e0 → elAt (moveE E n m i p) x = some (mvEl n m i p x e0) := by
    intro x e0 he
    rw [moveE_at, he]; rfl
  -- what the children are
  have kid : ∀ (x : Nat) (e0 : El) (k : Nat), elAt E x = some e0 → (k ∈ (mvEl n m i p x e0).kids ↔ (k = n ∧ x = m) ∨ (k ≠ n ∧ k ∈ e0.kids)) := by
    intro x e0 k he
    show k ∈ (if x = m then insK (if x = p then offK e0.kids n else e0.kids) i n else if x = p then offK e0.kids n else e0.kids) ↔ _
    have h1 : k ∈ (if x = p then offK e0.kids n else e0.kids) ↔ k ≠ n ∧ k ∈ e0.kids := by
      by_cases hxp : x = p
      · rw [if_pos hxp, mem_offK]; exact ⟨fun h => ⟨h.2, h.1⟩, fun h => ⟨h.2, h.1⟩⟩
      · rw [if_neg hxp]
        exact ⟨fun h => ⟨fun e => hxp (hnk x e0 he (e ▸ h)), h⟩, fun h => h.2⟩
    by_cases hxm : x = m
    · rw [if_pos hxm, mem_insK, h1]
      exact ⟨fun h => h.imp (fun h => ⟨h, hxm⟩) id, fun h => h.imp (fun h => h.1) id⟩
    · rw [if_neg hxm, h1]
      exact ⟨fun h => .inr h, fun h => h.elim (fun h => absurd h.2 hxm) id⟩
  have dd : ∀ (x k : Nat) (e0 : El), elAt E x = some e0 → k ≠ n → k ∈ e0.kids → (x ∈ below E 10 n ↔ k ∈ below E 10 n) := fun x k e0 he hkn hk' =>
    ⟨fun h => g.below_kid 10 n x k (by omega) h (by rw [kidsAt_some he]; exact hk'), fun h => g.below_par 10 n x k (by omega) h hkn (by rw [kidsAt_some he]; exact hk')⟩
  refine ⟨by rw [moveE_keys]; exact g.keys, ?_, ?_, ?_, ?_, ?_, ?_, ?_, ?_⟩
  · intro x e' he
    obtain ⟨e0, he0, _⟩ := old x e' he
    exact g.lt x e0 he0
  · obtain ⟨r, hr, hpr⟩ := g.root
    refine ⟨_, new 0 r hr, ?_⟩
    show (if 0 = n then (m : Int) else r.parent) = -1
    rw [if_neg (fun h => h0 h.symm)]; exact hpr
  · intro x e' he hx0
    obtain ⟨e0, he0, rfl⟩ := old x e' he
    by_cases hxn : x = n
    · exact ⟨m, _, by show (if x = n then (m : Int) else e0.parent) = m; rw [if_pos hxn], new m me hm, (kid m me x hm).2 (.inl ⟨hxn, rfl⟩)⟩
    · obtain ⟨q, qe, hq, hqe, hk'⟩ := g.up x e0 he0 hx0
      exact ⟨q, _, by show (if x = n then (m : Int) else e0.parent) = q; rw [if_neg hxn]; exact hq, new q qe hqe, (kid q qe x hqe).2 (.inr ⟨hxn, hk'⟩)⟩
  · intro x e' k he hk'
    obtain ⟨e0, he0, rfl⟩ := old x e' he
    rcases (kid x e0 k he0).1 hk' with ⟨rfl, rfl⟩ | ⟨hkn, hk0⟩
    · exact ⟨_, new k e hn, by show (if k = k then (x : Int) else e.parent) = x; rw [if_pos rfl]⟩
    · obtain ⟨ke, hke, hpk⟩ := g.down x e0 k he0 hk0
      exact ⟨_, new k ke hke, by show (if k = n then (m : Int) else ke.parent) = x; rw [if_neg hkn]; exact hpk⟩
  · intro x e' he
    obtain ⟨e0, he0, rfl⟩ := old x e' he
    have hnd := g.nd x e0 he0
    show (if x = m then insK (if x = p then offK e0.kids n else e0.kids) i n else if x = p then offK e0.kids n else e0.kids).Nodup
    have h1 : (if x = p then offK e0.kids n else e0.kids).Nodup := by
      split
      · exact offK_nodup hnd
      · exact hnd
    split
    · refine insK_nodup h1 ?_
      by_cases hxp : x = p
      · rw [if_pos hxp]; exact fun h => (mem_offK.1 h).2 rfl
      · rw [if_neg hxp]; exact fun h => hxp (hnk x e0 he0 h)
    · exact h1
  · show (if 0 ∈ below E 10 n then d 0 - d n + d m + 1 else d 0) = 1
    rw [if_neg h0b]; exact g.d0
  · intro x e' k he hk'
    obtain ⟨e0, he0, rfl⟩ := old x e' he
    show (if k ∈ below E 10 n then d k - d n + d m + 1 else d k) = (if x ∈ below E 10 n then d x - d n + d m + 1 else d x) + 1
    rcases (kid x e0 k he0).1 hk' with ⟨rfl, rfl⟩ | ⟨hkn, hk0⟩
    · rw [if_pos (self_below 10 k), if_neg hmb]; omega
    · have h1 := g.dk x e0 k he0 hk0
      have h2 := dd x k e0 he0 hkn hk0
      by_cases hxb : x ∈ below E 10 n
      · have h3 := (g.below_d 10 n x hxb).1
        rw [if_pos hxb, if_pos (h2.1 hxb)]; omega
      · rw [if_neg hxb, if_neg (fun h => hxb (h2.2 h))]; exact h1
  · intro x e' he
    obtain ⟨e0, he0, _⟩ := old x e' he
    show (if x ∈ below E 10 n then d x - d n + d m + 1 else d x) ≤ 10
    by_cases hxb : x ∈ below E 10 n
    · rw [if_pos hxb]
      have h1 := (g.below_d 10 n x hxb).1
      have h2 := g.high_ge 10 n x hxb
      omega
    · rw [if_neg hxb]; exact g.dm x e0 he0
/-! ### moved, and moved back -/
theorem elAt_of_mem {E : Els} (hk : (E.map (·.1)).Nodup) {k : Nat} {e : El} (h : (k, e) ∈ E) : elAt E k = some e := by
  induction E with
  | nil => cases h
  | cons x E ih =>
    rw [List.map_cons, List.nodup_cons] at hk
    rw [elAt_cons]
    rcases List.mem_cons.1 h with rfl | h
    · rw [if_pos rfl]
    · rw [if_neg (fun hx => hk.1 (by rw [hx]; exact List.mem_map.2 ⟨_, h, rfl⟩))]
      exact ih hk.2 h
theorem offK_insK {l : List Nat} {i n : Nat} (h : n ∉ l) : offK (insK l i n) n = l := by
  unfold offK insK
  rw [List.filter_append, List.filter_cons]
  have h1 : (n != n) = false := by simp
  rw [h1, if_neg (by simp), ← List.filter_append, List.take_append_drop]
  exact offK_self h
theorem insK_offK : ∀ {l : List Nat} {n : Nat}, l.Nodup → n ∈ l → insK (offK l n) (l.idxOf n) n = l ∧ l.idxOf n ≤ (offK l n).length ∧ (offK l n).length + 1 = l.length := by
  intro l
  induction l with
  | nil => intro n _ h; cases h
  | cons a r ih =>
    intro n hnd hn
    rw [List.nodup_cons] at hnd
    by_cases ha : a = n
    · subst ha
      have h1 : offK (a :: r) a = r := by
        show (a :: r).filter (fun x => x != a) = r
        rw [List.filter_cons, if_neg (by simp)]
        exact offK_self hnd.1
      have h2 : (a :: r).idxOf a = 0 := by simp
      rw [h1, h2]
      exact ⟨rfl, Nat.zero_le _, rfl⟩
    · have hn' : n ∈ r := by
        rcases List.mem_cons.1 hn with h | h
        · exact absurd h.symm ha
        · exact h
      obtain ⟨h3, h4, h5⟩ := ih hnd.2 hn'
      have h1 : offK (a :: r) n = a :: offK r n := by
        show (a :: r).filter (fun x => x != n) = _
        rw [List.filter_cons, if_pos (by simpa using ha)]; rfl
      have h2 : (a :: r).idxOf n = r.idxOf n + 1 := by
        rw [List.idxOf_cons]
        have : (a == n) = false := by simpa using ha
        simp [this]
      rw [h1, h2]
      refine ⟨?_, by simp; exact h4, by simp; exact h5⟩
      show a :: ((offK r n).take (r.idxOf n) ++ n :: (offK r n).drop (r.idxOf n)) = a :: r
      exact congrArg _ h3
theorem below_congr {E E' : Els} : ∀ (f x : Nat), (∀ y ∈ below E f x, kidsAt E' y = kidsAt E y) → below E' f x = below E f x := by
  intro f
  induction f with
  | zero => intro x _; rfl
  | succ f ih =>
    intro x h
    show x :: (kidsAt E' x).flatMap (below E' f) = x :: (kidsAt E x).flatMap (below E f)
    rw [h x (self_below _ _)]
    congr 1
    unfold List.flatMap
    congr 1
    refine List.map_congr_left fun k hk => ih k fun y hy => h y ?_
    exact List.mem_cons_of_mem _ (List.mem_flatMap.2 ⟨k, hk, hy⟩)
theorem foldl_congr {h h' : Nat → Nat} : ∀ (l : List Nat) (k : Nat), (∀ x ∈ l, h' x = h x) → l.foldl (fun k x => max k (h' x)) k = l.foldl (fun k x => max k (h x)) k := by
  intro l
  induction l with
  | nil => intro k _; rfl
  | cons a r ih =>
    intro k hh
    show r.foldl _ (max k (h' a)) = r.foldl _ (max k (h a))
    rw [hh a List.mem_cons_self]
    exact ih _ fun x hx => hh x (List.mem_cons_of_mem _ hx)
theorem high_congr {E E' : Els} : ∀ (f x : Nat), (∀ y ∈ below E f x, kidsAt E' y = kidsAt E y) → high E' f x = high E f x := by
  intro f
  induction f with
  | zero => intro x _; rfl
  | succ f ih =>
    intro x h
    show (kidsAt E' x).foldl (fun k x => max k (high E' f x)) 0 + 1 = (kidsAt E x).foldl (fun k x => max k (high E f x)) 0 + 1
    rw [h x (self_below _ _)]
    congr 1
    refine foldl_congr _ _ fun k hk => ih k fun y hy => h y ?_
    exact List.mem_cons_of_mem _ (List.mem_flatMap.2 ⟨k, hk, hy⟩)
/-- Whatever was moved may be moved back, and then all is as it was. -/
theorem Good.move_back (g : Good E next d) {n m i p : Nat} {e pe : El} (hn : elAt E n = some e) (h0 : n ≠ 0) (hp : e.parent = (p : Int)) (hmb : m ∉ below E 10 n) (hpe : elAt E p = some pe) (hk : n ∈ pe.kids) :
    moveE (moveE E n m i p) n p (pe.kids.idxOf n) m = E ∧ p ∉ below (moveE E n m i p) 10 n ∧ high (moveE E n m i p) 10 n = high E 10 n ∧ p ∉ below E 10 n ∧ d p + high E 10 n ≤ 10 ∧
      (∀ me', elAt (moveE E n m i p) p = some me' → pe.kids.idxOf n ≤ me'.kids.length - (if m = p then 1 else 0)) := by
  have hdn := g.dk p pe n hpe hk
  have hpb : p ∉ below E 10 n := fun h => by have := (g.below_d 10 n p h).1; omega
  have hnm : n ≠ m := fun h => hmb (h ▸ self_below 10 n)
  have hnp : n ≠ p := fun h => hpb (h ▸ self_below 10 n)
  have hnk : ∀ (x : Nat) e0, elAt E x = some e0 → n ∈ e0.kids → x = p := fun x e0 he hk' => by
    have h3 := g.par_kid (n := x) (k := n) (by rw [kidsAt_some he]; exact hk')
    have h4 := g.par_kid (n := p) (k := n) (by rw [kidsAt_some hpe]; exact hk)
    exact h3.symm.trans h4
  have hsame : ∀ y ∈ below E 10 n, kidsAt (moveE E n m i p) y = kidsAt E y := by
    intro y hy
    have hym : y ≠ m := fun h => hmb (h ▸ hy)
    have hyp : y ≠ p := fun h => hpb (h ▸ hy)
    unfold kidsAt
    rw [moveE_at]
    cases he : elAt E y with
    | none => rfl
    | some e0 =>
      show (if y = m then insK (if y = p then offK e0.kids n else e0.kids) i n else if y = p then offK e0.kids n else e0.kids) = e0.kids
      rw [if_neg hym, if_neg hyp]
  have hio := insK_offK (g.nd p pe hpe) hk
  have hhl := g.high_le 10 n ⟨e, hn⟩
  refine ⟨?_, by rw [below_congr 10 n hsame]; exact hpb, high_congr 10 n hsame, hpb, by omega, ?_⟩
  · unfold moveE
    rw [List.map_map]
    have : ∀ x ∈ E, ((fun x : Nat × El => (x.1, mvEl n p (pe.kids.idxOf n) m x.1 x.2)) ∘ fun x => (x.1, mvEl n m i p x.1 x.2)) x = id x := by
      rintro ⟨k, e0⟩ hx
      have he := elAt_of_mem g.keys hx
      show (k, mvEl n p (pe.kids.idxOf n) m k (mvEl n m i p k e0)) = (k, e0)
      congr 1
      obtain ⟨nm, at', pa, ks⟩ := e0
      show (⟨nm, at', if k = n then (p : Int) else if k = n then (m : Int) else pa, if k = p then insK (if k = m then offK (if k = m then insK (if k = p then offK ks n else ks) i n else if k = p then offK ks n else ks) n else (if k = m then insK (if k = p then offK ks n else ks) i n else if k = p then offK ks n else ks)) (pe.kids.idxOf n) n
        else if k = m then offK (if k = m then insK (if k = p then offK ks n else ks) i n else if k = p then offK ks n else ks) n else (if k = m then insK (if k = p then offK ks n else ks) i n else if k = p then offK ks n else ks)⟩ : El) = ⟨nm, at', pa, ks⟩
      have e1 : (if k = n then (p : Int) else if k = n then (m : Int) else pa) = pa := by
        by_cases hkn : k = n
        · subst hkn
          rw [hn] at he; cases he
          rw [if_pos rfl]; exact hp.symm
        · rw [if_neg hkn, if_neg hkn]
      rw [e1]
      congr 1
      by_cases hkp : k = p
      · subst hkp
        rw [hpe] at he; cases he
        simp only [if_true] at *
        by_cases hkm : k = m
        · rw [if_pos hkm, if_pos hkm]
          rw [offK_insK (fun h => (mem_offK.1 h).2 rfl)]
          exact hio.1
        · rw [if_neg hkm, if_neg hkm]
          exact hio.1
      · have hnks : n ∉ ks := fun h => hkp (hnk k _ he h)
        simp only [if_neg hkp]
        by_cases hkm : k = m
        · simp only [if_pos hkm]
          exact offK_insK hnks
        · simp only [if_neg hkm]
    rw [List.map_congr_left this, List.map_id]
  · intro me' hme'
    rw [moveE_at, hpe] at hme'
    cases hme'
    show _ ≤ (if p = m then insK (if p = p then offK pe.kids n else pe.kids) i n else if p = p then offK pe.kids n else pe.kids).length - _
    rw [if_pos rfl]
    by_cases hpm : p = m
    · rw [if_pos hpm, if_pos hpm.symm]
      have : (insK (offK pe.kids n) i n).length = (offK pe.kids n).length + 1 := by
        unfold insK; simp; omega
      omega
    · rw [if_neg hpm, if_neg (fun h => hpm h.symm)]
      omega
end Lead.Dc
