/-
  Plain: a node as a tree; the document that New lays out of it; it is a right one.
-/
import Derived.Test.YtbcoccgfoionlaaDoorDm1
namespace Lead.Dc
/-- A node as a tree. -/
inductive RT where
  | mk (name : ByteArray) (attrs : List (ByteArray × ByteArray)) (kids : List RT)
mutual
def RT.cnt : RT → Nat
  | .mk _ _ ks => RT.cntL ks + 1
def RT.cntL : List RT → Nat
  | [] => 0
  | x :: r => x.cnt + RT.cntL r
end
mutual
def RT.hgt : RT → Nat
  | .mk _ _ ks => RT.hgtL ks + 1
def RT.hgtL : List RT → Nat
  | [] => 0
  | x :: r => max x.hgt (RT.hgtL r)
end
def idsL : List RT → Nat → List Nat
  | [], _ => []
  | x :: r, k => k :: idsL r (k + x.cnt)
mutual
def treeE : RT → Int → Nat → Els
  | .mk nm at' ks, p, k => (k, ⟨nm, at', p, idsL ks (k + 1)⟩) :: treesE ks k (k + 1)
def treesE : List RT → Nat → Nat → Els
  | [], _, _ => []
  | x :: r, p, k => treeE x (p : Int) k ++ treesE r p (k + x.cnt)
end
theorem elAt_app (A B : Els) (x : Nat) : elAt (A ++ B) x = (elAt A x).or (elAt B x) := by
  induction A with
  | nil => simp [elAt_nil]
  | cons y A ih =>
    rw [List.cons_append, elAt_cons, elAt_cons, ih]
    split <;> simp
/-- A forest laid from number k on. -/
structure TreeOk (F : Els) (k c : Nat) (ids : List Nat) (p : Int) (dp h : Nat) (dep : Nat → Nat) : Prop where
  keys : F.map (·.1) = List.range' k c
  idsIn : ∀ x ∈ ids, k ≤ x ∧ x < k + c
  idsNd : ids.Nodup
  roots : ∀ x ∈ ids, ∃ e, elAt F x = some e ∧ e.parent = p
  up : ∀ x e, elAt F x = some e → x ∈ ids ∨ ∃ (q : Nat) (qe : El), e.parent = (q : Int) ∧ elAt F q = some qe ∧ x ∈ qe.kids
  down : ∀ q qe x, elAt F q = some qe → x ∈ qe.kids → ∃ e, elAt F x = some e ∧ e.parent = (q : Int)
  nd : ∀ q qe, elAt F q = some qe → qe.kids.Nodup
  d0 : ∀ x ∈ ids, dep x = dp
  dk : ∀ q qe x, elAt F q = some qe → x ∈ qe.kids → dep x = dep q + 1
  dm : ∀ x e, elAt F x = some e → dep x + 1 ≤ dp + h
theorem TreeOk.rng {F : Els} {k c : Nat} {ids : List Nat} {p : Int} {dp h : Nat} {dep : Nat → Nat} (t : TreeOk F k c ids p dp h dep) {x : Nat} {e : El} (he : elAt F x = some e) : k ≤ x ∧ x < k + c := by
  have h1 := elAt_some.1 ⟨e, he⟩
  rw [t.keys, List.mem_range'_1] at h1
  exact h1
theorem TreeOk.nil (k : Nat) (p : Int) (dp : Nat) : TreeOk [] k 0 [] p dp 0 (fun _ => 0) :=
  ⟨rfl, (fun x hx => by cases hx), List.nodup_nil, (fun x hx => by cases hx), (fun x e he => by cases he), (fun q qe x he => by cases he), (fun q qe he => by cases he), (fun x hx => by cases hx), (fun q qe x he => by cases he), (fun x e he => by cases he)⟩
theorem TreeOk.app {A B : Els} {k c1 c2 : Nat} {i1 i2 : List Nat} {p : Int} {dp h1 h2 : Nat} {d1 d2 : Nat → Nat} (a : TreeOk A k c1 i1 p dp h1 d1) (b : TreeOk B (k + c1) c2 i2 p dp h2 d2) :
    TreeOk (A ++ B) k (c1 + c2) (i1 ++ i2) p dp (max h1 h2) (fun x => if x < k + c1 then d1 x else d2 x) := by
  have hA : ∀ x e, elAt A x = some e → elAt (A ++ B) x = some e := fun x e he => by rw [elAt_app, he]; rfl
  have hB : ∀ x e, elAt B x = some e → elAt (A ++ B) x = some e := fun x e he => by
    rw [elAt_app]
    have : elAt A x = none := elAt_none fun hk => by
      rw [a.keys, List.mem_range'_1] at hk
      have := b.rng he; omega
    rw [this, he]; rfl
  have hAB : ∀ x e, elAt (A ++ B) x = some e → elAt A x = some e ∨ elAt B x = some e := fun x e he => by
    rw [elAt_app] at he
    cases hx : elAt A x with
    | none => rw [hx] at he; exact .inr he
    | some e0 => rw [hx] at he; cases he; exact .inl rfl
  refine ⟨?_, ?_, ?_, ?_, ?_, ?_, ?_, ?_, ?_, ?_⟩
  · rw [List.map_append, a.keys, b.keys, List.range'_append_1]
  · intro x hx
    rcases List.mem_append.1 hx with hx | hx
    · have := a.idsIn x hx; omega
    · have := b.idsIn x hx; omega
  · refine List.nodup_append.2 ⟨a.idsNd, b.idsNd, fun x hx y hy hxy => ?_⟩
    have h1 := a.idsIn x hx
    have h2 := b.idsIn y hy
    omega
  · intro x hx
    rcases List.mem_append.1 hx with hx | hx
    · obtain ⟨e, he, hp⟩ := a.roots x hx; exact ⟨e, hA x e he, hp⟩
    · obtain ⟨e, he, hp⟩ := b.roots x hx; exact ⟨e, hB x e he, hp⟩
  · intro x e he
    rcases hAB x e he with he | he
    · rcases a.up x e he with h | ⟨q, qe, h, hq, hk⟩
      · exact .inl (List.mem_append.2 (.inl h))
      · exact .inr ⟨q, qe, h, hA q qe hq, hk⟩
    · rcases b.up x e he with h | ⟨q, qe, h, hq, hk⟩
      · exact .inl (List.mem_append.2 (.inr h))
      · exact .inr ⟨q, qe, h, hB q qe hq, hk⟩
  · intro q qe x hq hk
    rcases hAB q qe hq with hq | hq
    · obtain ⟨e, he, hp⟩ := a.down q qe x hq hk; exact ⟨e, hA x e he, hp⟩
    · obtain ⟨e, he, hp⟩ := b.down q qe x hq hk; exact ⟨e, hB x e he, hp⟩
  · intro q qe hq
    rcases hAB q qe hq with hq | hq
    · exact a.nd q qe hq
    · exact b.nd q qe hq
  · intro x hx
    rcases List.mem_append.1 hx with hx | hx
    · have := a.idsIn x hx
      show (if x < k + c1 then d1 x else d2 x) = dp
      rw [if_pos (by omega)]; exact a.d0 x hx
    · have := b.idsIn x hx
      show (if x < k + c1 then d1 x else d2 x) = dp
      rw [if_neg (by omega)]; exact b.d0 x hx
  · intro q qe x hq hk
    show (if x < k + c1 then d1 x else d2 x) = (if q < k + c1 then d1 q else d2 q) + 1
    rcases hAB q qe hq with hq | hq
    · obtain ⟨e, he, _⟩ := a.down q qe x hq hk
      have h1 := a.rng hq
      have h2 := a.rng he
      rw [if_pos (by omega), if_pos (by omega)]; exact a.dk q qe x hq hk
    · obtain ⟨e, he, _⟩ := b.down q qe x hq hk
      have h1 := b.rng hq
      have h2 := b.rng he
      rw [if_neg (by omega), if_neg (by omega)]; exact b.dk q qe x hq hk
  · intro x e he
    show (if x < k + c1 then d1 x else d2 x) + 1 ≤ dp + max h1 h2
    rcases hAB x e he with he | he
    · have h1 := a.rng he
      have h2 := a.dm x e he
      rw [if_pos (by omega)]; omega
    · have h1 := b.rng he
      have h2 := b.dm x e he
      rw [if_neg (by omega)]; omega
theorem TreeOk.node {F : Els} {k c : Nat} {ids : List Nat} {dp h : Nat} {dep : Nat → Nat} (t : TreeOk F (k + 1) c ids (k : Int) (dp + 1) h dep) (nm : ByteArray) (at' : List (ByteArray × ByteArray)) (p : Int) :
    TreeOk ((k, ⟨nm, at', p, ids⟩) :: F) k (c + 1) [k] p dp (h + 1) (fun x => if x = k then dp else dep x) := by
  have h0 : elAt ((k, ⟨nm, at', p, ids⟩) :: F) k = some ⟨nm, at', p, ids⟩ := by rw [elAt_cons, if_pos rfl]
  have hF : ∀ x e, elAt F x = some e → x ≠ k ∧ elAt ((k, ⟨nm, at', p, ids⟩) :: F) x = some e := fun x e he => by
    have h1 := t.rng he
    have hx : k ≠ x := by omega
    exact ⟨fun h => hx h.symm, by rw [elAt_cons, if_neg hx]; exact he⟩
  have hold : ∀ x e, elAt ((k, ⟨nm, at', p, ids⟩) :: F) x = some e → (x = k ∧ e = ⟨nm, at', p, ids⟩) ∨ (x ≠ k ∧ elAt F x = some e) := fun x e he => by
    rw [elAt_cons] at he
    by_cases hx : k = x
    · rw [if_pos hx] at he; cases he; exact .inl ⟨hx.symm, rfl⟩
    · rw [if_neg hx] at he; exact .inr ⟨fun h => hx h.symm, he⟩
  refine ⟨?_, ?_, by simp, ?_, ?_, ?_, ?_, ?_, ?_, ?_⟩
  · rw [List.map_cons, t.keys, List.range'_succ]
  · intro x hx
    obtain rfl : x = k := by simpa using hx
    omega
  · intro x hx
    obtain rfl : x = k := by simpa using hx
    exact ⟨_, h0, rfl⟩
  · intro x e he
    rcases hold x e he with ⟨rfl, _⟩ | ⟨hx, he⟩
    · exact .inl (by simp)
    · rcases t.up x e he with hi | ⟨q, qe, h1, h2, h3⟩
      · obtain ⟨e', he', hp⟩ := t.roots x hi
        rw [he] at he'; cases he'
        exact .inr ⟨k, _, hp, h0, hi⟩
      · exact .inr ⟨q, qe, h1, (hF q qe h2).2, h3⟩
  · intro q qe x hq hk
    rcases hold q qe hq with ⟨rfl, rfl⟩ | ⟨_, hq⟩
    · obtain ⟨e, he, hp⟩ := t.roots x hk
      exact ⟨e, (hF x e he).2, hp⟩
    · obtain ⟨e, he, hp⟩ := t.down q qe x hq hk
      exact ⟨e, (hF x e he).2, hp⟩
  · intro q qe hq
    rcases hold q qe hq with ⟨rfl, rfl⟩ | ⟨_, hq⟩
    · exact t.idsNd
    · exact t.nd q qe hq
  · intro x hx
    obtain rfl : x = k := by simpa using hx
    show (if x = x then dp else dep x) = dp
    rw [if_pos rfl]
  · intro q qe x hq hk
    show (if x = k then dp else dep x) = (if q = k then dp else dep q) + 1
    rcases hold q qe hq with ⟨rfl, rfl⟩ | ⟨hqk, hq⟩
    · have h1 := t.idsIn x hk
      rw [if_neg (by omega), if_pos rfl]; exact t.d0 x hk
    · obtain ⟨e, he, _⟩ := t.down q qe x hq hk
      rw [if_neg (hF x e he).1, if_neg hqk]; exact t.dk q qe x hq hk
  · intro x e he
    show (if x = k then dp else dep x) + 1 ≤ dp + (h + 1)
    rcases hold x e he with ⟨rfl, _⟩ | ⟨hx, he⟩
    · rw [if_pos rfl]; omega
    · rw [if_neg hx]; have := t.dm x e he; omega
mutual
theorem treeE_ok : ∀ (n : RT) (p : Int) (k dp : Nat), ∃ dep, TreeOk (treeE n p k) k n.cnt [k] p dp n.hgt dep
  | .mk nm at' ks, p, k, dp => by
    obtain ⟨dep, h⟩ := treesE_ok ks k (k + 1) (dp + 1)
    have := h.node nm at' p
    exact ⟨fun x => if x = k then dp else dep x, by simp only [treeE, RT.cnt, RT.hgt]; exact this⟩
theorem treesE_ok : ∀ (ks : List RT) (p k dp : Nat), ∃ dep, TreeOk (treesE ks p k) k (RT.cntL ks) (idsL ks k) (p : Int) dp (RT.hgtL ks) dep
  | [], p, k, dp => ⟨_, by simpa only [treesE, RT.cntL, idsL, RT.hgtL] using TreeOk.nil k (p : Int) dp⟩
  | x :: r, p, k, dp => by
    obtain ⟨d1, h1⟩ := treeE_ok x (p : Int) k dp
    obtain ⟨d2, h2⟩ := treesE_ok r p (k + x.cnt) dp
    have := h1.app h2
    exact ⟨fun y => if y < k + x.cnt then d1 y else d2 y, by simp only [treesE, RT.cntL, idsL, RT.hgtL]; exact this⟩
end
/-- A node that is not too deep is a right document. -/
theorem good_tree (n : RT) (h : n.hgt ≤ 10) : ∃ d, Good (treeE n (-1) 0) n.cnt d := by
  obtain ⟨dep, t⟩ := treeE_ok n (-1) 0 1
  refine ⟨dep, ?_, ?_, ?_, ?_, t.down, t.nd, t.d0 0 (by simp), t.dk, ?_⟩
  · rw [t.keys]; exact List.nodup_range'
  · intro x e he
    have := t.rng he; omega
  · exact t.roots 0 (by simp)
  · intro x e he hx
    rcases t.up x e he with hi | ⟨q, qe, h1, h2, h3⟩
    · exact absurd (by simpa using hi) hx
    · exact ⟨q, qe, h1, h2, h3⟩
  · intro x e he
    have := t.dm x e he; omega
/-! ### how it is laid -/
mutual
def layN : RT → Int → Els × Nat → Els × Nat
  | .mk nm at' ks, p, s => layL ks s.2 (s.1 ++ [(s.2, ⟨nm, at', p, []⟩)], s.2 + 1)
def layL : List RT → Nat → Els × Nat → Els × Nat
  | [], _, s => s
  | x :: r, k, s => layL r k (upd (layN x (k : Int) s).1 k (fun e => { e with kids := e.kids ++ [s.2] }), (layN x (k : Int) s).2)
end
theorem upd_app (A B : Els) (n : Nat) (f : El → El) : upd (A ++ B) n f = upd A n f ++ upd B n f := by unfold upd; rw [List.map_append]
theorem upd_miss (A : Els) (n : Nat) (f : El → El) (h : n ∉ A.map (·.1)) : upd A n f = A := by
  unfold upd
  have : ∀ x ∈ A, (if x.1 = n then (x.1, f x.2) else x) = id x := fun x hx => if_neg fun he => h (List.mem_map.2 ⟨x, hx, he⟩)
  rw [List.map_congr_left this, List.map_id]
mutual
theorem layN_eq : ∀ (n : RT) (p : Int) (E : Els) (next : Nat), (∀ x ∈ E.map (·.1), x < next) → layN n p (E, next) = (E ++ treeE n p next, next + n.cnt)
  | .mk nm at' ks, p, E, next, h => by
    have h1 := layL_eq ks next E [] (next + 1) nm at' p h (Nat.lt_succ_self _) [] (fun x hx => by cases hx)
    simp only [layN, treeE, RT.cnt]
    rw [List.append_nil, List.nil_append] at h1
    rw [h1, List.nil_append, Nat.add_assoc, Nat.add_comm 1, List.append_assoc, List.singleton_append]
theorem layL_eq : ∀ (ks : List RT) (k : Nat) (E M : Els) (next : Nat) (nm : ByteArray) (at' : List (ByteArray × ByteArray)) (p : Int), (∀ x ∈ E.map (·.1), x < k) → k < next → ∀ (is : List Nat), (∀ x ∈ M.map (·.1), k < x ∧ x < next) →
    layL ks k (E ++ [(k, ⟨nm, at', p, is⟩)] ++ M, next) = (E ++ [(k, ⟨nm, at', p, is ++ idsL ks next⟩)] ++ (M ++ treesE ks k next), next + RT.cntL ks)
  | [], k, E, M, next, nm, at', p, h, hk, is, hM => by simp [layL, idsL, treesE, RT.cntL]
  | x :: r, k, E, M, next, nm, at', p, h, hk, is, hM => by
    have hlt : ∀ y ∈ (E ++ [(k, (⟨nm, at', p, is⟩ : El))] ++ M).map (·.1), y < next := fun y hy => by
      rw [List.map_append, List.map_append, List.mem_append, List.mem_append] at hy
      rcases hy with (hy | hy) | hy
      · have := h y hy; omega
      · obtain rfl : y = k := by simpa using hy
        exact hk
      · exact (hM y hy).2
    have h1 := layN_eq x (k : Int) (E ++ [(k, ⟨nm, at', p, is⟩)] ++ M) next hlt
    simp only [layL]
    rw [h1]
    obtain ⟨_, tk⟩ := treeE_ok x (k : Int) next 1
    have e1 : upd (E ++ [(k, (⟨nm, at', p, is⟩ : El))] ++ M ++ treeE x (k : Int) next) k (fun e => { e with kids := e.kids ++ [next] }) = E ++ [(k, ⟨nm, at', p, is ++ [next]⟩)] ++ (M ++ treeE x (k : Int) next) := by
      rw [upd_app, upd_app, upd_app, upd_miss E k _ (fun hh => by have := h k hh; omega), upd_miss M k _ (fun hh => by have := (hM k hh).1; omega), upd_miss (treeE x (k : Int) next) k _ (fun hh => by rw [tk.keys, List.mem_range'_1] at hh; omega)]
      have : upd [(k, (⟨nm, at', p, is⟩ : El))] k (fun e => { e with kids := e.kids ++ [next] }) = [(k, ⟨nm, at', p, is ++ [next]⟩)] := by simp [upd]
      rw [this]; simp only [List.append_assoc]
    show layL r k (upd (E ++ [(k, (⟨nm, at', p, is⟩ : El))] ++ M ++ treeE x (k : Int) next) k (fun e => { e with kids := e.kids ++ [next] }), next + x.cnt) = _
    rw [e1]
    have h2 := layL_eq r k E (M ++ treeE x (k : Int) next) (next + x.cnt) nm at' p h (by omega) (is ++ [next]) (fun y hy => by
      rw [List.map_append, List.mem_append] at hy
      rcases hy with hy | hy
      · have := hM y hy; omega
      · rw [tk.keys, List.mem_range'_1] at hy; omega)
    rw [h2]
    simp only [idsL, treesE, RT.cntL, List.append_assoc, List.cons_append, List.nil_append, Nat.add_assoc]
end
end Lead.Dc
