/-
  Plain: how deep the elements lie where one was moved, however deep it lies then; the reference's elements, one moved.
-/
import Derived.Test.YtndlmmpheecleaaGreatDoorUc
namespace Lead.Rc
open Go Go.RowKit Lead Lead.Dc Lead.Pk
variable {E : Els} {next : Nat} {d : Nat → Nat}
theorem high_hit (g : Good E next d) : ∀ (f n : Nat), ∃ x ∈ below E f n, d n + high E f n ≤ d x + 1 := by
  intro f
  induction f with
  | zero => intro n; exact ⟨n, by simp [below], Nat.le_refl _⟩
  | succ f ih =>
    intro n
    show ∃ x ∈ n :: (kidsAt E n).flatMap (below E f), d n + ((kidsAt E n).foldl (fun k x => max k (high E f x)) 0 + 1) ≤ d x + 1
    rcases (foldl_max (high E f) (kidsAt E n) 0).2.2 with h | ⟨k, hk, h⟩
    · exact ⟨n, List.mem_cons_self, by rw [h]; omega⟩
    · obtain ⟨x, hx, h2⟩ := ih k
      have h3 := (g.kid hk).1
      exact ⟨x, List.mem_cons_of_mem _ (List.mem_flatMap.2 ⟨k, hk, hx⟩), by rw [h]; omega⟩
/-- How deep the elements lie where n was moved below m. -/
def dMv (E : Els) (d : Nat → Nat) (n m x : Nat) : Nat := if x ∈ below E 10 n then d x - d n + d m + 1 else d x
/-- An element's number, where it may be none. -/
theorem mv_par (g : Good E next d) {n m p j : Nat} {e me : El} (hn : elAt E n = some e) (h0 : n ≠ 0) (_hp : e.parent = (p : Int)) (hm : elAt E m = some me) (hmb : m ∉ below E 10 n) : ∀ x f, elAt (moveE E n m j p) x = some f → parOk (moveE E n m j p) f.parent ∧ dMv E d n m x = dZ (dMv E d n m) f.parent + 1 := by
  have new : ∀ x f, elAt E x = some f → ∃ f', elAt (moveE E n m j p) x = some f' := fun x f hf => ⟨_, by rw [moveE_at, hf]; rfl⟩
  intro x f hf
  rw [moveE_at] at hf
  cases hx : elAt E x with
  | none => rw [hx] at hf; cases hf
  | some f0 =>
    rw [hx] at hf
    cases hf
    show parOk _ (if x = n then (m : Int) else f0.parent) ∧ dMv E d n m x = dZ (dMv E d n m) (if x = n then (m : Int) else f0.parent) + 1
    by_cases hxn : x = n
    · subst hxn
      rw [if_pos rfl, dZ_nat]
      obtain ⟨me', hme'⟩ := new m me hm
      refine ⟨.inr ⟨m, me', rfl, hme'⟩, ?_⟩
      unfold dMv
      rw [if_pos (self_below _ _), if_neg hmb]; omega
    · rw [if_neg hxn]
      have hg := g.gone_iff hx hn
      have hdx := dZ_up g hx
      rcases (par_ok g hx).1 with hpx | ⟨q, qe, hpx, hqe⟩
      · rw [hpx] at hg hdx ⊢
        have hnot : x ∉ below E 10 n := fun h => by
          rcases hg.1 h with h | h
          · exact hxn h
          · omega
        refine ⟨.inl rfl, ?_⟩
        rw [dZ_neg] at hdx ⊢
        unfold dMv
        rw [if_neg hnot]; exact hdx
      · rw [hpx] at hg hdx ⊢
        rw [dZ_nat] at hdx ⊢
        obtain ⟨qe', hqe'⟩ := new q qe hqe
        refine ⟨.inr ⟨q, qe', rfl, hqe'⟩, ?_⟩
        rw [Int.toNat_natCast] at hg
        unfold dMv
        by_cases hq : q ∈ below E 10 n
        · rw [if_pos (hg.2 (.inr ⟨by omega, hq⟩)), if_pos hq]
          have := (g.below_d 10 n q hq).1
          omega
        · rw [if_neg (fun h => by
            rcases hg.1 h with h | h
            · exact hxn h
            · exact hq h.2), if_neg hq]
          exact hdx
theorem dMv_le (g : Good E next d) {n m x : Nat} {me f : El} (hm : elAt E m = some me) (hx : elAt E x = some f) : dMv E d n m x ≤ 1000 := by
  have h1 := g.dm m me hm
  have h2 := g.dm x f hx
  unfold dMv
  split <;> omega
theorem dMv_ok (g : Good E next d) {n m x : Nat} {f : El} (hx : elAt E x = some f) (h : d m + high E 10 n ≤ 10) : dMv E d n m x ≤ 10 := by
  have h2 := g.dm x f hx
  unfold dMv
  split
  · next hb =>
    have h3 := g.high_ge 10 n x hb
    have h4 := (g.below_d 10 n x hb).1
    omega
  · exact h2
theorem dMv_no (g : Good E next d) {n m : Nat} {e : El} (hn : elAt E n = some e) (h : 10 < d m + high E 10 n) : ∃ x f, elAt E x = some f ∧ 10 < dMv E d n m x := by
  obtain ⟨x, hx, h1⟩ := high_hit g 10 n
  obtain ⟨f, hf⟩ := g.below_in 10 n x ⟨e, hn⟩ hx
  refine ⟨x, f, hf, ?_⟩
  have h4 := (g.below_d 10 n x hx).1
  unfold dMv
  rw [if_pos hx]; omega
theorem RelD.of_re {l l' : List ReX} (h : RelD l E next) (he : l'.map ReX.re = l.map ReX.re) : RelD l' E next := by
  have hl : l'.length = l.length := by have := congrArg List.length he; rwa [List.length_map, List.length_map] at this
  have hat : ∀ x (hx' : x < l'.length) (hx : x < l.length), l'[x].re = l[x].re := fun x hx' hx => by
    have h1 : (l'.map ReX.re)[x]? = (l.map ReX.re)[x]? := by rw [he]
    rw [List.getElem?_map, List.getElem?_map, List.getElem?_eq_getElem hx', List.getElem?_eq_getElem hx] at h1
    injection h1
  have fl : ∀ a c : ReX, a.re = c.re → a.nm = c.nm ∧ a.ats = c.ats ∧ a.par = c.par ∧ a.kids = c.kids ∧ a.inn = c.inn := fun a c h => by
    unfold ReX.re at h
    injection h with a1 a2 a3 a4 a5
    exact ⟨a1, a2, a3, a4, a5⟩
  refine ⟨hl.trans h.len, fun n e hn => ?_, fun n hn hno => ?_⟩
  · obtain ⟨a0, a1, a2, a3, a4, a5⟩ := h.el n e hn
    have hn' : n < l'.length := by rw [hl]; exact a0
    obtain ⟨b1, b2, b3, b4, b5⟩ := fl _ _ (hat n hn' a0)
    exact ⟨hn', b1.trans a1, b2.trans a2, b3.trans a3, b4.trans a4, b5.trans a5⟩
  · have hn' : n < l.length := by rw [← hl]; exact hn
    rw [(fl _ _ (hat n hn hn')).2.2.2.2]
    exact h.no n hn' hno
/-- A document takes another one's elements. -/
theorem RDoc.rebox {T : RTys} {base base' b b' : Nat} {W : World} {v v' : Value} {l l' : List ReX} (h : RDoc T base W b v l) (hx : RDoc T base' W b' v' l') (hb : base ≤ base') (hlt : b < base') : RDoc T base (W.setCell ⟨b, 0, none⟩ v') b v' l' := by
  have hk : ∀ k, base' ≤ k → (W.setCell ⟨b, 0, none⟩ v').heap[k]? = W.heap[k]? := fun k hk => heap_setCell_other _ _ _ _ (fun e => by have e' : k = b := e; omega)
  refine ⟨heap_setCell_same W b 0 _ _ v' h.box, h.bb, (own_kept hx.own (fun k h1 => hk k (hx.own.lt k h1).1)).base hb, fun e => by have := (hx.own.lt b e).1; omega, fun x hm => ?_⟩
  have hs := hx.sub x hm
  exact ⟨(own_kept hs.ats (fun k h1 => hk k (hs.ats.lt k h1).1)).base hb, (own_kept hs.kids (fun k h1 => hk k (hs.kids.lt k h1).1)).base hb,
    fun k h1 => ⟨(hs.aq k h1).1, by have := (hs.ats.lt k h1).1; omega⟩, fun k h1 => ⟨(hs.kq k h1).1, by have := (hs.kids.lt k h1).1; omega⟩⟩
/-- The reference's elements, one moved: out of its parent's children, its parent told, put among the others' children. -/
theorem RelD.move {l : List ReX} (h : RelD l E next) {n m j p : Nat} {e me pe : El} (hn : elAt E n = some e) (hm : elAt E m = some me) (hpe : elAt E p = some pe) (hnm : n ≠ m) (hnp : n ≠ p) {l1 l2 l3 : List ReX} {x1 x2 x3 : ReX}
    (hp' : p < l.length) (hn' : n < l1.length) (hm' : m < l2.length)
    (h1 : l1 = l.set p x1) (g1 : x1.nm = l[p].nm ∧ x1.ats = l[p].ats ∧ x1.par = l[p].par ∧ x1.kids = offK l[p].kids n ∧ x1.inn = l[p].inn)
    (h2 : l2 = l1.set n x2) (g2 : x2.nm = l1[n].nm ∧ x2.ats = l1[n].ats ∧ x2.par = (m : Int) ∧ x2.kids = l1[n].kids ∧ x2.inn = l1[n].inn)
    (h3 : l3 = l2.set m x3) (g3 : x3.nm = l2[m].nm ∧ x3.ats = l2[m].ats ∧ x3.par = l2[m].par ∧ x3.kids = insK l2[m].kids j n ∧ x3.inn = l2[m].inn) : RelD l3 (moveE E n m j p) next := by
  have hl3 : l3.length = l.length := by rw [h3, List.length_set, h2, List.length_set, h1, List.length_set]
  have at3 : ∀ x (hx : x < l3.length) (hx0 : x < l.length), l3[x].nm = l[x].nm ∧ l3[x].ats = l[x].ats ∧ l3[x].par = (if x = n then (m : Int) else l[x].par) ∧ l3[x].kids = (if x = m then insK (if x = p then offK l[x].kids n else l[x].kids) j n else if x = p then offK l[x].kids n else l[x].kids) ∧ l3[x].inn = l[x].inn := by
    intro x hx hx0
    subst h3 h2 h1
    have a1 : ∀ x (hx : x < (l.set p x1).length), (l.set p x1)[x].nm = (l[x]'(by rw [List.length_set] at hx; exact hx)).nm ∧ (l.set p x1)[x].ats = (l[x]'(by rw [List.length_set] at hx; exact hx)).ats ∧ (l.set p x1)[x].par = (l[x]'(by rw [List.length_set] at hx; exact hx)).par ∧ (l.set p x1)[x].kids = (if x = p then offK (l[x]'(by rw [List.length_set] at hx; exact hx)).kids n else (l[x]'(by rw [List.length_set] at hx; exact hx)).kids) ∧ (l.set p x1)[x].inn = (l[x]'(by rw [List.length_set] at hx; exact hx)).inn := by
      intro x hx
      simp only [List.getElem_set]
      by_cases hxp : p = x
      · subst hxp
        simp only [if_true]
        exact g1
      · simp only [if_neg hxp, if_neg (fun e => hxp (Eq.symm e) : ¬ x = p)]
        exact ⟨trivial, trivial, trivial, trivial, trivial⟩
    have a2 : ∀ x (hx : x < ((l.set p x1).set n x2).length) (hx0 : x < l.length), ((l.set p x1).set n x2)[x].nm = l[x].nm ∧ ((l.set p x1).set n x2)[x].ats = l[x].ats ∧ ((l.set p x1).set n x2)[x].par = (if x = n then (m : Int) else l[x].par) ∧ ((l.set p x1).set n x2)[x].kids = (if x = p then offK l[x].kids n else l[x].kids) ∧ ((l.set p x1).set n x2)[x].inn = l[x].inn := by
      intro x hx hx0
      rw [List.getElem_set]
      by_cases hxn : n = x
      · subst hxn
        rw [if_pos rfl, if_pos rfl]
        obtain ⟨b1, b2, b3, b4, b5⟩ := a1 n hn'
        exact ⟨g2.1.trans b1, g2.2.1.trans b2, g2.2.2.1, g2.2.2.2.1.trans b4, g2.2.2.2.2.trans b5⟩
      · rw [if_neg hxn, if_neg (fun e => hxn e.symm)]
        exact a1 x (by rw [List.length_set]; exact hx0)
    rw [List.getElem_set]
    by_cases hxm : m = x
    · subst hxm
      rw [if_pos rfl, if_pos rfl]
      obtain ⟨b1, b2, b3, b4, b5⟩ := a2 m hm' hx0
      exact ⟨g3.1.trans b1, g3.2.1.trans b2, g3.2.2.1.trans b3, by rw [g3.2.2.2.1, b4], g3.2.2.2.2.trans b5⟩
    · rw [if_neg hxm, if_neg (show ¬ x = m from fun e => hxm e.symm)]
      exact a2 x (by rw [List.length_set, List.length_set]; exact hx0) hx0
  refine ⟨hl3.trans h.len, fun x f hf => ?_, fun x hx hno => ?_⟩
  · rw [moveE_at] at hf
    cases hx : elAt E x with
    | none => rw [hx] at hf; cases hf
    | some f0 =>
      rw [hx] at hf
      cases hf
      obtain ⟨a0, a1, a2, a3, a4, a5⟩ := h.el x f0 hx
      have hx3 : x < l3.length := by rw [hl3]; exact a0
      obtain ⟨b1, b2, b3, b4, b5⟩ := at3 x hx3 a0
      refine ⟨hx3, b1.trans a1, b2.trans a2, ?_, ?_, b5.trans a5⟩
      · rw [b3, a3]; rfl
      · rw [b4, a4]; rfl
  · have hx0 : x < l.length := by rw [← hl3]; exact hx
    rw [(at3 x hx hx0).2.2.2.2]
    refine h.no x hx0 ?_
    rw [moveE_at] at hno
    cases hx' : elAt E x with
    | none => rfl
    | some f0 => rw [hx'] at hno; cases hno
end Lead.Rc
