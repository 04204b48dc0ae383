/-
  Several texts as one: Rc1, Apq.
-/
import Derived.Test.YtndlmmpheecleaaGreatDoorDn
import Derived.Test.YtndlmmpheecleaaGreatDoorRw
import Derived.Deep.Upon
/-
  Plain: the reference's document in memory: a box with a row of elements of its own.
-/
namespace Lead.Rc
open Go Go.RowKit Lead Lead.Dc
abbrev At := ByteArray × ByteArray
/-- An element. -/
structure RE where
  nm : ByteArray
  ats : List At
  par : Int
  kids : List Nat
  inn : Bool
/-- .. with its slices. -/
structure ReX where
  nm : ByteArray
  ao : Option Addr
  al : Nat
  ac : Nat
  ats : List At
  par : Int
  ko : Option Addr
  kl : Nat
  kc : Nat
  kids : List Nat
  inn : Bool
def ReX.re (x : ReX) : RE := ⟨x.nm, x.ats, x.par, x.kids, x.inn⟩
def ReX.av (x : ReX) : Value := .slice x.ao x.al x.ac
def ReX.kv (x : ReX) : Value := .slice x.ko x.kl x.kc
def ERe : Enc ReX := ⟨fun x => [.string x.nm, .slice x.ao x.al x.ac, .int .i64 x.par, .slice x.ko x.kl x.kc, .bool x.inn], 5, fun _ => rfl, fun x u h => by simp at h; rcases h with rfl | rfl | rfl | rfl | rfl <;> rfl, by decide⟩
structure RTys where
  doc : TypeId
  el : TypeId
  at_ : TypeId
  int_ : TypeId
  ne : el ≠ int_
/-- An element's own rows. -/
structure SubOk (T : RTys) (base : Nat) (W : World) (Q : Nat → Prop) (x : ReX) : Prop where
  ats : OwnR EAt W base T.at_ x.av x.ats
  kids : OwnR EIn W base T.int_ x.kv x.kids
  aq : ∀ k, x.av.ownBlock = some k → Q k
  kq : ∀ k, x.kv.ownBlock = some k → Q k
theorem SubOk.kept {T : RTys} {base : Nat} {W W' : World} {Q Q' : Nat → Prop} {x : ReX} (h : SubOk T base W Q x) (hk : ∀ k, Q k → k < W.heap.size → W'.heap[k]? = W.heap[k]?) (hQ : ∀ k, Q k → k < W.heap.size → Q' k) : SubOk T base W' Q' x :=
  ⟨own_kept h.ats fun b hb => hk b (h.aq b hb) (h.ats.lt b hb).2, own_kept h.kids fun b hb => hk b (h.kq b hb) (h.kids.lt b hb).2, fun k hk' => hQ k (h.aq k hk') (h.ats.lt k hk').2, fun k hk' => hQ k (h.kq k hk') (h.kids.lt k hk').2⟩
/-- The document. -/
structure RDoc (T : RTys) (base : Nat) (W : World) (b : Nat) (v : Value) (l : List ReX) : Prop where
  box : W.heap[b]? = some (.cells #[v] T.doc (0, 0))
  bb : base ≤ b
  own : OwnR ERe W base T.el v l
  ne : v.ownBlock ≠ some b
  sub : ∀ x ∈ l, SubOk T base W (fun k => v.ownBlock ≠ some k ∧ k ≠ b) x
variable {T : RTys} {base base' b : Nat} {W W' : World} {v v' : Value} {l : List ReX}
theorem RDoc.lt (h : RDoc T base W b v l) : b < W.heap.size := Dc.hlt h.box
theorem RDoc.keep (h : RDoc T base W b v l) (hb : Below W.heap.size W W') : RDoc T base W' b v l :=
  ⟨(hb.block _ h.lt).trans h.box, h.bb, h.own.keep hb, h.ne, fun x hx => (h.sub x hx).kept (fun k _ hk => hb.block k hk) (fun _ hq _ => hq)⟩
theorem RDoc.c0 (h : RDoc T base W b v l) : W.cell? ⟨b, 0, none⟩ = some v := Dc.hcell h.box rfl
theorem RDoc.fr (h : RDoc T base W b v l) (j : Nat) : W.frozen? ⟨b, j, none⟩ = false := Dc.hfree h.box
/-- One value of an own row set. -/
theorem own_set {α : Type} {En : Enc α} {e : TypeId} {xs : List α} {g cap p q : Nat} {u : Value} {y : α} (h : OwnR En W base e (.slice (some ⟨g, 0, none⟩) xs.length cap) xs) (hp : p < xs.length) (hq : q < En.k) (hy : En.enc y = (En.enc xs[p]).set q u) :
    OwnR En (W.setCell ⟨g, p * En.k + q, none⟩ u) base e (.slice (some ⟨g, 0, none⟩) xs.length cap) (xs.set p y) := by
  have hlen : (xs.set p y).length = xs.length := List.length_set
  obtain ⟨h1, h2⟩ := h
  rcases h2 with ⟨h2, _⟩ | ⟨g', cap', cur, h3, h4, h5, h6, h7, h8, h9⟩
  · cases h2
  · cases h3
    unfold OwnR
    rw [hlen]
    refine ⟨by rw [En.flat_len, hlen], .inr ⟨g, cap, cur.setIfInBounds (p * En.k + q) u, rfl, h4, heap_setCell_same _ _ _ _ _ _ h5, h6, h7, by rw [Array.size_setIfInBounds]; exact h8, ?_⟩⟩
    have hpq : p * En.k + q < xs.length * En.k := by
      have : (p + 1) * En.k ≤ xs.length * En.k := Nat.mul_le_mul_right _ hp
      rw [Nat.add_mul, Nat.one_mul] at this; omega
    rw [Array.toList_setIfInBounds, List.take_set, h9]
    refine List.ext_getElem? fun j => ?_
    by_cases hj : j < xs.length * En.k
    · have hkpos := En.pos
      have hji : j / En.k < xs.length := Nat.div_lt_of_lt_mul (by rw [Nat.mul_comm]; exact hj)
      have hjm : j % En.k < En.k := Nat.mod_lt _ hkpos
      have he : j = (j / En.k) * En.k + j % En.k := by rw [Nat.mul_comm]; exact (Nat.div_add_mod j En.k).symm
      rw [he, En.flat_at (xs.set p y) _ _ (by rw [hlen]; exact hji) hjm, List.getElem?_set]
      have hfl : p * En.k + q < (En.flat xs).length := by rw [En.flat_len]; exact hpq
      by_cases hpi : p = j / En.k
      · by_cases hqi : q = j % En.k
        · rw [if_pos (by rw [← hpi, ← hqi]), if_pos (by rw [← hpi, ← hqi] at *; exact hfl)]
          have hqe : q < (En.enc xs[p]).length := by rw [En.len]; exact hq
          simp only [← hpi, ← hqi, List.getElem_set_self, hy, List.getElem?_set, if_pos, hqe]
        · rw [if_neg (by rw [← hpi]; omega)]
          simp only [← hpi, List.getElem_set_self, hy]
          rw [List.getElem?_set, if_neg hqi, En.flat_at xs p _ hp hjm]
      · rw [if_neg (fun hh => hpi (by
          have h1 := congrArg (· / En.k) hh
          simp only [Nat.mul_comm _ En.k, Nat.mul_add_div hkpos, Nat.div_eq_of_lt hq, Nat.div_eq_of_lt hjm, Nat.add_zero] at h1
          exact h1)), En.flat_at xs _ _ hji hjm, List.getElem_set_ne hpi]
    · rw [List.getElem?_eq_none (by rw [List.length_set, En.flat_len]; omega), List.getElem?_eq_none (by rw [En.flat_len, hlen]; omega)]
theorem RDoc.v_form (h : RDoc T base W b v l) {p : Nat} (hp : p < l.length) : ∃ g cap, v = .slice (some ⟨g, 0, none⟩) l.length cap ∧ g < W.heap.size ∧ base ≤ g ∧ g ≠ b ∧ l.length ≤ cap ∧ cap ≤ maxLen ∧ RowIn ERe W g 0 l ∧ ∀ j, W.frozen? ⟨g, j, none⟩ = false := by
  obtain ⟨h1, h2⟩ := h.own
  rcases h2 with ⟨_, h3⟩ | ⟨g, cap, cur, h3, h4, h5, h6, h7, _⟩
  · omega
  · have hr : RowIn ERe W g 0 l := by
      rcases h.own.form with ⟨h0, _⟩ | ⟨g', cap', h0, _, _, _, _, hr⟩
      · rw [h0] at h3; cases h3
      · rw [h0] at h3; cases h3; exact hr
    exact ⟨g, cap, h3, Dc.hlt h5, h4, (fun e => h.ne (by rw [h3, e]; rfl)), h6, h7, hr, fun _ => Dc.hfree h5⟩
theorem RDoc.cells (h : RDoc T base W b v l) {g cap p : Nat} (hv : v = .slice (some ⟨g, 0, none⟩) l.length cap) (hp : p < l.length) :
    W.cell? ⟨g, p * 5, none⟩ = some (.string l[p].nm) ∧ W.cell? ⟨g, p * 5 + 1, none⟩ = some (.slice l[p].ao l[p].al l[p].ac) ∧ W.cell? ⟨g, p * 5 + 2, none⟩ = some (.int .i64 l[p].par) ∧ W.cell? ⟨g, p * 5 + 3, none⟩ = some (.slice l[p].ko l[p].kl l[p].kc) ∧ W.cell? ⟨g, p * 5 + 4, none⟩ = some (.bool l[p].inn) := by
  obtain ⟨g', cap', hv', _, _, _, _, _, hr, _⟩ := h.v_form hp
  rw [hv] at hv'
  cases hv'
  have hc := fun (j : Nat) (u : Value) (hu : (ERe.enc l[p])[j]? = some u) => hr p hp j u hu
  have e : ∀ j, 0 + p * ERe.k + j = p * 5 + j := fun j => by rw [Nat.zero_add]; rfl
  refine ⟨?_, ?_, ?_, ?_, ?_⟩
  · have := hc 0 _ rfl; rw [e] at this; exact this
  · have := hc 1 _ rfl; rw [e] at this; exact this
  · have := hc 2 _ rfl; rw [e] at this; exact this
  · have := hc 3 _ rfl; rw [e] at this; exact this
  · have := hc 4 _ rfl; rw [e] at this; exact this
/-- An element's children set: a slice that is new. -/
theorem RDoc.setKids (h : RDoc T base W b v l) {g cap p : Nat} (hv : v = .slice (some ⟨g, 0, none⟩) l.length cap) (hp : p < l.length) {ko : Option Addr} {kl kc : Nat} {ks : List Nat}
    (hk : OwnR EIn W base T.int_ (.slice ko kl kc) ks) (hkq : ∀ k, (Value.slice ko kl kc).ownBlock = some k → v.ownBlock ≠ some k ∧ k ≠ b) :
    RDoc T base (W.setCell ⟨g, p * 5 + 3, none⟩ (.slice ko kl kc)) b v (l.set p { l[p] with ko := ko, kl := kl, kc := kc, kids := ks }) := by
  obtain ⟨g', cap', hv', hg, hbg, hgb, _⟩ := h.v_form hp
  rw [hv] at hv'
  cases hv'
  have hother : ∀ k, v.ownBlock ≠ some k → (W.setCell ⟨g, p * 5 + 3, none⟩ (.slice ko kl kc)).heap[k]? = W.heap[k]? := fun k hk' => heap_setCell_other _ _ _ _ (fun e => hk' (by rw [hv]; exact congrArg some e.symm))
  have hown := h.own
  rw [hv] at hown
  have ho := own_set (En := ERe) (y := { l[p] with ko := ko, kl := kl, kc := kc, kids := ks }) (q := 3) (u := .slice ko kl kc) hown hp (by decide) rfl
  refine ⟨(hother b h.ne).trans h.box, h.bb, ?_, h.ne, fun x hx => ?_⟩
  · have e : v = .slice (some ⟨g, 0, none⟩) (l.set p { l[p] with ko := ko, kl := kl, kc := kc, kids := ks }).length cap := by rw [hv, List.length_set]
    unfold OwnR at ho ⊢
    rw [hv]
    exact ho
  · rcases List.mem_or_eq_of_mem_set hx with hx | rfl
    · exact (h.sub x hx).kept (fun k hq _ => hother k hq.1) (fun _ hq _ => hq)
    · have hs := h.sub _ (List.getElem_mem hp)
      exact ⟨own_kept hs.ats fun k hk' => hother k (hs.aq k hk').1, own_kept hk fun k hk' => hother k (hkq k hk').1, hs.aq, hkq⟩
/-- An element more. -/
theorem RDoc.more {W1 w3 : World} {x : ReX} (h : RDoc T base W b v l) (hb : Below W.heap.size W W1) (hx : SubOk T base W1 (fun k => v.ownBlock ≠ some k ∧ k ≠ b) x) (hv : OwnR ERe w3 base T.el v' (l ++ [x])) (hg : W1.grownBy w3 v.ownBlock) (ho : v'.ownBlock = v.ownBlock ∨ v'.ownBlock = some W1.heap.size) :
    RDoc T base (w3.setCell ⟨b, 0, none⟩ v') b v' (l ++ [x]) := by
  have hlt := h.lt
  have h1 := h.keep hb
  have hlt1 := h1.lt
  have hbox : w3.heap[b]? = some (.cells #[v] T.doc (0, 0)) := (hg.block b hlt1 (fun e => h.ne e.symm)).trans h1.box
  have hne : v'.ownBlock ≠ some b := by
    rcases ho with ho | ho
    · rw [ho]; exact h.ne
    · rw [ho]; intro e; injection e with e; omega
  have hother : ∀ k, k < W1.heap.size → v.ownBlock ≠ some k → k ≠ b → (w3.setCell ⟨b, 0, none⟩ v').heap[k]? = W1.heap[k]? := fun k hk hv hn => by
    rw [heap_setCell_other _ _ _ _ hn]; exact hg.block k hk (fun e => hv e.symm)
  have hQ : ∀ k, v.ownBlock ≠ some k ∧ k ≠ b → k < W1.heap.size → v'.ownBlock ≠ some k ∧ k ≠ b := fun k hq hk => by
    rcases ho with ho | ho
    · rw [ho]; exact hq
    · rw [ho]; exact ⟨fun e => by injection e with e; omega, hq.2⟩
  refine ⟨heap_setCell_same _ _ _ _ _ _ hbox, h.bb, ?_, hne, fun y hy => ?_⟩
  · exact own_kept hv fun k hk => heap_setCell_other _ _ _ _ (fun e => hne (by rw [hk]; exact congrArg some e))
  · have hkept : ∀ y, SubOk T base W1 (fun k => v.ownBlock ≠ some k ∧ k ≠ b) y → SubOk T base (w3.setCell ⟨b, 0, none⟩ v') (fun k => v'.ownBlock ≠ some k ∧ k ≠ b) y := fun y hy => hy.kept (fun k hq hk => hother k hk hq.1 hq.2) hQ
    rcases List.mem_append.1 hy with hy | hy
    · exact hkept y (h1.sub y hy)
    · rw [List.mem_singleton.1 hy]; exact hkept x hx
/-- No two elements share a row of attributes. -/
def RDis (l : List ReX) : Prop := ∀ i j (hi : i < l.length) (hj : j < l.length), i ≠ j → ∀ k, l[i].av.ownBlock = some k → l[j].av.ownBlock ≠ some k
theorem RDis.set_av (h : RDis l) {p : Nat} (hp : p < l.length) {y : ReX} (hy : ∀ k, y.av.ownBlock = some k → l[p].av.ownBlock = some k ∨ ∀ x ∈ l, x.av.ownBlock ≠ some k) : RDis (l.set p y) := by
  intro i j hi hj hne k h1 h2
  rw [List.length_set] at hi hj
  rw [List.getElem_set] at h1 h2
  by_cases hpi : p = i
  · rw [if_pos hpi] at h1
    rw [if_neg (by omega)] at h2
    rcases hy k h1 with h3 | h3
    · subst hpi; exact h p j hp hj hne k h3 h2
    · exact h3 _ (List.getElem_mem hj) h2
  · rw [if_neg hpi] at h1
    by_cases hpj : p = j
    · rw [if_pos hpj] at h2
      rcases hy k h2 with h3 | h3
      · subst hpj; exact h i p hi hp hne k h1 h3
      · exact h3 _ (List.getElem_mem hi) h1
    · rw [if_neg hpj] at h2
      exact h i j hi hj hne k h1 h2
/-- One element more, whose row of attributes is new. -/
theorem RDis.app {l : List ReX} {x : ReX} (h : RDis l) (hx : ∀ k, x.av.ownBlock = some k → ∀ y ∈ l, y.av.ownBlock ≠ some k) : RDis (l ++ [x]) := by
  intro i j hi hj hne k h1 h2
  rw [List.length_append, show ([x] : List ReX).length = 1 from rfl] at hi hj
  rw [List.getElem_append] at h1 h2
  split at h1
  · next hi' =>
    split at h2
    · next hj' => exact h i j hi' hj' hne k h1 h2
    · rw [List.getElem_singleton] at h2
      exact hx k h2 _ (List.getElem_mem hi') h1
  · next hi' =>
    rw [List.getElem_singleton] at h1
    split at h2
    · next hj' => exact hx k h1 _ (List.getElem_mem hj') h2
    · omega
theorem RDis.nil : RDis [] := fun i _ hi => absurd hi (Nat.not_lt_zero _)
end Lead.Rc

/-
  Plain: append of any slice (one that came in, empty or not) onto a row that the call owns.
-/
namespace Lead
open Go Go.RowKit Lead.Dc
theorem run_append_sla {P : Program} {α : Type} (E : Enc α) (w : World) (base : Nat) (t ty e : TypeId) (i : TypeInfo) (z : Value) (nb : Nat) (ht : P.underlying t = some (.slice e)) (hi : P.info? e = some i) (hz : i.zero = some z)
    (hsize : i.size = E.k) (hby : i.bytes = nb) (hzs : z.cells.size = E.k) (hnb : nb ≤ 1000) (v : Value) (qs : List α) (oa : Option Addr) (m c : Nat) (ps : List α) (hS : SlA E w oa m c ps) (hlen : qs.length + ps.length ≤ 1000000) (hown : OwnR E w base e v qs) (hbase : base ≤ w.heap.size) :
    ∃ v' w', (Builtin.append_ #[t, t] ty #[v, .slice oa m c]).run P w = .ok v' w' ∧ OwnR E w' base e v' (qs ++ ps) ∧ w.grownBy w' v.ownBlock ∧ (v'.ownBlock = v.ownBlock ∨ v'.ownBlock = some w.heap.size) := by
  obtain ⟨h1, h2, h3, h4⟩ := hS
  by_cases hp : ps = []
  · subst hp
    obtain rfl : m = 0 := h1
    obtain ⟨bo, sl, sc, rfl, hle⟩ : ∃ bo sl sc, v = .slice bo sl sc ∧ sl ≤ sc := by
      rcases hown.form with ⟨rfl, _⟩ | ⟨g, cap, rfl, _, _, h, _⟩
      · exact ⟨none, 0, 0, rfl, Nat.le_refl _⟩
      · exact ⟨_, _, _, rfl, h⟩
    refine ⟨_, w, run_append_nothing w t t ty e i ht hi bo sl sc hle (.slice oa 0 c) ?_, by rw [List.append_nil]; exact hown, ⟨rfl, rfl, rfl, Nat.le_refl _, fun _ _ _ => rfl⟩, .inl rfl⟩
    cases oa with
    | none => exact Src.ofNil w ht c
    | some a => exact Src.ofSlice w ht a 0 c [] (by simp) (fun j u h => by cases h) (fun u h => by cases h)
  · obtain ⟨b, off, rfl, hb, hr⟩ := h4.resolve_left hp
    have hbytes : (qs.length + m) * nb ≤ 140737488355328 := Nat.le_trans (Nat.mul_le_mul (show qs.length + m ≤ 1000000 by omega) hnb) (by decide)
    obtain ⟨v', w', hr', h2', h3', h4'⟩ := run_append_told (P := P) w base t ty e i z E.k nb ht hi hz hsize hby hzs E.pos v qs.length (E.flat qs) hown ⟨b, off, none⟩ m c (E.flat ps) (by rw [E.flat_len, h1]) hr.cells (E.flat_one ps)
      (by unfold maxLen; omega) hbytes hbase
    refine ⟨v', w', hr', ?_, h3', h4'⟩
    unfold OwnR
    rw [List.length_append, E.flat_append, ← h1]
    exact h2'
theorem wp_append_sla {P : Program} {ops : Array Oper} {rest : List Oper} {o : Oper} {a : Act} {Q : Exit → Act → World → Prop} {w : World} (hgd : o.guard = none) (s x : Operand) (t : TypeId)
    (ho : o.op = .call { callee := .builtin .append, args := #[s, x], argTypes := #[t, t] }) {α : Type} (E : Enc α)
    (base : Nat) (e : TypeId) (i : TypeInfo) (z : Value) (nb : Nat) (ht : P.underlying t = some (.slice e)) (hi : P.info? e = some i) (hz : i.zero = some z)
    (hsize : i.size = E.k) (hby : i.bytes = nb) (hzs : z.cells.size = E.k) (hnb : nb ≤ 1000) (v : Value) (qs : List α) (hs : a.eval s = v)
    (oa : Option Addr) (m c : Nat) (ps : List α) (hx : a.eval x = .slice oa m c) (hS : SlA E w oa m c ps) (hlen : qs.length + ps.length ≤ 1000000) (hown : OwnR E w base e v qs)
    (hbase : base ≤ w.heap.size)
    (h : ∀ v' w', OwnR E w' base e v' (qs ++ ps) → Below base w w' → w.grownBy w' v.ownBlock → (v'.ownBlock = v.ownBlock ∨ v'.ownBlock = some w.heap.size) → wpList P ops Q rest (a.put o.dst v') w') : wpList P ops Q (o :: rest) a w := by
  refine wpList_plain hgd fun K hK => ?_
  obtain ⟨v', w', hr, h2, h3, h4⟩ := run_append_sla (P := P) E w base t o.type e i z nb ht hi hz hsize hby hzs hnb v qs oa m c ps hS hlen hown hbase
  unfold Oper.wp execOp
  simp only [ho, resolve, invoke, builtin, Sem.run_bind, Sem.run_pure, Result.andThen_ok, List.map_toArray, List.map_cons, List.map_nil, hs, hx, hr]
  exact hK _ _ (h v' w' h2 ((Below.refl base w).grown h3 hbase (fun q hq => (World.ownsRow.lt hown q hq).1)) h3 h4)
theorem step_append_sla {P : Program} {ops : Array Oper} {o : Oper} {a : Act} {w : World} {K : Act → World → Prop} {Q : Exit → Act → World → Prop} {X : Prop} (hgd : o.guard = none) (s x : Operand) (t : TypeId)
    (ho : o.op = .call { callee := .builtin .append, args := #[s, x], argTypes := #[t, t] }) {α : Type} (E : Enc α)
    (base : Nat) (e : TypeId) (i : TypeInfo) (z : Value) (nb : Nat) (ht : P.underlying t = some (.slice e)) (hi : P.info? e = some i) (hz : i.zero = some z)
    (hsize : i.size = E.k) (hby : i.bytes = nb) (hzs : z.cells.size = E.k) (hnb : nb ≤ 1000) (v : Value) (qs : List α) (hs : a.eval s = v)
    (oa : Option Addr) (m c : Nat) (ps : List α) (hx : a.eval x = .slice oa m c) (hS : SlA E w oa m c ps) (hlen : qs.length + ps.length ≤ 1000000) (hown : OwnR E w base e v qs)
    (hbase : base ≤ w.heap.size)
    (h : ∀ v' w', OwnR E w' base e v' (qs ++ ps) → Below base w w' → w.grownBy w' v.ownBlock → (v'.ownBlock = v.ownBlock ∨ v'.ownBlock = some w.heap.size) → K (a.put o.dst v') w') : if Region.wanted o (yielded ops a.tmps) = true then Oper.wp P o a w K Q else X := by
  have hw : Region.wanted o (yielded ops a.tmps) = true := by simp [Region.wanted, hgd]
  rw [if_pos hw]
  obtain ⟨v', w', hr, h2, h3, h4⟩ := run_append_sla (P := P) E w base t o.type e i z nb ht hi hz hsize hby hzs hnb v qs oa m c ps hS hlen hown hbase
  unfold Oper.wp execOp
  simp only [ho, resolve, invoke, builtin, Sem.run_bind, Sem.run_pure, Result.andThen_ok, List.map_toArray, List.map_cons, List.map_nil, hs, hx, hr]
  exact h v' w' h2 ((Below.refl base w).grown h3 hbase (fun q hq => (World.ownsRow.lt hown q hq).1)) h3 h4
end Lead
