/-
  Several texts as one: Sa1, Pu1, Pu3, Pu4, Pu2.
-/
import Derived.Test.YtndlmmpheecleaaGreatDoorDp
import Derived.Test.YtndlmmpheecleaaGreatDoorDz
import Derived.Test.YtndlmmpheecleaaGreatDoorRe
import Derived.Test.YtndlmmpheecleaaGreatDoorRd
import Derived.Lib.SlKept
import Derived.Lib.SliceRun
import Derived.ArgAppend
/-
  Plain: an element's attributes set and unset.
-/
namespace Lead.Dc
open Go Lead Lead.Rc
/-- An attribute set: its first place, or the end. -/
def setA (nm vl : ByteArray) (l : List (ByteArray × ByteArray)) : List (ByteArray × ByteArray) := match idxA nm l with
  | some k => l.set k (nm, vl)
  | none => l ++ [(nm, vl)]
def unsetA (nm : ByteArray) (l : List (ByteArray × ByteArray)) : List (ByteArray × ByteArray) := l.filter fun a => !decide (a.1 = nm)
def atsE (E : Els) (n : Nat) (l : List (ByteArray × ByteArray)) : Els := upd E n (fun e => { e with attrs := l })
/-- What Set and Unset answer. -/
def setC (E : Els) (z : Int) (nm vl : ByteArray) : Nat := match atZ E z with
  | none => 5
  | some e => if nmOk nm = false then 4 else if vlOk vl = false then 10 else if idxA nm e.attrs = none ∧ 12 ≤ e.attrs.length then 7 else 0
def unsC (E : Els) (z : Int) (nm : ByteArray) : Nat := match atZ E z with
  | none => 5
  | some e => if idxA nm e.attrs = none then 5 else 0
/-- An element's attributes have names of their own; there are few. -/
def AtD (E : Els) : Prop := ∀ n e, elAt E n = some e → (e.attrs.map (·.1)).Nodup ∧ e.attrs.length ≤ 12
variable {E : Els} {next : Nat} {d : Nat → Nat} {n : Nat} {e : El} {nm vl : ByteArray} {l : List (ByteArray × ByteArray)}
theorem atsE_at (m : Nat) : elAt (atsE E n l) m = if m = n then (elAt E m).map (fun e => { e with attrs := l }) else elAt E m := elAt_upd E n _ m
theorem atsE_len : (atsE E n l).length = E.length := by unfold atsE upd; rw [List.length_map]
theorem atsE_old {m : Nat} {e : El} (h : elAt (atsE E n l) m = some e) : ∃ e0, elAt E m = some e0 ∧ e.name = e0.name ∧ e.parent = e0.parent ∧ e.kids = e0.kids := by
  rw [atsE_at] at h
  split at h
  · cases he : elAt E m with
    | none => rw [he] at h; cases h
    | some e0 => rw [he] at h; cases h; exact ⟨e0, rfl, rfl, rfl, rfl⟩
  · exact ⟨e, h, rfl, rfl, rfl⟩
theorem atsE_new {m : Nat} {e0 : El} (h : elAt E m = some e0) : ∃ e, elAt (atsE E n l) m = some e ∧ e.name = e0.name ∧ e.parent = e0.parent ∧ e.kids = e0.kids := by
  rw [atsE_at]
  split
  · rw [h]; exact ⟨_, rfl, rfl, rfl, rfl⟩
  · exact ⟨e0, h, rfl, rfl, rfl⟩
theorem Good.ats (g : Good E next d) : Good (atsE E n l) next d := by
  refine ⟨?_, fun m e h => ?_, ?_, fun m e h h0 => ?_, fun p pe k h hk => ?_, fun p pe h => ?_, g.d0, fun p pe k h hk => ?_, fun m e h => ?_⟩
  · unfold atsE; rw [upd_keys]; exact g.keys
  · obtain ⟨e0, h0, _⟩ := atsE_old h; exact g.lt m e0 h0
  · obtain ⟨e0, h0, h1⟩ := g.root
    obtain ⟨e, h2, _, h3, _⟩ := atsE_new (n := n) (l := l) h0
    exact ⟨e, h2, h3.trans h1⟩
  · obtain ⟨e0, h1, _, h2, _⟩ := atsE_old h
    obtain ⟨p, pe, h3, h4, h5⟩ := g.up m e0 h1 h0
    obtain ⟨pe', h6, _, _, h7⟩ := atsE_new (n := n) (l := l) h4
    exact ⟨p, pe', h2.trans h3, h6, by rw [h7]; exact h5⟩
  · obtain ⟨e0, h1, _, _, h2⟩ := atsE_old h
    obtain ⟨ke, h3, h4⟩ := g.down p e0 k h1 (by rw [← h2]; exact hk)
    obtain ⟨ke', h5, _, h6, _⟩ := atsE_new (n := n) (l := l) h3
    exact ⟨ke', h5, h6.trans h4⟩
  · obtain ⟨e0, h1, _, _, h2⟩ := atsE_old h
    rw [h2]; exact g.nd p e0 h1
  · obtain ⟨e0, h1, _, _, h2⟩ := atsE_old h
    exact g.dk p e0 k h1 (by rw [← h2]; exact hk)
  · obtain ⟨e0, h1, _⟩ := atsE_old h
    exact g.dm m e0 h1
theorem idxA_none_mem : ∀ {l : List (ByteArray × ByteArray)}, idxA nm l = none ↔ nm ∉ l.map (·.1)
  | [] => by simp [idxA]
  | a :: r => by
    unfold idxA
    rw [List.map_cons, List.mem_cons]
    by_cases h : a.1 = nm
    · rw [if_pos h]; exact ⟨(fun h => by cases h), fun h' => absurd (.inl h.symm) h'⟩
    · rw [if_neg h]
      have ih := idxA_none_mem (l := r)
      constructor
      · intro h' hm
        rcases hm with hm | hm
        · exact h hm.symm
        · cases hr : idxA nm r with
          | none => exact ih.1 hr hm
          | some k => rw [hr] at h'; cases h'
      · intro h'
        rw [ih.2 (fun hm => h' (.inr hm))]; rfl
theorem idxA_name : ∀ {l : List (ByteArray × ByteArray)} {k : Nat}, idxA nm l = some k → ∃ h : k < l.length, l[k].1 = nm ∧ ∀ j (hj : j < k), (l[j]'(by omega)).1 ≠ nm
  | [], _, h => by cases h
  | a :: r, k, h => by
    unfold idxA at h
    split at h
    · next h1 => cases h; exact ⟨by simp, h1, fun j hj => absurd hj (Nat.not_lt_zero _)⟩
    · next h1 =>
      cases hr : idxA nm r with
      | none => rw [hr] at h; cases h
      | some j =>
        rw [hr] at h
        obtain rfl : j + 1 = k := by injection h
        obtain ⟨h2, h3, h4⟩ := idxA_name hr
        refine ⟨by rw [List.length_cons]; omega, h3, fun i hi => ?_⟩
        match i, hi with
        | 0, _ => exact h1
        | i + 1, hi => exact h4 i (by omega)
theorem setA_names (l : List (ByteArray × ByteArray)) : (setA nm vl l).map (·.1) = match idxA nm l with | some _ => l.map (·.1) | none => l.map (·.1) ++ [nm] := by
  unfold setA
  cases h : idxA nm l with
  | none => simp
  | some k =>
    obtain ⟨hk, h1, _⟩ := idxA_name h
    dsimp only
    rw [List.map_set]
    refine List.ext_getElem (by simp) fun j h2 h3 => ?_
    rw [List.getElem_set]
    split
    · next e => subst e; rw [List.getElem_map]; exact h1.symm
    · rfl
theorem unsetA_names (l : List (ByteArray × ByteArray)) : (unsetA nm l).map (·.1) = (l.map (·.1)).filter fun x => !decide (x = nm) := by
  unfold unsetA
  rw [List.filter_map]; rfl
theorem AtD.set (h : AtD E) (he : elAt E n = some e) (hl : idxA nm e.attrs = none → e.attrs.length < 12) : AtD (atsE E n (setA nm vl e.attrs)) := fun m x hx => by
  rw [atsE_at] at hx
  split at hx
  · next hm =>
    subst hm
    rw [he] at hx
    cases hx
    obtain ⟨h1, h2⟩ := h _ e he
    refine ⟨?_, ?_⟩
    · show ((setA nm vl e.attrs).map (·.1)).Nodup
      rw [setA_names]
      cases hi : idxA nm e.attrs with
      | some k => exact h1
      | none =>
        refine List.nodup_append.2 ⟨h1, by simp, fun a ha b hb hab => ?_⟩
        obtain rfl : b = nm := by simpa using hb
        exact idxA_none_mem.1 hi (hab ▸ ha)
    · show (setA nm vl e.attrs).length ≤ 12
      unfold setA
      cases hi : idxA nm e.attrs with
      | some k => rw [List.length_set]; exact h2
      | none => have := hl hi; rw [List.length_append]; simp; omega
  · exact h m x hx
theorem AtD.unset (h : AtD E) (he : elAt E n = some e) : AtD (atsE E n (unsetA nm e.attrs)) := fun m x hx => by
  rw [atsE_at] at hx
  split at hx
  · next hm =>
    subst hm
    rw [he] at hx
    cases hx
    obtain ⟨h1, h2⟩ := h _ e he
    refine ⟨?_, ?_⟩
    · show ((unsetA nm e.attrs).map (·.1)).Nodup
      rw [unsetA_names]
      exact h1.filter _
    · exact Nat.le_trans (List.length_filter_le _ _) h2
  · exact h m x hx
/-- Where a name stands but once, what is left without it. -/
theorem unsetA_cut {k : Nat} (h : idxA nm l = some k) (hd : (l.map (·.1)).Nodup) : unsetA nm l = l.take k ++ l.drop (k + 1) := by
  obtain ⟨hk, h1, h2⟩ := idxA_name h
  have e : l = l.take k ++ l[k] :: l.drop (k + 1) := by rw [← List.drop_eq_getElem_cons hk, List.take_append_drop]
  unfold unsetA
  conv => lhs; rw [e]
  rw [List.filter_append, List.filter_cons_of_neg (by simp [h1])]
  congr 1
  · refine List.filter_eq_self.2 fun a ha => ?_
    obtain ⟨j, hj, rfl⟩ := List.mem_iff_getElem.1 ha
    rw [List.length_take] at hj
    rw [List.getElem_take, decide_eq_false (h2 j (by omega))]; rfl
  · refine List.filter_eq_self.2 fun a ha => ?_
    obtain ⟨j, hj, rfl⟩ := List.mem_iff_getElem.1 ha
    rw [List.length_drop] at hj
    rw [List.getElem_drop]
    rw [decide_eq_false (fun e => ?_)]; rfl
    have h3 := List.pairwise_iff_getElem.1 hd k (k + 1 + j) (by rw [List.length_map]; omega) (by rw [List.length_map]; omega) (by omega)
    rw [List.getElem_map, List.getElem_map] at h3
    exact h3 (h1.trans e.symm)
end Lead.Dc

/-
  Walks over slices.IndexFunc and slices.DeleteFunc at attributes, as package doc calls them.
-/
namespace Lead.Dc
open Go Go.RowKit Lead Lead.Rc
/-- A block of attributes of which the first n are known. -/
structure RowA (W : World) (g : Nat) (e : TypeId) (cap n : Nat) (f : Nat → At) : Prop where
  blk : ∃ cur, W.heap[g]? = some (.cells cur e (0, 0)) ∧ cur.size = cap * 2
  cell : ∀ j, j < n → W.cell? ⟨g, j * 2, none⟩ = some (.string (f j).1) ∧ W.cell? ⟨g, j * 2 + 1, none⟩ = some (.string (f j).2)
variable {W W' : World} {g cap n : Nat} {e : TypeId} {f f' : Nat → At}
theorem RowA.free (h : RowA W g e cap n f) (j : Nat) : W.frozen? ⟨g, j, none⟩ = false := by
  obtain ⟨cur, h1, _⟩ := h.blk
  exact Dc.hfree h1
theorem RowA.lt (h : RowA W g e cap n f) : g < W.heap.size := by
  obtain ⟨cur, h1, _⟩ := h.blk
  exact Dc.hlt h1
theorem RowA.keep (h : RowA W g e cap n f) (hb : Below W.heap.size W W') : RowA W' g e cap n f := by
  have hl := h.lt
  obtain ⟨cur, h1, h2⟩ := h.blk
  exact ⟨⟨cur, (hb.block g hl).trans h1, h2⟩, fun j hj => ⟨(hb.cell (p := ⟨g, j * 2, none⟩) hl).trans (h.cell j hj).1, (hb.cell (p := ⟨g, j * 2 + 1, none⟩) hl).trans (h.cell j hj).2⟩⟩
theorem RowA.set (h : RowA W g e cap n f) {i : Nat} (hi : i < n) (u : At) : RowA ((W.setCell ⟨g, i * 2, none⟩ (.string u.1)).setCell ⟨g, i * 2 + 1, none⟩ (.string u.2)) g e cap n (fun j => if j = i then u else f j) := by
  obtain ⟨cur, h1, h2⟩ := h.blk
  have h3 := heap_setCell_same W g (i * 2) cur e (.string u.1) h1
  have h4 := heap_setCell_same _ g (i * 2 + 1) _ e (.string u.2) h3
  have hc0 := h.cell i hi
  have hne : ∀ (a c : Nat), a ≠ c → (⟨g, a, none⟩ : Addr) ≠ ⟨g, c, none⟩ := fun a c hac e => by injection e with _ e _; exact hac e
  refine ⟨⟨_, h4, by simp [h2]⟩, fun j hj => ?_⟩
  have hcj := h.cell j hj
  by_cases hji : j = i
  · subst hji
    rw [if_pos rfl]
    refine ⟨?_, ?_⟩
    · rw [World.cell?_setCell_other _ _ _ _ (hne _ _ (by omega)).symm]
      exact World.cell?_setCell_same _ _ _ hcj.1
    · exact World.cell?_setCell_same _ _ _ ((World.cell?_setCell_other _ _ _ _ (hne _ _ (by omega)).symm).trans hcj.2)
  · rw [if_neg hji]
    refine ⟨?_, ?_⟩
    · rw [World.cell?_setCell_other _ _ _ _ (hne _ _ (by omega)).symm, World.cell?_setCell_other _ _ _ _ (hne _ _ (by omega)).symm]
      exact hcj.1
    · rw [World.cell?_setCell_other _ _ _ _ (hne _ _ (by omega)).symm, World.cell?_setCell_other _ _ _ _ (hne _ _ (by omega)).symm]
      exact hcj.2
theorem RowA.congr (h : RowA W g e cap n f) (hf : ∀ j, j < n → f j = f' j) : RowA W g e cap n f' := ⟨h.blk, fun j hj => by rw [← hf j hj]; exact h.cell j hj⟩
theorem setCells_blk2 (g : Nat) (e : TypeId) (cap : Nat) : ∀ (vs : List Value) (i : Nat) (W : World), (∃ cur, W.heap[g]? = some (.cells cur e (0, 0)) ∧ cur.size = cap) → ∃ cur, (W.setCells g i vs).heap[g]? = some (.cells cur e (0, 0)) ∧ cur.size = cap
  | [], _, _, h => h
  | v :: r, i, W, ⟨cur, h1, h2⟩ => setCells_blk2 g e cap r (i + 1) _ ⟨_, heap_setCell_same W g i cur e v h1, by simp [h2]⟩
theorem setCells_turn {F : Nat → Prop} {w : World} {g : Nat} (hg : F g) : ∀ (vs : List Value) (i : Nat) (W : World), Turn F w W → Turn F w (W.setCells g i vs)
  | [], _, _, h => h
  | v :: r, i, W, h => setCells_turn hg r (i + 1) _ (h.trans (F' := F) (Turn.set (a := ⟨g, i, none⟩) hg) (fun _ _ h => h))
theorem RowA.cut (h : RowA W g e cap n f) {i : Nat} (hi : i ≤ n) (vs : List Value) : RowA (W.setCells g (i * 2) vs) g e cap i f :=
  ⟨setCells_blk2 g e _ vs _ W h.blk, fun j hj => by
    rw [World.cell?_setCells_out g vs (i * 2) W _ (fun _ _ => Or.inl (by show j * 2 < i * 2; omega)), World.cell?_setCells_out g vs (i * 2) W _ (fun _ _ => Or.inl (by show j * 2 + 1 < i * 2; omega))]
    exact h.cell j (by omega)⟩
theorem EAt.flat_get : ∀ (l : List At) (j : Nat) (hj : j < l.length), (EAt.flat l)[j * 2]? = some (.string l[j].1) ∧ (EAt.flat l)[j * 2 + 1]? = some (.string l[j].2) := fun l j hj => by
  have h0 := EAt.flat_at l j 0 hj (by decide)
  have h1 := EAt.flat_at l j 1 hj (by decide)
  exact ⟨h0, h1⟩
theorem RowA.own {base : Nat} {l : List At} (h : RowA W g e cap n f) (hg : base ≤ g) (hl : l.length ≤ n) (hn : n ≤ cap) (hm : cap ≤ maxLen) (hf : ∀ j (hj : j < l.length), f j = l[j]) : OwnR EAt W base e (.slice (some ⟨g, 0, none⟩) l.length cap) l := by
  obtain ⟨cur, h1, h2⟩ := h.blk
  refine own_cells h1 hg h2 (by omega) hm (fun j u hu => ?_)
  have hjl : j < l.length * 2 := by
    rcases Nat.lt_or_ge j (l.length * 2) with hj | hj
    · exact hj
    · rw [List.getElem?_eq_none (by rw [EAt.flat_len]; exact hj)] at hu; cases hu
  obtain ⟨i, hi⟩ : ∃ i, j = i * 2 ∨ j = i * 2 + 1 := ⟨j / 2, by omega⟩
  have hil : i < l.length := by omega
  have hfl := EAt.flat_get l i hil
  have hcl := h.cell i (by omega)
  rw [hf _ hil] at hcl
  rcases hi with rfl | rfl
  · rw [hfl.1] at hu
    injection hu with hu
    rw [← hu]; exact hcl.1
  · rw [hfl.2] at hu
    injection hu with hu
    rw [← hu]; exact hcl.2
theorem RowA.of_own {base : Nat} {L : List At} (h : OwnR EAt W base e (.slice (some ⟨g, 0, none⟩) L.length cap) L) : RowA W g e cap L.length (fun j => L.toArray[j]!) ∧ base ≤ g ∧ L.length ≤ cap ∧ cap ≤ maxLen := by
  have hr : RowIn EAt W g 0 L := by
    rcases h.form with ⟨h, _⟩ | ⟨g', cap', h, _, _, _, _, hr⟩
    · cases h
    · injection h with h1 h2 h3
      injection h1 with h1
      injection h1 with h1 _ _
      subst h1
      exact hr
  obtain ⟨_, ⟨h2, _⟩ | ⟨g', cap', cur, h3, h4, h5, h6, h7, h8, _⟩⟩ := h
  · cases h2
  · injection h3 with h1 h2 h3
    injection h1 with h1
    injection h1 with h1 _ _
    subst h1 h3
    refine ⟨⟨⟨cur, h5, h8⟩, fun j hj => ?_⟩, h4, h6, h7⟩
    rw [getElem!_pos L.toArray j (by simpa using hj)]
    have h0 := hr j hj 0 _ rfl
    have h1 := hr j hj 1 _ rfl
    rw [Nat.zero_add] at h0 h1
    rw [List.getElem_toArray]
    exact ⟨h0, h1⟩
def sameA (nm : ByteArray) (x : At) : Bool := decide (x.1 = nm)
theorem sameA_eq (nm : ByteArray) (x : At) : (x.1.toList == nm.toList) = sameA nm x := by
  unfold sameA
  rw [ByteArray.toList_eq, ByteArray.toList_eq, Bool.eq_iff_iff, beq_iff_eq, decide_eq_true_eq]
  exact ⟨fun h => ByteArray.ext (Array.ext' h), fun h => by rw [h]⟩
theorem idxA_of {nm : ByteArray} {l : List At} {k : Nat} (hk : k < l.length) (h1 : sameA nm l[k] = true) (h2 : ∀ j (hj : j < k), sameA nm (l[j]'(by omega)) = false) : idxA nm l = some k := by
  cases h : idxA nm l with
  | none =>
    exact absurd (List.mem_map.2 ⟨_, List.getElem_mem hk, of_decide_eq_true h1⟩) (idxA_none_mem.1 h)
  | some i =>
    obtain ⟨hi, a1, a2⟩ := idxA_name h
    rcases Nat.lt_trichotomy i k with hlt | rfl | hgt
    · have := h2 i hlt
      unfold sameA at this
      rw [decide_eq_true a1] at this; cases this
    · rfl
    · exact absurd (of_decide_eq_true h1) (a2 k hgt)
theorem idxA_no {nm : ByteArray} {l : List At} (h : ∀ x ∈ l, sameA nm x = false) : idxA nm l = none := idxA_none_mem.2 fun hm => by
  obtain ⟨x, hx, he⟩ := List.mem_map.1 hm
  have := h x hx
  unfold sameA at this
  rw [decide_eq_true he] at this; cases this
theorem run_clear2 {P : Program} (w : World) (t e ty : TypeId) (z s : Value) (ht : P.underlying t = some (.slice e)) (hv : ∀ w, (zeroValue e).run P w = .ok z w) (hz : z.cells = #[s, s]) (h1 : s.oneCell' = true) (b o n c : Nat) (hn : 0 < n)
    (hc : ∀ j, j < n * 2 → (w.cell? ⟨b, o + j, none⟩).isSome = true) (hf : ∀ j, j < n * 2 → w.frozen? ⟨b, o + j, none⟩ = false) :
    (Builtin.clear_ #[t] ty #[.slice (some ⟨b, o, none⟩) n c]).run P w = .ok (.tuple #[]) (w.setCells b o (List.replicate (n * 2) s)) := by
  have hzc : (Builtin.zeroCells z.cells n).toList = List.replicate (n * 2) s := by
    rw [hz]
    apply List.ext_getElem
    · simp [Builtin.zeroCells, Nat.mul_comm]
    · intro i h1 h2
      rcases Nat.mod_two_eq_zero_or_one i with hm | hm <;> simp [Builtin.zeroCells, hm]
  have hst := run_storeCells_cells (P := P) b o (List.replicate (n * 2) s) 0 w (by simpa using hc) (by simpa using hf) (by intro v hv'; rw [List.eq_of_mem_replicate hv']; exact h1)
  simp only [Nat.add_zero] at hst
  obtain ⟨m, rfl⟩ : ∃ m, n = m + 1 := ⟨n - 1, by omega⟩
  simp [Builtin.clear_, run_underlying ht, hv, hzc, hst]
end Lead.Dc

/-
  A document's memory where an element's attributes turn.
-/
namespace Lead.Dc
open Go Go.RowKit Lead
variable {P : Program} {T : Tys} {w w1 w' : World} {bd next bm cnt : Nat} {E : Els} {pl : Nat → Plc} {F : Nat → Prop} {D : DataW Unit}
theorem Foot.updA (h : Foot w F bd bm E pl) {n : Nat} {f : El → El} {p : Plc} (hs : w.heap.size ≤ w'.heap.size) (hb : F p.blk) (ha : ∀ b, rowB p.av = some b → b < w'.heap.size) (hv : ∀ b, rowB p.kv = some b → F b) :
    Foot w' (fun k => F k ∨ rowB p.av = some k) bd bm (Dc.upd E n f) (fun x => if x = n then p else pl x) := by
  have back : ∀ x ex, elAt (Dc.upd E n f) x = some ex → ∃ e0, elAt E x = some e0 := by
    intro x ex hex
    rw [elAt_upd] at hex
    split at hex
    · cases hx : elAt E x with
      | none => rw [hx] at hex; cases hex
      | some e0 => exact ⟨e0, rfl⟩
    · exact ⟨ex, hex⟩
  refine ⟨.inl h.d, .inl h.m, fun x ex hx => ?_, fun x ex hx b hb' => ?_, fun x ex hx b hb' => ?_, fun k hk' => ?_⟩
  · obtain ⟨e0, he0⟩ := back x ex hx
    by_cases hxn : x = n
    · rw [if_pos hxn]; exact .inl hb
    · rw [if_neg hxn]; exact .inl (h.el x e0 he0)
  · obtain ⟨e0, he0⟩ := back x ex hx
    by_cases hxn : x = n
    · rw [if_pos hxn] at hb'; exact .inr hb'
    · rw [if_neg hxn] at hb'; exact .inl (h.av x e0 he0 b hb')
  · obtain ⟨e0, he0⟩ := back x ex hx
    by_cases hxn : x = n
    · rw [if_pos hxn] at hb'; exact .inl (hv b hb')
    · rw [if_neg hxn] at hb'; exact .inl (h.kv x e0 he0 b hb')
  · rcases hk' with h' | h'
    · exact Nat.lt_of_lt_of_le (h.lt k h') hs
    · exact ha k h'
/-- A block that holds no element, no row of children, may turn; then the element's slice of attributes is stored anew. -/
theorem DocAt.atts (K : TysOk P T) (h : DAt P T w bd E next pl bm cnt D) (hF : Foot w F bd bm E pl) {n : Nat} {e : El} (he : elAt E n = some e) {v' : Value} {l' : List (ByteArray × ByteArray)}
    (ho : w1.os = w.os ∧ w1.tape = w.tape ∧ w1.output = w.output) (hsz : w.heap.size ≤ w1.heap.size) (hw : ∀ k, k < w.heap.size → rowB (pl n).av ≠ some k → w1.heap[k]? = w.heap[k]?) (hv : OwnR EAt w1 0 T.A v' l') (hvb : ∀ b, rowB v' = some b → rowB (pl n).av = some b ∨ w.heap.size ≤ b) :
    DAt P T (w1.setCell ⟨(pl n).blk, 1, none⟩ v') bd (Dc.upd E n (fun _ => { e with attrs := l' })) next (fun x => if x = n then ⟨(pl n).blk, v', (pl n).kv⟩ else pl x) bm cnt D ∧
    Foot (w1.setCell ⟨(pl n).blk, 1, none⟩ v') (fun k => F k ∨ rowB v' = some k) bd bm (Dc.upd E n (fun _ => { e with attrs := l' })) (fun x => if x = n then ⟨(pl n).blk, v', (pl n).kv⟩ else pl x) ∧
    Turn F w (w1.setCell ⟨(pl n).blk, 1, none⟩ v') := by
  have hn := h.els n e he
  have hbw : rowB (pl n).av ≠ some (pl n).blk := fun hb => by
    obtain ⟨_, _, cur, hc⟩ := hn.attrs.rowB hb
    exact hn.blk_ne hc K.h4 rfl
  have hcell : w1.heap[(pl n).blk]? = some (.cells #[.string e.name, (pl n).av, .int .i64 e.parent, (pl n).kv] T.E (0, 0)) := (hw _ hn.lt hbw).trans hn.cell
  have hset := heap_setCell_same w1 (pl n).blk 1 _ _ v' hcell
  have hoth : ∀ k, k ≠ (pl n).blk → (w1.setCell ⟨(pl n).blk, 1, none⟩ v').heap[k]? = w1.heap[k]? := fun k hk => heap_setCell_other w1 ⟨(pl n).blk, 1, none⟩ k v' hk
  have hsz' : (w1.setCell ⟨(pl n).blk, 1, none⟩ v').heap.size = w1.heap.size := World.size_setCell _ _ _
  have hvv : OwnR EAt (w1.setCell ⟨(pl n).blk, 1, none⟩ v') 0 T.A v' l' := own_kept hv fun b hb => by
    obtain ⟨_, ⟨rfl, _⟩ | ⟨g, cap, cur, rfl, hg, hh, _⟩⟩ := hv
    · cases hb
    · have : g = b := by simpa [Value.ownBlock] using hb
      subst this
      refine hoth g fun heq => ?_
      rw [heq, hcell] at hh
      injection hh with hh
      injection hh with _ hh
      exact K.h4 hh
  have hkv : OwnQ EIn (w1.setCell ⟨(pl n).blk, 1, none⟩ v') 0 T.I (pl n).kv e.kids := hn.kids.kept fun b hb => by
    obtain ⟨_, hbl, cur, hc⟩ := hn.kids.rowB hb
    refine (hoth b (hn.blk_ne hc K.h5)).trans (hw b hbl fun hb2 => ?_)
    obtain ⟨_, _, cur2, hc2⟩ := hn.attrs.rowB hb2
    rw [hc] at hc2
    injection hc2 with hc2
    injection hc2 with _ hc2
    exact K.h6 hc2.symm
  refine ⟨h.upd K.h1 K.h2 K.h3 K.h4 K.h5 K.h6 he rfl ⟨Nat.zero_le _, by simpa using hset, .inl hvv, hkv⟩ hvb (fun b hb => .inl hb) (fun k hk h1 h2 _ => (hoth k h1).trans (hw k hk h2)), ?_, ⟨?_, ?_, ?_, ?_, ?_⟩⟩
  · refine hF.updA (w' := w1.setCell ⟨(pl n).blk, 1, none⟩ v') (n := n) (f := fun _ => { e with attrs := l' }) (p := ⟨(pl n).blk, v', (pl n).kv⟩) (by rw [hsz']; exact hsz) (hF.el n e he) (fun b hb => ?_) (fun b hb => hF.kv n e he b hb)
    rw [hsz']
    exact (own_block_lt hv hb).2
  · exact ho.1
  · exact ho.2.1
  · exact ho.2.2
  · rw [hsz']; exact hsz
  · intro k hk hn'
    exact (hoth k (fun heq => hn' (heq ▸ hF.el n e he))).trans (hw k hk (fun hb => hn' (hF.av n e he k hb)))
/-- .. or its row alone turns. -/
theorem DocAt.atsv (K : TysOk P T) (h : DAt P T w bd E next pl bm cnt D) (hF : Foot w F bd bm E pl) {n : Nat} {e : El} (he : elAt E n = some e) {l' : List (ByteArray × ByteArray)}
    (ho : w1.os = w.os ∧ w1.tape = w.tape ∧ w1.output = w.output) (hsz : w.heap.size ≤ w1.heap.size) (hw : ∀ k, k < w.heap.size → rowB (pl n).av ≠ some k → w1.heap[k]? = w.heap[k]?) (hv : OwnR EAt w1 0 T.A (pl n).av l') :
    DAt P T w1 bd (Dc.upd E n (fun _ => { e with attrs := l' })) next (fun x => if x = n then pl n else pl x) bm cnt D ∧
    Foot w1 F bd bm (Dc.upd E n (fun _ => { e with attrs := l' })) (fun x => if x = n then pl n else pl x) ∧ Turn F w w1 := by
  have hn := h.els n e he
  have hbw : rowB (pl n).av ≠ some (pl n).blk := fun hb => by
    obtain ⟨_, _, cur, hc⟩ := hn.attrs.rowB hb
    exact hn.blk_ne hc K.h4 rfl
  have hcell := (hw _ hn.lt hbw).trans hn.cell
  have hkv : OwnQ EIn w1 0 T.I (pl n).kv e.kids := hn.kids.kept fun b hb => by
    obtain ⟨_, hbl, cur, hc⟩ := hn.kids.rowB hb
    refine hw b hbl fun hb2 => ?_
    obtain ⟨_, _, cur2, hc2⟩ := hn.attrs.rowB hb2
    rw [hc] at hc2
    injection hc2 with hc2
    injection hc2 with _ hc2
    exact K.h6 hc2.symm
  have hpl : (fun x => if x = n then pl n else pl x) = pl := funext fun x => by
    by_cases hx : x = n
    · rw [if_pos hx, hx]
    · rw [if_neg hx]
  refine ⟨h.upd K.h1 K.h2 K.h3 K.h4 K.h5 K.h6 he rfl ⟨Nat.zero_le _, hcell, .inl hv, hkv⟩ (fun b hb => .inl hb) (fun b hb => .inl hb) (fun k hk _ h2 _ => hw k hk h2), ?_, ⟨ho.1, ho.2.1, ho.2.2, hsz, fun k hk hn' => hw k hk (fun hb => hn' (hF.av n e he k hb))⟩⟩
  rw [hpl]
  have back : ∀ x ex, elAt (Dc.upd E n (fun _ => { e with attrs := l' })) x = some ex → ∃ e0, elAt E x = some e0 := by
    intro x ex hex
    rw [elAt_upd] at hex
    split at hex
    · cases hx : elAt E x with
      | none => rw [hx] at hex; cases hex
      | some e0 => exact ⟨e0, rfl⟩
    · exact ⟨ex, hex⟩
  refine ⟨hF.d, hF.m, fun x ex hx => ?_, fun x ex hx => ?_, fun x ex hx => ?_, fun k hk => Nat.lt_of_lt_of_le (hF.lt k hk) hsz⟩
  · obtain ⟨e0, h0⟩ := back x ex hx; exact hF.el x e0 h0
  · obtain ⟨e0, h0⟩ := back x ex hx; exact hF.av x e0 h0
  · obtain ⟨e0, h0⟩ := back x ex hx; exact hF.kv x e0 h0
theorem atsE_upd (hk : (E.map (·.1)).Nodup) {n : Nat} {e : El} (he : elAt E n = some e) (l' : List (ByteArray × ByteArray)) : Dc.upd E n (fun _ => { e with attrs := l' }) = atsE E n l' :=
  upd_const hk he (fun e => { e with attrs := l' })
end Lead.Dc

/-
  Plain: append onto a slice of a document's (a row of its own, or an empty one of any address).
-/
namespace Lead.Dc
open Go Go.RowKit Lead
/-- What turned where a document's slice grew: its row alone, or a new block. -/
structure QGrown (w w' : World) (v v' : Value) : Prop where
  os : w'.os = w.os
  tape : w'.tape = w.tape
  output : w'.output = w.output
  size : w.heap.size ≤ w'.heap.size
  block : ∀ k, k < w.heap.size → rowB v ≠ some k → w'.heap[k]? = w.heap[k]?
  row : ∀ b, rowB v' = some b → rowB v = some b ∨ w.heap.size ≤ b
variable {α : Type}
theorem OwnQ.cases {En : Enc α} {w : World} {base : Nat} {e : TypeId} {v : Value} {xs : List α} (h : OwnQ En w base e v xs) : (OwnR En w base e v xs ∧ (v.ownBlock = Dc.rowB v)) ∨ ∃ a, v = .slice (some a) 0 0 ∧ xs = [] := by
  rcases h with h | h
  · obtain ⟨h1, ⟨rfl, h2⟩ | ⟨g, cap, cur, rfl, hg, hh, hl, hm, hs, ht⟩⟩ := h
    · exact .inl ⟨⟨h1, .inl ⟨rfl, h2⟩⟩, rfl⟩
    · cases cap with
      | zero =>
        have hx : xs = [] := List.length_eq_zero_iff.1 (by omega)
        subst hx
        exact .inr ⟨⟨g, 0, none⟩, rfl, rfl⟩
      | succ c => exact .inl ⟨⟨h1, .inr ⟨g, c + 1, cur, rfl, hg, hh, hl, hm, hs, ht⟩⟩, rfl⟩
  · exact .inr h
theorem run_append_q {P : Program} (En : Enc α) (w : World) (t ty e : TypeId) (i : TypeInfo) (z : Value) (bytes : Nat) (ht : P.underlying t = some (.slice e)) (hi : P.info? e = some i) (hz : i.zero = some z)
    (hsize : i.size = En.k) (hby : i.bytes = bytes) (hzs : z.cells.size = En.k) (hnb : bytes ≤ 1000)
    (v : Value) (qs : List α) (hown : OwnQ En w 0 e v qs) (b off m c : Nat) (ps : List α) (hm : m = ps.length) (hp0 : 0 < ps.length) (hlen : qs.length + ps.length ≤ 1000000) (hp : RowIn En w b off ps) :
    ∃ v' w', (Builtin.append_ #[t, t] ty #[v, .slice (some ⟨b, off, none⟩) m c]).run P w = .ok v' w' ∧ OwnR En w' 0 e v' (qs ++ ps) ∧ QGrown w w' v v' := by
  have hbytes : (qs.length + m) * bytes ≤ 140737488355328 := Nat.le_trans (Nat.mul_le_mul (show qs.length + m ≤ 1000000 by omega) hnb) (by decide)
  have hfl : (En.flat ps).length = m * En.k := by rw [En.flat_len, hm]
  have hml : qs.length + m ≤ maxLen := by unfold maxLen; omega
  rcases hown.cases with ⟨ho, hrb⟩ | ⟨a, rfl, rfl⟩
  · obtain ⟨v', w', hr, h2, h3, h4⟩ := run_append_told (P := P) w 0 t ty e i z En.k bytes ht hi hz hsize hby hzs En.pos v qs.length (En.flat qs) ho ⟨b, off, none⟩ m c (En.flat ps) hfl hp.cells (En.flat_one ps) hml hbytes (Nat.zero_le _)
    have h2' : OwnR En w' 0 e v' (qs ++ ps) := by
      unfold OwnR
      rw [List.length_append, En.flat_append, ← hm]; exact h2
    refine ⟨v', w', hr, h2', ⟨h3.os, h3.tape, h3.output, h3.size, fun k hk hn => h3.block k hk (fun e => hn (by rw [← hrb]; exact e.symm)), fun b' hb' => ?_⟩⟩
    have hb2 := rowB_own h2' hb'
    rcases h4 with h4 | h4
    · left; rw [← hrb, ← h4]; exact hb2
    · right; rw [h4] at hb2; injection hb2 with hb2; omega
  · obtain ⟨v', w', hr, h2, h3⟩ := run_append_arg_grows (P := P) w t ty e i z En.k bytes ht hi hz hsize hby hzs En.pos a 0 0 [] (by simp) (by intro j u h; simp at h) ⟨b, off, none⟩ m c (En.flat ps) hfl hp.cells (by omega) (by omega) (by simpa using hbytes)
    have h2' : OwnR En w' w.heap.size e v' ([] ++ ps) := by
      unfold OwnR
      rw [List.nil_append, ← hm]
      simpa using h2
    refine ⟨v', w', hr, h2'.base (Nat.zero_le _), ⟨h3.os, h3.tape, h3.output, h3.size, fun k hk _ => h3.block k hk (fun e => by cases e), fun b' hb' => .inr (h2'.lt b' (rowB_own h2' hb')).1⟩⟩
theorem step_append_q {P : Program} {ops : Array Oper} {o : Oper} {a : Act} {w : World} {K : Act → World → Prop} {Q : Exit → Act → World → Prop} {X : Prop} (hgd : o.guard = none) (s x : Operand) (t : TypeId)
    (ho : o.op = .call { callee := .builtin .append, args := #[s, x], argTypes := #[t, t] }) (En : Enc α)
    (e : TypeId) (i : TypeInfo) (z : Value) (nb : Nat) (ht : P.underlying t = some (.slice e)) (hi : P.info? e = some i) (hz : i.zero = some z)
    (hsize : i.size = En.k) (hby : i.bytes = nb) (hzs : z.cells.size = En.k) (hnb : nb ≤ 1000) (v : Value) (qs : List α) (hs : a.eval s = v)
    (b off m c : Nat) (ps : List α) (hx : a.eval x = .slice (some ⟨b, off, none⟩) m c) (hm : m = ps.length) (hp0 : 0 < ps.length) (hlen : qs.length + ps.length ≤ 1000000) (hown : OwnQ En w 0 e v qs) (hp : RowIn En w b off ps)
    (h : ∀ v' w', OwnR En w' 0 e v' (qs ++ ps) → QGrown w w' v v' → K (a.put o.dst v') w') : if Region.wanted o (yielded ops a.tmps) = true then Oper.wp P o a w K Q else X := by
  have hw : Region.wanted o (yielded ops a.tmps) = true := by simp [Region.wanted, hgd]
  rw [if_pos hw]
  obtain ⟨v', w', hr, h2, h3⟩ := run_append_q (P := P) En w t o.type e i z nb ht hi hz hsize hby hzs hnb v qs hown b off m c ps hm hp0 hlen hp
  unfold Oper.wp execOp
  simp only [ho, resolve, invoke, builtin, Sem.run_bind, Sem.run_pure, Result.andThen_ok, List.map_toArray, List.map_cons, List.map_nil, hs, hx, hr]
  exact h v' w' h2 h3
end Lead.Dc

/-
  Walks over slices.IndexFunc and slices.DeleteFunc at attributes, as package doc calls them: the first attribute of a name; the attributes but those of a name.
-/
namespace Go.Proofs.YtndlmmpheecleaaGreatDoor
open Go.RowKit Go.WideMaps Go.Maps Lead Lead.Dc Lead.Rc Go.Lib
theorem prd_set (nm : ByteArray) (B : Nat) (x : At) (W : World) (hc : W.cell? ⟨B, 0, none⟩ = some (.string nm)) :
    Calls Tryz.prog 62 #[.agg #[.string x.1, .string x.2], .pointer (some ⟨B, 0, none⟩)] W fun en w' => en = .returned (.bool (sameA nm x)) ∧ Below W.heap.size W w' := by
  have hB : B < W.heap.size := World.block_lt_of_cell? _ _ hc
  have hne : B ≠ W.heap.size := by omega
  rw [← sameA_eq]
  obtain ⟨r, hr⟩ : ∃ r, (x.1.toList == nm.toList) = r := ⟨_, rfl⟩
  rw [hr]
  obtain ⟨x1, x2⟩ := x
  simp only at hr
  go_enter Tryz.func62, Tryz.ntmps62
  go_wp2_with fail
  go_returns
  exact ⟨rfl, by repeat' (first | (with_reducible first | exact bwR _ _ | assumption | refine bdn ?_ | refine bwA ?_ ?_ _ | refine bwD ?_ | refine bwS ?_ ?_ _) | omega | (simp <;> omega))⟩
set_option maxHeartbeats 1000000 in
theorem ixa_set (nm : ByteArray) (B : Nat) (o : Option Addr) (n c : Nat) (L : List At) (w : World) (hS : SlA EAt w o n c L) (hc : w.cell? ⟨B, 0, none⟩ = some (.string nm)) :
    Calls Tryz.prog 61 #[.slice o n c, .func (.func 62) #[] #[.pointer (some ⟨B, 0, none⟩)]] w fun en w' => en = .returned (.int .i64 (optI (idxA nm L))) ∧ Below w.heap.size w w' := by
  have hmx : n ≤ 9223372036854775807 := by have h := hS.2.2.1; have h' := hS.2.1; unfold maxLen at h; omega
  have hB : B < w.heap.size := World.block_lt_of_cell? _ _ hc
  have hp := fun (W : World) (hb : Below w.heap.size w W) (x : At) => prd_set nm B x W ((hb.cell (p := ⟨B, 0, none⟩) hB).trans hc)
  obtain ⟨R, hR⟩ : ∃ u, optI (idxA nm L) = u := ⟨_, rfl⟩
  rw [hR]
  have H_hS := Lib.hid hS
  clear hS
  have H_hp := Lib.hid hp
  clear hp
  have H_hR := Lib.hid hR
  clear hR
  go_enter Tryz.func61, Tryz.ntmps61
  go_wp2_with fail
  go_loopw [8] (fun t8 wr => ∃ k : Nat, k ≤ n ∧ t8 = .int .i64 k ∧ Below w.heap.size w wr ∧ RowKit.Hid (∀ j (hj : j < L.length), j < k → sameA nm L[j] = false)) (fun t8 _ => n - (intOf t8).toNat)
  case atStart => exact ⟨0, Nat.zero_le _, rfl, Below.refl _ _, Lib.hid (fun _ _ h => by omega)⟩
  case round =>
    obtain ⟨k, hk, rfl, hBr, H_no⟩ := hrel
    by_cases hlt : k < n
    · have hk' : k < L.length := by rw [← H_hS.out.1]; exact hlt
      obtain ⟨g, off, rfl, hgx, hrow⟩ := H_hS.out.2.2.2.resolve_left (by intro h; rw [h] at hk'; simp at hk')
      have q0 : wr.cell? ⟨g, off + k * 2, none⟩ = some (.string L[k].1) := (hrow.keep hBr hgx) k hk' 0 _ rfl
      have q1 : wr.cell? ⟨g, off + k * 2 + 1, none⟩ = some (.string L[k].2) := (hrow.keep hBr hgx) k hk' 1 _ rfl
      have cP := H_hp.out wr hBr L[k]
      obtain ⟨x, hx⟩ : ∃ u, L[k] = u := ⟨_, rfl⟩
      rw [hx] at q0 q1 cP
      have gk : IntKind.i64.wrap ((k : Int) + 1) = ((k + 1 : Nat) : Int) := IntWalk.i64_in _ (by omega)
      obtain ⟨b, hb⟩ : ∃ u, sameA nm x = u := ⟨_, rfl⟩
      rw [hb] at cP
      obtain ⟨x1, hx1⟩ : ∃ u, x.1 = u := ⟨_, rfl⟩
      obtain ⟨x2, hx2⟩ : ∃ u, x.2 = u := ⟨_, rfl⟩
      rw [hx1] at q0 cP
      rw [hx2] at q1 cP
      clear hrow
      have H_cP := Lib.hid cP
      clear cP
      have H_hx := Lib.hid hx
      clear hx
      have H_hb := Lib.hid hb
      clear hb
      have H_hx1 := Lib.hid hx1
      clear hx1
      have H_hx2 := Lib.hid hx2
      clear hx2
      go_wp2_with fail
      refine (H_cP.out).mono ?_
      rintro _ w1 ⟨rfl, hb1⟩
      have hB1 : Below w.heap.size w w1 := below_via hBr hb1
      clear hb1
      cases b with
      | false =>
        have hno : ∀ j (hj : j < L.length), j < k + 1 → sameA nm L[j] = false := fun j hj hjk => by
          by_cases e : j = k
          · subst e; rw [H_hx.out]; exact H_hb.out
          · exact H_no.out j hj (by omega)
        have H_hno := Lib.hid hno
        clear hno
        go_wp2_with fail
        go_roundw
        case rel => exact ⟨k + 1, by omega, by go_num, hB1, H_hno⟩
        case measure => simp [intOf]; omega
      | true =>
        have hfin : (k : Int) = R := by
          rw [← H_hR.out, idxA_of hk' (by rw [H_hx.out]; exact H_hb.out) (fun j hj => H_no.out j (by omega) hj)]; rfl
        have H_hfin := Lib.hid hfin
        clear hfin
        go_wp2_with fail
        go_returns
        exact ⟨congrArg (fun t => Ending.returned (.int .i64 t)) H_hfin.out, hB1⟩
    · obtain rfl : n = k := by omega
      have hfin : (-1 : Int) = R := by
        rw [← H_hR.out, idxA_no (fun x hx => by
          obtain ⟨j, hj, rfl⟩ := List.mem_iff_getElem.1 hx
          exact H_no.out j hj (by rw [H_hS.out.1]; exact hj))]; rfl
      have H_hfin := Lib.hid hfin
      clear hfin
      go_wp2_with fail
      go_returns
      exact ⟨congrArg (fun t => Ending.returned (.int .i64 t)) H_hfin.out, hBr⟩
theorem prd_uns (nm : ByteArray) (B : Nat) (x : At) (W : World) (hc : W.cell? ⟨B, 0, none⟩ = some (.string nm)) :
    Calls Tryz.prog 65 #[.agg #[.string x.1, .string x.2], .pointer (some ⟨B, 0, none⟩)] W fun en w' => en = .returned (.bool (sameA nm x)) ∧ Below W.heap.size W w' := by
  have hB : B < W.heap.size := World.block_lt_of_cell? _ _ hc
  have hne : B ≠ W.heap.size := by omega
  rw [← sameA_eq]
  obtain ⟨r, hr⟩ : ∃ r, (x.1.toList == nm.toList) = r := ⟨_, rfl⟩
  rw [hr]
  obtain ⟨x1, x2⟩ := x
  simp only at hr
  go_enter Tryz.func65, Tryz.ntmps65
  go_wp2_with fail
  go_returns
  exact ⟨rfl, by repeat' (first | (with_reducible first | exact bwR _ _ | assumption | refine bdn ?_ | refine bwA ?_ ?_ _ | refine bwD ?_ | refine bwS ?_ ?_ _) | omega | (simp <;> omega))⟩
set_option maxHeartbeats 1000000 in
theorem ixa_uns (nm : ByteArray) (B : Nat) (o : Option Addr) (n c : Nat) (L : List At) (w : World) (hS : SlA EAt w o n c L) (hc : w.cell? ⟨B, 0, none⟩ = some (.string nm)) :
    Calls Tryz.prog 61 #[.slice o n c, .func (.func 65) #[] #[.pointer (some ⟨B, 0, none⟩)]] w fun en w' => en = .returned (.int .i64 (optI (idxA nm L))) ∧ Below w.heap.size w w' := by
  have hmx : n ≤ 9223372036854775807 := by have h := hS.2.2.1; have h' := hS.2.1; unfold maxLen at h; omega
  have hB : B < w.heap.size := World.block_lt_of_cell? _ _ hc
  have hp := fun (W : World) (hb : Below w.heap.size w W) (x : At) => prd_uns nm B x W ((hb.cell (p := ⟨B, 0, none⟩) hB).trans hc)
  obtain ⟨R, hR⟩ : ∃ u, optI (idxA nm L) = u := ⟨_, rfl⟩
  rw [hR]
  have H_hS := Lib.hid hS
  clear hS
  have H_hp := Lib.hid hp
  clear hp
  have H_hR := Lib.hid hR
  clear hR
  go_enter Tryz.func61, Tryz.ntmps61
  go_wp2_with fail
  go_loopw [8] (fun t8 wr => ∃ k : Nat, k ≤ n ∧ t8 = .int .i64 k ∧ Below w.heap.size w wr ∧ RowKit.Hid (∀ j (hj : j < L.length), j < k → sameA nm L[j] = false)) (fun t8 _ => n - (intOf t8).toNat)
  case atStart => exact ⟨0, Nat.zero_le _, rfl, Below.refl _ _, Lib.hid (fun _ _ h => by omega)⟩
  case round =>
    obtain ⟨k, hk, rfl, hBr, H_no⟩ := hrel
    by_cases hlt : k < n
    · have hk' : k < L.length := by rw [← H_hS.out.1]; exact hlt
      obtain ⟨g, off, rfl, hgx, hrow⟩ := H_hS.out.2.2.2.resolve_left (by intro h; rw [h] at hk'; simp at hk')
      have q0 : wr.cell? ⟨g, off + k * 2, none⟩ = some (.string L[k].1) := (hrow.keep hBr hgx) k hk' 0 _ rfl
      have q1 : wr.cell? ⟨g, off + k * 2 + 1, none⟩ = some (.string L[k].2) := (hrow.keep hBr hgx) k hk' 1 _ rfl
      have cP := H_hp.out wr hBr L[k]
      obtain ⟨x, hx⟩ : ∃ u, L[k] = u := ⟨_, rfl⟩
      rw [hx] at q0 q1 cP
      have gk : IntKind.i64.wrap ((k : Int) + 1) = ((k + 1 : Nat) : Int) := IntWalk.i64_in _ (by omega)
      obtain ⟨b, hb⟩ : ∃ u, sameA nm x = u := ⟨_, rfl⟩
      rw [hb] at cP
      obtain ⟨x1, hx1⟩ : ∃ u, x.1 = u := ⟨_, rfl⟩
      obtain ⟨x2, hx2⟩ : ∃ u, x.2 = u := ⟨_, rfl⟩
      rw [hx1] at q0 cP
      rw [hx2] at q1 cP
      clear hrow
      have H_cP := Lib.hid cP
      clear cP
      have H_hx := Lib.hid hx
      clear hx
      have H_hb := Lib.hid hb
      clear hb
      have H_hx1 := Lib.hid hx1
      clear hx1
      have H_hx2 := Lib.hid hx2
      clear hx2
      go_wp2_with fail
      refine (H_cP.out).mono ?_
      rintro _ w1 ⟨rfl, hb1⟩
      have hB1 : Below w.heap.size w w1 := below_via hBr hb1
      clear hb1
      cases b with
      | false =>
        have hno : ∀ j (hj : j < L.length), j < k + 1 → sameA nm L[j] = false := fun j hj hjk => by
          by_cases e : j = k
          · subst e; rw [H_hx.out]; exact H_hb.out
          · exact H_no.out j hj (by omega)
        have H_hno := Lib.hid hno
        clear hno
        go_wp2_with fail
        go_roundw
        case rel => exact ⟨k + 1, by omega, by go_num, hB1, H_hno⟩
        case measure => simp [intOf]; omega
      | true =>
        have hfin : (k : Int) = R := by
          rw [← H_hR.out, idxA_of hk' (by rw [H_hx.out]; exact H_hb.out) (fun j hj => H_no.out j (by omega) hj)]; rfl
        have H_hfin := Lib.hid hfin
        clear hfin
        go_wp2_with fail
        go_returns
        exact ⟨congrArg (fun t => Ending.returned (.int .i64 t)) H_hfin.out, hB1⟩
    · obtain rfl : n = k := by omega
      have hfin : (-1 : Int) = R := by
        rw [← H_hR.out, idxA_no (fun x hx => by
          obtain ⟨j, hj, rfl⟩ := List.mem_iff_getElem.1 hx
          exact H_no.out j hj (by rw [H_hS.out.1]; exact hj))]; rfl
      have H_hfin := Lib.hid hfin
      clear hfin
      go_wp2_with fail
      go_returns
      exact ⟨congrArg (fun t => Ending.returned (.int .i64 t)) H_hfin.out, hBr⟩
theorem zAttr (w : World) : (zeroValue 59).run Tryz.prog w = .ok (.agg #[.string ⟨#[]⟩, .string ⟨#[]⟩]) w := by kernel_rfl
set_option maxHeartbeats 4000000 in
theorem dla_uns (nm : ByteArray) (B : Nat) (v : Value) (L : List At) (w : World) (hown : OwnR EAt w 0 59 v L) (hc : w.cell? ⟨B, 0, none⟩ = some (.string nm)) (hBv : v.ownBlock ≠ some B) :
    Calls Tryz.prog 64 #[v, .func (.func 65) #[] #[.pointer (some ⟨B, 0, none⟩)]] w fun en w' => ∃ v', en = .returned v' ∧ OwnR EAt w' 0 59 v' (unsetA nm L) ∧ v'.ownBlock = v.ownBlock ∧ Turn (fun k => v.ownBlock = some k) w w' := by
  obtain ⟨o, c, rfl⟩ := Rc.ow_form hown
  have hS := Rc.sla_of hown
  have hB : B < w.heap.size := World.block_lt_of_cell? _ _ hc
  obtain ⟨FL, hFL⟩ : ∃ u, unsetA nm L = u := ⟨_, rfl⟩
  rw [hFL]
  have cI := ixa_uns nm B o L.length c L w hS hc
  have H_cI := Lib.hid cI
  clear cI
  have H_hS := Lib.hid hS
  clear hS
  have H_hown := Lib.hid hown
  clear hown
  have H_hFL := Lib.hid hFL
  clear hFL
  go_enter Tryz.func64, Tryz.ntmps64
  go_wp2_with fail
  refine (H_cI.out).mono ?_
  rintro _ w1 ⟨rfl, hb1⟩
  have hown1 := H_hown.out.keep hb1
  have hT1 : Turn (fun k => (Value.slice o L.length c).ownBlock = some k) w w1 := Turn.of_below hb1
  have hs1 := hb1.size
  have hc1 : w1.cell? ⟨B, 0, none⟩ = some (.string nm) := (hb1.cell (p := ⟨B, 0, none⟩) hB).trans hc
  clear hb1
  cases hi : idxA nm L with
  | none =>
    have hfl : FL = L := by
      rw [← H_hFL.out]
      unfold unsetA
      refine List.filter_eq_self.2 fun x hx => ?_
      rw [decide_eq_false (fun e => idxA_none_mem.1 hi (List.mem_map.2 ⟨x, hx, e⟩))]; rfl
    have H_hown1 := Lib.hid hown1
    clear hown1
    have H_hT1 := Lib.hid hT1
    clear hT1
    have H_hfl := Lib.hid hfl
    clear hfl
    have H_hi := Lib.hid hi
    clear hi
    go_wp2_with fail
    go_returns
    exact ⟨_, rfl, by rw [H_hfl.out]; exact H_hown1.out, rfl, H_hT1.out⟩
  | some k0 =>
    obtain ⟨hk0, hk1, hk2⟩ := idxA_name hi
    rcases hown1.form with ⟨h, h'⟩ | ⟨g, cap, h, _⟩
    · rw [h'] at hk0; simp at hk0
    · injection h with h1 _ h2
      subst h1 h2
      obtain ⟨hC, hbg, hlc, hcm⟩ := RowA.of_own hown1
      obtain ⟨D, hD⟩ : ∃ u, L.toArray = u := ⟨_, rfl⟩
      have hDs : D.size = L.length := by rw [← hD]; simp
      have hDL : D.toList = L := by rw [← hD]
      have hDg : ∀ j (hj : j < L.length), D[j]! = L[j] := fun j hj => by rw [← hD, getElem!_pos L.toArray j (by simpa using hj)]; simp
      rw [hD] at hC
      obtain ⟨kp, hkp⟩ : ∃ kp : Nat → Bool, kp = fun j => !sameA nm D[j]! := ⟨_, rfl⟩
      have hfil : FL = keptUpTo kp D D.size := by rw [← H_hFL.out, hkp, ← hDL]; exact (keptUpTo_filter (fun x => !sameA nm x) D).symm
      have hI0 : KeptInv kp D (k0 + 1) k0 D := KeptInv.start (fun j hj => by rw [hkp]; show (!sameA nm D[j]!) = true; rw [hDg j (by omega)]; unfold sameA; rw [decide_eq_false (hk2 j hj)]; rfl) (by rw [hkp]; show (!sameA nm D[k0]!) = false; rw [hDg k0 hk0]; unfold sameA; rw [decide_eq_true hk1]; rfl)
      obtain ⟨N, hN⟩ : ∃ u, L.length = u := ⟨_, rfl⟩
      rw [hN] at hDs hk0 hC hlc hT1 ⊢
      have hNm : N ≤ 9223372036854775807 := by unfold maxLen at hcm; omega
      have hne : ((k0 : Int) == -1) = false := beq_eq_false_iff_ne.2 (by omega)
      have hkq : ∀ j, kp j = !sameA nm D[j]! := fun j => by rw [hkp]
      have hgB : g ≠ B := fun e => hBv (by rw [e]; rfl)
      have hT1' : Turn (fun k => some g = some k) w w1 := hT1
      have hoi : optI (some k0) = (k0 : Int) := rfl
      rw [hoi]
      clear H_hS H_hown hown1 hk1 hk2 hD hDL hDg hkp hT1 hoi
      have H_hC := Lib.hid hC
      clear hC
      have H_hfil := Lib.hid hfil
      clear hfil
      have H_hI0 := Lib.hid hI0
      clear hI0
      have H_hN := Lib.hid hN
      clear hN
      have H_hDs := Lib.hid hDs
      clear hDs
      have H_hkq := Lib.hid hkq
      clear hkq
      have H_hT1' := Lib.hid hT1'
      clear hT1'
      have H_hi := Lib.hid hi
      clear hi
      go_wp2_with fail
      go_loopw [5, 6, 7] (fun t5 t6 _ wr => ∃ (i j : Nat) (dk : Array At), t5 = .int .i64 i ∧ t6 = .int .i64 j ∧ i < j ∧ j ≤ N ∧ RowKit.Hid (KeptInv kp D j i dk) ∧ RowKit.Hid (RowA wr g 59 c N (fun j => dk[j]!)) ∧ RowKit.Hid (Turn (fun k => some g = some k) w wr) ∧ wr.cell? ⟨B, 0, none⟩ = some (.string nm)) (fun _ t6 _ _ => N - (intOf t6).toNat)
      case atStart => exact ⟨k0, k0 + 1, D, rfl, by go_num, by omega, by omega, H_hI0, H_hC, H_hT1', hc1⟩
      case round =>
        obtain ⟨i, j, dk, rfl, rfl, hij, hjN, H_I, H_C, H_T, hcB⟩ := hrel
        by_cases hlt : j < N
        · have hltz : (j : Int) < (N : Int) := by omega
          have hds := H_I.out.size
          have cj := H_C.out.cell j hlt
          rw [H_I.out.high j (by omega)] at cj
          obtain ⟨cj0, cj1⟩ := cj
          have hgl := H_C.out.lt
          have hBl : B < wr.heap.size := World.block_lt_of_cell? _ _ hcB
          have gj : IntKind.i64.wrap ((j : Int) + 1) = ((j + 1 : Nat) : Int) := IntWalk.i64_in _ (by omega)
          have gi : IntKind.i64.wrap ((i : Int) + 1) = ((i + 1 : Nat) : Int) := IntWalk.i64_in _ (by omega)
          obtain ⟨u, hu⟩ : ∃ u, D[j]! = u := ⟨_, rfl⟩
          rw [hu] at cj0 cj1
          obtain ⟨b, hb⟩ : ∃ b, sameA nm u = b := ⟨_, rfl⟩
          obtain ⟨u1, hu1⟩ : ∃ t, u.1 = t := ⟨_, rfl⟩
          obtain ⟨u2, hu2⟩ : ∃ t, u.2 = t := ⟨_, rfl⟩
          rw [hu1] at cj0
          rw [hu2] at cj1
          have cP := fun (W : World) (hW : W.cell? ⟨B, 0, none⟩ = some (.string nm)) => prd_uns nm B u W hW
          rw [hb, hu1, hu2] at cP
          have H_cP := Lib.hid cP
          clear cP
          have H_hu := Lib.hid hu
          clear hu
          have H_hb := Lib.hid hb
          clear hb
          have H_hds := Lib.hid hds
          clear hds
          have H_hu1 := Lib.hid hu1
          clear hu1
          have H_hu2 := Lib.hid hu2
          clear hu2
          go_wp2_with fail
          refine (H_cP.out _ ((World.cell?_alloc_lt _ _ _ hBl).trans hcB)).mono ?_
          rintro _ w2 ⟨rfl, hb2⟩
          have hbw : Below wr.heap.size wr w2 := below_via (by repeat' (first | (with_reducible first | exact bwR _ _ | assumption | refine bdn ?_ | refine bwA ?_ ?_ _ | refine bwD ?_ | refine bwS ?_ ?_ _) | omega | (simp <;> omega))) hb2
          have hC2 := H_C.out.keep hbw
          have hT2 : Turn (fun k => some g = some k) w w2 := H_T.out.trans (F' := fun k => some g = some k) (Turn.of_below hbw) (fun _ _ h => h)
          have hcB2 : w2.cell? ⟨B, 0, none⟩ = some (.string nm) := (hbw.cell (p := ⟨B, 0, none⟩) hBl).trans hcB
          have x0 : w2.cell? ⟨wr.heap.size, 0, none⟩ = some (.string u1) := gkeep hb2 (World.cell?_alloc_new _ _ _ _) (by simp)
          have x1 : w2.cell? ⟨wr.heap.size, 1, none⟩ = some (.string u2) := gkeep hb2 (World.cell?_alloc_new _ _ _ _) (by simp)
          have hgn : ¬ g = wr.heap.size := by omega
          have ci := hC2.cell i (by omega)
          obtain ⟨ci0, ci1⟩ := ci
          have fi := hC2.free
          clear hb2 hbw cj0 cj1
          cases b with
          | true =>
            have hn := H_I.out.skip (by rw [H_hkq.out, H_hu.out, H_hb.out]; rfl)
            have H_hn := Lib.hid hn
            clear hn
            have H_hC2 := Lib.hid hC2
            clear hC2
            have H_hT2 := Lib.hid hT2
            clear hT2
            go_wp2_with fail
            go_roundw
            case rel => exact ⟨i, j + 1, dk, rfl, by go_num, by omega, by omega, H_hn, H_hC2, H_hT2, hcB2⟩
            case measure => simp [intOf]; omega
          | false =>
            have hn := H_I.out.keep (by rw [H_hDs.out]; exact hlt) (by rw [H_hkq.out, H_hu.out, H_hb.out]; rfl)
            rw [H_hu.out] at hn
            have hC3 := (hC2.set (i := i) (by omega) u).congr (f' := fun k => (dk.setIfInBounds i u)[k]!) (fun k hk => by
              by_cases e : k = i
              · subst e; rw [if_pos rfl, Go.Sort.getElem!_set_same dk k u (by rw [H_hds.out, H_hDs.out]; exact hk)]
              · rw [if_neg e, Go.Sort.getElem!_set_other dk i k u e])
            rw [H_hu1.out, H_hu2.out] at hC3
            have hT3 : Turn (fun k => some g = some k) w ((w2.setCell ⟨g, i * 2, none⟩ (.string u1)).setCell ⟨g, i * 2 + 1, none⟩ (.string u2)) := (hT2.trans (F' := fun k => some g = some k) (Turn.set (a := ⟨g, i * 2, none⟩) rfl) (fun _ _ h => h)).trans (F' := fun k => some g = some k) (Turn.set (a := ⟨g, i * 2 + 1, none⟩) rfl) (fun _ _ h => h)
            have hcB3 : ((w2.setCell ⟨g, i * 2, none⟩ (.string u1)).setCell ⟨g, i * 2 + 1, none⟩ (.string u2)).cell? ⟨B, 0, none⟩ = some (.string nm) := by
              rw [World.cell?_setCell_other _ _ _ _ (fun e => hgB (by injection e with e _ _)), World.cell?_setCell_other _ _ _ _ (fun e => hgB (by injection e with e _ _))]
              exact hcB2
            have H_hn := Lib.hid hn
            clear hn
            have H_hC2 := Lib.hid hC2
            clear hC2
            have H_hC3 := Lib.hid hC3
            clear hC3
            have H_hT2 := Lib.hid hT2
            clear hT2
            have H_hT3 := Lib.hid hT3
            clear hT3
            have H_hcB3 := Lib.hid hcB3
            clear hcB3
            go_wp2_with fail
            go_roundw
            case rel => exact ⟨i + 1, j + 1, _, by go_num, by go_num, by omega, by omega, H_hn, H_hC3, H_hT3, H_hcB3.out⟩
            case measure => simp [intOf]; omega
        · obtain rfl : j = N := by omega
          have hltz : ¬ (j : Int) < (j : Int) := by omega
          have hci : ¬ c = i := by omega
          have hi0 : (0 : Int) ≤ (i : Int) := by omega
          have hij2 : (i : Int) ≤ (j : Int) := by omega
          have hic : (i : Int) ≤ (c : Int) := by omega
          have hij3 : i ≤ j := by omega
          have hic3 : i ≤ c := by omega
          have hcl : ∀ ty, (Builtin.clear_ #[22] ty #[.slice (some ⟨g, i * 2, none⟩) (j - i) (c - i)]).run Tryz.prog wr = .ok (.tuple #[]) (wr.setCells g (i * 2) (List.replicate ((j - i) * 2) (.string ⟨#[]⟩))) :=
            fun ty => run_clear2 wr _ _ ty _ _ Tryz.underlying22 zAttr rfl rfl g (i * 2) _ _ (by omega) (fun t ht => by
              have h2 := H_C.out.cell (i + t / 2) (by omega)
              rcases Nat.mod_two_eq_zero_or_one t with hm | hm
              · rw [show i * 2 + t = (i + t / 2) * 2 by omega, h2.1]; rfl
              · rw [show i * 2 + t = (i + t / 2) * 2 + 1 by omega, h2.2]; rfl) (fun t ht => H_C.out.free _)
          have hlen := H_I.out.len
          have hlow := H_I.out.low
          rw [← H_hDs.out] at hlen hlow
          have hfin : OwnR EAt (wr.setCells g (i * 2) (List.replicate ((j - i) * 2) (.string ⟨#[]⟩))) 0 59 (.slice (some ⟨g, 0, none⟩) i c) (keptUpTo kp D D.size) := by
            have h := RowA.own (base := 0) (l := keptUpTo kp D D.size) (H_C.out.cut (by omega : i ≤ j) (List.replicate ((j - i) * 2) (.string ⟨#[]⟩))) (Nat.zero_le _) (by rw [hlen]; exact Nat.le_refl _) (by omega) hcm (fun k hk => by
              have h1 := hlow k (by omega)
              rw [List.getElem?_eq_getElem hk] at h1
              injection h1 with h1
              rw [h1])
            rw [hlen] at h; exact h
          have hTf : Turn (fun k => some g = some k) w (wr.setCells g (i * 2) (List.replicate ((j - i) * 2) (.string ⟨#[]⟩))) := setCells_turn (F := fun k => some g = some k) (g := g) rfl _ _ _ H_T.out
          have H_hfin := Lib.hid hfin
          clear hfin
          have H_hlen := Lib.hid hlen
          clear hlen
          have H_hlow := Lib.hid hlow
          clear hlow
          have H_hTf := Lib.hid hTf
          clear hTf
          go_wp2_with fail
          go_returns
          exact ⟨_, rfl, by rw [H_hfil.out]; exact H_hfin.out, rfl, H_hTf.out⟩
end Go.Proofs.YtndlmmpheecleaaGreatDoor
