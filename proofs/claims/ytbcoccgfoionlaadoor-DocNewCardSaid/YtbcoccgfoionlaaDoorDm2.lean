/-
  A document in memory: a map from numbers to elements' blocks; each element's attributes and children in rows of their own.
-/
import Derived.Test.YtbcoccgfoionlaaDoorDm1
import Derived.Test.YtbcoccgfoionlaaDoorRow
import Derived.Maps.OwnSet
import Derived.Maps.Views
namespace Lead.Dc
open Go Go.RowKit Lead
def EAt : Enc (ByteArray × ByteArray) := ⟨fun a => [.string a.1, .string a.2], 2, fun _ => rfl, fun x u h => by simp at h; rcases h with rfl | rfl <;> rfl, by decide⟩
def EIn : Enc Nat := ⟨fun n => [.int .i64 (n : Int)], 1, fun _ => rfl, fun x u h => by simp at h; subst h; rfl, by decide⟩
/-- How an element's pointer reads. -/
def pElem (v : Value) : Option (DataW Unit × List MemPlace) := match v with
  | .pointer none => some (.nil, [])
  | .pointer (some ⟨b, 0, none⟩) => some (.lit (.int .i64 (b : Int)), [])
  | _ => none
theorem pElem_nil {v : Value} {ps : List MemPlace} (h : pElem v = some (.nil, ps)) : v = .pointer none := by
  unfold pElem at h
  split at h
  · rfl
  · injection h with h; injection h with h _; cases h
  · cases h
theorem pElem_some {v : Value} {b : Nat} {ps : List MemPlace} (h : pElem v = some (.lit (.int .i64 (b : Int)), ps)) : v = .pointer (some ⟨b, 0, none⟩) := by
  unfold pElem at h
  split at h
  · injection h with h; injection h with h _; cases h
  · rename_i b'
    injection h with h; injection h with h _
    injection h with h; injection h with _ h
    have : b' = b := Int.ofNat_inj.1 h
    rw [this]
  · cases h
variable {α : Type}
/-- A slice of the document's: a row of its own, nil, or an empty one of any address. -/
def OwnQ (E : Enc α) (w : World) (base : Nat) (e : TypeId) (v : Value) (xs : List α) : Prop := OwnR E w base e v xs ∨ ∃ a, v = .slice (some a) 0 0 ∧ xs = []
/-- The block in which a slice's values lie. -/
def rowB (v : Value) : Option Nat := match v with
  | .slice (some a) _ (_ + 1) => some a.block
  | _ => none
/-- Where an element lies. -/
structure Plc where
  blk : Nat
  av : Value
  kv : Value
instance : Inhabited Plc := ⟨⟨0, .nilIface, .nilIface⟩⟩
structure ElIn (TE TA TI : TypeId) (base : Nat) (w : World) (e : El) (p : Plc) : Prop where
  ge : base ≤ p.blk
  cell : w.heap[p.blk]? = some (.cells #[.string e.name, p.av, .int .i64 e.parent, p.kv] TE (0, 0))
  attrs : OwnQ EAt w base TA p.av e.attrs
  kids : OwnQ EIn w base TI p.kv e.kids
/-- The map's datum. -/
structure MapD (D : DataW Unit) (E : Els) (pl : Nat → Plc) : Prop where
  tidy : Go.Maps.Tidy D
  hit : ∀ n e, elAt E n = some e → D.atKey (.int .i64 (n : Int)) .nil = .lit (.int .i64 ((pl n).blk : Int)) ∧ Go.Maps.has D (.int .i64 (n : Int)) = true
  miss : ∀ z : Int, (∀ n : Nat, z = n → elAt E n = none) → Go.Maps.has D (.int .i64 z) = false
  size : Go.Maps.size D = E.length
theorem MapD.nil {D : DataW Unit} {E : Els} {pl : Nat → Plc} (h : MapD D E pl) {z : Int} (hz : ∀ n : Nat, z = n → elAt E n = none) : D.atKey (.int .i64 z) .nil = .nil := Go.Maps.atKey_of_not_has (h.miss z hz) _
/-- A document at block bd. -/
structure DocAt (P : Program) (TD TE TA TI : TypeId) (base : Nat) (w : World) (bd : Nat) (E : Els) (next : Nat) (pl : Nat → Plc) (bm cnt : Nat) (D : DataW Unit) : Prop where
  geD : base ≤ bd
  geM : base ≤ bm
  doc : w.heap[bd]? = some (.cells #[.map (some bm), .int .i64 (next : Int)] TD (0, 0))
  map : w.ownsMap P TI pElem bm cnt D
  md : MapD D E pl
  els : ∀ n e, elAt E n = some e → ElIn TE TA TI base w e (pl n)
  ne : ∀ n m e f, n ≠ m → elAt E n = some e → elAt E m = some f → (pl n).blk ≠ (pl m).blk ∧ (∀ b, rowB (pl n).av = some b → rowB (pl m).av ≠ some b) ∧ (∀ b, rowB (pl n).kv = some b → rowB (pl m).kv ≠ some b)
theorem OwnQ.keep {E : Enc α} {w w' : World} {base : Nat} {e : TypeId} {v : Value} {xs : List α} (h : OwnQ E w base e v xs) (hb : Below w.heap.size w w') : OwnQ E w' base e v xs := h.imp (fun h => h.keep hb) id
theorem ElIn.keep {TE TA TI : TypeId} {base : Nat} {w w' : World} {e : El} {p : Plc} (h : ElIn TE TA TI base w e p) (hb : Below w.heap.size w w') : ElIn TE TA TI base w' e p :=
  ⟨h.ge, (hb.block _ (Array.getElem?_eq_some_iff.1 h.cell).1).trans h.cell, h.attrs.keep hb, h.kids.keep hb⟩
theorem map_below {P : Program} {k : TypeId} {R : Value → Option (DataW Unit × List MemPlace)} {w w' : World} {b n : Nat} {D : DataW Unit} (h : w.ownsMap P k R b n D) (hb : w'.heap[b]? = w.heap[b]?) : w'.ownsMap P k R b n D := by
  obtain ⟨es, clock, h1, h2⟩ := h
  exact ⟨es, clock, hb.trans h1, h2⟩
theorem DocAt.keep {P : Program} {TD TE TA TI : TypeId} {base bd next bm cnt : Nat} {w w' : World} {E : Els} {pl : Nat → Plc} {D : DataW Unit} (h : DocAt P TD TE TA TI base w bd E next pl bm cnt D) (hb : Below w.heap.size w w') : DocAt P TD TE TA TI base w' bd E next pl bm cnt D :=
  ⟨h.geD, h.geM, (hb.block _ (Array.getElem?_eq_some_iff.1 h.doc).1).trans h.doc, map_below h.map (hb.block _ h.map.lt), h.md, fun n e he => (h.els n e he).keep hb, h.ne⟩
/-! ### one element turns -/
theorem OwnQ.rowB {E : Enc α} {w : World} {base : Nat} {e : TypeId} {v : Value} {xs : List α} (h : OwnQ E w base e v xs) {b : Nat} (hb : rowB v = some b) : base ≤ b ∧ b < w.heap.size ∧ ∃ cur, w.heap[b]? = some (.cells cur e (0, 0)) := by
  rcases h with ⟨_, ⟨rfl, _⟩ | ⟨g, cap, cur, rfl, hg, hh, _⟩⟩ | ⟨a, rfl, _⟩
  · cases hb
  · cases cap with
    | zero => cases hb
    | succ c =>
      obtain rfl : g = b := by simpa [Dc.rowB] using hb
      exact ⟨hg, (Array.getElem?_eq_some_iff.1 hh).1, cur, hh⟩
  · cases hb
theorem OwnQ.kept {E : Enc α} {w w' : World} {base : Nat} {e : TypeId} {v : Value} {xs : List α} (h : OwnQ E w base e v xs) (hw : ∀ b, Dc.rowB v = some b → w'.heap[b]? = w.heap[b]?) : OwnQ E w' base e v xs := by
  rcases h with ⟨h1, ⟨rfl, h2⟩ | ⟨g, cap, cur, rfl, hg, hh, hl, hm, hs, ht⟩⟩ | h
  · exact .inl ⟨h1, .inl ⟨rfl, h2⟩⟩
  · cases cap with
    | zero =>
      have hx : xs = [] := List.length_eq_zero_iff.1 (by omega)
      subst hx
      exact .inr ⟨⟨g, 0, none⟩, rfl, rfl⟩
    | succ c => exact .inl ⟨h1, .inr ⟨g, c + 1, cur, rfl, hg, (hw g rfl).trans hh, hl, hm, hs, ht⟩⟩
  · exact .inr h
theorem MapD.upd {D : DataW Unit} {E : Els} {pl pl' : Nat → Plc} (h : MapD D E pl) (n : Nat) (f : El → El) (hp : ∀ x, (pl' x).blk = (pl x).blk) : MapD D (upd E n f) pl' := by
  have hs : ∀ x, (∃ e, elAt (Dc.upd E n f) x = some e) → ∃ e, elAt E x = some e := by
    rintro x ⟨e, he⟩
    rw [elAt_upd] at he
    split at he
    · cases hx : elAt E x with
      | none => rw [hx] at he; cases he
      | some e0 => exact ⟨e0, rfl⟩
    · exact ⟨e, he⟩
  refine ⟨h.tidy, fun x e he => ?_, fun z hz => h.miss z fun x hx => ?_, ?_⟩
  · obtain ⟨e0, he0⟩ := hs x ⟨e, he⟩
    rw [hp]; exact h.hit x e0 he0
  · have := hz x hx
    rw [elAt_upd] at this
    split at this
    · cases hx : elAt E x with
      | none => rfl
      | some e0 => rw [hx] at this; cases this
    · exact this
  · rw [h.size]; unfold Dc.upd; rw [List.length_map]
/-- One element turns, in its block and its rows alone. -/
theorem DocAt.upd {P : Program} {TD TE TA TI : TypeId} {base bd next bm cnt : Nat} {w w' : World} {E : Els} {pl : Nat → Plc} {D : DataW Unit} (h : DocAt P TD TE TA TI base w bd E next pl bm cnt D)
    (h1 : TD ≠ TE) (h2 : TD ≠ TA) (h3 : TD ≠ TI) (h4 : TE ≠ TA) (h5 : TE ≠ TI) (h6 : TA ≠ TI) {n : Nat} {e e' : El} {p' : Plc} (he : elAt E n = some e) (hb : p'.blk = (pl n).blk) (hE : ElIn TE TA TI base w' e' p')
    (hav : ∀ b, rowB p'.av = some b → rowB (pl n).av = some b ∨ w.heap.size ≤ b) (hkv : ∀ b, rowB p'.kv = some b → rowB (pl n).kv = some b ∨ w.heap.size ≤ b)
    (hw : ∀ k, k < w.heap.size → k ≠ (pl n).blk → rowB (pl n).av ≠ some k → rowB (pl n).kv ≠ some k → w'.heap[k]? = w.heap[k]?) :
    DocAt P TD TE TA TI base w' bd (Dc.upd E n (fun _ => e')) next (fun x => if x = n then p' else pl x) bm cnt D := by
  have hn := h.els n e he
  -- blocks of n's, by their types
  have ty : ∀ (k : Nat) (cs : Array Value) (T : TypeId), w.heap[k]? = some (.cells cs T (0, 0)) → (T ≠ TE ∨ k ≠ (pl n).blk) → (T ≠ TA ∨ rowB (pl n).av ≠ some k) → (T ≠ TI ∨ rowB (pl n).kv ≠ some k) → w'.heap[k]? = w.heap[k]? := by
    intro k cs T hk a1 a2 a3
    refine hw k (Array.getElem?_eq_some_iff.1 hk).1 (fun e1 => ?_) (fun e2 => ?_) (fun e3 => ?_)
    · rcases a1 with a1 | a1
      · have := hn.cell; rw [← e1, hk] at this; injection this with this; injection this with _ this; exact a1 this
      · exact a1 e1
    · rcases a2 with a2 | a2
      · obtain ⟨_, _, cur, hc⟩ := hn.attrs.rowB e2
        rw [hk] at hc; injection hc with hc; injection hc with _ hc; exact a2 hc
      · exact a2 e2
    · rcases a3 with a3 | a3
      · obtain ⟨_, _, cur, hc⟩ := hn.kids.rowB e3
        rw [hk] at hc; injection hc with hc; injection hc with _ hc; exact a3 hc
      · exact a3 e3
  refine ⟨h.geD, h.geM, ?_, ?_, h.md.upd n _ (fun x => ?_), ?_, ?_⟩
  · exact (ty bd _ TD h.doc (.inl h1) (.inl h2) (.inl h3)).trans h.doc
  · refine map_below h.map (hw bm h.map.lt (fun e1 => ?_) (fun e2 => ?_) (fun e3 => ?_))
    · obtain ⟨es, cl, hm, _⟩ := h.map
      have := hn.cell; rw [← e1, hm] at this; cases this
    · obtain ⟨es, cl, hm, _⟩ := h.map
      obtain ⟨_, _, cur, hc⟩ := hn.attrs.rowB e2
      rw [hm] at hc; cases hc
    · obtain ⟨es, cl, hm, _⟩ := h.map
      obtain ⟨_, _, cur, hc⟩ := hn.kids.rowB e3
      rw [hm] at hc; cases hc
  · by_cases hx : x = n
    · subst hx; rw [if_pos rfl]; exact hb
    · rw [if_neg hx]
  · intro x ex hex
    rw [elAt_upd] at hex
    by_cases hx : x = n
    · subst hx
      rw [if_pos rfl, he] at hex
      cases hex
      rw [if_pos rfl]; exact hE
    · rw [if_neg hx] at hex ⊢
      have hex' := h.els x ex hex
      have hne := h.ne x n ex e hx hex he
      refine ⟨hex'.ge, (ty _ _ TE hex'.cell (.inr hne.1) (.inl h4) (.inl h5)).trans hex'.cell, hex'.attrs.kept fun b hb' => ?_, hex'.kids.kept fun b hb' => ?_⟩
      · obtain ⟨_, _, cur, hc⟩ := hex'.attrs.rowB hb'
        exact ty b cur TA hc (.inl (fun h => h4 h.symm)) (.inr (hne.2.1 b hb')) (.inl h6)
      · obtain ⟨_, _, cur, hc⟩ := hex'.kids.rowB hb'
        exact ty b cur TI hc (.inl (fun h => h5 h.symm)) (.inl (fun h => h6 h.symm)) (.inr (hne.2.2 b hb'))
  · -- apart
    have back : ∀ x ex, elAt (Dc.upd E n (fun _ => e')) x = some ex → ∃ e0, elAt E x = some e0 := by
      intro x ex hex
      rw [elAt_upd] at hex
      split at hex
      · cases hx : elAt E x with
        | none => rw [hx] at hex; cases hex
        | some e0 => exact ⟨e0, rfl⟩
      · exact ⟨ex, hex⟩
    intro x y ex ey hxy hex hey
    obtain ⟨e0, he0⟩ := back x ex hex
    obtain ⟨f0, hf0⟩ := back y ey hey
    have h0 := h.ne x y e0 f0 hxy he0 hf0
    by_cases hx : x = n
    · subst hx
      rw [if_pos rfl, if_neg (fun h => hxy h.symm)]
      refine ⟨by rw [hb]; exact h0.1, fun b hb1 => ?_, fun b hb1 => ?_⟩
      · rcases hav b hb1 with h' | h'
        · exact h0.2.1 b h'
        · intro h''
          have := ((h.els y f0 hf0).attrs.rowB h'').2.1; omega
      · rcases hkv b hb1 with h' | h'
        · exact h0.2.2 b h'
        · intro h''
          have := ((h.els y f0 hf0).kids.rowB h'').2.1; omega
    · rw [if_neg hx]
      by_cases hy : y = n
      · subst hy
        rw [if_pos rfl]
        refine ⟨by rw [hb]; exact h0.1, fun b hb1 hb2 => ?_, fun b hb1 hb2 => ?_⟩
        · rcases hav b hb2 with h' | h'
          · exact h0.2.1 b hb1 h'
          · have := ((h.els x e0 he0).attrs.rowB hb1).2.1; omega
        · rcases hkv b hb2 with h' | h'
          · exact h0.2.2 b hb1 h'
          · have := ((h.els x e0 he0).kids.rowB hb1).2.1; omega
      · rw [if_neg hy]; exact h0
end Lead.Dc
