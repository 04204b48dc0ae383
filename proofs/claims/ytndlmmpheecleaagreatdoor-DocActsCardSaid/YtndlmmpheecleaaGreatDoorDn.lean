/-
  Several texts as one: Dm2, Dm3, Nd1, Nd2, Ds1, Ds2, Ds3, Ds4, Ds5, Ds6, Ds7.
-/
import Derived.Test.YtndlmmpheecleaaGreatDoorDp
import Derived.Test.YtndlmmpheecleaaGreatDoorRw
import Derived.Maps.OwnSet
import Derived.Maps.Views
import Derived.ChangeSame
import Derived.Deep.Slices
import Derived.Deep.Strs
import Derived.Laws.Rows
import Derived.Shelf.Spec.SlicesInsert
import Derived.Shelf.Spec.SlicesInsertGrow
import Derived.Shelf.SlicesE.DeleteFunc
import Derived.Deep.Upon
import Derived.Shelf.SlicesE.Clone
import Derived.WalkKit
/-
  A document in memory: a map from numbers to elements' blocks; each element's attributes and children in rows of their own.
-/
namespace Lead.Dc
open Go Go.RowKit Lead
def EAt : Enc (ByteArray × ByteArray) := ⟨fun a => [.string a.1, .string a.2], 2, fun _ => rfl, fun x u h => by simp at h; rcases h with rfl | rfl <;> rfl, by decide⟩
def EIn : Enc Nat := ⟨fun n => [.int .i64 (n : Int)], 1, fun _ => rfl, fun x u h => by simp at h; subst h; rfl, by decide⟩
/-- How an element's pointer reads. -/
def pElem (v : Value) : Option (DataW Unit × List MemPlace) := match v with
  | .pointer none => some (.nil, [])
  | .pointer (some ⟨b, 0, none⟩) => some (.lit (.int .i64 (b : Int)), [])
  | _ => none
theorem pElem_nil {v : Value} {ps : List MemPlace} (h : pElem v = some (.nil, ps)) : v = .pointer none := by
  unfold pElem at h
  split at h
  · rfl
  · injection h with h; injection h with h _; cases h
  · cases h
theorem pElem_some {v : Value} {b : Nat} {ps : List MemPlace} (h : pElem v = some (.lit (.int .i64 (b : Int)), ps)) : v = .pointer (some ⟨b, 0, none⟩) := by
  unfold pElem at h
  split at h
  · injection h with h; injection h with h _; cases h
  · rename_i b'
    injection h with h; injection h with h _
    injection h with h; injection h with _ h
    have : b' = b := Int.ofNat_inj.1 h
    rw [this]
  · cases h
variable {α : Type}
/-- A slice of the document's: a row of its own, nil, or an empty one of any address. -/
def OwnQ (E : Enc α) (w : World) (base : Nat) (e : TypeId) (v : Value) (xs : List α) : Prop := OwnR E w base e v xs ∨ ∃ a, v = .slice (some a) 0 0 ∧ xs = []
/-- The block in which a slice's values lie. -/
def rowB (v : Value) : Option Nat := match v with
  | .slice (some a) _ (_ + 1) => some a.block
  | _ => none
/-- Where an element lies. -/
structure Plc where
  blk : Nat
  av : Value
  kv : Value
instance : Inhabited Plc := ⟨⟨0, .nilIface, .nilIface⟩⟩
structure ElIn (TE TA TI : TypeId) (base : Nat) (w : World) (e : El) (p : Plc) : Prop where
  ge : base ≤ p.blk
  cell : w.heap[p.blk]? = some (.cells #[.string e.name, p.av, .int .i64 e.parent, p.kv] TE (0, 0))
  attrs : OwnQ EAt w base TA p.av e.attrs
  kids : OwnQ EIn w base TI p.kv e.kids
/-- The map's datum. -/
structure MapD (D : DataW Unit) (E : Els) (pl : Nat → Plc) : Prop where
  tidy : Go.Maps.Tidy D
  hit : ∀ n e, elAt E n = some e → D.atKey (.int .i64 (n : Int)) .nil = .lit (.int .i64 ((pl n).blk : Int)) ∧ Go.Maps.has D (.int .i64 (n : Int)) = true
  miss : ∀ z : Int, (∀ n : Nat, z = n → elAt E n = none) → Go.Maps.has D (.int .i64 z) = false
  size : Go.Maps.size D = E.length
theorem MapD.nil {D : DataW Unit} {E : Els} {pl : Nat → Plc} (h : MapD D E pl) {z : Int} (hz : ∀ n : Nat, z = n → elAt E n = none) : D.atKey (.int .i64 z) .nil = .nil := Go.Maps.atKey_of_not_has (h.miss z hz) _
/-- A document at block bd. -/
structure DocAt (P : Program) (TD TE TA TI : TypeId) (base : Nat) (w : World) (bd : Nat) (E : Els) (next : Nat) (pl : Nat → Plc) (bm cnt : Nat) (D : DataW Unit) : Prop where
  geD : base ≤ bd
  geM : base ≤ bm
  doc : w.heap[bd]? = some (.cells #[.map (some bm), .int .i64 (next : Int)] TD (0, 0))
  map : w.ownsMap P TI pElem bm cnt D
  md : MapD D E pl
  els : ∀ n e, elAt E n = some e → ElIn TE TA TI base w e (pl n)
  ne : ∀ n m e f, n ≠ m → elAt E n = some e → elAt E m = some f → (pl n).blk ≠ (pl m).blk ∧ (∀ b, rowB (pl n).av = some b → rowB (pl m).av ≠ some b) ∧ (∀ b, rowB (pl n).kv = some b → rowB (pl m).kv ≠ some b)
theorem OwnQ.keep {E : Enc α} {w w' : World} {base : Nat} {e : TypeId} {v : Value} {xs : List α} (h : OwnQ E w base e v xs) (hb : Below w.heap.size w w') : OwnQ E w' base e v xs := h.imp (fun h => h.keep hb) id
theorem ElIn.keep {TE TA TI : TypeId} {base : Nat} {w w' : World} {e : El} {p : Plc} (h : ElIn TE TA TI base w e p) (hb : Below w.heap.size w w') : ElIn TE TA TI base w' e p :=
  ⟨h.ge, (hb.block _ (Array.getElem?_eq_some_iff.1 h.cell).1).trans h.cell, h.attrs.keep hb, h.kids.keep hb⟩
theorem map_below {P : Program} {k : TypeId} {R : Value → Option (DataW Unit × List MemPlace)} {w w' : World} {b n : Nat} {D : DataW Unit} (h : w.ownsMap P k R b n D) (hb : w'.heap[b]? = w.heap[b]?) : w'.ownsMap P k R b n D := by
  obtain ⟨es, clock, h1, h2⟩ := h
  exact ⟨es, clock, hb.trans h1, h2⟩
theorem DocAt.keep {P : Program} {TD TE TA TI : TypeId} {base bd next bm cnt : Nat} {w w' : World} {E : Els} {pl : Nat → Plc} {D : DataW Unit} (h : DocAt P TD TE TA TI base w bd E next pl bm cnt D) (hb : Below w.heap.size w w') : DocAt P TD TE TA TI base w' bd E next pl bm cnt D :=
  ⟨h.geD, h.geM, (hb.block _ (Array.getElem?_eq_some_iff.1 h.doc).1).trans h.doc, map_below h.map (hb.block _ h.map.lt), h.md, fun n e he => (h.els n e he).keep hb, h.ne⟩
/-! ### one element turns -/
theorem OwnQ.rowB {E : Enc α} {w : World} {base : Nat} {e : TypeId} {v : Value} {xs : List α} (h : OwnQ E w base e v xs) {b : Nat} (hb : rowB v = some b) : base ≤ b ∧ b < w.heap.size ∧ ∃ cur, w.heap[b]? = some (.cells cur e (0, 0)) := by
  rcases h with ⟨_, ⟨rfl, _⟩ | ⟨g, cap, cur, rfl, hg, hh, _⟩⟩ | ⟨a, rfl, _⟩
  · cases hb
  · cases cap with
    | zero => cases hb
    | succ c =>
      obtain rfl : g = b := by simpa [Dc.rowB] using hb
      exact ⟨hg, (Array.getElem?_eq_some_iff.1 hh).1, cur, hh⟩
  · cases hb
theorem OwnQ.kept {E : Enc α} {w w' : World} {base : Nat} {e : TypeId} {v : Value} {xs : List α} (h : OwnQ E w base e v xs) (hw : ∀ b, Dc.rowB v = some b → w'.heap[b]? = w.heap[b]?) : OwnQ E w' base e v xs := by
  rcases h with ⟨h1, ⟨rfl, h2⟩ | ⟨g, cap, cur, rfl, hg, hh, hl, hm, hs, ht⟩⟩ | h
  · exact .inl ⟨h1, .inl ⟨rfl, h2⟩⟩
  · cases cap with
    | zero =>
      have hx : xs = [] := List.length_eq_zero_iff.1 (by omega)
      subst hx
      exact .inr ⟨⟨g, 0, none⟩, rfl, rfl⟩
    | succ c => exact .inl ⟨h1, .inr ⟨g, c + 1, cur, rfl, hg, (hw g rfl).trans hh, hl, hm, hs, ht⟩⟩
  · exact .inr h
theorem MapD.upd {D : DataW Unit} {E : Els} {pl pl' : Nat → Plc} (h : MapD D E pl) (n : Nat) (f : El → El) (hp : ∀ x, (pl' x).blk = (pl x).blk) : MapD D (upd E n f) pl' := by
  have hs : ∀ x, (∃ e, elAt (Dc.upd E n f) x = some e) → ∃ e, elAt E x = some e := by
    rintro x ⟨e, he⟩
    rw [elAt_upd] at he
    split at he
    · cases hx : elAt E x with
      | none => rw [hx] at he; cases he
      | some e0 => exact ⟨e0, rfl⟩
    · exact ⟨e, he⟩
  refine ⟨h.tidy, fun x e he => ?_, fun z hz => h.miss z fun x hx => ?_, ?_⟩
  · obtain ⟨e0, he0⟩ := hs x ⟨e, he⟩
    rw [hp]; exact h.hit x e0 he0
  · have := hz x hx
    rw [elAt_upd] at this
    split at this
    · cases hx : elAt E x with
      | none => rfl
      | some e0 => rw [hx] at this; cases this
    · exact this
  · rw [h.size]; unfold Dc.upd; rw [List.length_map]
/-- One element turns, in its block and its rows alone. -/
theorem DocAt.upd {P : Program} {TD TE TA TI : TypeId} {base bd next bm cnt : Nat} {w w' : World} {E : Els} {pl : Nat → Plc} {D : DataW Unit} (h : DocAt P TD TE TA TI base w bd E next pl bm cnt D)
    (h1 : TD ≠ TE) (h2 : TD ≠ TA) (h3 : TD ≠ TI) (h4 : TE ≠ TA) (h5 : TE ≠ TI) (h6 : TA ≠ TI) {n : Nat} {e e' : El} {p' : Plc} (he : elAt E n = some e) (hb : p'.blk = (pl n).blk) (hE : ElIn TE TA TI base w' e' p')
    (hav : ∀ b, rowB p'.av = some b → rowB (pl n).av = some b ∨ w.heap.size ≤ b) (hkv : ∀ b, rowB p'.kv = some b → rowB (pl n).kv = some b ∨ w.heap.size ≤ b)
    (hw : ∀ k, k < w.heap.size → k ≠ (pl n).blk → rowB (pl n).av ≠ some k → rowB (pl n).kv ≠ some k → w'.heap[k]? = w.heap[k]?) :
    DocAt P TD TE TA TI base w' bd (Dc.upd E n (fun _ => e')) next (fun x => if x = n then p' else pl x) bm cnt D := by
  have hn := h.els n e he
  -- blocks of n's, by their types
  have ty : ∀ (k : Nat) (cs : Array Value) (T : TypeId), w.heap[k]? = some (.cells cs T (0, 0)) → (T ≠ TE ∨ k ≠ (pl n).blk) → (T ≠ TA ∨ rowB (pl n).av ≠ some k) → (T ≠ TI ∨ rowB (pl n).kv ≠ some k) → w'.heap[k]? = w.heap[k]? := by
    intro k cs T hk a1 a2 a3
    refine hw k (Array.getElem?_eq_some_iff.1 hk).1 (fun e1 => ?_) (fun e2 => ?_) (fun e3 => ?_)
    · rcases a1 with a1 | a1
      · have := hn.cell; rw [← e1, hk] at this; injection this with this; injection this with _ this; exact a1 this
      · exact a1 e1
    · rcases a2 with a2 | a2
      · obtain ⟨_, _, cur, hc⟩ := hn.attrs.rowB e2
        rw [hk] at hc; injection hc with hc; injection hc with _ hc; exact a2 hc
      · exact a2 e2
    · rcases a3 with a3 | a3
      · obtain ⟨_, _, cur, hc⟩ := hn.kids.rowB e3
        rw [hk] at hc; injection hc with hc; injection hc with _ hc; exact a3 hc
      · exact a3 e3
  refine ⟨h.geD, h.geM, ?_, ?_, h.md.upd n _ (fun x => ?_), ?_, ?_⟩
  · exact (ty bd _ TD h.doc (.inl h1) (.inl h2) (.inl h3)).trans h.doc
  · refine map_below h.map (hw bm h.map.lt (fun e1 => ?_) (fun e2 => ?_) (fun e3 => ?_))
    · obtain ⟨es, cl, hm, _⟩ := h.map
      have := hn.cell; rw [← e1, hm] at this; cases this
    · obtain ⟨es, cl, hm, _⟩ := h.map
      obtain ⟨_, _, cur, hc⟩ := hn.attrs.rowB e2
      rw [hm] at hc; cases hc
    · obtain ⟨es, cl, hm, _⟩ := h.map
      obtain ⟨_, _, cur, hc⟩ := hn.kids.rowB e3
      rw [hm] at hc; cases hc
  · by_cases hx : x = n
    · subst hx; rw [if_pos rfl]; exact hb
    · rw [if_neg hx]
  · intro x ex hex
    rw [elAt_upd] at hex
    by_cases hx : x = n
    · subst hx
      rw [if_pos rfl, he] at hex
      cases hex
      rw [if_pos rfl]; exact hE
    · rw [if_neg hx] at hex ⊢
      have hex' := h.els x ex hex
      have hne := h.ne x n ex e hx hex he
      refine ⟨hex'.ge, (ty _ _ TE hex'.cell (.inr hne.1) (.inl h4) (.inl h5)).trans hex'.cell, hex'.attrs.kept fun b hb' => ?_, hex'.kids.kept fun b hb' => ?_⟩
      · obtain ⟨_, _, cur, hc⟩ := hex'.attrs.rowB hb'
        exact ty b cur TA hc (.inl (fun h => h4 h.symm)) (.inr (hne.2.1 b hb')) (.inl h6)
      · obtain ⟨_, _, cur, hc⟩ := hex'.kids.rowB hb'
        exact ty b cur TI hc (.inl (fun h => h5 h.symm)) (.inl (fun h => h6 h.symm)) (.inr (hne.2.2 b hb'))
  · -- apart
    have back : ∀ x ex, elAt (Dc.upd E n (fun _ => e')) x = some ex → ∃ e0, elAt E x = some e0 := by
      intro x ex hex
      rw [elAt_upd] at hex
      split at hex
      · cases hx : elAt E x with
        | none => rw [hx] at hex; cases hex
        | some e0 => exact ⟨e0, rfl⟩
      · exact ⟨ex, hex⟩
    intro x y ex ey hxy hex hey
    obtain ⟨e0, he0⟩ := back x ex hex
    obtain ⟨f0, hf0⟩ := back y ey hey
    have h0 := h.ne x y e0 f0 hxy he0 hf0
    by_cases hx : x = n
    · subst hx
      rw [if_pos rfl, if_neg (fun h => hxy h.symm)]
      refine ⟨by rw [hb]; exact h0.1, fun b hb1 => ?_, fun b hb1 => ?_⟩
      · rcases hav b hb1 with h' | h'
        · exact h0.2.1 b h'
        · intro h''
          have := ((h.els y f0 hf0).attrs.rowB h'').2.1; omega
      · rcases hkv b hb1 with h' | h'
        · exact h0.2.2 b h'
        · intro h''
          have := ((h.els y f0 hf0).kids.rowB h'').2.1; omega
    · rw [if_neg hx]
      by_cases hy : y = n
      · subst hy
        rw [if_pos rfl]
        refine ⟨by rw [hb]; exact h0.1, fun b hb1 hb2 => ?_, fun b hb1 hb2 => ?_⟩
        · rcases hav b hb2 with h' | h'
          · exact h0.2.1 b hb1 h'
          · have := ((h.els x e0 he0).attrs.rowB hb1).2.1; omega
        · rcases hkv b hb2 with h' | h'
          · exact h0.2.2 b hb1 h'
          · have := ((h.els x e0 he0).kids.rowB hb1).2.1; omega
      · rw [if_neg hy]; exact h0
end Lead.Dc

/-
  A document in memory: its next number turns; an element is put into the map, or taken out of it.
-/
namespace Lead.Dc
open Go Go.RowKit Lead
theorem lit_ne {a b : Int} (h : a ≠ b) : (Lit.int .i64 a) ≠ Lit.int .i64 b := fun e => h (by injection e)
theorem MapD.put {D : DataW Unit} {E : Els} {pl : Nat → Plc} (h : MapD D E pl) {n : Nat} {e : El} {p : Plc} (hn : elAt E n = none) :
    MapD (D.put (.int .i64 (n : Int)) (.lit (.int .i64 (p.blk : Int)))) (E ++ [(n, e)]) (fun x => if x = n then p else pl x) := by
  have hk : n ∉ E.map (·.1) := fun hk => by
    obtain ⟨e0, he0⟩ := elAt_some.2 hk
    rw [hn] at he0; cases he0
  have hkl : WideAt.IsKeyLit (Lit.int .i64 (n : Int)) := trivial
  have hm := h.tidy.isMap
  have h0 : Go.Maps.has D (.int .i64 (n : Int)) = false := h.miss _ fun x hx => by
    have : x = n := by omega
    rw [this]; exact hn
  refine ⟨h.tidy.put hkl _, fun x ex hex => ?_, fun z hz => ?_, ?_⟩
  · rw [elAt_append E n e hk] at hex
    by_cases hx : x = n
    · subst hx
      rw [if_pos rfl]
      exact ⟨Go.Maps.atKey_put_same hm hkl _ _, Go.Maps.has_put_same hm hkl _⟩
    · rw [if_neg hx] at hex ⊢
      have hne : (Lit.int .i64 (x : Int)) ≠ Lit.int .i64 (n : Int) := lit_ne (by omega)
      rw [Go.Maps.atKey_put_other hne, Go.Maps.has_put_other hne]
      exact h.hit x ex hex
  · have hzn : z ≠ (n : Int) := fun hh => by
      have := hz n hh
      rw [elAt_append E n e hk, if_pos rfl] at this; cases this
    rw [Go.Maps.has_put_other (lit_ne hzn)]
    refine h.miss z fun x hx => ?_
    have := hz x hx
    rw [elAt_append E n e hk] at this
    split at this
    · cases this
    · exact this
  · rw [Go.Maps.size_put h.tidy, h0, h.size, if_neg (by simp), List.length_append]; rfl
def dropE (E : Els) (n : Nat) : Els := E.filter fun x => x.1 != n
theorem dropE_at (E : Els) (n x : Nat) : elAt (dropE E n) x = if x = n then none else elAt E x := by
  unfold dropE
  rw [elAt_filter (p := fun x => x != n)]
  by_cases h : x = n
  · rw [if_pos h, if_neg (by simp [h])]
  · rw [if_neg h, if_pos (by simp [h])]
theorem dropE_len {E : Els} (hk : (E.map (·.1)).Nodup) {n : Nat} {e : El} (h : elAt E n = some e) : (dropE E n).length + 1 = E.length := by
  induction E with
  | nil => cases h
  | cons x E ih =>
    rw [List.map_cons, List.nodup_cons] at hk
    rw [elAt_cons] at h
    show ((x :: E).filter fun x => x.1 != n).length + 1 = (x :: E).length
    rw [List.filter_cons]
    by_cases hx : x.1 = n
    · have hb : (x.1 != n) = false := by simp [hx]
      rw [hb, if_neg (by simp)]
      have : (E.filter fun x => x.1 != n) = E := List.filter_eq_self.2 fun a ha => by
        have : a.1 ≠ n := fun he => hk.1 (List.mem_map.2 ⟨a, ha, by rw [he, hx]⟩)
        simpa using this
      rw [this]; rfl
    · rw [if_neg hx] at h
      have hb : (x.1 != n) = true := by simp [hx]
      rw [hb, if_pos rfl]
      have := ih hk.2 h
      show ((E.filter fun x => x.1 != n).length + 1) + 1 = E.length + 1
      unfold dropE at this
      omega
theorem MapD.del {D : DataW Unit} {E : Els} {pl : Nat → Plc} (h : MapD D E pl) (hk : (E.map (·.1)).Nodup) {n : Nat} {e : El} (hn : elAt E n = some e) :
    MapD (D.del (.int .i64 (n : Int))) (dropE E n) pl := by
  refine ⟨h.tidy.del _, fun x ex hex => ?_, fun z hz => ?_, ?_⟩
  · rw [dropE_at] at hex
    by_cases hx : x = n
    · rw [if_pos hx] at hex; cases hex
    · rw [if_neg hx] at hex
      have hne : (Lit.int .i64 (x : Int)) ≠ Lit.int .i64 (n : Int) := lit_ne (by omega)
      rw [Go.Maps.atKey_del_other hne, Go.Maps.has_del_other hne]
      exact h.hit x ex hex
  · by_cases hzn : z = (n : Int)
    · rw [hzn]; exact Go.Maps.has_del_same
    · rw [Go.Maps.has_del_other (lit_ne hzn)]
      refine h.miss z fun x hx => ?_
      have := hz x hx
      rw [dropE_at, if_neg (by omega)] at this
      exact this
  · have h1 := Go.Maps.size_del (k := Lit.int .i64 (n : Int)) h.tidy
    rw [(h.hit n e hn).2, if_pos rfl, h.size] at h1
    have h2 := dropE_len hk hn
    omega
variable {P : Program} {TD TE TA TI : TypeId} {base bd next bm cnt : Nat} {w w' : World} {E : Els} {pl : Nat → Plc} {D : DataW Unit}
/-- The number that comes next turns. -/
theorem DocAt.later (h : DocAt P TD TE TA TI base w bd E next pl bm cnt D) (h1 : TD ≠ TE) (h2 : TD ≠ TA) (h3 : TD ≠ TI) {next' : Nat} (hd : w'.heap[bd]? = some (.cells #[.map (some bm), .int .i64 (next' : Int)] TD (0, 0)))
    (hw : ∀ k, k < w.heap.size → k ≠ bd → w'.heap[k]? = w.heap[k]?) : DocAt P TD TE TA TI base w' bd E next' pl bm cnt D := by
  have ty : ∀ (k : Nat) (cs : Array Value) (T : TypeId), w.heap[k]? = some (.cells cs T (0, 0)) → TD ≠ T → w'.heap[k]? = w.heap[k]? := by
    intro k cs T hk hT
    refine hw k (Array.getElem?_eq_some_iff.1 hk).1 (fun e => ?_)
    have := h.doc
    rw [← e, hk] at this; injection this with this; injection this with _ this; exact hT this.symm
  refine ⟨h.geD, h.geM, hd, map_below h.map (hw bm h.map.lt (fun e => ?_)), h.md, fun n e he => ?_, h.ne⟩
  · obtain ⟨es, cl, hm, _⟩ := h.map
    have := h.doc; rw [← e, hm] at this; cases this
  · have hx := h.els n e he
    refine ⟨hx.ge, (ty _ _ TE hx.cell h1).trans hx.cell, hx.attrs.kept fun b hb => ?_, hx.kids.kept fun b hb => ?_⟩
    · obtain ⟨_, _, cur, hc⟩ := hx.attrs.rowB hb
      exact ty b cur TA hc h2
    · obtain ⟨_, _, cur, hc⟩ := hx.kids.rowB hb
      exact ty b cur TI hc h3
/-- What no map is stands where the map turns. -/
theorem ElIn.turn {TE TA TI : TypeId} {base bm : Nat} {w w' : World} {e : El} {p : Plc} (hx : ElIn TE TA TI base w e p) {es : Array MapEntry} {cl : Nat} (hm : w.heap[bm]? = some (.map es cl)) (hw : ∀ k, k < w.heap.size → k ≠ bm → w'.heap[k]? = w.heap[k]?) : ElIn TE TA TI base w' e p := by
  have ty : ∀ (k : Nat) (cs : Array Value) (T : TypeId), w.heap[k]? = some (.cells cs T (0, 0)) → w'.heap[k]? = w.heap[k]? := by
    intro k cs T hk
    refine hw k (Array.getElem?_eq_some_iff.1 hk).1 (fun e => ?_)
    rw [e, hm] at hk; cases hk
  refine ⟨hx.ge, (ty _ _ TE hx.cell).trans hx.cell, hx.attrs.kept fun b hb => ?_, hx.kids.kept fun b hb => ?_⟩
  · obtain ⟨_, _, cur, hc⟩ := hx.attrs.rowB hb
    exact ty b cur TA hc
  · obtain ⟨_, _, cur, hc⟩ := hx.kids.rowB hb
    exact ty b cur TI hc
/-- A new element is put into the map. -/
theorem DocAt.put (h : DocAt P TD TE TA TI base w bd E next pl bm cnt D) {n : Nat} {e : El} {p : Plc} (hn : elAt E n = none) (hE : ElIn TE TA TI base w e p)
    (hap : ∀ m f, elAt E m = some f → p.blk ≠ (pl m).blk ∧ (∀ b, rowB p.av = some b → rowB (pl m).av ≠ some b) ∧ (∀ b, rowB p.kv = some b → rowB (pl m).kv ≠ some b))
    (hm : w'.ownsMap P TI pElem bm (cnt + 1) (D.put (.int .i64 (n : Int)) (.lit (.int .i64 (p.blk : Int))))) (hg : w.grownBy w' (some bm)) :
    DocAt P TD TE TA TI base w' bd (E ++ [(n, e)]) next (fun x => if x = n then p else pl x) bm (cnt + 1) (D.put (.int .i64 (n : Int)) (.lit (.int .i64 (p.blk : Int)))) := by
  obtain ⟨es, cl, hmm, _⟩ := h.map
  have hw : ∀ k, k < w.heap.size → k ≠ bm → w'.heap[k]? = w.heap[k]? := fun k hk hne => hg.block k hk (fun e => hne (by injection e))
  have hk : n ∉ E.map (·.1) := fun hk => by
    obtain ⟨e0, he0⟩ := elAt_some.2 hk
    rw [hn] at he0; cases he0
  refine ⟨h.geD, h.geM, ?_, hm, h.md.put hn, fun x ex hex => ?_, fun x y ex ey hxy hex hey => ?_⟩
  · refine (hw bd (Array.getElem?_eq_some_iff.1 h.doc).1 (fun e => ?_)).trans h.doc
    have := h.doc; rw [e, hmm] at this; cases this
  · rw [elAt_append E n e hk] at hex
    by_cases hx : x = n
    · rw [if_pos hx] at hex ⊢
      cases hex; exact hE.turn hmm hw
    · rw [if_neg hx] at hex ⊢
      exact (h.els x ex hex).turn hmm hw
  · rw [elAt_append E n e hk] at hex hey
    by_cases hx : x = n
    · have hy : y ≠ n := fun h => hxy (hx.trans h.symm)
      rw [if_pos hx, if_neg hy]
      rw [if_neg hy] at hey
      exact hap y ey hey
    · rw [if_neg hx] at hex ⊢
      by_cases hy : y = n
      · rw [if_pos hy]
        have := hap x ex hex
        exact ⟨fun h => this.1 h.symm, fun b h1 h2 => this.2.1 b h2 h1, fun b h1 h2 => this.2.2 b h2 h1⟩
      · rw [if_neg hy] at hey ⊢
        exact h.ne x y ex ey hxy hex hey
/-- An element is taken out of the map. -/
theorem DocAt.del (h : DocAt P TD TE TA TI base w bd E next pl bm cnt D) (hkn : (E.map (·.1)).Nodup) {n : Nat} {e : El} (hn : elAt E n = some e)
    (hm : w'.ownsMap P TI pElem bm cnt (D.del (.int .i64 (n : Int)))) (hg : w.grownBy w' (some bm)) :
    DocAt P TD TE TA TI base w' bd (dropE E n) next pl bm cnt (D.del (.int .i64 (n : Int))) := by
  obtain ⟨es, cl, hmm, _⟩ := h.map
  have hw : ∀ k, k < w.heap.size → k ≠ bm → w'.heap[k]? = w.heap[k]? := fun k hk hne => hg.block k hk (fun e => hne (by injection e))
  have old : ∀ x ex, elAt (dropE E n) x = some ex → elAt E x = some ex := fun x ex hex => by
    rw [dropE_at] at hex
    split at hex
    · cases hex
    · exact hex
  refine ⟨h.geD, h.geM, ?_, hm, h.md.del hkn hn, fun x ex hex => (h.els x ex (old x ex hex)).turn hmm hw, fun x y ex ey hxy hex hey => h.ne x y ex ey hxy (old x ex hex) (old y ey hey)⟩
  refine (hw bd (Array.getElem?_eq_some_iff.1 h.doc).1 (fun e => ?_)).trans h.doc
  have := h.doc; rw [e, hmm] at this; cases this
end Lead.Dc

/-
  A node as it comes in: a tree; its attributes and children in rows; how it reads.
-/
namespace Lead.Dc
open Go Go.RowKit Go.ChangeShapes Go.WideShapes Go.ChangeAt Lead
/-- A node, with the slices that its cells hold. -/
inductive NT where
  | mk (name : ByteArray) (ao : Option Addr) (al ac : Nat) (attrs : List (ByteArray × ByteArray)) (ko : Option Addr) (kl kc : Nat) (kids : List NT)
def NT.name : NT → ByteArray | .mk n _ _ _ _ _ _ _ _ => n
def NT.attrs : NT → List (ByteArray × ByteArray) | .mk _ _ _ _ a _ _ _ _ => a
def NT.kids : NT → List NT | .mk _ _ _ _ _ _ _ _ k => k
def NT.vals : NT → List Value | .mk n ao al ac _ ko kl kc _ => [.string n, .slice ao al ac, .slice ko kl kc]
instance : Inhabited NT := ⟨.mk ⟨#[]⟩ none 0 0 [] none 0 0 []⟩
def ENd : Enc NT := ⟨NT.vals, 3, fun n => by cases n; rfl, fun n u h => by cases n; simp [NT.vals] at h; rcases h with rfl | rfl | rfl <;> rfl, by decide⟩
variable {α : Type}
/-- A slice that came in. -/
def SlA (E : Enc α) (w : World) (oa : Option Addr) (len cap : Nat) (xs : List α) : Prop :=
  len = xs.length ∧ len ≤ cap ∧ cap ≤ maxLen ∧ (xs = [] ∨ ∃ b off, oa = some ⟨b, off, none⟩ ∧ b < w.heap.size ∧ RowIn E w b off xs)
theorem SlA.keep {E : Enc α} {w w' : World} {oa : Option Addr} {len cap : Nat} {xs : List α} {B : Nat} (h : SlA E w oa len cap xs) (hb : Below B w w') (hB : B = w.heap.size) : SlA E w' oa len cap xs := by
  obtain ⟨h1, h2, h3, h4⟩ := h
  refine ⟨h1, h2, h3, ?_⟩
  rcases h4 with h4 | ⟨b, off, e, hlt, hr⟩
  · exact .inl h4
  · exact .inr ⟨b, off, e, Nat.lt_of_lt_of_le hlt hb.size, hr.keep hb (by omega)⟩
inductive NodeOk (w : World) : NT → Prop
  | mk {name : ByteArray} {ao : Option Addr} {al ac : Nat} {attrs : List (ByteArray × ByteArray)} {ko : Option Addr} {kl kc : Nat} {kids : List NT} :
      SlA EAt w ao al ac attrs → SlA ENd w ko kl kc kids → (∀ k ∈ kids, NodeOk w k) → NodeOk w (.mk name ao al ac attrs ko kl kc kids)
theorem NodeOk.keep {w w' : World} {B : Nat} (hb : Below B w w') (hB : B = w.heap.size) {n : NT} (h : NodeOk w n) : NodeOk w' n := by
  induction h with
  | mk h1 h2 _ ih => exact .mk (h1.keep hb hB) (h2.keep hb hB) ih
section
variable {H : Type} {enc : TypeId × Value → H} {P : Program} {w : World} {base : Nat} {spare : Nat → Bool} {held : Bool}
/-- A slice of whatever reads. -/
theorem open_rowA [Inhabited α] (E : Enc α) {t e : TypeId} {fuel : Nat} {cs : List Value} {x : DataW H × List MemPlace} {Q : α → Prop} (ht : P.underlying t = some (.slice e)) (hk : P.cellsOf e = E.k)
    (hel : ∀ n, n < fuel → ∀ cs' y, DataW.trod enc P w base spare held n e cs' = some y → ∃ q, cs' = E.enc q ∧ Q q) (h : DataW.trod enc P w base spare held fuel t cs = some x) :
    ∃ oa len cap xs, cs = [.slice oa len cap] ∧ SlA E w oa len cap xs ∧ ∀ q ∈ xs, Q q := by
  rcases DataW.trod_slice ht h with ⟨hcs, _⟩ | ⟨a, len, cap, elems, rest, n, hf, hcs, _, _, hl, hm, hlen, hi, _⟩
  · exact ⟨none, 0, 0, [], hcs, ⟨rfl, Nat.le_refl _, Nat.zero_le _, .inl rfl⟩, fun q hq => by cases hq⟩
  · by_cases h0 : len = 0
    · subst h0
      exact ⟨some a, 0, cap, [], hcs, ⟨rfl, Nat.zero_le _, hm, .inl rfl⟩, fun q hq => by cases hq⟩
    · have hat : ∀ i, i < len → ∃ q : α, Q q ∧ ∀ j v, (E.enc q)[j]? = some v → w.cell? ((a.add (i * E.k)).add j) = some v := by
        intro i him
        have h1 := hi i him
        rw [List.getElem?_eq_getElem (by omega), hk] at h1
        obtain ⟨cs', hc, ht'⟩ := Option.bind_eq_some_iff.1 h1
        obtain ⟨q, rfl, hq⟩ := hel n (by omega) cs' _ ht'
        obtain ⟨_, _, hcell⟩ := World.cells?_some hc
        refine ⟨q, hq, fun j v hv => ?_⟩
        have hj : j < E.k := by rw [← E.len q]; exact (List.getElem?_eq_some_iff.1 hv).1
        exact (hcell j hj).trans hv
      have hfirst : ∃ v, w.cell? a = some v := by
        obtain ⟨q, _, hq⟩ := hat 0 (by omega)
        have : 0 < (E.enc q).length := by rw [E.len]; exact E.pos
        have h1 := hq 0 _ (List.getElem?_eq_getElem this)
        rw [Nat.zero_mul] at h1
        exact ⟨_, by simpa [Addr.add] using h1⟩
      obtain ⟨b, off, spot⟩ := a
      have hsp : spot = none := by
        obtain ⟨v, hv⟩ := hfirst
        exact World.cell?_spot hv
      subst hsp
      have hb : b < w.heap.size := by
        obtain ⟨v, hv⟩ := hfirst
        exact World.block_lt_of_cell? w _ hv
      obtain ⟨f, hf'⟩ := Deep.choose_lt hat
      refine ⟨_, len, cap, (List.range len).map f, hcs, ⟨by simp, hl, hm, .inr ⟨b, off, rfl, hb, ?_⟩⟩, ?_⟩
      · intro i hil j v hv
        have hil' : i < len := by simpa using hil
        simp only [List.getElem_map, List.getElem_range] at hv
        have := (hf' i hil').2 j v hv
        rw [add_cell, add_cell] at this
        exact this
      · intro q hq
        obtain ⟨i, hi', rfl⟩ := List.mem_map.1 hq
        exact (hf' i (List.mem_range.1 hi')).1
/-- The types of a node. -/
structure NodeTys (P : Program) (tN tL tAs tA tS : TypeId) : Prop where
  node : ∃ f0 f1 f2, P.underlying tN = some (.struct #[f0, f1, f2]) ∧ f0.type = tS ∧ f0.offset = 0 ∧ f1.type = tAs ∧ f1.offset = 1 ∧ f2.type = tL ∧ f2.offset = 2
  attr : ∃ f0 f1, P.underlying tA = some (.struct #[f0, f1]) ∧ f0.type = tS ∧ f0.offset = 0 ∧ f1.type = tS ∧ f1.offset = 1
  kids : P.underlying tL = some (.slice tN)
  attrs : P.underlying tAs = some (.slice tA)
  str : P.underlying tS = some .string
  c : P.cellsOf tN = 3 ∧ P.cellsOf tA = 2 ∧ P.cellsOf tS = 1 ∧ P.cellsOf tAs = 1 ∧ P.cellsOf tL = 1
theorem open_attr {tN tL tAs tA tS : TypeId} (T : NodeTys P tN tL tAs tA tS) {fuel : Nat} {cs : List Value} {x : DataW H × List MemPlace} (h : DataW.trod enc P w base spare held fuel tA cs = some x) : ∃ q : ByteArray × ByteArray, cs = EAt.enc q := by
  obtain ⟨f0, f1, hA, a1, a2, a3, a4⟩ := T.attr
  obtain ⟨c1, c2, c3, c4, c5⟩ := T.c
  obtain ⟨y0, y1, m, _, hl, h0, h1⟩ := trod_struct2 hA h
  rw [c2] at hl
  match cs, hl with
  | [v0, v1], _ =>
    rw [a1, a2, c3] at h0
    rw [a3, a4, c3] at h1
    simp only [List.drop_zero, List.take_succ_cons, List.take_zero, List.drop_succ_cons] at h0 h1
    obtain ⟨s0, e0, _⟩ := DataW.trod_string T.str h0
    obtain ⟨s1, e1, _⟩ := DataW.trod_string T.str h1
    simp at e0 e1
    subst e0 e1
    exact ⟨(s0, s1), rfl⟩
theorem open_node {tN tL tAs tA tS : TypeId} (T : NodeTys P tN tL tAs tA tS) : ∀ (fuel : Nat) (cs : List Value) (x : DataW H × List MemPlace), DataW.trod enc P w base spare held fuel tN cs = some x → ∃ n : NT, cs = n.vals ∧ NodeOk w n := by
  intro fuel
  induction fuel using Nat.strongRecOn with
  | ind fuel ih =>
    intro cs x h
    obtain ⟨f0, f1, f2, hN, a1, a2, a3, a4, a5, a6⟩ := T.node
    obtain ⟨c1, c2, c3, c4, c5⟩ := T.c
    obtain ⟨xs, n, hf, _, hl, hlen, hfs⟩ := DataW.trod_struct hN h
    match xs, hlen with
    | [y0, y1, y2], _ =>
      have h0 := hfs 0 f0 rfl
      have h1 := hfs 1 f1 rfl
      have h2 := hfs 2 f2 rfl
      rw [c1] at hl
      match cs, hl with
      | [v0, v1, v2], _ =>
        rw [a1, a2, c3] at h0
        rw [a3, a4, c4] at h1
        rw [a5, a6, c5] at h2
        simp only [List.drop_zero, List.take_succ_cons, List.take_zero, List.drop_succ_cons, List.getElem?_cons_zero, List.getElem?_cons_succ] at h0 h1 h2
        obtain ⟨s0, e0, _⟩ := DataW.trod_string T.str h0
        obtain ⟨ao, al, ac, ats, e1, hs1, _⟩ := open_rowA (Q := fun _ => True) EAt T.attrs c2 (fun m _ cs' y hy => by
          obtain ⟨q, hq⟩ := open_attr T hy
          exact ⟨q, hq, trivial⟩) h1
        obtain ⟨ko, kl, kc, kids, e2, hs2, hk⟩ := open_rowA (Q := NodeOk w) ENd T.kids c1 (fun m hm cs' y hy => ih m (by omega) cs' y hy) h2
        simp at e0 e1 e2
        subst e0 e1 e2
        exact ⟨.mk s0 ao al ac ats ko kl kc kids, rfl, .mk hs1 hs2 hk⟩
end
end Lead.Dc

/-
  A node that came in, as a plain tree.
-/
namespace Lead.Dc
open Go Go.RowKit Lead
mutual
def NT.rt : NT → RT
  | .mk n _ _ _ ats _ _ _ ks => .mk n ats (NT.rtL ks)
def NT.rtL : List NT → List RT
  | [] => []
  | x :: r => x.rt :: NT.rtL r
end
theorem rtL_map (l : List NT) : NT.rtL l = l.map NT.rt := by
  induction l with
  | nil => rfl
  | cons x r ih => rw [NT.rtL, ih]; rfl
theorem rtL_take (l : List NT) (i : Nat) : NT.rtL (l.take i) = (NT.rtL l).take i := by rw [rtL_map, rtL_map, List.map_take]
theorem rt_eq (n : NT) : n.rt = .mk n.name n.attrs (NT.rtL n.kids) := by cases n; rfl
/-- A child is less than its node. -/
theorem kid_less {n k : NT} (h : k ∈ n.kids) : sizeOf k < sizeOf n := by
  cases n with
  | mk nm ao al ac ats ko kl kc ks =>
    have := List.sizeOf_lt_of_mem (show k ∈ ks from h)
    simp only [NT.mk.sizeOf_spec]
    omega
theorem NodeOk.attrsAt {w : World} {n : NT} (h : NodeOk w n) : ∃ ao al ac ko kl kc, n.vals = [.string n.name, .slice ao al ac, .slice ko kl kc] ∧ SlA EAt w ao al ac n.attrs ∧ SlA ENd w ko kl kc n.kids ∧ ∀ k ∈ n.kids, NodeOk w k := by
  cases h with
  | mk h1 h2 h3 => exact ⟨_, _, _, _, _, _, rfl, h1, h2, h3⟩
/-- How deep the children lie, one by one. -/
theorem cntL_app (a b : List RT) : RT.cntL (a ++ b) = RT.cntL a + RT.cntL b := by
  induction a with
  | nil => simp [RT.cntL]
  | cons x r ih => rw [List.cons_append, RT.cntL, RT.cntL, ih]; omega
/-- The check, child by child: where it stands behind the first ones. -/
theorem chkL_app : ∀ (a b : List RT) (i deep : Nat), chkL (a ++ b) i deep = if (chkL a i deep).2 ≠ 0 then chkL a i deep else chkL b (chkL a i deep).1 deep
  | [], b, i, deep => by simp [chkL]
  | x :: r, b, i, deep => by
    rw [List.cons_append, chkL, chkL, chkL_app r]
    by_cases h : (chkN x i deep).2 ≠ 0
    · rw [if_pos h, if_pos h, if_pos h]
    · rw [if_neg h, if_neg h]
theorem chkL_one (x : RT) (i deep : Nat) : chkL [x] i deep = chkN x i deep := by
  rw [chkL]
  split
  · rfl
  · next h => rw [chkL]; exact Prod.ext rfl (Decidable.not_not.1 h).symm
theorem chkL_next {a : List RT} {x : RT} {i deep : Nat} (h : (chkL a i deep).2 = 0) : chkL (a ++ [x]) i deep = chkN x (chkL a i deep).1 deep := by
  rw [chkL_app, if_neg (Decidable.not_not.2 h), chkL_one]
/-- The check stops at the first error. -/
theorem chkL_stop {a b : List RT} {i deep : Nat} (h : (chkL a i deep).2 ≠ 0) : chkL (a ++ b) i deep = chkL a i deep := by rw [chkL_app, if_pos h]
end Lead.Dc

/-
  A document as the walks carry it: its blocks; what its cells, its map and its elements read as; how it stays while other blocks turn.
-/
namespace Lead.Dc
open Go Go.RowKit Go.Maps Go.WideMaps Lead
/-- The types of a document: itself, its element, an attribute, int, its map, an element's pointer. -/
structure Tys where
  D : TypeId
  E : TypeId
  A : TypeId
  I : TypeId
  M : TypeId
  Q : TypeId
structure TysOk (P : Program) (T : Tys) : Prop where
  h1 : T.D ≠ T.E
  h2 : T.D ≠ T.A
  h3 : T.D ≠ T.I
  h4 : T.E ≠ T.A
  h5 : T.E ≠ T.I
  h6 : T.A ≠ T.I
  map : P.underlying T.M = some (.map T.I T.Q)
  int : P.underlying T.I = some (.int .i64)
  zero : ∀ w, (zeroValue T.Q).run P w = .ok (.pointer none) w
theorem hcell {w : World} {g j : Nat} {vs : Array Value} {t : TypeId} {v : Value} (h : w.heap[g]? = some (.cells vs t (0, 0))) (hj : vs[j]? = some v) : w.cell? ⟨g, j, none⟩ = some v := by
  simp [World.cell?, h, hj]
theorem hfree {w : World} {g i : Nat} {vs : Array Value} {t : TypeId} (h : w.heap[g]? = some (.cells vs t (0, 0))) : w.frozen? ⟨g, i, none⟩ = false := by
  simp [World.frozen?, h]
theorem hlt {w : World} {g : Nat} {o : Obj} (h : w.heap[g]? = some o) : g < w.heap.size := (Array.getElem?_eq_some_iff.1 h).1
variable {P : Program} {T : Tys} {w w' : World} {bd next bm cnt : Nat} {E : Els} {pl : Nat → Plc} {D : DataW Unit}
abbrev DAt (P : Program) (T : Tys) (w : World) (bd : Nat) (E : Els) (next : Nat) (pl : Nat → Plc) (bm cnt : Nat) (D : DataW Unit) : Prop := DocAt P T.D T.E T.A T.I 0 w bd E next pl bm cnt D
theorem DocAt.c0 {TD TE TA TI : TypeId} {base : Nat} (h : DocAt P TD TE TA TI base w bd E next pl bm cnt D) : w.cell? ⟨bd, 0, none⟩ = some (.map (some bm)) := hcell h.doc rfl
theorem DocAt.c1 {TD TE TA TI : TypeId} {base : Nat} (h : DocAt P TD TE TA TI base w bd E next pl bm cnt D) : w.cell? ⟨bd, 1, none⟩ = some (.int .i64 (next : Int)) := hcell h.doc rfl
theorem DocAt.fr {TD TE TA TI : TypeId} {base : Nat} (h : DocAt P TD TE TA TI base w bd E next pl bm cnt D) (j : Nat) : w.frozen? ⟨bd, j, none⟩ = false := hfree h.doc
theorem DocAt.ltD {TD TE TA TI : TypeId} {base : Nat} (h : DocAt P TD TE TA TI base w bd E next pl bm cnt D) : bd < w.heap.size := hlt h.doc
section
variable {TE TA TI : TypeId} {base : Nat} {e : El} {p : Plc}
theorem ElIn.e0 (h : ElIn TE TA TI base w e p) : w.cell? ⟨p.blk, 0, none⟩ = some (.string e.name) := hcell h.cell rfl
theorem ElIn.e1 (h : ElIn TE TA TI base w e p) : w.cell? ⟨p.blk, 1, none⟩ = some p.av := hcell h.cell rfl
theorem ElIn.e2 (h : ElIn TE TA TI base w e p) : w.cell? ⟨p.blk, 2, none⟩ = some (.int .i64 e.parent) := hcell h.cell rfl
theorem ElIn.e3 (h : ElIn TE TA TI base w e p) : w.cell? ⟨p.blk, 3, none⟩ = some p.kv := hcell h.cell rfl
theorem ElIn.fr (h : ElIn TE TA TI base w e p) (j : Nat) : w.frozen? ⟨p.blk, j, none⟩ = false := hfree h.cell
theorem ElIn.lt (h : ElIn TE TA TI base w e p) : p.blk < w.heap.size := hlt h.cell
end
variable {α : Type}
/-- A slice of the document's, as a slice that came in. -/
theorem OwnQ.sl {En : Enc α} {base : Nat} {e : TypeId} {v : Value} {xs : List α} (h : OwnQ En w base e v xs) : ∃ oa len cap, v = .slice oa len cap ∧ SlA En w oa len cap xs := by
  rcases h with h | ⟨a, rfl, rfl⟩
  · obtain ⟨h1, ⟨rfl, h2⟩ | ⟨g, cap, cur, rfl, hg, hh, hl, hm, hs, ht⟩⟩ := h
    · have : xs = [] := List.length_eq_zero_iff.1 h2
      subst this
      exact ⟨none, 0, 0, rfl, rfl, Nat.le_refl _, Nat.zero_le _, .inl rfl⟩
    · have hown : OwnR En w base e (.slice (some ⟨g, 0, none⟩) xs.length cap) xs := ⟨h1, .inr ⟨g, cap, cur, rfl, hg, hh, hl, hm, hs, ht⟩⟩
      refine ⟨_, _, _, rfl, rfl, hl, hm, .inr ⟨g, 0, rfl, hlt hh, ?_⟩⟩
      rcases hown.form with ⟨h3, h4⟩ | ⟨g', cap', h3, _, _, _, _, h4⟩
      · cases h3
      · cases h3; exact h4
  · exact ⟨some a, 0, 0, rfl, rfl, Nat.le_refl _, Nat.zero_le _, .inl rfl⟩
/-- All the blocks of a document lie in F, and F holds no block that is not there. -/
structure Foot (w : World) (F : Nat → Prop) (bd bm : Nat) (E : Els) (pl : Nat → Plc) : Prop where
  d : F bd
  m : F bm
  el : ∀ n e, elAt E n = some e → F (pl n).blk
  av : ∀ n e, elAt E n = some e → ∀ b, rowB (pl n).av = some b → F b
  kv : ∀ n e, elAt E n = some e → ∀ b, rowB (pl n).kv = some b → F b
  lt : ∀ k, F k → k < w.heap.size
/-- A document. -/
def Dok (P : Program) (T : Tys) (w : World) (bd : Nat) (F : Nat → Prop) (E : Els) (next : Nat) : Prop :=
  ∃ pl bm cnt D, DAt P T w bd E next pl bm cnt D ∧ cnt ≤ next ∧ Foot w F bd bm E pl
/-- Blocks of F alone have turned. -/
structure Turn (F : Nat → Prop) (w w' : World) : Prop where
  os : w'.os = w.os
  tape : w'.tape = w.tape
  output : w'.output = w.output
  size : w.heap.size ≤ w'.heap.size
  block : ∀ k, k < w.heap.size → ¬ F k → w'.heap[k]? = w.heap[k]?
theorem Turn.of_below {F : Nat → Prop} (h : Below w.heap.size w w') : Turn F w w' := ⟨h.os, h.tape, h.output, h.size, fun k hk _ => h.block k hk⟩
theorem Turn.refl (F : Nat → Prop) (w : World) : Turn F w w := ⟨rfl, rfl, rfl, Nat.le_refl _, fun _ _ _ => rfl⟩
/-- .. and then blocks of F', of which those that were there are F's. -/
theorem Turn.trans {F F' : Nat → Prop} {a b c : World} (h : Turn F a b) (k : Turn F' b c) (hF : ∀ i, i < a.heap.size → F' i → F i) : Turn F a c :=
  ⟨k.os.trans h.os, k.tape.trans h.tape, k.output.trans h.output, Nat.le_trans h.size k.size, fun i hi hn => (k.block i (Nat.lt_of_lt_of_le hi h.size) (fun h' => hn (hF i hi h'))).trans (h.block i hi hn)⟩
theorem Turn.below {F : Nat → Prop} {B : Nat} (h : Turn F w w') (hB : B ≤ w.heap.size) (hF : ∀ k, F k → B ≤ k) : Below B w w' :=
  ⟨h.os, h.tape, h.output, h.size, fun k hk => h.block k (Nat.lt_of_lt_of_le hk hB) (fun hf => by have := hF k hf; omega)⟩
theorem Turn.mono {F F' : Nat → Prop} (h : Turn F w w') (hF : ∀ k, F k → F' k) : Turn F' w w' := ⟨h.os, h.tape, h.output, h.size, fun k hk hn => h.block k hk (fun hf => hn (hF k hf))⟩
theorem Turn.cell {F : Nat → Prop} (h : Turn F w w') {p : Addr} (hp : p.block < w.heap.size) (hn : ¬ F p.block) : w'.cell? p = w.cell? p := World.cell?_of_block (w := w) (h.block p.block hp hn)
theorem Turn.frozen {F : Nat → Prop} (h : Turn F w w') {p : Addr} (hp : p.block < w.heap.size) (hn : ¬ F p.block) : w'.frozen? p = w.frozen? p := World.frozen?_of_block (w := w) (h.block p.block hp hn)
theorem Turn.row {F : Nat → Prop} {En : Enc α} {b off : Nat} {xs : List α} (h : Turn F w w') (hr : RowIn En w b off xs) (hp : b < w.heap.size) (hn : ¬ F b) : RowIn En w' b off xs := hr.of fun o => h.cell (p := ⟨b, o, none⟩) hp hn
theorem Foot.keep {F : Nat → Prop} {bm : Nat} (h : Foot w F bd bm E pl) (hs : w.heap.size ≤ w'.heap.size) : Foot w' F bd bm E pl := ⟨h.d, h.m, h.el, h.av, h.kv, fun k hk => Nat.lt_of_lt_of_le (h.lt k hk) hs⟩
theorem Dok.keep {F : Nat → Prop} (h : Dok P T w bd F E next) (hb : Below w.heap.size w w') : Dok P T w' bd F E next := by
  obtain ⟨pl, bm, cnt, D, h1, h2, h3⟩ := h
  exact ⟨pl, bm, cnt, D, h1.keep hb, h2, h3.keep hb.size⟩
theorem Dok.lt {F : Nat → Prop} (h : Dok P T w bd F E next) : bd < w.heap.size := by
  obtain ⟨pl, bm, cnt, D, h1, _⟩ := h
  exact h1.ltD
theorem Dok.inF {F : Nat → Prop} (h : Dok P T w bd F E next) : F bd := by
  obtain ⟨pl, bm, cnt, D, _, _, h3⟩ := h
  exact h3.d
theorem Dok.F_lt {F : Nat → Prop} (h : Dok P T w bd F E next) : ∀ k, F k → k < w.heap.size := by
  obtain ⟨pl, bm, cnt, D, _, _, h3⟩ := h
  exact h3.lt
/-- How the map is asked. -/
theorem i64_key {a : Int} (h : I64 a) : (Lit.int .i64 a).wf = true := by
  unfold I64 at h
  simp [Lit.wf, IntKind.min, IntKind.max, IntKind.signed, IntKind.bits]
  omega
theorem key_of (K : TysOk P T) {a : Int} (h : I64 a) : keyOf P T.I (.int .i64 a) = some (.int .i64 a) := keyOf_int_mk K.int (i64_key h)
theorem DocAt.hit (K : TysOk P T) (h : DAt P T w bd E next pl bm cnt D) {n : Nat} {e : El} (he : elAt E n = some e) (hn : I64 (n : Int)) :
    (Instr.lookup T.M (.map (some bm)) (.int .i64 (n : Int)) false).run P w = .ok (.pointer (some ⟨(pl n).blk, 0, none⟩)) w ∧ (Instr.lookup T.M (.map (some bm)) (.int .i64 (n : Int)) true).run P w = .ok (.tuple #[.pointer (some ⟨(pl n).blk, 0, none⟩), .bool true]) w := by
  obtain ⟨v, ps, hrun, hv⟩ := h.map.lookup (int_keyed K.int) K.map (K.zero w) (zd := .nil) (zp := []) rfl (key_of K hn)
  obtain ⟨v2, ps2, hrun2, hv2⟩ := h.map.look_ok (int_keyed K.int) K.map (K.zero w) (zd := .nil) (zp := []) rfl (key_of K hn)
  obtain ⟨h1, h2⟩ := h.md.hit n e he
  rw [h1] at hv hv2
  rw [h2] at hrun2
  rw [pElem_some hv] at hrun
  rw [pElem_some hv2] at hrun2
  exact ⟨hrun, hrun2⟩
theorem DocAt.miss (K : TysOk P T) (h : DAt P T w bd E next pl bm cnt D) {z : Int} (hz : ∀ n : Nat, z = n → elAt E n = none) (hn : I64 z) :
    (Instr.lookup T.M (.map (some bm)) (.int .i64 z) false).run P w = .ok (.pointer none) w ∧ (Instr.lookup T.M (.map (some bm)) (.int .i64 z) true).run P w = .ok (.tuple #[.pointer none, .bool false]) w := by
  obtain ⟨v, ps, hrun, hv⟩ := h.map.lookup (int_keyed K.int) K.map (K.zero w) (zd := .nil) (zp := []) rfl (key_of K hn)
  obtain ⟨v2, ps2, hrun2, hv2⟩ := h.map.look_ok (int_keyed K.int) K.map (K.zero w) (zd := .nil) (zp := []) rfl (key_of K hn)
  rw [h.md.nil hz] at hv hv2
  rw [h.md.miss z hz] at hrun2
  rw [pElem_nil hv] at hrun
  rw [pElem_nil hv2] at hrun2
  exact ⟨hrun, hrun2⟩
/-- .. at the operation. -/
theorem wp_hit {ops : Array Oper} {rest : List Oper} {o : Oper} {a : Act} {Q : Exit → Act → World → Prop} (K : TysOk P T) (hg : o.guard = none) (m x : Operand) (hop : o.op = Op.lookup T.M m x false)
    (hm : a.eval m = .map (some bm)) {n : Nat} {e : El} (hx : a.eval x = .int .i64 (n : Int)) (h : DAt P T w bd E next pl bm cnt D) (he : elAt E n = some e) (hn : I64 (n : Int))
    (hK : wpList P ops Q rest (a.put o.dst (.pointer (some ⟨(pl n).blk, 0, none⟩))) w) : wpList P ops Q (o :: rest) a w := by
  refine wpList_plain hg fun K' hK' => ?_
  obtain ⟨h1, h2⟩ := h.hit K he hn
  unfold Oper.wp
  simp [execOp, hop, hm, hx, h1, Result.andThen]
  exact hK' _ _ hK
theorem wp_hit_ok {ops : Array Oper} {rest : List Oper} {o : Oper} {a : Act} {Q : Exit → Act → World → Prop} (K : TysOk P T) (hg : o.guard = none) (m x : Operand) (hop : o.op = Op.lookup T.M m x true)
    (hm : a.eval m = .map (some bm)) {n : Nat} {e : El} (hx : a.eval x = .int .i64 (n : Int)) (h : DAt P T w bd E next pl bm cnt D) (he : elAt E n = some e) (hn : I64 (n : Int))
    (hK : wpList P ops Q rest (a.put o.dst (.tuple #[.pointer (some ⟨(pl n).blk, 0, none⟩), .bool true])) w) : wpList P ops Q (o :: rest) a w := by
  refine wpList_plain hg fun K' hK' => ?_
  obtain ⟨h1, h2⟩ := h.hit K he hn
  unfold Oper.wp
  simp [execOp, hop, hm, hx, h2, Result.andThen]
  exact hK' _ _ hK
theorem wp_miss_ok {ops : Array Oper} {rest : List Oper} {o : Oper} {a : Act} {Q : Exit → Act → World → Prop} (K : TysOk P T) (hg : o.guard = none) (m x : Operand) (hop : o.op = Op.lookup T.M m x true)
    (hm : a.eval m = .map (some bm)) {z : Int} (hx : a.eval x = .int .i64 z) (h : DAt P T w bd E next pl bm cnt D) (hz : ∀ n : Nat, z = n → elAt E n = none) (hn : I64 z)
    (hK : wpList P ops Q rest (a.put o.dst (.tuple #[.pointer none, .bool false])) w) : wpList P ops Q (o :: rest) a w := by
  refine wpList_plain hg fun K' hK' => ?_
  obtain ⟨h1, h2⟩ := h.miss K hz hn
  unfold Oper.wp
  simp [execOp, hop, hm, hx, h2, Result.andThen]
  exact hK' _ _ hK
/-- An element of any number. -/
def atZ (E : Els) (z : Int) : Option El := if 0 ≤ z then elAt E z.toNat else none
def parZ (E : Els) (z : Int) : Int := match atZ E z with
  | some e => e.parent
  | none => -1
def kidsZ (E : Els) (z : Int) : List Nat := match atZ E z with
  | some e => e.kids
  | none => []
def nameZ (E : Els) (z : Int) : ByteArray := match atZ E z with
  | some e => e.name
  | none => ⟨#[]⟩
theorem atZ_some {z : Int} {e : El} (h : atZ E z = some e) : ∃ n : Nat, z = n ∧ elAt E n = some e := by
  unfold atZ at h
  by_cases hz : 0 ≤ z
  · rw [if_pos hz] at h
    exact ⟨z.toNat, by omega, h⟩
  · rw [if_neg hz] at h; cases h
theorem atZ_none {z : Int} (h : atZ E z = none) : ∀ n : Nat, z = n → elAt E n = none := by
  rintro n rfl
  unfold atZ at h
  rw [if_pos (Int.natCast_nonneg n), Int.toNat_natCast] at h
  exact h
theorem atZ_nat (n : Nat) : atZ E (n : Int) = elAt E n := by unfold atZ; rw [if_pos (Int.natCast_nonneg n), Int.toNat_natCast]
theorem parZ_nat {n : Nat} {e : El} (h : elAt E n = some e) : parZ E n = e.parent := by unfold parZ; rw [atZ_nat, h]
theorem kidsZ_nat {n : Nat} {e : El} (h : elAt E n = some e) : kidsZ E n = e.kids := by unfold kidsZ; rw [atZ_nat, h]
theorem nameZ_nat {n : Nat} {e : El} (h : elAt E n = some e) : nameZ E n = e.name := by unfold nameZ; rw [atZ_nat, h]
theorem i64_nat {n : Nat} (h : n ≤ 1000000000) : I64 (n : Int) := by unfold I64; omega
/-- Children are no more than elements. -/
theorem Good.kids_len {d : Nat → Nat} (g : Good E next d) {n : Nat} {e : El} (h : elAt E n = some e) : e.kids.length ≤ E.length := by
  have h1 := g.nd n e h
  have h2 : e.kids ⊆ E.map (·.1) := fun x hx => by
    obtain ⟨ke, hke, _⟩ := g.down n e x h hx
    exact elAt_some.1 ⟨ke, hke⟩
  have h3 : e.kids.Perm ((E.map (·.1)).filter fun x => decide (x ∈ e.kids)) := (List.perm_ext_iff_of_nodup h1 (g.keys.sublist List.filter_sublist)).2 fun x => by
    rw [List.mem_filter]
    exact ⟨fun hx => ⟨h2 hx, decide_eq_true hx⟩, fun hx => of_decide_eq_true hx.2⟩
  have h4 := List.length_filter_le (fun x => decide (x ∈ e.kids)) (E.map (·.1))
  rw [h3.length_eq]
  rw [List.length_map] at h4
  exact h4
end Lead.Dc

/-
  Rows of the document's own: a number more among them, or out of them (slices.Insert, slices.DeleteFunc): what comes is a row of the document's own again.
-/
namespace Lead.Dc
open Go Go.RowKit Lead Go.Proofs Go.Shelf
/-- Of what there was, a row's block alone has turned. -/
structure RowTurn (v : Value) (w w' : World) : Prop where
  os : w'.os = w.os
  tape : w'.tape = w.tape
  output : w'.output = w.output
  size : w.heap.size ≤ w'.heap.size
  block : ∀ k, k < w.heap.size → rowB v ≠ some k → w'.heap[k]? = w.heap[k]?
variable {α : Type} {w w' : World}
theorem set_block (b : Nat) : ∀ (vs : List Value) (o : Nat) (w : World) (cs : Array Value) (T : TypeId), w.heap[b]? = some (.cells cs T (0, 0)) → ∃ cs', (w.setCells b o vs).heap[b]? = some (.cells cs' T (0, 0)) ∧ cs'.size = cs.size
  | [], _, w, cs, T, h => ⟨cs, h, rfl⟩
  | v :: r, o, w, cs, T, h => by
    obtain ⟨cs', h1, h2⟩ := set_block b r (o + 1) (w.setCell ⟨b, o, none⟩ v) _ T (heap_setCell_same w b o cs T v h)
    exact ⟨cs', h1, by rw [h2]; simp⟩
theorem set_size (b : Nat) : ∀ (vs : List Value) (o : Nat) (w : World), (w.setCells b o vs).heap.size = w.heap.size
  | [], _, _ => rfl
  | v :: r, o, w => by rw [World.setCells, set_size b r]; simp
theorem set_tape (b : Nat) : ∀ (vs : List Value) (o : Nat) (w : World), (w.setCells b o vs).tape = w.tape
  | [], _, _ => rfl
  | v :: r, o, w => by rw [World.setCells, set_tape b r]; rfl
theorem cell_of {w : World} {g : Nat} {cs : Array Value} {T : TypeId} (h : w.heap[g]? = some (.cells cs T (0, 0))) (j : Nat) : w.cell? ⟨g, j, none⟩ = cs[j]? := by simp [World.cell?, h]
/-- A row, out of its cells. -/
theorem own_cells {En : Enc α} {base g cap : Nat} {e : TypeId} {xs : List α} {cur : Array Value} (h : w.heap[g]? = some (.cells cur e (0, 0))) (hb : base ≤ g) (hs : cur.size = cap * En.k) (hl : xs.length ≤ cap) (hm : cap ≤ maxLen)
    (hc : ∀ j u, (En.flat xs)[j]? = some u → w.cell? ⟨g, j, none⟩ = some u) : OwnR En w base e (.slice (some ⟨g, 0, none⟩) xs.length cap) xs := by
  refine ⟨En.flat_len xs, .inr ⟨g, cap, cur, rfl, hb, h, hl, hm, hs, ?_⟩⟩
  apply List.ext_getElem?
  intro j
  by_cases hj : j < xs.length * En.k
  · have hj' : j < (En.flat xs).length := by rw [En.flat_len]; exact hj
    rw [List.getElem?_take_of_lt hj, Array.getElem?_toList, ← cell_of h, hc j _ (List.getElem?_eq_getElem hj'), List.getElem?_eq_getElem hj']
  · rw [List.getElem?_eq_none (by rw [List.length_take]; omega), List.getElem?_eq_none (by rw [En.flat_len]; omega)]
/-! ### numbers -/
theorem flatI (xs : List Nat) : EIn.flat xs = xs.map fun n : Nat => Value.int .i64 (n : Int) := by
  induction xs with
  | nil => rfl
  | cons x r ih => rw [List.map_cons, ← ih]; rfl
theorem insK_at (l : List Nat) (i n : Nat) (hi : i ≤ l.length) (j : Nat) : (insK l i n)[j]? = if j < i then l[j]? else if j = i then some n else l[j - 1]? := by
  unfold insK
  by_cases h1 : j < i
  · rw [if_pos h1, List.getElem?_append_left (by rw [List.length_take]; omega), List.getElem?_take_of_lt h1]
  · rw [if_neg h1, List.getElem?_append_right (by rw [List.length_take]; omega), List.length_take, Nat.min_eq_left hi]
    by_cases h2 : j = i
    · subst h2; rw [if_pos rfl, Nat.sub_self]; rfl
    · rw [if_neg h2]
      obtain ⟨d, hd⟩ : ∃ d, j - i = d + 1 := ⟨j - i - 1, by omega⟩
      rw [hd, List.getElem?_cons_succ, List.getElem?_drop]
      congr 1; omega
theorem insK_len (l : List Nat) (i n : Nat) (hi : i ≤ l.length) : (insK l i n).length = l.length + 1 := by
  unfold insK
  rw [List.length_append, List.length_cons, List.length_take, List.length_drop]; omega
theorem insK_end (l : List Nat) (n : Nat) : insK l l.length n = l ++ [n] := by unfold insK; rw [List.take_of_length_le (Nat.le_refl _), List.drop_of_length_le (Nat.le_refl _)]
variable {P : Program} {ρ : Ren}
/-- What becomes of a row of numbers. -/
def InsPost (base : Nat) (t : TypeId) (kv : Value) (l : List Nat) (W : World) (e : Ending) (w' : World) : Prop :=
  ∃ v', e = .returned v' ∧ OwnR EIn w' base t v' l ∧ RowTurn kv W w' ∧ ∀ b, rowB v' = some b → rowB kv = some b ∨ W.heap.size ≤ b
theorem new_row {W : World} {base : Nat} {t : TypeId} {kv : Value} {l : List Nat} {cs : Array Value} {c : Nat} {w1 : World} (hb : base ≤ W.heap.size) (hw : ∀ k, k < W.heap.size → w1.heap[k]? = W.heap[k]?) (ho : w1.os = W.os ∧ w1.tape = W.tape ∧ w1.output = W.output) (hs : w1.heap.size = W.heap.size + 1)
    (hblk : w1.heap[W.heap.size]? = some (.cells cs t (0, 0))) (hcs : cs.size = c) (hl : l.length ≤ c) (hm : c ≤ maxLen) (len : Nat) (hlen : len = l.length) (hc : ∀ j u, (EIn.flat l)[j]? = some u → w1.cell? ⟨W.heap.size, j, none⟩ = some u) :
    InsPost base t kv l W (.returned (.slice (some ⟨W.heap.size, 0, none⟩) len c)) w1 := by
  subst hlen
  refine ⟨_, rfl, own_cells hblk hb (by rw [hcs]; exact (Nat.mul_one _).symm) hl hm hc, ⟨ho.1, ho.2.1, ho.2.2, by omega, fun k hk _ => hw k hk⟩, fun b hb' => .inr ?_⟩
  cases c with
  | zero => cases hb'
  | succ c =>
    have : W.heap.size = b := by simpa [rowB] using hb'
    omega
theorem ins_any (L : Lays2.n21 P ρ) {base : Nat} {kv : Value} {kids : List Nat} {W : World} {vb i n : Nat} {tv : TypeId} (hown : OwnQ EIn W base (ρ.t 3) kv kids) (hi : i ≤ kids.length) (hv : W.heap[vb]? = some (.cells #[.int .i64 (n : Int)] tv (0, 0))) (hvb : rowB kv ≠ some vb)
    (hlen : kids.length ≤ 1000000) (hbase : base ≤ W.heap.size) :
    Calls P (ρ.f 21) #[kv, .int .i64 (i : Int), .slice (some ⟨vb, 0, none⟩) 1 1] W (InsPost base (ρ.t 3) kv (insK kids i n) W) := by
  have hvs : ∀ j v, ([Value.int .i64 (n : Int)])[j]? = some v → W.cell? ⟨vb, 0 + j, none⟩ = some v := by
    intro j v h
    rw [Nat.zero_add, cell_of hv]
    cases j with
    | zero => simpa using h
    | succ j => simp at h
  have h1v : ∀ v ∈ [Value.int .i64 (n : Int)], v.oneCell' = true := by intro v h; simp at h; subst h; rfl
  have hcl : (EIn.flat kids).length = kids.length := by rw [flatI, List.length_map]
  have h1c : ∀ v ∈ EIn.flat kids, v.oneCell' = true := EIn.flat_one kids
  have hat : ∀ (l : List Nat) (j : Nat), (EIn.flat l)[j]? = l[j]?.map fun n : Nat => Value.int .i64 (n : Int) := fun l j => by rw [flatI, List.getElem?_map]
  have hil := insK_len kids i n hi
  -- the end, into a new row
  have hgrow : ∀ (oa : Option Addr) (c : Nat), kv = .slice oa kids.length c → (oa = none → kids.length = 0) → kids.length ≤ c → c < kids.length + 1 → i = kids.length → (∀ a, oa = some a → ∀ j v, (EIn.flat kids)[j]? = some v → W.cell? (a.add j) = some v) →
      Calls P (ρ.f 21) #[kv, .int .i64 (i : Int), .slice (some ⟨vb, 0, none⟩) 1 1] W (InsPost base (ρ.t 3) kv (insK kids i n) W) := by
    intro oa c hk hn hlc hcl' hie hcs
    subst hie
    rw [hk]
    refine (Any2.slices_Insert_int_end_grow L oa kids.length c vb 0 1 1 (EIn.flat kids) [.int .i64 (n : Int)] W (by decide) hlc hcl' (by omega) hcl rfl hn hcs hvs h1v).mono ?_
    rintro e w1 ⟨rfl, rfl⟩
    have hge := grownCap_ge W (kids.length + 1) c (ρ.t 3)
    have hmx := grownCap_le_maxLen W (kids.length + 1) c (ρ.t 3) (by unfold maxLen; omega)
    generalize grownCap W (kids.length + 1) c (ρ.t 3) = gc at hge hmx ⊢
    refine new_row (W := W) (w1 := W.drew.alloc (.cells ((EIn.flat kids ++ [Value.int .i64 (n : Int)]).toArray ++ Builtin.zeroCells (Value.int .i64 0).cells (gc - (kids.length + 1))) (ρ.t 3))) hbase (fun k hk => ?_) ⟨rfl, rfl, rfl⟩ (by simp) (heap_alloc_new W.drew _) ?_ (by omega) hmx _ hil.symm (fun j u hj => ?_)
    · exact Below.heap_alloc W.drew _ k hk
    · simp [size_zeroCells, hcl, Value.cells]; omega
    · have h0 := cell_of (heap_alloc_new W.drew (.cells (((EIn.flat kids ++ [Value.int .i64 (n : Int)]).toArray) ++ Builtin.zeroCells (Value.int .i64 0).cells (gc - (kids.length + 1))) (ρ.t 3))) j
      refine h0.trans ?_
      rw [insK_end] at hj
      have hj' : j < (EIn.flat (kids ++ [n])).length := (List.getElem?_eq_some_iff.1 hj).1
      rw [EIn.flat_append] at hj hj'
      have hj2 : j < (EIn.flat kids ++ [Value.int .i64 (n : Int)]).length := hj'
      rw [Array.getElem?_append_left (by simpa using hj2)]
      have hj3 : (EIn.flat kids ++ [Value.int .i64 (n : Int)])[j]? = some u := hj
      simpa using hj3
  rcases hown with hown | ⟨a, rfl, rfl⟩
  · obtain ⟨hx, ⟨rfl, h2⟩ | ⟨g, cap, cur, rfl, hg, hh, hl, hm, hs, ht⟩⟩ := hown
    · have hk0 : kids = [] := List.length_eq_zero_iff.1 h2
      subst hk0
      exact hgrow none 0 rfl (fun _ => rfl) (Nat.le_refl _) (by decide) (by simpa using hi) (fun a ha => by cases ha)
    · have hown : OwnR EIn W base (ρ.t 3) (.slice (some ⟨g, 0, none⟩) kids.length cap) kids := ⟨hx, .inr ⟨g, cap, cur, rfl, hg, hh, hl, hm, hs, ht⟩⟩
      have hs1 : cur.size = cap := by rw [hs]; exact Nat.mul_one _
      have hcs : ∀ j v, (EIn.flat kids)[j]? = some v → W.cell? ⟨g, 0 + j, none⟩ = some v := fun j v hj => by
        have hj' : j < kids.length := by rw [← hcl]; exact (List.getElem?_eq_some_iff.1 hj).1
        rw [Nat.zero_add, cell_of hh, ← Array.getElem?_toList, ← ht] at *
        rw [List.getElem?_take_of_lt (by simpa [EIn] using hj')] at hj
        exact hj
      by_cases hroom : kids.length + 1 ≤ cap
      · have hrb : rowB (.slice (some ⟨g, 0, none⟩) kids.length cap) = some g := by
          cases cap with
          | zero => omega
          | succ c => rfl
        have hne : vb ≠ g := fun e => hvb (by rw [hrb, e])
        have hin : ∀ j, j < cap → (W.cell? ⟨g, j, none⟩).isSome = true := fun j hj => by rw [cell_of hh, Array.getElem?_eq_getElem (by omega)]; rfl
        have done : ∀ w1 : World, (∃ cs', w1.heap[g]? = some (.cells cs' (ρ.t 3) (0, 0)) ∧ cs'.size = cap) → (∀ k, k < W.heap.size → k ≠ g → w1.heap[k]? = W.heap[k]?) → w1.heap.size = W.heap.size → w1.os = W.os → w1.tape = W.tape → w1.output = W.output →
            (∀ j u, (EIn.flat (insK kids i n))[j]? = some u → w1.cell? ⟨g, j, none⟩ = some u) →
            InsPost base (ρ.t 3) (.slice (some ⟨g, 0, none⟩) kids.length cap) (insK kids i n) W (.returned (.slice (some ⟨g, 0, none⟩) (kids.length + 1) cap)) w1 := by
          rintro w1 ⟨cs', a1, a2⟩ a3 a4 a5 a6 a7 a8
          have := own_cells (En := EIn) (base := base) (cap := cap) (xs := insK kids i n) a1 hg (by rw [a2]; exact (Nat.mul_one _).symm) (by omega) hm a8
          rw [hil] at this
          refine ⟨_, rfl, this, ⟨a5, a6, a7, by omega, fun k hk hk' => a3 k hk (fun e => hk' (by rw [hrb, e]))⟩, fun b hb => .inl ?_⟩
          rw [hrb]
          cases cap with
          | zero => omega
          | succ c => exact hb
        by_cases hie : i = kids.length
        · subst hie
          refine (Any2.slices_Insert_int_end_room L g 0 kids.length cap vb 0 1 1 [.int .i64 (n : Int)] W (by decide) hroom (by unfold maxLen at hm; omega) rfl (fun j hj => ?_) (fun j hj => hfree hh) hvs h1v).mono ?_
          · rw [Nat.zero_add]; exact hin _ (by omega)
          · rintro e w1 ⟨rfl, rfl⟩
            obtain ⟨cs', b1, b2⟩ := set_block g [.int .i64 (n : Int)] (0 + kids.length) W cur _ hh
            refine done _ ⟨cs', b1, by omega⟩ (fun k hk hk' => World.heap_setCells_other W g _ _ hk hk') (set_size _ _ _ _) (World.os_setCells _ _ _ _) (set_tape _ _ _ _) (World.output_setCells _ _ _ _) (fun j u hj => ?_)
            rw [hat, insK_at _ _ _ (Nat.le_refl _)] at hj
            by_cases h1 : j < kids.length
            · rw [if_pos h1] at hj
              rw [World.cell?_setCells_out g _ _ _ _ (fun _ _ => .inl (by simpa using h1)), ← Nat.zero_add j]
              exact hcs j u (by rw [hat]; exact hj)
            · by_cases h2 : j = kids.length
              · subst h2
                rw [if_neg h1, if_pos rfl] at hj
                have := World.cell?_setCells_in g [.int .i64 (n : Int)] (0 + kids.length) W (fun t ht => by simp at ht; subst ht; rw [Nat.zero_add]; exact hin _ (by omega)) 0 (by simp)
                simp at hj
                rw [← hj]; simpa using this
              · rw [if_neg h1, if_neg h2, List.getElem?_eq_none (by omega)] at hj; cases hj
        · have hlt : i < kids.length := by omega
          have hsh : ∀ {b : Nat} {cs : Array Value} {t : TypeId}, W.heap[b]? = some (.cells cs t (0, 0)) → W.shape? b = some (t, cs.size) := fun h => by simp [World.shape?, h]
          refine (Any2.slices_Insert_int_shift L g 0 kids.length cap i vb 0 1 1 (EIn.flat kids) [.int .i64 (n : Int)] W hlt (by decide) hroom (by unfold maxLen at hm; omega) hne hcl rfl hcs (fun j hj => by rw [Nat.zero_add]; exact hin _ (by omega)) (fun j hj => hfree hh) hvs h1c h1v
            tv (ρ.t 3) 1 cap (hsh hv) (by rw [hsh hh, hs1]) (by omega) (hfree hv) (hfree hv)).mono ?_
          rintro e w1 ⟨rfl, rfl⟩
          obtain ⟨cs1, b1, b2⟩ := set_block g ((EIn.flat kids).drop i) (0 + (i + 1)) W.drew cur _ hh
          obtain ⟨cs2, b3, b4⟩ := set_block g [.int .i64 (n : Int)] (0 + i) (W.drew.setCells g (0 + (i + 1)) ((EIn.flat kids).drop i)) cs1 _ b1
          refine done _ ⟨cs2, b3, by omega⟩ (fun k hk hk' => ?_) (by rw [set_size, set_size]; rfl) (by rw [World.os_setCells, World.os_setCells]; rfl) (by rw [set_tape, set_tape]; rfl) (by rw [World.output_setCells, World.output_setCells]; rfl) (fun j u hj => ?_)
          · rw [World.heap_setCells_other _ g _ _ (by rw [set_size]; exact hk) hk', World.heap_setCells_other W.drew g _ _ hk hk']; rfl
          · rw [hat, insK_at _ _ _ hi] at hj
            have hsome : ∀ t, t < ((EIn.flat kids).drop i).length → (W.drew.cell? ⟨g, 0 + (i + 1) + t, none⟩).isSome = true := fun t ht => by
              rw [List.length_drop, hcl] at ht
              exact hin _ (by omega)
            by_cases h1 : j < i
            · rw [if_pos h1] at hj
              rw [World.cell?_setCells_out g _ _ _ _ (fun _ _ => .inl (by show j < 0 + i; omega)), World.cell?_setCells_out g _ _ _ _ (fun _ _ => .inl (by show j < 0 + (i + 1); omega)), ← Nat.zero_add j]
              exact hcs j u (by rw [hat]; exact hj)
            · by_cases h2 : j = i
              · subst h2
                rw [if_neg h1, if_pos rfl] at hj
                have h3 := World.cell?_setCells_in g [.int .i64 (n : Int)] (0 + j) (W.drew.setCells g (0 + (j + 1)) ((EIn.flat kids).drop j)) (fun t ht => by
                  simp at ht; subst ht
                  rw [World.cell?_setCells_out g _ _ _ _ (fun _ _ => .inl (by show 0 + j + 0 < 0 + (j + 1); omega))]
                  exact hin _ (by omega)) 0 (by simp)
                simp at h3 hj
                rw [← hj]; simpa using h3
              · rw [if_neg h1, if_neg h2] at hj
                have hjl : j - 1 < kids.length := by
                  cases hx : kids[j - 1]? with
                  | none => rw [hx] at hj; cases hj
                  | some y => exact (List.getElem?_eq_some_iff.1 hx).1
                rw [World.cell?_setCells_out g _ _ _ _ (fun _ _ => .inr (by show 0 + i + 1 ≤ j; omega))]
                have hdl : j - (i + 1) < ((EIn.flat kids).drop i).length := by rw [List.length_drop, hcl]; omega
                have h3 := World.cell?_setCells_in g ((EIn.flat kids).drop i) (0 + (i + 1)) W.drew hsome (j - (i + 1)) hdl
                have e1 : 0 + (i + 1) + (j - (i + 1)) = j := by omega
                rw [e1] at h3
                rw [h3]
                have e2 : ((EIn.flat kids).drop i)[j - (i + 1)]? = kids[j - 1]?.map fun n : Nat => Value.int .i64 (n : Int) := by rw [List.getElem?_drop, hat]; congr 2; omega
                rw [List.getElem?_eq_getElem hdl] at e2
                rw [e2]; exact hj
      · by_cases hie : i = kids.length
        · exact hgrow (some ⟨g, 0, none⟩) cap rfl (fun h => by cases h) hl (by omega) hie (fun a ha j v hj => by cases ha; rw [add_cell]; exact hcs j v hj)
        · have hlt : i < kids.length := by omega
          refine (Any2.slices_Insert_int_grow L g 0 kids.length cap i vb 0 1 1 (EIn.flat kids) [.int .i64 (n : Int)] W hlt (by decide) hl (by omega) (by omega) hcl rfl hcs hvs h1c h1v).mono ?_
          rintro e w1 ⟨rfl, rfl⟩
          have hge := grownCap_ge W (kids.length + 1) cap (ρ.t 3)
          have hmx := grownCap_le_maxLen W (kids.length + 1) cap (ρ.t 3) (by unfold maxLen; omega)
          generalize grownCap W (kids.length + 1) cap (ρ.t 3) = gc at hge hmx ⊢
          obtain ⟨C, hC⟩ : ∃ C, ((EIn.flat kids).take i).toArray ++ Builtin.zeroCells (Value.int .i64 0).cells (kids.length + 1 - i) ++ Builtin.zeroCells (Value.int .i64 0).cells (gc - (kids.length + 1)) = C := ⟨_, rfl⟩
          have hCs : C.size = gc := by rw [← hC]; simp [size_zeroCells, hcl, Value.cells]; omega
          have hCj : ∀ j, j < i → C[j]? = (EIn.flat kids)[j]? := fun j hj => by
            rw [← hC, Array.append_assoc, Array.getElem?_append_left (by simp [hcl]; omega)]
            simp [List.getElem?_take_of_lt hj]
          rw [hC]
          have hA := heap_alloc_new W (.cells C (ρ.t 3))
          obtain ⟨cs1, b1, b2⟩ := set_block W.heap.size [.int .i64 (n : Int)] i (W.alloc (.cells C (ρ.t 3))).drew C _ hA
          obtain ⟨cs2, b3, b4⟩ := set_block W.heap.size ((EIn.flat kids).drop i) (i + 1) ((W.alloc (.cells C (ρ.t 3))).drew.setCells W.heap.size i [.int .i64 (n : Int)]).drew cs1 _ b1
          have hAs : (W.alloc (.cells C (ρ.t 3))).drew.heap.size = W.heap.size + 1 := by simp
          have hin : ∀ j, j < gc → ((W.alloc (.cells C (ρ.t 3))).drew.cell? ⟨W.heap.size, j, none⟩).isSome = true := fun j hj => by
            rw [World.cell?_drew, cell_of hA, Array.getElem?_eq_getElem (by omega)]; rfl
          have hin2 : ∀ j, j < gc → (((W.alloc (.cells C (ρ.t 3))).drew.setCells W.heap.size i [.int .i64 (n : Int)]).drew.cell? ⟨W.heap.size, j, none⟩).isSome = true := fun j hj => by
            rw [World.cell?_drew, cell_of b1, Array.getElem?_eq_getElem (by omega)]; rfl
          refine new_row hbase (fun k hk => ?_) ⟨by rw [World.os_setCells]; exact World.os_setCells _ _ _ _, by rw [set_tape]; exact set_tape _ _ _ _, by rw [World.output_setCells]; exact World.output_setCells _ _ _ _⟩ ?_ b3 (by omega) (by omega) hmx _ hil.symm (fun j u hj => ?_)
          · rw [World.heap_setCells_other _ _ _ _ (by show k < (World.setCells _ _ _ _).heap.size; rw [set_size, hAs]; omega) (by omega)]
            show (World.setCells _ _ _ _).heap[k]? = _
            rw [World.heap_setCells_other _ _ _ _ (by rw [hAs]; omega) (by omega)]
            exact Below.heap_alloc W _ k hk
          · rw [set_size]
            show (World.setCells _ _ _ _).heap.size = _
            rw [set_size, hAs]
          · rw [hat, insK_at _ _ _ hi] at hj
            by_cases h1 : j < i
            · rw [if_pos h1] at hj
              rw [World.cell?_setCells_out _ _ _ _ _ (fun _ _ => .inl (by show j < i + 1; omega)), World.cell?_drew, World.cell?_setCells_out _ _ _ _ _ (fun _ _ => .inl (by show j < i; omega)), World.cell?_drew, cell_of hA, hCj j h1, hat]
              exact hj
            · by_cases h2 : j = i
              · subst h2
                rw [if_neg h1, if_pos rfl] at hj
                rw [World.cell?_setCells_out _ _ _ _ _ (fun _ _ => .inl (by show j < j + 1; omega)), World.cell?_drew]
                have h3 := World.cell?_setCells_in W.heap.size [.int .i64 (n : Int)] j (W.alloc (.cells C (ρ.t 3))).drew (fun t ht => by simp at ht; subst ht; exact hin _ (by omega)) 0 (by simp)
                simp at h3 hj
                rw [← hj]; simpa using h3
              · rw [if_neg h1, if_neg h2] at hj
                have hjl : j - 1 < kids.length := by
                  cases hx : kids[j - 1]? with
                  | none => rw [hx] at hj; cases hj
                  | some y => exact (List.getElem?_eq_some_iff.1 hx).1
                have hdl : j - (i + 1) < ((EIn.flat kids).drop i).length := by rw [List.length_drop, hcl]; omega
                have h3 := World.cell?_setCells_in W.heap.size ((EIn.flat kids).drop i) (i + 1) ((W.alloc (.cells C (ρ.t 3))).drew.setCells W.heap.size i [.int .i64 (n : Int)]).drew (fun t ht => hin2 _ (by rw [List.length_drop, hcl] at ht; omega)) (j - (i + 1)) hdl
                have e1 : i + 1 + (j - (i + 1)) = j := by omega
                rw [e1] at h3
                rw [h3]
                have e2 : ((EIn.flat kids).drop i)[j - (i + 1)]? = kids[j - 1]?.map fun n : Nat => Value.int .i64 (n : Int) := by rw [List.getElem?_drop, hat]; congr 2; omega
                rw [List.getElem?_eq_getElem hdl] at e2
                rw [e2]; exact hj
  · exact hgrow (some a) 0 rfl (fun h => by cases h) (Nat.le_refl _) (by decide) (by simpa using hi) (fun a' _ j v hj => by simp [flatI] at hj)
/-! ### a number struck -/
theorem put_cells_size {β : Type} [Inhabited β] (enc : β → Value) (off : Nat) (d : Array β) (c : Array Value) : (Sort.putCells enc off d c).size = c.size := by simp [Sort.putCells]
theorem put_block {β : Type} [Inhabited β] {enc : β → Value} {w : World} {g off : Nat} {d : Array β} {cs : Array Value} {T : TypeId} (h : w.heap[g]? = some (.cells cs T (0, 0))) : (Sort.putRow enc w g off d).heap[g]? = some (.cells (Sort.putCells enc off d cs) T (0, 0)) := by
  show (w.heap.modify g _)[g]? = _
  rw [Array.getElem?_modify, if_pos rfl, h]; rfl
theorem put_other {β : Type} [Inhabited β] {enc : β → Value} {w : World} {g off k : Nat} {d : Array β} (h : k ≠ g) : (Sort.putRow enc w g off d).heap[k]? = w.heap[k]? := by
  show (w.heap.modify g _)[k]? = _
  rw [Array.getElem?_modify, if_neg (fun e => h e.symm)]
def encN (n : Nat) : Value := .int .i64 (n : Int)
theorem del_any (L : SlLaysH.n10 P ρ) {base : Nat} {kv : Value} {kids : List Nat} {W : World} {p : Nat → Bool} {g0 : Nat} {lb : Array Value} (eg : ∀ args w, (callFunc g0 args).run P w = .ok (.enter g0 args) w) (hz : ∀ w, (zeroValue (ρ.t 23)).run P w = .ok (.int .i64 0) w)
    {t : TypeId} (hown : OwnQ EIn W base t kv kids) (h0 : 0 < kids.length) (hp : ∀ (W' : World) (x : Nat), (∀ k, k < W.heap.size → rowB kv ≠ some k → W'.heap[k]? = W.heap[k]?) → FnGives P g0 lb #[encN x] (.bool (p x)) W') :
    Calls P (ρ.f 10) #[kv, .func (.func g0) #[] lb] W (InsPost base t kv (kids.filter fun x => !p x) W) := by
  rcases hown with hown | ⟨a, _, rfl⟩
  · obtain ⟨hx, ⟨_, h2⟩ | ⟨g, cap, cur, rfl, hg, hh, hl, hm, hs, ht⟩⟩ := hown
    · omega
    · have hs1 : cur.size = cap := by rw [hs]; exact Nat.mul_one _
      have hcap : ∃ c, cap = c + 1 := ⟨cap - 1, by omega⟩
      have hrb : rowB (.slice (some ⟨g, 0, none⟩) kids.length cap) = some g := by obtain ⟨c, rfl⟩ := hcap; rfl
      have hcell : ∀ j (hj : j < kids.length), cur[j]? = some (encN kids[j]) := fun j hj => by
        have e1 : (cur.toList.take (kids.length * EIn.k))[j]? = (EIn.flat kids)[j]? := by rw [ht]
        rw [List.getElem?_take_of_lt (by simpa [EIn] using hj), Array.getElem?_toList, flatI, List.getElem?_map, List.getElem?_eq_getElem hj] at e1
        exact e1
      have hH : Sort.Holds encN W g 0 kids.toArray := fun j hj => by
        have hj' : j < kids.length := by simpa using hj
        refine ⟨?_, hfree hh⟩
        rw [Nat.zero_add, cell_of hh, hcell j hj']
        congr 2
        rw [getElem!_pos kids.toArray j hj]; simp
      have hgW := hlt hh
      have hP1 : PredAt P g0 lb encN p W := fun W' x hb => hp W' x (fun k hk _ => hb.block k hk)
      have hP2 : PredOver P g0 lb encN p g 0 kids.toArray.size W := fun q os dk x _ => hp _ x (fun k hk hk' => by
        have hne : k ≠ g := fun e => hk' (by rw [hrb, e])
        unfold sortWorld
        rw [Sort.heap_grow_old _ os (by show k < (Sort.putRow _ _ _ _ _).heap.size; rw [Sort.size_putRow]; exact hk), put_other hne]; rfl)
      have hcon := AnyE.slices_DeleteFunc L encN (fun _ => rfl) p g0 lb eg 0 hz g 0 cap kids.toArray W hP1 hP2 hH (by simp; unfold maxLen at hm; omega) (by simpa using hl)
      rw [List.size_toArray] at hcon
      refine hcon.mono ?_
      rintro e w1 ⟨rfl, q, rfl⟩
      have hfl : (kids.filter fun x => !p x).length ≤ kids.length := List.length_filter_le _ _
      obtain ⟨fl, hf⟩ : ∃ fl, (kids.filter fun x => !p x) = fl := ⟨_, rfl⟩
      rw [hf] at hfl ⊢
      have hb1 : (Sort.putRow encN (Sort.ahead W q) g 0 (fl ++ List.replicate (kids.length - fl.length) 0).toArray).heap[g]? = _ := put_block (enc := encN) (w := Sort.ahead W q) hh
      have hown1 := own_cells (En := EIn) (base := base) (cap := cap) (xs := fl) hb1 hg (by rw [put_cells_size, hs1]; exact (Nat.mul_one _).symm) (by omega) hm (fun j u hj => by
        have hj' : j < fl.length := by have := (List.getElem?_eq_some_iff.1 hj).1; rw [flatI, List.length_map] at this; exact this
        rw [cell_of hb1]
        unfold Sort.putCells
        rw [Array.getElem?_mapIdx, Array.getElem?_eq_getElem (show j < cur.size by omega), Option.map_some, if_pos ⟨Nat.zero_le _, by simp; omega⟩, Nat.sub_zero, ← hj, flatI, List.getElem?_map, List.getElem?_eq_getElem hj', Option.map_some]
        congr 1
        rw [getElem!_pos _ j (by simp; omega)]
        simp [encN, hj'])
      refine ⟨_, rfl, hown1, ⟨rfl, rfl, rfl, by rw [Sort.size_putRow]; exact Nat.le_refl _, fun k hk hk' => ?_⟩, fun b hb => .inl ?_⟩
      · have hne : k ≠ g := fun e => hk' (by rw [hrb, e])
        rw [put_other hne]; rfl
      · rw [hrb]
        obtain ⟨c, rfl⟩ := hcap
        exact hb
  · simp at h0
end Lead.Dc

/-
  A copy of a slice (slices.Clone): a row of the call's own, whatever the slice.
-/
namespace Lead.Dc
open Go Go.RowKit Lead Go.Proofs Go.Shelf Go.Lib
variable {α : Type} {P : Program} {ρ : Ren} {w : World}
set_option maxHeartbeats 2000000 in
set_option maxRecDepth 100000 in
theorem clone_zero (L : SlLaysE0.n41 P ρ) (i0 : TypeInfo) (z : Value) (size bytes : Nat) (hi : P.info? (ρ.t 23) = some i0) (hz0 : i0.zero = some z) (hz1 : i0.size = size) (hz2 : i0.bytes = bytes) (hzs : z.cells.size = size) (hsz : 0 < size)
    (z23 : ∀ w, (Go.sizeOf (ρ.t 23)).run P w = .ok size w) (a : Addr) (c : Nat) (w : World) :
    Calls P (ρ.f 41) #[.slice (some a) 0 c] w fun e w' => ∃ v', e = .returned v' ∧ w'.ownsRow w.heap.size (ρ.t 23) size v' 0 [] ∧ v' ≠ .slice none 0 0 ∧ Below w.heap.size w w' := by
  have mixed := L.mixed; have t4 := L.t4; have a4 := L.a4; have z4 := L.z4; have v4 := L.v4; have t22 := L.t22; have a22 := L.a22; have z22 := L.z22; have v22 := L.v22
  have q22 : ∀ (w : World) (a : Option Addr) (n c n' c' : Nat), (binOp .eql (ρ.t 22) (.slice a n c) (.slice none n' c')).run P w = .ok (.bool a.isNone) w := fun w a n c n' c' => Lib.run_eql_slice_nil w _ _ a n c n' c' L.t22
  have u22 : ∀ w, Sem.run P (underlying (ρ.t 22)) w = .ok (TypeDesc.slice (ρ.t 23)) w := run_underlying t22
  obtain ⟨_, _, FG⟩ := L.f41
  go_enter FG, SlBodyN.n41_ntmps ρ
  go_wp2_with (at_builtin; refine wpList_append_own _ rfl _ _ (ρ.t 22) rfl w.heap.size (ρ.t 23) i0 z size bytes t22 hi hz0 hz1 hz2 hzs hsz _ _ _ rfl (World.ownsRow_made w #[] 0 (Nat.le_refl _) (Nat.zero_le _) (by simp)) a 0 c [] rfl (by simp) (by intro j u hj; simp at hj) (by intro u hu; cases hu) (by unfold maxLen; omega) (by omega) (by simp) ?_)
  intro v' w1 hown hgrow hnil
  go_wp2
  go_ret
  refine ⟨v', rfl, by simpa using hown, ?_, ?_⟩
  · first | exact hnil | (intro e; exact absurd (hnil.1 e).1 (by simp))
  · exact ((Below.refl _ w).alloc (Nat.le_refl _) _).grown hgrow (by simp) (by intro k hk; simp [Value.ownBlock] at hk; omega)
theorem clone_any (En : Enc α) (L : SlLaysE0.n41 P ρ) (i0 : TypeInfo) (z : Value) (bytes : Nat) (hi : P.info? (ρ.t 23) = some i0) (hz0 : i0.zero = some z) (hz1 : i0.size = En.k) (hz2 : i0.bytes = bytes) (hzs : z.cells.size = En.k) (hby : bytes ≤ 1000)
    (z23 : ∀ w, (Go.sizeOf (ρ.t 23)).run P w = .ok En.k w) {oa : Option Addr} {len cap : Nat} {xs : List α} (hs : SlA En w oa len cap xs) (hlen : len ≤ 1000000) :
    Calls P (ρ.f 41) #[.slice oa len cap] w fun e w' => ∃ v', e = .returned v' ∧ OwnR En w' w.heap.size (ρ.t 23) v' xs ∧ Below w.heap.size w w' := by
  obtain ⟨h1, h2, h3, h4⟩ := hs
  by_cases hx : xs = []
  · subst hx
    obtain rfl : len = 0 := h1
    cases oa with
    | none =>
      refine (AnyE.slices_Clone_nil L 0 cap w).mono ?_
      rintro e w' ⟨rfl, rfl⟩
      exact ⟨_, rfl, OwnR.nil _ _ _ _, Below.refl _ _⟩
    | some a =>
      refine (clone_zero L i0 z En.k bytes hi hz0 hz1 hz2 hzs En.pos z23 a cap w).mono ?_
      rintro e w' ⟨v', rfl, ho, _, hb⟩
      exact ⟨_, rfl, ho, hb⟩
  · obtain ⟨b, off, rfl, hb, hr⟩ := h4.resolve_left hx
    refine (AnyE.slices_Clone L i0 z En.k bytes hi hz0 hz1 hz2 hzs En.pos z23 b off len cap (En.flat xs) w (by rw [En.flat_len, h1]) (by unfold maxLen at h3 ⊢; omega) (Nat.le_trans (Nat.mul_le_mul hlen hby) (by decide)) (fun j u hj => ?_) (En.flat_one xs)).mono ?_
    · have := hr.cells j u hj
      rw [add_cell] at this
      exact this
    · rintro e w' ⟨v', rfl, ho, _, hb'⟩
      refine ⟨_, rfl, ?_, hb'⟩
      unfold OwnR
      rw [← h1]; exact ho
end Lead.Dc

/-
  A document's blocks while it is laid: an element put, an element turned; layL, one more.
-/
namespace Lead.Dc
open Go Go.RowKit Lead
theorem layL_snoc : ∀ (a : List RT) (x : RT) (k : Nat) (s : Els × Nat), layL (a ++ [x]) k s = (upd (layN x (k : Int) (layL a k s)).1 k (fun e => { e with kids := e.kids ++ [(layL a k s).2] }), (layN x (k : Int) (layL a k s)).2)
  | [], x, k, s => by simp [layL]
  | y :: r, x, k, s => by
    rw [List.cons_append, layL, layL_snoc r, layL]
variable {P : Program} {T : Tys} {w w' : World} {bd next bm cnt : Nat} {E : Els} {pl : Nat → Plc} {F : Nat → Prop}
/-- A new element's blocks. -/
theorem Foot.put (h : Foot w F bd bm E pl) {n : Nat} {e : El} {p : Plc} (hk : n ∉ E.map (·.1)) (hs : w.heap.size ≤ w'.heap.size) (hb : p.blk < w'.heap.size) (ha : ∀ b, rowB p.av = some b → b < w'.heap.size) (hv : ∀ b, rowB p.kv = some b → b < w'.heap.size) :
    Foot w' (fun k => F k ∨ k = p.blk ∨ rowB p.av = some k ∨ rowB p.kv = some k) bd bm (E ++ [(n, e)]) (fun x => if x = n then p else pl x) := by
  refine ⟨.inl h.d, .inl h.m, fun x ex hx => ?_, fun x ex hx b hb' => ?_, fun x ex hx b hb' => ?_, fun k hk' => ?_⟩
  · rw [elAt_append E n e hk] at hx
    by_cases hxn : x = n
    · rw [if_pos hxn]; exact .inr (.inl rfl)
    · rw [if_neg hxn] at hx ⊢; exact .inl (h.el x ex hx)
  · rw [elAt_append E n e hk] at hx
    by_cases hxn : x = n
    · rw [if_pos hxn] at hb'; exact .inr (.inr (.inl hb'))
    · rw [if_neg hxn] at hx hb'; exact .inl (h.av x ex hx b hb')
  · rw [elAt_append E n e hk] at hx
    by_cases hxn : x = n
    · rw [if_pos hxn] at hb'; exact .inr (.inr (.inr hb'))
    · rw [if_neg hxn] at hx hb'; exact .inl (h.kv x ex hx b hb')
  · rcases hk' with h' | rfl | h' | h'
    · exact Nat.lt_of_lt_of_le (h.lt k h') hs
    · exact hb
    · exact ha k h'
    · exact hv k h'
/-- An element that turned: its blocks. -/
theorem Foot.upd (h : Foot w F bd bm E pl) {n : Nat} {f : El → El} {p : Plc} (hs : w.heap.size ≤ w'.heap.size) (hb : F p.blk) (_ha : ∀ b, rowB p.av = some b → F b ∨ b < w'.heap.size) (hv : ∀ b, rowB p.kv = some b → b < w'.heap.size) (ha' : ∀ b, rowB p.av = some b → F b) :
    Foot w' (fun k => F k ∨ rowB p.kv = some k) bd bm (Dc.upd E n f) (fun x => if x = n then p else pl x) := by
  have back : ∀ x ex, elAt (Dc.upd E n f) x = some ex → ∃ e0, elAt E x = some e0 := by
    intro x ex hex
    rw [elAt_upd] at hex
    split at hex
    · cases hx : elAt E x with
      | none => rw [hx] at hex; cases hex
      | some e0 => exact ⟨e0, rfl⟩
    · exact ⟨ex, hex⟩
  refine ⟨.inl h.d, .inl h.m, fun x ex hx => ?_, fun x ex hx b hb' => ?_, fun x ex hx b hb' => ?_, fun k hk' => ?_⟩
  · obtain ⟨e0, he0⟩ := back x ex hx
    by_cases hxn : x = n
    · rw [if_pos hxn]; exact .inl hb
    · rw [if_neg hxn]; exact .inl (h.el x e0 he0)
  · obtain ⟨e0, he0⟩ := back x ex hx
    by_cases hxn : x = n
    · rw [if_pos hxn] at hb'; exact .inl (ha' b hb')
    · rw [if_neg hxn] at hb'; exact .inl (h.av x e0 he0 b hb')
  · obtain ⟨e0, he0⟩ := back x ex hx
    by_cases hxn : x = n
    · rw [if_pos hxn] at hb'; exact .inr hb'
    · rw [if_neg hxn] at hb'; exact .inl (h.kv x e0 he0 b hb')
  · rcases hk' with h' | h'
    · exact Nat.lt_of_lt_of_le (h.lt k h') hs
    · exact hv k h'
/-- What a document's map, its cells hold stays: its next number turns. -/
theorem DocAt.bump {D : DataW Unit} (K : TysOk P T) (h : DAt P T w bd E next pl bm cnt D) (next' : Nat) {v : Value} (hv : v = .int .i64 (next' : Int)) : DAt P T (w.setCell ⟨bd, 1, none⟩ v) bd E next' pl bm cnt D := by
  subst hv
  refine h.later K.h1 K.h2 K.h3 ?_ (fun k _ hk => heap_setCell_other _ _ _ _ hk)
  have := heap_setCell_same w bd 1 _ _ (.int .i64 (next' : Int)) h.doc
  simpa using this
theorem Turn.grown {b : Nat} (hg : w.grownBy w' (some b)) (hb : F b) : Turn F w w' := ⟨hg.os, hg.tape, hg.output, hg.size, fun k hk hn => hg.block k hk (fun e => hn (by injection e with e; exact e ▸ hb))⟩
theorem Turn.set {a : Addr} {v : Value} (hb : F a.block) : Turn F w (w.setCell a v) := ⟨rfl, rfl, rfl, by simp, fun k _ hn => heap_setCell_other w a k v (fun e => hn (e ▸ hb))⟩
theorem Turn.goOn {F' : Nat → Prop} {a b c : World} (h : Turn F a b) (k : Turn F' b c) (hF : ∀ i, F' i → F i ∨ a.heap.size ≤ i) : Turn F a c := h.trans k (fun i hi hf => (hF i hf).resolve_right (by omega))
theorem rowB_own {α : Type} {En : Enc α} {base : Nat} {e : TypeId} {v : Value} {xs : List α} (h : OwnR En w base e v xs) {b : Nat} (hb : rowB v = some b) : v.ownBlock = some b := by
  obtain ⟨_, ⟨rfl, _⟩ | ⟨g, cap, cur, rfl, _⟩⟩ := h
  · cases hb
  · cases cap with
    | zero => cases hb
    | succ c => exact hb
theorem own_rowB {α : Type} {En : Enc α} {base : Nat} {e : TypeId} {v : Value} {xs : List α} (h : OwnR En w base e v xs) (hx : xs ≠ []) : v.ownBlock = rowB v := by
  obtain ⟨_, ⟨rfl, h2⟩ | ⟨g, cap, cur, rfl, _, _, hl, _⟩⟩ := h
  · exact absurd (List.length_eq_zero_iff.1 h2) hx
  · cases cap with
    | zero => exact absurd (List.length_eq_zero_iff.1 (by omega)) hx
    | succ c => rfl
theorem own_base0 {α : Type} {En : Enc α} {base : Nat} {e : TypeId} {v : Value} {xs : List α} (h : OwnR En w base e v xs) : OwnR En w 0 e v xs := h.base (Nat.zero_le _)
theorem own_block_lt {α : Type} {En : Enc α} {base : Nat} {e : TypeId} {v : Value} {xs : List α} (h : OwnR En w base e v xs) {b : Nat} (hb : rowB v = some b) : base ≤ b ∧ b < w.heap.size := h.lt b (rowB_own h hb)
theorem own_form {α : Type} {En : Enc α} {base : Nat} {e : TypeId} {v : Value} {xs : List α} (h : OwnR En w base e v xs) : ∃ o l c, v = .slice o l c := by
  rcases h.form with ⟨h, _⟩ | ⟨g, cap, h, _⟩
  · exact ⟨_, _, _, h⟩
  · exact ⟨_, _, _, h⟩
/-- A row of its own stays, where its block stays. -/
theorem own_kept {α : Type} {En : Enc α} {base : Nat} {e : TypeId} {v : Value} {xs : List α} (h : OwnR En w base e v xs) (hw : ∀ b, v.ownBlock = some b → w'.heap[b]? = w.heap[b]?) : OwnR En w' base e v xs := by
  obtain ⟨h1, ⟨rfl, h2⟩ | ⟨g, cap, cur, rfl, hg, hh, hl, hm, hs, ht⟩⟩ := h
  · exact ⟨h1, .inl ⟨rfl, h2⟩⟩
  · exact ⟨h1, .inr ⟨g, cap, cur, rfl, hg, (hw g rfl).trans hh, hl, hm, hs, ht⟩⟩
end Lead.Dc

/-
  A document's memory where an element's children, or its parent, turn.
-/
namespace Lead.Dc
open Go Go.RowKit Lead
theorem upd_const {E : Els} (hk : (E.map (·.1)).Nodup) {n : Nat} {e : El} (he : elAt E n = some e) (f : El → El) : upd E n (fun _ => f e) = upd E n f := by
  unfold upd
  refine List.map_congr_left fun x hx => ?_
  by_cases h : x.1 = n
  · rw [if_pos h, if_pos h]
    have h1 := elAt_of_mem hk (show (x.1, x.2) ∈ E from hx)
    rw [h, he] at h1
    rw [Option.some.inj h1]
  · rw [if_neg h, if_neg h]
theorem upd_one (n m : Nat) (e : El) (f : El → El) (h : m ≠ n) : upd [(m, e)] n f = [(m, e)] := by simp [upd, h]
theorem upd_app' (A B : Els) (n : Nat) (f : El → El) : upd (A ++ B) n f = upd A n f ++ upd B n f := by unfold upd; rw [List.map_append]
variable {P : Program} {T : Tys} {w w1 : World} {bd next bm cnt : Nat} {E : Els} {pl : Nat → Plc} {F : Nat → Prop} {D : DataW Unit}
theorem ElIn.blk_ne {TE TA TI : TypeId} {base : Nat} {e : El} {p : Plc} (h : ElIn TE TA TI base w e p) {g : Nat} {cs : Array Value} {t : TypeId} (hg : w.heap[g]? = some (.cells cs t (0, 0))) (ht : TE ≠ t) : g ≠ p.blk := fun he => by
  have := h.cell
  rw [← he, hg] at this
  injection this with this
  injection this with _ this
  exact ht this.symm
/-- A block that holds no element, no row of the element's, may turn; then its children's slice is stored anew. -/
theorem DocAt.kids (K : TysOk P T) (h : DAt P T w bd E next pl bm cnt D) (hF : Foot w F bd bm E pl) {n : Nat} {e : El} (he : elAt E n = some e) {v' : Value} {l' : List Nat}
    (ho : w1.os = w.os ∧ w1.tape = w.tape ∧ w1.output = w.output) (hsz : w.heap.size ≤ w1.heap.size) (hw : ∀ k, k < w.heap.size → rowB (pl n).kv ≠ some k → w1.heap[k]? = w.heap[k]?) (hv : OwnR EIn w1 0 T.I v' l') (hvb : ∀ b, rowB v' = some b → rowB (pl n).kv = some b ∨ w.heap.size ≤ b) :
    DAt P T (w1.setCell ⟨(pl n).blk, 3, none⟩ v') bd (Dc.upd E n (fun _ => { e with kids := l' })) next (fun x => if x = n then ⟨(pl n).blk, (pl n).av, v'⟩ else pl x) bm cnt D ∧
    Foot (w1.setCell ⟨(pl n).blk, 3, none⟩ v') (fun k => F k ∨ rowB v' = some k) bd bm (Dc.upd E n (fun _ => { e with kids := l' })) (fun x => if x = n then ⟨(pl n).blk, (pl n).av, v'⟩ else pl x) ∧
    Turn F w (w1.setCell ⟨(pl n).blk, 3, none⟩ v') := by
  have hn := h.els n e he
  have hbw : rowB (pl n).kv ≠ some (pl n).blk := fun hb => by
    obtain ⟨_, _, cur, hc⟩ := hn.kids.rowB hb
    exact hn.blk_ne hc K.h5 rfl
  have hcell : w1.heap[(pl n).blk]? = some (.cells #[.string e.name, (pl n).av, .int .i64 e.parent, (pl n).kv] T.E (0, 0)) := (hw _ hn.lt hbw).trans hn.cell
  have hset := heap_setCell_same w1 (pl n).blk 3 _ _ v' hcell
  have hoth : ∀ k, k ≠ (pl n).blk → (w1.setCell ⟨(pl n).blk, 3, none⟩ v').heap[k]? = w1.heap[k]? := fun k hk => heap_setCell_other w1 ⟨(pl n).blk, 3, none⟩ k v' hk
  have hsz' : (w1.setCell ⟨(pl n).blk, 3, none⟩ v').heap.size = w1.heap.size := World.size_setCell _ _ _
  have hvv : OwnR EIn (w1.setCell ⟨(pl n).blk, 3, none⟩ v') 0 T.I v' l' := own_kept hv fun b hb => by
    obtain ⟨_, ⟨rfl, _⟩ | ⟨g, cap, cur, rfl, hg, hh, _⟩⟩ := hv
    · cases hb
    · have : g = b := by simpa [Value.ownBlock] using hb
      subst this
      refine hoth g fun heq => ?_
      rw [heq, hcell] at hh
      injection hh with hh
      injection hh with _ hh
      exact K.h5 hh
  have hav : OwnQ EAt (w1.setCell ⟨(pl n).blk, 3, none⟩ v') 0 T.A (pl n).av e.attrs := hn.attrs.kept fun b hb => by
    obtain ⟨_, hbl, cur, hc⟩ := hn.attrs.rowB hb
    refine (hoth b (hn.blk_ne hc K.h4)).trans (hw b hbl fun hb2 => ?_)
    obtain ⟨_, _, cur2, hc2⟩ := hn.kids.rowB hb2
    rw [hc] at hc2
    injection hc2 with hc2
    injection hc2 with _ hc2
    exact K.h6 hc2
  refine ⟨h.upd K.h1 K.h2 K.h3 K.h4 K.h5 K.h6 he rfl ⟨Nat.zero_le _, by simpa using hset, hav, .inl hvv⟩ (fun b hb => .inl hb) hvb (fun k hk h1 _ h3 => (hoth k h1).trans (hw k hk h3)), ?_, ⟨?_, ?_, ?_, ?_, ?_⟩⟩
  · refine hF.upd (w' := w1.setCell ⟨(pl n).blk, 3, none⟩ v') (n := n) (f := fun _ => { e with kids := l' }) (p := ⟨(pl n).blk, (pl n).av, v'⟩) (by rw [hsz']; exact hsz) (hF.el n e he) (fun b hb => .inl (hF.av n e he b hb)) (fun b hb => ?_) (fun b hb => hF.av n e he b hb)
    rw [hsz']
    exact (own_block_lt hv hb).2
  · exact ho.1
  · exact ho.2.1
  · exact ho.2.2
  · rw [hsz']; exact hsz
  · intro k hk hn'
    exact (hoth k (fun heq => hn' (heq ▸ hF.el n e he))).trans (hw k hk (fun hb => hn' (hF.kv n e he k hb)))
/-- .. or its parent. -/
theorem DocAt.par (K : TysOk P T) (h : DAt P T w bd E next pl bm cnt D) (hF : Foot w F bd bm E pl) {n : Nat} {e : El} (he : elAt E n = some e) (m : Int) :
    DAt P T (w.setCell ⟨(pl n).blk, 2, none⟩ (.int .i64 m)) bd (Dc.upd E n (fun _ => { e with parent := m })) next (fun x => if x = n then pl n else pl x) bm cnt D ∧
    Foot (w.setCell ⟨(pl n).blk, 2, none⟩ (.int .i64 m)) F bd bm (Dc.upd E n (fun _ => { e with parent := m })) (fun x => if x = n then pl n else pl x) ∧
    Turn F w (w.setCell ⟨(pl n).blk, 2, none⟩ (.int .i64 m)) := by
  have hn := h.els n e he
  have hset := heap_setCell_same w (pl n).blk 2 _ _ (.int .i64 m) hn.cell
  have hoth : ∀ k, k ≠ (pl n).blk → (w.setCell ⟨(pl n).blk, 2, none⟩ (.int .i64 m)).heap[k]? = w.heap[k]? := fun k hk => heap_setCell_other w ⟨(pl n).blk, 2, none⟩ k _ hk
  have hsz' : (w.setCell ⟨(pl n).blk, 2, none⟩ (.int .i64 m)).heap.size = w.heap.size := World.size_setCell _ _ _
  have hkv : OwnQ EIn (w.setCell ⟨(pl n).blk, 2, none⟩ (.int .i64 m)) 0 T.I (pl n).kv e.kids := hn.kids.kept fun b hb => by
    obtain ⟨_, hbl, cur, hc⟩ := hn.kids.rowB hb
    exact hoth b (hn.blk_ne hc K.h5)
  have hav : OwnQ EAt (w.setCell ⟨(pl n).blk, 2, none⟩ (.int .i64 m)) 0 T.A (pl n).av e.attrs := hn.attrs.kept fun b hb => by
    obtain ⟨_, hbl, cur, hc⟩ := hn.attrs.rowB hb
    exact hoth b (hn.blk_ne hc K.h4)
  refine ⟨h.upd K.h1 K.h2 K.h3 K.h4 K.h5 K.h6 he rfl ⟨Nat.zero_le _, by simpa using hset, hav, hkv⟩ (fun b hb => .inl hb) (fun b hb => .inl hb) (fun k hk h1 _ _ => hoth k h1), ?_, ⟨rfl, rfl, rfl, by rw [hsz']; exact Nat.le_refl _, fun k hk hn' => hoth k (fun heq => hn' (heq ▸ hF.el n e he))⟩⟩
  have hF2 := hF.upd (w' := w.setCell ⟨(pl n).blk, 2, none⟩ (.int .i64 m)) (n := n) (f := fun _ => { e with parent := m }) (p := pl n) (by rw [hsz']; exact Nat.le_refl _) (hF.el n e he) (fun b hb => .inl (hF.av n e he b hb)) (fun b hb => by rw [hsz']; exact hF.lt b (hF.kv n e he b hb)) (fun b hb => hF.av n e he b hb)
  refine ⟨hF.d, hF.m, fun x ex hx => ?_, fun x ex hx b hb => ?_, fun x ex hx b hb => ?_, fun k hk => by rw [hsz']; exact hF.lt k hk⟩
  · rcases hF2.el x ex hx with h' | h'
    · exact h'
    · exact hF.kv n e he _ h'
  · rcases hF2.av x ex hx b hb with h' | h'
    · exact h'
    · exact hF.kv n e he _ h'
  · rcases hF2.kv x ex hx b hb with h' | h'
    · exact h'
    · exact hF.kv n e he _ h'
end Lead.Dc

/-
  Plain: laying keeps the numbers apart; a node that the check lets pass is fine through and through.
-/
namespace Lead.Dc
/-- The numbers of a document that is being laid. -/
structure LOk (s : Els × Nat) : Prop where
  lt : ∀ x ∈ s.1.map (·.1), x < s.2
  nd : (s.1.map (·.1)).Nodup
theorem LOk.none {s : Els × Nat} (h : LOk s) {n : Nat} (hn : s.2 ≤ n) : elAt s.1 n = none := elAt_none fun hk => by have := h.lt n hk; omega
theorem LOk.nin {s : Els × Nat} (h : LOk s) : s.2 ∉ s.1.map (·.1) := fun hk => by have := h.lt _ hk; omega
theorem LOk.put {s : Els × Nat} (h : LOk s) (e : El) : LOk (s.1 ++ [(s.2, e)], s.2 + 1) := by
  refine ⟨fun x hx => ?_, ?_⟩
  · rw [List.map_append, List.mem_append] at hx
    rcases hx with hx | hx
    · have := h.lt x hx; show x < s.2 + 1; omega
    · have : x = s.2 := by simpa using hx
      show x < s.2 + 1; omega
  · rw [List.map_append]
    refine List.nodup_append.2 ⟨h.nd, by simp, fun a ha b hb => ?_⟩
    have : b = s.2 := by simpa using hb
    have := h.lt a ha; omega
theorem LOk.layN {s : Els × Nat} (h : LOk s) (n : RT) (p : Int) : LOk (layN n p s) ∧ (Dc.layN n p s).2 = s.2 + n.cnt ∧ ∀ x, x < s.2 → elAt (Dc.layN n p s).1 x = elAt s.1 x := by
  obtain ⟨E, next⟩ := s
  have h1 := layN_eq n p E next h.lt
  obtain ⟨_, tk⟩ := treeE_ok n p next 1
  rw [h1]
  refine ⟨⟨fun x hx => ?_, ?_⟩, rfl, fun x hx => ?_⟩
  · rw [List.map_append, List.mem_append, tk.keys, List.mem_range'_1] at hx
    rcases hx with hx | hx
    · have := h.lt x hx; show x < next + n.cnt; have h2 : x < next := this; omega
    · show x < next + n.cnt; omega
  · show ((E ++ treeE n p next).map (·.1)).Nodup
    rw [List.map_append, tk.keys]
    refine List.nodup_append.2 ⟨h.nd, List.nodup_range', fun a ha b hb => ?_⟩
    rw [List.mem_range'_1] at hb
    have : a < next := h.lt a ha
    omega
  · show elAt (E ++ treeE n p next) x = elAt E x
    rw [elAt_app]
    have : elAt (treeE n p next) x = Option.none := elAt_none fun hk => by
      rw [tk.keys, List.mem_range'_1] at hk
      have : x < next := hx
      omega
    rw [this]
    cases elAt E x <;> rfl
theorem LOk.upd {s : Els × Nat} (h : LOk s) (n : Nat) (f : El → El) : LOk (Dc.upd s.1 n f, s.2) := ⟨fun x hx => h.lt x (by rw [upd_keys] at hx; exact hx), by show ((Dc.upd s.1 n f).map (·.1)).Nodup; rw [upd_keys]; exact h.nd⟩
theorem LOk.layL : ∀ (l : List RT) (k : Nat) {s : Els × Nat}, LOk s → LOk (layL l k s) ∧ (Dc.layL l k s).2 = s.2 + RT.cntL l
  | [], k, s, h => ⟨h, rfl⟩
  | x :: r, k, s, h => by
    have h1 := h.layN x (k : Int)
    have h2 := LOk.layL r k (h1.1.upd k (fun e => { e with kids := e.kids ++ [s.2] }))
    refine ⟨h2.1, ?_⟩
    show (Dc.layL r k _).2 = _
    rw [h2.2]
    show (Dc.layN x (k : Int) s).2 + RT.cntL r = _
    rw [h1.2.1, RT.cntL]; omega
theorem cntL_take (l : List RT) (k : Nat) : RT.cntL (l.take k) ≤ RT.cntL l := by
  have h := cntL_app (l.take k) (l.drop k)
  rw [List.take_append_drop] at h
  omega
theorem cnt_kid {ks : List NT} {k : Nat} (h : k < ks.length) : RT.cntL (NT.rtL (ks.take k)) + ks[k].rt.cnt ≤ RT.cntL (NT.rtL ks) := by
  have h1 := cntL_take (NT.rtL ks) (k + 1)
  rw [← rtL_take, List.take_succ_eq_append_getElem h, rtL_map, List.map_append, List.map_cons, List.map_nil, cntL_app, ← rtL_map] at h1
  simp only [RT.cntL] at h1
  omega
/-- A node that is fine: its name, how many attributes. -/
inductive Fine : NT → Prop
  | mk {name : ByteArray} {ao : Option Go.Addr} {al ac : Nat} {attrs : List (ByteArray × ByteArray)} {ko : Option Go.Addr} {kl kc : Nat} {kids : List NT} :
      nmOk name = true → attrs.length ≤ 12 → (∀ k ∈ kids, Fine k) → Fine (.mk name ao al ac attrs ko kl kc kids)
theorem chkL_each : ∀ (ks : List NT) (i deep : Nat), (chkL (NT.rtL ks) i deep).2 = 0 → ∀ k ∈ ks, ∃ i', (chkN k.rt i' deep).2 = 0
  | [], _, _, _, k, hk => by cases hk
  | x :: r, i, deep, h, k, hk => by
    rw [NT.rtL, chkL] at h
    by_cases h0 : (chkN x.rt i deep).2 ≠ 0
    · rw [if_pos h0] at h; exact absurd h h0
    · rw [if_neg h0] at h
      rcases List.mem_cons.1 hk with rfl | hk
      · exact ⟨i, Decidable.not_not.1 h0⟩
      · exact chkL_each r _ deep h k hk
theorem fine_of : ∀ (s : Nat) (n : NT) (i deep : Nat), SizeOf.sizeOf n < s → (chkN n.rt i deep).2 = 0 → Fine n := by
  intro s
  induction s with
  | zero => intro n i deep h; omega
  | succ s ih =>
    intro n i deep hs h
    obtain ⟨nm, ao, al, ac, ats, ko, kl, kc, ks⟩ := n
    rw [rt_eq] at h
    show Fine (.mk nm ao al ac ats ko kl kc ks)
    rw [chkN] at h
    by_cases h0 : nodeE nm ats i deep ≠ 0
    · have : (if nodeE nm ats i deep ≠ 0 then (i, nodeE nm ats i deep) else chkL (NT.rtL ks) (i + 1) (deep + 1)).2 = 0 := h
      rw [if_pos h0] at this
      exact absurd this h0
    · have h1 : (if nodeE nm ats i deep ≠ 0 then (i, nodeE nm ats i deep) else chkL (NT.rtL ks) (i + 1) (deep + 1)).2 = 0 := h
      rw [if_neg h0] at h1
      have h2 := Decidable.not_not.1 h0
      unfold nodeE at h2
      have hN : nmOk nm = true := by
        by_cases hx : nmOk nm = false
        · split at h2
          · cases h2
          · split at h2
            · cases h2
            · first | cases h2 | (rw [if_pos hx] at h2; cases h2)
        · simpa using hx
      have hA : ats.length ≤ 12 := by
        rcases Nat.lt_or_ge 12 ats.length with hx | hx
        · split at h2
          · cases h2
          · split at h2
            · cases h2
            · try rw [if_neg (by rw [hN]; simp)] at h2
              unfold atE at h2
              rw [if_pos hx] at h2; cases h2
        · exact hx
      refine .mk hN hA fun k hk => ?_
      obtain ⟨i', hi'⟩ := chkL_each ks _ _ h1 k hk
      exact ih k i' (deep + 1) (by have := kid_less (n := .mk nm ao al ac ats ko kl kc ks) hk; omega) hi'
end Lead.Dc

/-
  While a node's children are laid: what holds, and how one more child keeps it.
-/
namespace Lead.Dc
open Go Go.RowKit Lead
/-- What laying makes of a document: its numbers below stay where they lie. -/
def LaidTo (P : Program) (T : Tys) (w w' : World) (bd bm : Nat) (F : Nat → Prop) (pl : Nat → Plc) (next : Nat) (s : Els × Nat) : Prop :=
  ∃ (pl' : Nat → Plc) (cnt' : Nat) (D' : DataW Unit) (F' : Nat → Prop), DAt P T w' bd s.1 s.2 pl' bm cnt' D' ∧ cnt' ≤ s.2 ∧ Foot w' F' bd bm s.1 pl' ∧ (∀ k, F' k → F k ∨ w.heap.size ≤ k) ∧ Turn F w w' ∧ ∀ x, x < next → pl' x = pl x
/-- A slice of children that is nil, or has a block. -/
def KvOk (v : Value) : Prop := v = .slice none 0 0 ∨ ∃ b, rowB v = some b
theorem kv_own {w : World} {base : Nat} {e : TypeId} {v : Value} {xs : List Nat} (h : OwnQ EIn w base e v xs) (hk : KvOk v) : OwnR EIn w base e v xs ∧ v.ownBlock = rowB v := by
  rcases h with h | ⟨a, rfl, rfl⟩
  · refine ⟨h, ?_⟩
    rcases hk with rfl | ⟨b, hb⟩
    · rfl
    · rw [hb]; exact rowB_own h hb
  · rcases hk with hk | ⟨b, hb⟩
    · cases hk
    · cases hb
/-- While a node's children are laid. -/
structure LayInv (P : Program) (T : Tys) (w wr : World) (bd bm be : Nat) (F : Nat → Prop) (pl : Nat → Plc) (next : Nat) (s : Els × Nat) (pl' : Nat → Plc) (cnt' : Nat) (D' : DataW Unit) (F' : Nat → Prop) (e' : El) : Prop where
  doc : DAt P T wr bd s.1 s.2 pl' bm cnt' D'
  c : cnt' ≤ s.2
  ft : Foot wr F' bd bm s.1 pl'
  nw : ∀ k, F' k → F k ∨ w.heap.size ≤ k
  tn : Turn F w wr
  old : ∀ x, x < next → pl' x = pl x
  blk : (pl' next).blk = be
  kv : KvOk (pl' next).kv
  el : elAt s.1 next = some e'
  ok : LOk s
  kl : e'.kids.length + next < s.2
theorem kvOk_app {w : World} {e : TypeId} {v : Value} {xs : List Nat} {x : Nat} (h : OwnR EIn w 0 e v (xs ++ [x])) : KvOk v := by
  have h1 := own_rowB h (by simp)
  rcases h with ⟨_, ⟨rfl, h2⟩ | ⟨g, cap, cur, rfl, _⟩⟩
  · simp at h2
  · exact .inr ⟨g, h1.symm⟩

theorem LayInv.lt {P : Program} {T : Tys} {w wr : World} {bd bm be next cnt' : Nat} {F F' : Nat → Prop} {pl pl' : Nat → Plc} {s : Els × Nat} {D' : DataW Unit} {e' : El} (h : LayInv P T w wr bd bm be F pl next s pl' cnt' D' F' e') : next < s.2 := by have := h.kl; omega
section
variable {P : Program} {T : Tys} {w wr w1 w2 : World} {bd bm be next cnt' : Nat} {F F' : Nat → Prop} {pl pl' : Nat → Plc} {s : Els × Nat} {D' : DataW Unit} {e' : El} {kr : RT}
/-- The laid node's element, its children, after the call. -/
theorem LayInv.after (h : LayInv P T w wr bd bm be F pl next s pl' cnt' D' F' e') (hL : LaidTo P T w1 w2 bd bm F' pl' s.2 (layN kr (next : Int) s)) :
    w2.heap[be]? = some (.cells #[.string e'.name, (pl' next).av, .int .i64 e'.parent, (pl' next).kv] T.E (0, 0)) ∧ OwnR EIn w2 0 T.I (pl' next).kv e'.kids := by
  obtain ⟨pl2, cnt2, D2, F2, hA2, hc2, hF2, hFF2, hT2, hold2⟩ := hL
  have ho := (h.ok.layN kr (next : Int)).2.2 next h.lt
  rw [h.el] at ho
  have he := hA2.els next e' ho
  rw [hold2 next h.lt] at he
  have hc := he.cell
  rw [h.blk] at hc
  exact ⟨hc, (kv_own he.kids h.kv).1⟩
/-- One child more. -/
theorem LayInv.more (K : TysOk P T) (h : LayInv P T w wr bd bm be F pl next s pl' cnt' D' F' e') (hb1 : Below wr.heap.size wr w1) (hL : LaidTo P T w1 w2 bd bm F' pl' s.2 (layN kr (next : Int) s))
    {wa w3 w4 : World} {v' : Value} (hba : Below w2.heap.size w2 wa) (hv : OwnR EIn w3 0 T.I v' (e'.kids ++ [s.2])) (hg : wa.grownBy w3 (pl' next).kv.ownBlock) (hob : v'.ownBlock = (pl' next).kv.ownBlock ∨ v'.ownBlock = some wa.heap.size)
    (h4 : Below (w3.setCell ⟨be, 3, none⟩ v').heap.size (w3.setCell ⟨be, 3, none⟩ v') w4) :
    ∃ pl3 cnt3 D3 F3, LayInv P T w w4 bd bm be F pl next (Dc.upd (layN kr (next : Int) s).1 next (fun e => { e with kids := e.kids ++ [s.2] }), (layN kr (next : Int) s).2) pl3 cnt3 D3 F3 { e' with kids := e'.kids ++ [s.2] } := by
  obtain ⟨pl2, cnt2, D2, F2, hA2, hc2, hF2, hFF2, hT2, hold2⟩ := hL
  obtain ⟨hok2, hs2, hsame⟩ := h.ok.layN kr (next : Int)
  have hlt := h.lt
  have he := hsame next hlt
  rw [h.el] at he
  have hpn := hold2 next hlt
  have hEl := hA2.els next e' he
  rw [hpn] at hEl
  obtain ⟨hown, hrb⟩ := kv_own hEl.kids h.kv
  have zwr := h.tn.size
  have z1 := hb1.size
  have z2 := hT2.size
  have za := hba.size
  have zg := hg.size
  have hk := DocAt.kids K hA2 hF2 (n := next) he (w1 := w3) (v' := v') (l' := e'.kids ++ [s.2])
    ⟨hg.os.trans hba.os, hg.tape.trans hba.tape, hg.output.trans hba.output⟩ (by omega)
    (fun k hk hn => by
      rw [hpn] at hn
      exact (hg.block k (by omega) (fun e => hn (hrb.symm.trans e.symm))).trans (hba.block k hk))
    hv (fun b hb => by
      rw [hpn]
      have hbo := rowB_own hv hb
      rcases hob with ho | ho
      · left; rw [← hrb, ← ho]; exact hbo
      · right
        rw [ho] at hbo
        injection hbo with hbo
        omega)
  rw [hpn, h.blk, upd_const hok2.nd he (fun e => { e with kids := e.kids ++ [s.2] })] at hk
  obtain ⟨hA4, hF4, hT4⟩ := hk
  have hnw2 : ∀ j, F2 j → F j ∨ w.heap.size ≤ j := fun j hj => by
    rcases hFF2 j hj with h' | h'
    · exact h.nw j h'
    · right; omega
  refine ⟨_, cnt2, D2, _, hA4.keep h4, hc2, hF4.keep h4.size, fun j hj => ?_, ?_, fun x hx => ?_, ?_, ?_, ?_, hok2.upd next _, ?_⟩
  · rcases hj with h' | h'
    · exact hnw2 j h'
    · have hbo := rowB_own hv h'
      rcases hob with ho | ho
      · rw [ho, hrb] at hbo
        exact h.nw j (h.ft.kv next e' h.el j hbo)
      · rw [ho] at hbo
        injection hbo with hbo
        right; omega
  · exact (((h.tn.goOn (Turn.of_below (F := F) hb1) (fun j hj => .inl hj)).goOn hT2 h.nw).goOn hT4 hnw2).goOn (Turn.of_below (F := F) h4) (fun j hj => .inl hj)
  · show (if x = next then _ else pl2 x) = pl x
    rw [if_neg (by omega), hold2 x (by omega)]
    exact h.old x hx
  · show (if next = next then _ else pl2 next : Plc).blk = be
    rw [if_pos rfl]
  · show KvOk (if next = next then _ else pl2 next : Plc).kv
    rw [if_pos rfl]
    exact kvOk_app hv
  · show elAt (Dc.upd (layN kr (next : Int) s).1 next (fun e => { e with kids := e.kids ++ [s.2] })) next = _
    rw [elAt_upd, if_pos rfl, he]; rfl
  · show (e'.kids ++ [s.2]).length + next < (layN kr (next : Int) s).2
    rw [hs2, List.length_append]
    have := h.kl
    have : 1 ≤ kr.cnt := by cases kr; rw [RT.cnt]; omega
    simp; omega
theorem LaidTo.size (hL : LaidTo P T w1 w2 bd bm F' pl' next s) : w1.heap.size ≤ w2.heap.size := by
  obtain ⟨_, _, _, _, _, _, _, _, hT2, _⟩ := hL
  exact hT2.size
/-- An element's block stays while its row grows. -/
theorem el_stays {wa w3 : World} {TE TI : TypeId} {cs : Array Value} {V : Value} {xs : List Nat} (h : w2.heap[be]? = some (.cells cs TE (0, 0))) (ho : OwnR EIn w2 0 TI V xs) (hT : TE ≠ TI) (hba : Below w2.heap.size w2 wa) (hg : wa.grownBy w3 V.ownBlock) : w3.heap[be]? = some (.cells cs TE (0, 0)) := by
  have hlt := Dc.hlt h
  refine (hg.block be (by have := hba.size; omega) (fun he => ?_)).trans ((hba.block be hlt).trans h)
  obtain ⟨_, ⟨rfl, _⟩ | ⟨g, cap, cur, rfl, _, hh, _⟩⟩ := ho
  · cases he
  · have he : some be = some g := he
    injection he with he
    subst he
    rw [h] at hh
    injection hh with hh
    injection hh with _ hh
    exact hT hh
end
end Lead.Dc
