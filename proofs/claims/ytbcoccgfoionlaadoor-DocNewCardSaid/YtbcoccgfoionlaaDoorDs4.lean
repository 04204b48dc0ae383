/-
  A document's blocks while it is laid: an element put, an element turned; layL, one more.
-/
import Derived.Test.YtbcoccgfoionlaaDoorDs1
import Derived.Test.YtbcoccgfoionlaaDoorNd2
namespace Lead.Dc
open Go Go.RowKit Lead
theorem layL_snoc : ∀ (a : List RT) (x : RT) (k : Nat) (s : Els × Nat), layL (a ++ [x]) k s = (upd (layN x (k : Int) (layL a k s)).1 k (fun e => { e with kids := e.kids ++ [(layL a k s).2] }), (layN x (k : Int) (layL a k s)).2)
  | [], x, k, s => by simp [layL]
  | y :: r, x, k, s => by
    rw [List.cons_append, layL, layL_snoc r, layL]
variable {P : Program} {T : Tys} {w w' : World} {bd next bm cnt : Nat} {E : Els} {pl : Nat → Plc} {F : Nat → Prop}
theorem key_none {n : Nat} (h : ∀ x ∈ E.map (·.1), x < next) (hn : next ≤ n) : elAt E n = none := elAt_none fun hk => by have := h n hk; omega
/-- A new element's blocks. -/
theorem Foot.put (h : Foot w F bd bm E pl) {n : Nat} {e : El} {p : Plc} (hk : n ∉ E.map (·.1)) (hs : w.heap.size ≤ w'.heap.size) (hb : p.blk < w'.heap.size) (ha : ∀ b, rowB p.av = some b → b < w'.heap.size) (hv : ∀ b, rowB p.kv = some b → b < w'.heap.size) :
    Foot w' (fun k => F k ∨ k = p.blk ∨ rowB p.av = some k ∨ rowB p.kv = some k) bd bm (E ++ [(n, e)]) (fun x => if x = n then p else pl x) := by
  refine ⟨.inl h.d, .inl h.m, fun x ex hx => ?_, fun x ex hx b hb' => ?_, fun x ex hx b hb' => ?_, fun k hk' => ?_⟩
  · rw [elAt_append E n e hk] at hx
    by_cases hxn : x = n
    · rw [if_pos hxn]; exact .inr (.inl rfl)
    · rw [if_neg hxn] at hx ⊢; exact .inl (h.el x ex hx)
  · rw [elAt_append E n e hk] at hx
    by_cases hxn : x = n
    · rw [if_pos hxn] at hb'; exact .inr (.inr (.inl hb'))
    · rw [if_neg hxn] at hx hb'; exact .inl (h.av x ex hx b hb')
  · rw [elAt_append E n e hk] at hx
    by_cases hxn : x = n
    · rw [if_pos hxn] at hb'; exact .inr (.inr (.inr hb'))
    · rw [if_neg hxn] at hx hb'; exact .inl (h.kv x ex hx b hb')
  · rcases hk' with h' | rfl | h' | h'
    · exact Nat.lt_of_lt_of_le (h.lt k h') hs
    · exact hb
    · exact ha k h'
    · exact hv k h'
/-- An element that turned: its blocks. -/
theorem Foot.upd (h : Foot w F bd bm E pl) {n : Nat} {f : El → El} {p : Plc} (hs : w.heap.size ≤ w'.heap.size) (hb : F p.blk) (_ha : ∀ b, rowB p.av = some b → F b ∨ b < w'.heap.size) (hv : ∀ b, rowB p.kv = some b → b < w'.heap.size) (ha' : ∀ b, rowB p.av = some b → F b) :
    Foot w' (fun k => F k ∨ rowB p.kv = some k) bd bm (Dc.upd E n f) (fun x => if x = n then p else pl x) := by
  have back : ∀ x ex, elAt (Dc.upd E n f) x = some ex → ∃ e0, elAt E x = some e0 := by
    intro x ex hex
    rw [elAt_upd] at hex
    split at hex
    · cases hx : elAt E x with
      | none => rw [hx] at hex; cases hex
      | some e0 => exact ⟨e0, rfl⟩
    · exact ⟨ex, hex⟩
  refine ⟨.inl h.d, .inl h.m, fun x ex hx => ?_, fun x ex hx b hb' => ?_, fun x ex hx b hb' => ?_, fun k hk' => ?_⟩
  · obtain ⟨e0, he0⟩ := back x ex hx
    by_cases hxn : x = n
    · rw [if_pos hxn]; exact .inl hb
    · rw [if_neg hxn]; exact .inl (h.el x e0 he0)
  · obtain ⟨e0, he0⟩ := back x ex hx
    by_cases hxn : x = n
    · rw [if_pos hxn] at hb'; exact .inl (ha' b hb')
    · rw [if_neg hxn] at hb'; exact .inl (h.av x e0 he0 b hb')
  · obtain ⟨e0, he0⟩ := back x ex hx
    by_cases hxn : x = n
    · rw [if_pos hxn] at hb'; exact .inr hb'
    · rw [if_neg hxn] at hb'; exact .inl (h.kv x e0 he0 b hb')
  · rcases hk' with h' | h'
    · exact Nat.lt_of_lt_of_le (h.lt k h') hs
    · exact hv k h'
/-- What a document's map, its cells hold stays: its next number turns. -/
theorem DocAt.bump {D : DataW Unit} (K : TysOk P T) (h : DAt P T w bd E next pl bm cnt D) (next' : Nat) {v : Value} (hv : v = .int .i64 (next' : Int)) : DAt P T (w.setCell ⟨bd, 1, none⟩ v) bd E next' pl bm cnt D := by
  subst hv
  refine h.later K.h1 K.h2 K.h3 ?_ (fun k _ hk => heap_setCell_other _ _ _ _ hk)
  have := heap_setCell_same w bd 1 _ _ (.int .i64 (next' : Int)) h.doc
  simpa using this
theorem Turn.grown {b : Nat} (hg : w.grownBy w' (some b)) (hb : F b) : Turn F w w' := ⟨hg.os, hg.tape, hg.output, hg.size, fun k hk hn => hg.block k hk (fun e => hn (by injection e with e; exact e ▸ hb))⟩
theorem Turn.set {a : Addr} {v : Value} (hb : F a.block) : Turn F w (w.setCell a v) := ⟨rfl, rfl, rfl, by simp, fun k _ hn => heap_setCell_other w a k v (fun e => hn (e ▸ hb))⟩
theorem Turn.goOn {F' : Nat → Prop} {a b c : World} (h : Turn F a b) (k : Turn F' b c) (hF : ∀ i, F' i → F i ∨ a.heap.size ≤ i) : Turn F a c := h.trans k (fun i hi hf => (hF i hf).resolve_right (by omega))
theorem rowB_own {α : Type} {En : Enc α} {base : Nat} {e : TypeId} {v : Value} {xs : List α} (h : OwnR En w base e v xs) {b : Nat} (hb : rowB v = some b) : v.ownBlock = some b := by
  obtain ⟨_, ⟨rfl, _⟩ | ⟨g, cap, cur, rfl, _⟩⟩ := h
  · cases hb
  · cases cap with
    | zero => cases hb
    | succ c => exact hb
theorem own_rowB {α : Type} {En : Enc α} {base : Nat} {e : TypeId} {v : Value} {xs : List α} (h : OwnR En w base e v xs) (hx : xs ≠ []) : v.ownBlock = rowB v := by
  obtain ⟨_, ⟨rfl, h2⟩ | ⟨g, cap, cur, rfl, _, _, hl, _⟩⟩ := h
  · exact absurd (List.length_eq_zero_iff.1 h2) hx
  · cases cap with
    | zero => exact absurd (List.length_eq_zero_iff.1 (by omega)) hx
    | succ c => rfl
theorem own_base0 {α : Type} {En : Enc α} {base : Nat} {e : TypeId} {v : Value} {xs : List α} (h : OwnR En w base e v xs) : OwnR En w 0 e v xs := h.base (Nat.zero_le _)
theorem own_block_lt {α : Type} {En : Enc α} {base : Nat} {e : TypeId} {v : Value} {xs : List α} (h : OwnR En w base e v xs) {b : Nat} (hb : rowB v = some b) : base ≤ b ∧ b < w.heap.size := h.lt b (rowB_own h hb)
theorem own_form {α : Type} {En : Enc α} {base : Nat} {e : TypeId} {v : Value} {xs : List α} (h : OwnR En w base e v xs) : ∃ o l c, v = .slice o l c := by
  rcases h.form with ⟨h, _⟩ | ⟨g, cap, h, _⟩
  · exact ⟨_, _, _, h⟩
  · exact ⟨_, _, _, h⟩
/-- A row of its own stays, where its block stays. -/
theorem own_kept {α : Type} {En : Enc α} {base : Nat} {e : TypeId} {v : Value} {xs : List α} (h : OwnR En w base e v xs) (hw : ∀ b, v.ownBlock = some b → w'.heap[b]? = w.heap[b]?) : OwnR En w' base e v xs := by
  obtain ⟨h1, ⟨rfl, h2⟩ | ⟨g, cap, cur, rfl, hg, hh, hl, hm, hs, ht⟩⟩ := h
  · exact ⟨h1, .inl ⟨rfl, h2⟩⟩
  · exact ⟨h1, .inr ⟨g, cap, cur, rfl, hg, (hw g rfl).trans hh, hl, hm, hs, ht⟩⟩
end Lead.Dc
