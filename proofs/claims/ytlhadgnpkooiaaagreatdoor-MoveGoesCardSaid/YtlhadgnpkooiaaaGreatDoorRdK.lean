/-
  Plain: what a walk over moves out of a text asks: blocks that are made, moves one behind the other, short words.
-/
import Derived.Test.YtlhadgnpkooiaaaGreatDoorRdX
import Derived.Test.YtlhadgnpkooiaaaGreatDoorHeld
import Derived.Test.YtlhadgnpkooiaaaGreatDoorSet
import Derived.Deep.RegionLaw
namespace Lead
open Go Go.RowKit
theorem set12f {w : World} {g e : Nat} {x y : Value} (hne : e ≠ g) (hz : ∀ j, w.cell? ⟨g, j, none⟩ = (#[.int .i64 0, .int .i64 0, .int .i64 0, .int .i64 0, .int .i64 0, .int .i64 0, .int .i64 0, .int .i64 0, .int .i64 0, .int .i64 0, .int .i64 0, .int .i64 0] : Array Value)[j]?) (hy : w.cell? ⟨e, 0, none⟩ = some y) (v0 v1 v2 v3 v4 v5 v6 v7 v8 v9 v10 v11 : Value) :
    (∀ j, (((((((((((((w.setCell ⟨g, 0, none⟩ v0).setCell ⟨g, 1, none⟩ v1).setCell ⟨g, 2, none⟩ v2).setCell ⟨g, 3, none⟩ v3).setCell ⟨g, 4, none⟩ v4).setCell ⟨g, 5, none⟩ v5).setCell ⟨g, 6, none⟩ v6).setCell ⟨g, 7, none⟩ v7).setCell ⟨g, 8, none⟩ v8).setCell ⟨g, 9, none⟩ v9).setCell ⟨g, 10, none⟩ v10).setCell ⟨g, 11, none⟩ v11).setCell ⟨e, 0, none⟩ x).cell? ⟨g, j, none⟩ = (#[v0, v1, v2, v3, v4, v5, v6, v7, v8, v9, v10, v11] : Array Value)[j]?) ∧ (((((((((((((w.setCell ⟨g, 0, none⟩ v0).setCell ⟨g, 1, none⟩ v1).setCell ⟨g, 2, none⟩ v2).setCell ⟨g, 3, none⟩ v3).setCell ⟨g, 4, none⟩ v4).setCell ⟨g, 5, none⟩ v5).setCell ⟨g, 6, none⟩ v6).setCell ⟨g, 7, none⟩ v7).setCell ⟨g, 8, none⟩ v8).setCell ⟨g, 9, none⟩ v9).setCell ⟨g, 10, none⟩ v10).setCell ⟨g, 11, none⟩ v11).setCell ⟨e, 0, none⟩ x).cell? ⟨e, 0, none⟩ = some x := by
  have h := set12 hz v0 v1 v2 v3 v4 v5 v6 v7 v8 v9 v10 v11
  refine ⟨fun j => ?_, ?_⟩
  · rw [World.cell?_setCell_other _ _ _ _ (fun q => hne (by injection q))]
    exact h j
  · refine World.cell?_setCell_same' _ _ _ ?_
    rw [World.cell?_setCell_other _ _ _ _ (fun q => hne (by injection q with q1; exact q1.symm)), World.cell?_setCell_other _ _ _ _ (fun q => hne (by injection q with q1; exact q1.symm)), World.cell?_setCell_other _ _ _ _ (fun q => hne (by injection q with q1; exact q1.symm)), World.cell?_setCell_other _ _ _ _ (fun q => hne (by injection q with q1; exact q1.symm)), World.cell?_setCell_other _ _ _ _ (fun q => hne (by injection q with q1; exact q1.symm)), World.cell?_setCell_other _ _ _ _ (fun q => hne (by injection q with q1; exact q1.symm)), World.cell?_setCell_other _ _ _ _ (fun q => hne (by injection q with q1; exact q1.symm)), World.cell?_setCell_other _ _ _ _ (fun q => hne (by injection q with q1; exact q1.symm)), World.cell?_setCell_other _ _ _ _ (fun q => hne (by injection q with q1; exact q1.symm)), World.cell?_setCell_other _ _ _ _ (fun q => hne (by injection q with q1; exact q1.symm)), World.cell?_setCell_other _ _ _ _ (fun q => hne (by injection q with q1; exact q1.symm)), World.cell?_setCell_other _ _ _ _ (fun q => hne (by injection q with q1; exact q1.symm)), hy]
    rfl
theorem set12fd {w : World} {g e : Nat} {x y : Value} (hne : e ≠ g) (hz : ∀ j, w.cell? ⟨g, j, none⟩ = (#[.int .i64 0, .int .i64 0, .int .i64 0, .int .i64 0, .int .i64 0, .int .i64 0, .int .i64 0, .int .i64 0, .int .i64 0, .int .i64 0, .int .i64 0, .int .i64 0] : Array Value)[j]?) (hy : w.cell? ⟨e, 0, none⟩ = some y) (v0 v1 v2 v3 v4 v5 v6 v7 v8 v9 v10 v11 : Value) :
    (∀ j, ((((((((((((((w.setCell ⟨g, 0, none⟩ v0).setCell ⟨g, 1, none⟩ v1).setCell ⟨g, 2, none⟩ v2).setCell ⟨g, 3, none⟩ v3).setCell ⟨g, 4, none⟩ v4).setCell ⟨g, 5, none⟩ v5).setCell ⟨g, 6, none⟩ v6).setCell ⟨g, 7, none⟩ v7).setCell ⟨g, 8, none⟩ v8).setCell ⟨g, 9, none⟩ v9).setCell ⟨g, 10, none⟩ v10).setCell ⟨g, 11, none⟩ v11).setCell ⟨e, 0, none⟩ x).drew).cell? ⟨g, j, none⟩ = (#[v0, v1, v2, v3, v4, v5, v6, v7, v8, v9, v10, v11] : Array Value)[j]?) ∧ ((((((((((((((w.setCell ⟨g, 0, none⟩ v0).setCell ⟨g, 1, none⟩ v1).setCell ⟨g, 2, none⟩ v2).setCell ⟨g, 3, none⟩ v3).setCell ⟨g, 4, none⟩ v4).setCell ⟨g, 5, none⟩ v5).setCell ⟨g, 6, none⟩ v6).setCell ⟨g, 7, none⟩ v7).setCell ⟨g, 8, none⟩ v8).setCell ⟨g, 9, none⟩ v9).setCell ⟨g, 10, none⟩ v10).setCell ⟨g, 11, none⟩ v11).setCell ⟨e, 0, none⟩ x).drew).cell? ⟨e, 0, none⟩ = some x := by
  have h := set12f (x := x) hne hz hy v0 v1 v2 v3 v4 v5 v6 v7 v8 v9 v10 v11
  exact ⟨fun j => by rw [World.cell?_drew]; exact h.1 j, by rw [World.cell?_drew]; exact h.2⟩
/-- A block of twelve cells, made ahead of a call or behind it. -/
def MadeM (w0 : World) (vs : Array Value) (p : Value) (W : World) : Prop :=
  ∃ g : Nat, p = .pointer (some ⟨g, 0, none⟩) ∧ (∀ j, W.cell? ⟨g, j, none⟩ = vs[j]?) ∧ w0.heap.size ≤ g ∧ g < W.heap.size ∧ Below w0.heap.size w0 W
theorem Below.undrew {w W : World} (h : Below w.drew.heap.size w.drew W) : Below w.heap.size w W := ⟨h.os, h.tape, h.output, h.size, h.block⟩
theorem madeM_last {w0 W : World} {T : Nat} (h : Below w0.heap.size w0 W) (vs : Array Value) : MadeM w0 vs (.pointer (some ⟨W.heap.size, 0, none⟩)) (W.alloc (.cells vs T)) :=
  ⟨W.heap.size, rfl, fun _ => World.cell?_alloc_new _ _ _ _, h.size, by simp, h.alloc h.size _⟩
theorem madeM_first {w0 X W : World} {T : Nat} (h1 : Below w0.heap.size w0 X) (h2 : Below (X.alloc (.cells #[.int .i64 0, .int .i64 0, .int .i64 0, .int .i64 0, .int .i64 0, .int .i64 0, .int .i64 0, .int .i64 0, .int .i64 0, .int .i64 0, .int .i64 0, .int .i64 0] T)).heap.size (X.alloc (.cells #[.int .i64 0, .int .i64 0, .int .i64 0, .int .i64 0, .int .i64 0, .int .i64 0, .int .i64 0, .int .i64 0, .int .i64 0, .int .i64 0, .int .i64 0, .int .i64 0] T)) W) (v0 v1 v2 v3 v4 v5 v6 v7 v8 v9 v10 v11 : Value) :
    MadeM w0 (#[v0, v1, v2, v3, v4, v5, v6, v7, v8, v9, v10, v11] : Array Value) (.pointer (some ⟨X.heap.size, 0, none⟩)) ((((((((((((W.setCell ⟨X.heap.size, 0, none⟩ v0).setCell ⟨X.heap.size, 1, none⟩ v1).setCell ⟨X.heap.size, 2, none⟩ v2).setCell ⟨X.heap.size, 3, none⟩ v3).setCell ⟨X.heap.size, 4, none⟩ v4).setCell ⟨X.heap.size, 5, none⟩ v5).setCell ⟨X.heap.size, 6, none⟩ v6).setCell ⟨X.heap.size, 7, none⟩ v7).setCell ⟨X.heap.size, 8, none⟩ v8).setCell ⟨X.heap.size, 9, none⟩ v9).setCell ⟨X.heap.size, 10, none⟩ v10).setCell ⟨X.heap.size, 11, none⟩ v11) := by
  have hz := h2.size
  rw [World.size_alloc] at hz
  have hle := h1.size
  refine ⟨X.heap.size, rfl, set12 (fun j => (h2.cell (p := ⟨X.heap.size, j, none⟩) (by simp)).trans (World.cell?_alloc_new _ _ _ _)) _ _ _ _ _ _ _ _ _ _ _ _, hle, ?_, ?_⟩
  · simp only [World.size_setCell]; omega
  · have h3 : Below w0.heap.size w0 W := (h1.alloc hle _).trans (h2.mono (by rw [World.size_alloc]; omega))
    exact ((((((((((((h3.setCell (p := ⟨X.heap.size, 0, none⟩) hle _).setCell (p := ⟨X.heap.size, 1, none⟩) hle _).setCell (p := ⟨X.heap.size, 2, none⟩) hle _).setCell (p := ⟨X.heap.size, 3, none⟩) hle _).setCell (p := ⟨X.heap.size, 4, none⟩) hle _).setCell (p := ⟨X.heap.size, 5, none⟩) hle _).setCell (p := ⟨X.heap.size, 6, none⟩) hle _).setCell (p := ⟨X.heap.size, 7, none⟩) hle _).setCell (p := ⟨X.heap.size, 8, none⟩) hle _).setCell (p := ⟨X.heap.size, 9, none⟩) hle _).setCell (p := ⟨X.heap.size, 10, none⟩) hle _).setCell (p := ⟨X.heap.size, 11, none⟩) hle _)
theorem step_append_row2 {α : Type} {P : Program} {ops : Array Oper} {o : Oper} {a : Act} {w : World} {K : Act → World → Prop} {Q : Exit → Act → World → Prop} {X : Prop} (hgd : o.guard = none) (s x : Operand) (t : TypeId)
    (ho : o.op = .call { callee := .builtin .append, args := #[s, x], argTypes := #[t, t] }) (E : Enc α)
    (base : Nat) (e : TypeId) (i : TypeInfo) (z : Value) (nb : Nat) (ht : P.underlying t = some (.slice e)) (hi : P.info? e = some i) (hz : i.zero = some z)
    (hsize : i.size = E.k) (hby : i.bytes = nb) (hzs : z.cells.size = E.k) (hnb : nb ≤ 1000) (v : Value) (qs : List α) (hs : a.eval s = v)
    (b off m c : Nat) (ps : List α) (hx : a.eval x = .slice (some ⟨b, off, none⟩) m c) (hm : m = ps.length) (hlen : qs.length + ps.length ≤ 1000000) (hown : OwnR E w base e v qs) (hp : RowIn E w b off ps)
    (hbase : base ≤ w.heap.size)
    (h : ∀ v' w', OwnR E w' base e v' (qs ++ ps) → Below base w w' → w.grownBy w' v.ownBlock → K (a.put o.dst v') w') : if Region.wanted o (yielded ops a.tmps) = true then Oper.wp P o a w K Q else X := by
  have hw : Region.wanted o (yielded ops a.tmps) = true := by simp [Region.wanted, hgd]
  rw [if_pos hw]
  have hbytes : (qs.length + m) * nb ≤ 140737488355328 := Nat.le_trans (Nat.mul_le_mul (show qs.length + m ≤ 1000000 by omega) hnb) (by decide)
  refine wp_append_own w s x t ho base e i z E.k nb ht hi hz hsize hby hzs E.pos v qs.length (E.flat qs) hs hown ⟨b, off, none⟩ m c (E.flat ps) hx (by rw [E.flat_len, hm]) hp.cells (E.flat_one ps)
    (by unfold maxLen; omega) hbytes hbase ?_
  intro v' w' hown' hgrow _
  refine h v' w' ?_ ((Below.refl base w).grown hgrow hbase (fun q hq => (World.ownsRow.lt hown q hq).1)) hgrow
  unfold OwnR
  rw [List.length_append, E.flat_append, ← hm]
  exact hown'
/-- What the moves that came so far make. -/
def fM (pre : List (Nat × RMv)) : Nat × Mv := foldM oneM (pre.map fun x => x.2.1)
theorem fM_snoc {pre : List (Nat × RMv)} {x : Nat × RMv} (h : (fM pre).1 = 0) : fM (pre ++ [x]) = if thenC (fM pre).2 x.2.1 = (0, none) then (0, thenV (fM pre).2 x.2.1) else (2, zMv) := by
  unfold fM at h ⊢
  rw [List.map_append, List.map_singleton, foldM_snoc, if_pos h]
theorem fM_take {zs : List RMv} {acc : List Mv} {k : Nat} (h : zs.map (·.1) = acc) (hk : k ≤ zs.length) : fM (bwd zs k) = foldM oneM (acc.reverse.take k) := by
  unfold fM
  congr 1
  have e : (bwd zs k).map (fun x => x.2.1) = ((bwd zs k).map (·.2)).map (·.1) := by rw [List.map_map]; rfl
  rw [e, bwd_take zs hk, ← h, ← List.map_reverse, List.map_take]
theorem fM_bwd {zs : List RMv} {acc : List Mv} (h : zs.map (·.1) = acc) : fM (bwd zs zs.length) = foldM oneM acc.reverse := by
  rw [fM_take h (Nat.le_refl _)]
  congr 1
  rw [List.take_of_length_le]
  rw [List.length_reverse, ← h, List.length_map]; exact Nat.le_refl _
theorem fM_stop {zs : List RMv} {acc : List Mv} {k : Nat} (h : zs.map (·.1) = acc) (hk : k ≤ zs.length) (h2 : (fM (bwd zs k)).1 ≠ 0) : (foldM oneM acc.reverse).1 = (fM (bwd zs k)).1 := by
  rw [fM_take h hk] at h2 ⊢
  have e := List.take_append_drop k acc.reverse
  have := foldM_stop (acc.reverse.take k) (acc.reverse.drop k) oneM h2
  rw [e] at this
  rw [this]
theorem held_one {W : World} {b : Nat} {v : Value} (hc : W.cell? ⟨b, 0, none⟩ = some v) (hf : W.frozen? ⟨b, 0, none⟩ = false) : Held W b #[v] := by
  intro j u hj
  match j, hj with
  | 0, h => simp at h; subst h; exact ⟨hc, hf⟩
def slLen : Value → Nat
  | .slice _ n _ => n
  | _ => 0
theorem moveC_err {l : List UInt8} {ws : List (List UInt8)} {e : Nat} (h0 : l ≠ []) (hw : cutL 32 l = ws) (h : (rdW ws.length ws).1 = e) (he : e ≠ 0) : moveC l = e ∧ moveV l = zMv := by
  subst hw
  unfold moveC moveV
  rw [if_neg h0, if_neg h0, h, if_pos he, if_pos he]
  exact ⟨rfl, rfl⟩
theorem moveC_ok {l : List UInt8} {ws : List (List UInt8)} {acc : List Mv} (h0 : l ≠ []) (hw : cutL 32 l = ws) (h : rdW ws.length ws = (0, acc)) : moveC l = (foldM oneM acc.reverse).1 ∧ moveV l = (foldM oneM acc.reverse).2 := by
  subst hw
  unfold moveC moveV
  rw [if_neg h0, if_neg h0, h, if_neg (fun x => x rfl), if_neg (fun x => x rfl)]
  exact ⟨rfl, rfl⟩
theorem cutR_small (y : UInt8) : ∀ l : List UInt8, (cutR y l).length ≤ l.length + 1 ∧ ∀ p ∈ cutR y l, p.length ≤ l.length
  | [] => ⟨by simp [cutR], fun p hp => by simp [cutR] at hp; subst hp; exact Nat.le_refl _⟩
  | c :: l => by
    obtain ⟨h1, h2⟩ := cutR_small y l
    have hne := cutR_ne y l
    unfold cutR
    by_cases h : c = y
    · rw [if_pos h]
      refine ⟨by simp; omega, fun p hp => ?_⟩
      rcases List.mem_cons.1 hp with rfl | hp
      · simp
      · have := h2 p hp; simp; omega
    · rw [if_neg h]
      cases hc : cutR y l with
      | nil => exact absurd hc hne
      | cons a r =>
        rw [hc] at h1 h2
        refine ⟨by simp at h1 ⊢; omega, fun p hp => ?_⟩
        rcases List.mem_cons.1 hp with rfl | hp
        · have := h2 a (by simp); simp; omega
        · have := h2 p (List.mem_of_mem_tail hp); simp; omega
theorem cutL_small (y : UInt8) (l : List UInt8) : 1 ≤ (cutL y l).length ∧ (cutL y l).length ≤ l.length + 1 ∧ ∀ p ∈ cutL y l, p.length ≤ l.length := by
  rw [cutL_R]
  obtain ⟨h1, h2⟩ := cutR_small y l
  refine ⟨?_, h1, h2⟩
  have := cutR_ne y l
  cases h : cutR y l with
  | nil => exact absurd h this
  | cons a r => simp
end Lead
