/-
  A document in memory: its next number turns; an element is put into the map, or taken out of it.
-/
import Derived.Test.YtbcoccgfoionlaaDoorDm2
namespace Lead.Dc
open Go Go.RowKit Lead
theorem lit_ne {a b : Int} (h : a ≠ b) : (Lit.int .i64 a) ≠ Lit.int .i64 b := fun e => h (by injection e)
theorem MapD.put {D : DataW Unit} {E : Els} {pl : Nat → Plc} (h : MapD D E pl) {n : Nat} {e : El} {p : Plc} (hn : elAt E n = none) :
    MapD (D.put (.int .i64 (n : Int)) (.lit (.int .i64 (p.blk : Int)))) (E ++ [(n, e)]) (fun x => if x = n then p else pl x) := by
  have hk : n ∉ E.map (·.1) := fun hk => by
    obtain ⟨e0, he0⟩ := elAt_some.2 hk
    rw [hn] at he0; cases he0
  have hkl : WideAt.IsKeyLit (Lit.int .i64 (n : Int)) := trivial
  have hm := h.tidy.isMap
  have h0 : Go.Maps.has D (.int .i64 (n : Int)) = false := h.miss _ fun x hx => by
    have : x = n := by omega
    rw [this]; exact hn
  refine ⟨h.tidy.put hkl _, fun x ex hex => ?_, fun z hz => ?_, ?_⟩
  · rw [elAt_append E n e hk] at hex
    by_cases hx : x = n
    · subst hx
      rw [if_pos rfl]
      exact ⟨Go.Maps.atKey_put_same hm hkl _ _, Go.Maps.has_put_same hm hkl _⟩
    · rw [if_neg hx] at hex ⊢
      have hne : (Lit.int .i64 (x : Int)) ≠ Lit.int .i64 (n : Int) := lit_ne (by omega)
      rw [Go.Maps.atKey_put_other hne, Go.Maps.has_put_other hne]
      exact h.hit x ex hex
  · have hzn : z ≠ (n : Int) := fun hh => by
      have := hz n hh
      rw [elAt_append E n e hk, if_pos rfl] at this; cases this
    rw [Go.Maps.has_put_other (lit_ne hzn)]
    refine h.miss z fun x hx => ?_
    have := hz x hx
    rw [elAt_append E n e hk] at this
    split at this
    · cases this
    · exact this
  · rw [Go.Maps.size_put h.tidy, h0, h.size, if_neg (by simp), List.length_append]; rfl
def dropE (E : Els) (n : Nat) : Els := E.filter fun x => x.1 != n
theorem dropE_at (E : Els) (n x : Nat) : elAt (dropE E n) x = if x = n then none else elAt E x := by
  unfold dropE
  rw [elAt_filter (p := fun x => x != n)]
  by_cases h : x = n
  · rw [if_pos h, if_neg (by simp [h])]
  · rw [if_neg h, if_pos (by simp [h])]
theorem dropE_len {E : Els} (hk : (E.map (·.1)).Nodup) {n : Nat} {e : El} (h : elAt E n = some e) : (dropE E n).length + 1 = E.length := by
  induction E with
  | nil => cases h
  | cons x E ih =>
    rw [List.map_cons, List.nodup_cons] at hk
    rw [elAt_cons] at h
    show ((x :: E).filter fun x => x.1 != n).length + 1 = (x :: E).length
    rw [List.filter_cons]
    by_cases hx : x.1 = n
    · have hb : (x.1 != n) = false := by simp [hx]
      rw [hb, if_neg (by simp)]
      have : (E.filter fun x => x.1 != n) = E := List.filter_eq_self.2 fun a ha => by
        have : a.1 ≠ n := fun he => hk.1 (List.mem_map.2 ⟨a, ha, by rw [he, hx]⟩)
        simpa using this
      rw [this]; rfl
    · rw [if_neg hx] at h
      have hb : (x.1 != n) = true := by simp [hx]
      rw [hb, if_pos rfl]
      have := ih hk.2 h
      show ((E.filter fun x => x.1 != n).length + 1) + 1 = E.length + 1
      unfold dropE at this
      omega
theorem MapD.del {D : DataW Unit} {E : Els} {pl : Nat → Plc} (h : MapD D E pl) (hk : (E.map (·.1)).Nodup) {n : Nat} {e : El} (hn : elAt E n = some e) :
    MapD (D.del (.int .i64 (n : Int))) (dropE E n) pl := by
  refine ⟨h.tidy.del _, fun x ex hex => ?_, fun z hz => ?_, ?_⟩
  · rw [dropE_at] at hex
    by_cases hx : x = n
    · rw [if_pos hx] at hex; cases hex
    · rw [if_neg hx] at hex
      have hne : (Lit.int .i64 (x : Int)) ≠ Lit.int .i64 (n : Int) := lit_ne (by omega)
      rw [Go.Maps.atKey_del_other hne, Go.Maps.has_del_other hne]
      exact h.hit x ex hex
  · by_cases hzn : z = (n : Int)
    · rw [hzn]; exact Go.Maps.has_del_same
    · rw [Go.Maps.has_del_other (lit_ne hzn)]
      refine h.miss z fun x hx => ?_
      have := hz x hx
      rw [dropE_at, if_neg (by omega)] at this
      exact this
  · have h1 := Go.Maps.size_del (k := Lit.int .i64 (n : Int)) h.tidy
    rw [(h.hit n e hn).2, if_pos rfl, h.size] at h1
    have h2 := dropE_len hk hn
    omega
variable {P : Program} {TD TE TA TI : TypeId} {base bd next bm cnt : Nat} {w w' : World} {E : Els} {pl : Nat → Plc} {D : DataW Unit}
/-- The number that comes next turns. -/
theorem DocAt.later (h : DocAt P TD TE TA TI base w bd E next pl bm cnt D) (h1 : TD ≠ TE) (h2 : TD ≠ TA) (h3 : TD ≠ TI) {next' : Nat} (hd : w'.heap[bd]? = some (.cells #[.map (some bm), .int .i64 (next' : Int)] TD (0, 0)))
    (hw : ∀ k, k < w.heap.size → k ≠ bd → w'.heap[k]? = w.heap[k]?) : DocAt P TD TE TA TI base w' bd E next' pl bm cnt D := by
  have ty : ∀ (k : Nat) (cs : Array Value) (T : TypeId), w.heap[k]? = some (.cells cs T (0, 0)) → TD ≠ T → w'.heap[k]? = w.heap[k]? := by
    intro k cs T hk hT
    refine hw k (Array.getElem?_eq_some_iff.1 hk).1 (fun e => ?_)
    have := h.doc
    rw [← e, hk] at this; injection this with this; injection this with _ this; exact hT this.symm
  refine ⟨h.geD, h.geM, hd, map_below h.map (hw bm h.map.lt (fun e => ?_)), h.md, fun n e he => ?_, h.ne⟩
  · obtain ⟨es, cl, hm, _⟩ := h.map
    have := h.doc; rw [← e, hm] at this; cases this
  · have hx := h.els n e he
    refine ⟨hx.ge, (ty _ _ TE hx.cell h1).trans hx.cell, hx.attrs.kept fun b hb => ?_, hx.kids.kept fun b hb => ?_⟩
    · obtain ⟨_, _, cur, hc⟩ := hx.attrs.rowB hb
      exact ty b cur TA hc h2
    · obtain ⟨_, _, cur, hc⟩ := hx.kids.rowB hb
      exact ty b cur TI hc h3
/-- What no map is stands where the map turns. -/
theorem ElIn.turn {TE TA TI : TypeId} {base bm : Nat} {w w' : World} {e : El} {p : Plc} (hx : ElIn TE TA TI base w e p) {es : Array MapEntry} {cl : Nat} (hm : w.heap[bm]? = some (.map es cl)) (hw : ∀ k, k < w.heap.size → k ≠ bm → w'.heap[k]? = w.heap[k]?) : ElIn TE TA TI base w' e p := by
  have ty : ∀ (k : Nat) (cs : Array Value) (T : TypeId), w.heap[k]? = some (.cells cs T (0, 0)) → w'.heap[k]? = w.heap[k]? := by
    intro k cs T hk
    refine hw k (Array.getElem?_eq_some_iff.1 hk).1 (fun e => ?_)
    rw [e, hm] at hk; cases hk
  refine ⟨hx.ge, (ty _ _ TE hx.cell).trans hx.cell, hx.attrs.kept fun b hb => ?_, hx.kids.kept fun b hb => ?_⟩
  · obtain ⟨_, _, cur, hc⟩ := hx.attrs.rowB hb
    exact ty b cur TA hc
  · obtain ⟨_, _, cur, hc⟩ := hx.kids.rowB hb
    exact ty b cur TI hc
/-- A new element is put into the map. -/
theorem DocAt.put (h : DocAt P TD TE TA TI base w bd E next pl bm cnt D) {n : Nat} {e : El} {p : Plc} (hn : elAt E n = none) (hE : ElIn TE TA TI base w e p)
    (hap : ∀ m f, elAt E m = some f → p.blk ≠ (pl m).blk ∧ (∀ b, rowB p.av = some b → rowB (pl m).av ≠ some b) ∧ (∀ b, rowB p.kv = some b → rowB (pl m).kv ≠ some b))
    (hm : w'.ownsMap P TI pElem bm (cnt + 1) (D.put (.int .i64 (n : Int)) (.lit (.int .i64 (p.blk : Int))))) (hg : w.grownBy w' (some bm)) :
    DocAt P TD TE TA TI base w' bd (E ++ [(n, e)]) next (fun x => if x = n then p else pl x) bm (cnt + 1) (D.put (.int .i64 (n : Int)) (.lit (.int .i64 (p.blk : Int)))) := by
  obtain ⟨es, cl, hmm, _⟩ := h.map
  have hw : ∀ k, k < w.heap.size → k ≠ bm → w'.heap[k]? = w.heap[k]? := fun k hk hne => hg.block k hk (fun e => hne (by injection e))
  have hk : n ∉ E.map (·.1) := fun hk => by
    obtain ⟨e0, he0⟩ := elAt_some.2 hk
    rw [hn] at he0; cases he0
  refine ⟨h.geD, h.geM, ?_, hm, h.md.put hn, fun x ex hex => ?_, fun x y ex ey hxy hex hey => ?_⟩
  · refine (hw bd (Array.getElem?_eq_some_iff.1 h.doc).1 (fun e => ?_)).trans h.doc
    have := h.doc; rw [e, hmm] at this; cases this
  · rw [elAt_append E n e hk] at hex
    by_cases hx : x = n
    · rw [if_pos hx] at hex ⊢
      cases hex; exact hE.turn hmm hw
    · rw [if_neg hx] at hex ⊢
      exact (h.els x ex hex).turn hmm hw
  · rw [elAt_append E n e hk] at hex hey
    by_cases hx : x = n
    · have hy : y ≠ n := fun h => hxy (hx.trans h.symm)
      rw [if_pos hx, if_neg hy]
      rw [if_neg hy] at hey
      exact hap y ey hey
    · rw [if_neg hx] at hex ⊢
      by_cases hy : y = n
      · rw [if_pos hy]
        have := hap x ex hex
        exact ⟨fun h => this.1 h.symm, fun b h1 h2 => this.2.1 b h2 h1, fun b h1 h2 => this.2.2 b h2 h1⟩
      · rw [if_neg hy] at hey ⊢
        exact h.ne x y ex ey hxy hex hey
/-- An element is taken out of the map. -/
theorem DocAt.del (h : DocAt P TD TE TA TI base w bd E next pl bm cnt D) (hkn : (E.map (·.1)).Nodup) {n : Nat} {e : El} (hn : elAt E n = some e)
    (hm : w'.ownsMap P TI pElem bm cnt (D.del (.int .i64 (n : Int)))) (hg : w.grownBy w' (some bm)) :
    DocAt P TD TE TA TI base w' bd (dropE E n) next pl bm cnt (D.del (.int .i64 (n : Int))) := by
  obtain ⟨es, cl, hmm, _⟩ := h.map
  have hw : ∀ k, k < w.heap.size → k ≠ bm → w'.heap[k]? = w.heap[k]? := fun k hk hne => hg.block k hk (fun e => hne (by injection e))
  have old : ∀ x ex, elAt (dropE E n) x = some ex → elAt E x = some ex := fun x ex hex => by
    rw [dropE_at] at hex
    split at hex
    · cases hex
    · exact hex
  refine ⟨h.geD, h.geM, ?_, hm, h.md.del hkn hn, fun x ex hex => (h.els x ex (old x ex hex)).turn hmm hw, fun x y ex ey hxy hex hey => h.ne x y ex ey hxy (old x ex hex) (old y ey hey)⟩
  refine (hw bd (Array.getElem?_eq_some_iff.1 h.doc).1 (fun e => ?_)).trans h.doc
  have := h.doc; rw [e, hmm] at this; cases this
end Lead.Dc
