/-
  A document's memory where an element's children, or its parent, turn.
-/
import Derived.Test.YtbcoccgfoionlaaDoorDs4
import Derived.Test.YtbcoccgfoionlaaDoorDs2
namespace Lead.Dc
open Go Go.RowKit Lead
theorem upd_const {E : Els} (hk : (E.map (·.1)).Nodup) {n : Nat} {e : El} (he : elAt E n = some e) (f : El → El) : upd E n (fun _ => f e) = upd E n f := by
  unfold upd
  refine List.map_congr_left fun x hx => ?_
  by_cases h : x.1 = n
  · rw [if_pos h, if_pos h]
    have h1 := elAt_of_mem hk (show (x.1, x.2) ∈ E from hx)
    rw [h, he] at h1
    rw [Option.some.inj h1]
  · rw [if_neg h, if_neg h]
theorem upd_one (n m : Nat) (e : El) (f : El → El) (h : m ≠ n) : upd [(m, e)] n f = [(m, e)] := by simp [upd, h]
theorem upd_app' (A B : Els) (n : Nat) (f : El → El) : upd (A ++ B) n f = upd A n f ++ upd B n f := by unfold upd; rw [List.map_append]
variable {P : Program} {T : Tys} {w w1 : World} {bd next bm cnt : Nat} {E : Els} {pl : Nat → Plc} {F : Nat → Prop} {D : DataW Unit}
theorem ElIn.blk_ne {TE TA TI : TypeId} {base : Nat} {e : El} {p : Plc} (h : ElIn TE TA TI base w e p) {g : Nat} {cs : Array Value} {t : TypeId} (hg : w.heap[g]? = some (.cells cs t (0, 0))) (ht : TE ≠ t) : g ≠ p.blk := fun he => by
  have := h.cell
  rw [← he, hg] at this
  injection this with this
  injection this with _ this
  exact ht this.symm
/-- A block that holds no element, no row of the element's, may turn; then its children's slice is stored anew. -/
theorem DocAt.kids (K : TysOk P T) (h : DAt P T w bd E next pl bm cnt D) (hF : Foot w F bd bm E pl) {n : Nat} {e : El} (he : elAt E n = some e) {v' : Value} {l' : List Nat}
    (ho : w1.os = w.os ∧ w1.tape = w.tape ∧ w1.output = w.output) (hsz : w.heap.size ≤ w1.heap.size) (hw : ∀ k, k < w.heap.size → rowB (pl n).kv ≠ some k → w1.heap[k]? = w.heap[k]?) (hv : OwnR EIn w1 0 T.I v' l') (hvb : ∀ b, rowB v' = some b → rowB (pl n).kv = some b ∨ w.heap.size ≤ b) :
    DAt P T (w1.setCell ⟨(pl n).blk, 3, none⟩ v') bd (Dc.upd E n (fun _ => { e with kids := l' })) next (fun x => if x = n then ⟨(pl n).blk, (pl n).av, v'⟩ else pl x) bm cnt D ∧
    Foot (w1.setCell ⟨(pl n).blk, 3, none⟩ v') (fun k => F k ∨ rowB v' = some k) bd bm (Dc.upd E n (fun _ => { e with kids := l' })) (fun x => if x = n then ⟨(pl n).blk, (pl n).av, v'⟩ else pl x) ∧
    Turn F w (w1.setCell ⟨(pl n).blk, 3, none⟩ v') := by
  have hn := h.els n e he
  have hbw : rowB (pl n).kv ≠ some (pl n).blk := fun hb => by
    obtain ⟨_, _, cur, hc⟩ := hn.kids.rowB hb
    exact hn.blk_ne hc K.h5 rfl
  have hcell : w1.heap[(pl n).blk]? = some (.cells #[.string e.name, (pl n).av, .int .i64 e.parent, (pl n).kv] T.E (0, 0)) := (hw _ hn.lt hbw).trans hn.cell
  have hset := heap_setCell_same w1 (pl n).blk 3 _ _ v' hcell
  have hoth : ∀ k, k ≠ (pl n).blk → (w1.setCell ⟨(pl n).blk, 3, none⟩ v').heap[k]? = w1.heap[k]? := fun k hk => heap_setCell_other w1 ⟨(pl n).blk, 3, none⟩ k v' hk
  have hsz' : (w1.setCell ⟨(pl n).blk, 3, none⟩ v').heap.size = w1.heap.size := World.size_setCell _ _ _
  have hvv : OwnR EIn (w1.setCell ⟨(pl n).blk, 3, none⟩ v') 0 T.I v' l' := own_kept hv fun b hb => by
    obtain ⟨_, ⟨rfl, _⟩ | ⟨g, cap, cur, rfl, hg, hh, _⟩⟩ := hv
    · cases hb
    · have : g = b := by simpa [Value.ownBlock] using hb
      subst this
      refine hoth g fun heq => ?_
      rw [heq, hcell] at hh
      injection hh with hh
      injection hh with _ hh
      exact K.h5 hh
  have hav : OwnQ EAt (w1.setCell ⟨(pl n).blk, 3, none⟩ v') 0 T.A (pl n).av e.attrs := hn.attrs.kept fun b hb => by
    obtain ⟨_, hbl, cur, hc⟩ := hn.attrs.rowB hb
    refine (hoth b (hn.blk_ne hc K.h4)).trans (hw b hbl fun hb2 => ?_)
    obtain ⟨_, _, cur2, hc2⟩ := hn.kids.rowB hb2
    rw [hc] at hc2
    injection hc2 with hc2
    injection hc2 with _ hc2
    exact K.h6 hc2
  refine ⟨h.upd K.h1 K.h2 K.h3 K.h4 K.h5 K.h6 he rfl ⟨Nat.zero_le _, by simpa using hset, hav, .inl hvv⟩ (fun b hb => .inl hb) hvb (fun k hk h1 _ h3 => (hoth k h1).trans (hw k hk h3)), ?_, ⟨?_, ?_, ?_, ?_, ?_⟩⟩
  · refine hF.upd (w' := w1.setCell ⟨(pl n).blk, 3, none⟩ v') (n := n) (f := fun _ => { e with kids := l' }) (p := ⟨(pl n).blk, (pl n).av, v'⟩) (by rw [hsz']; exact hsz) (hF.el n e he) (fun b hb => .inl (hF.av n e he b hb)) (fun b hb => ?_) (fun b hb => hF.av n e he b hb)
    rw [hsz']
    exact (own_block_lt hv hb).2
  · exact ho.1
  · exact ho.2.1
  · exact ho.2.2
  · rw [hsz']; exact hsz
  · intro k hk hn'
    exact (hoth k (fun heq => hn' (heq ▸ hF.el n e he))).trans (hw k hk (fun hb => hn' (hF.kv n e he k hb)))
/-- .. or its parent. -/
theorem DocAt.par (K : TysOk P T) (h : DAt P T w bd E next pl bm cnt D) (hF : Foot w F bd bm E pl) {n : Nat} {e : El} (he : elAt E n = some e) (m : Int) :
    DAt P T (w.setCell ⟨(pl n).blk, 2, none⟩ (.int .i64 m)) bd (Dc.upd E n (fun _ => { e with parent := m })) next (fun x => if x = n then pl n else pl x) bm cnt D ∧
    Foot (w.setCell ⟨(pl n).blk, 2, none⟩ (.int .i64 m)) F bd bm (Dc.upd E n (fun _ => { e with parent := m })) (fun x => if x = n then pl n else pl x) ∧
    Turn F w (w.setCell ⟨(pl n).blk, 2, none⟩ (.int .i64 m)) := by
  have hn := h.els n e he
  have hset := heap_setCell_same w (pl n).blk 2 _ _ (.int .i64 m) hn.cell
  have hoth : ∀ k, k ≠ (pl n).blk → (w.setCell ⟨(pl n).blk, 2, none⟩ (.int .i64 m)).heap[k]? = w.heap[k]? := fun k hk => heap_setCell_other w ⟨(pl n).blk, 2, none⟩ k _ hk
  have hsz' : (w.setCell ⟨(pl n).blk, 2, none⟩ (.int .i64 m)).heap.size = w.heap.size := World.size_setCell _ _ _
  have hkv : OwnQ EIn (w.setCell ⟨(pl n).blk, 2, none⟩ (.int .i64 m)) 0 T.I (pl n).kv e.kids := hn.kids.kept fun b hb => by
    obtain ⟨_, hbl, cur, hc⟩ := hn.kids.rowB hb
    exact hoth b (hn.blk_ne hc K.h5)
  have hav : OwnQ EAt (w.setCell ⟨(pl n).blk, 2, none⟩ (.int .i64 m)) 0 T.A (pl n).av e.attrs := hn.attrs.kept fun b hb => by
    obtain ⟨_, hbl, cur, hc⟩ := hn.attrs.rowB hb
    exact hoth b (hn.blk_ne hc K.h4)
  refine ⟨h.upd K.h1 K.h2 K.h3 K.h4 K.h5 K.h6 he rfl ⟨Nat.zero_le _, by simpa using hset, hav, hkv⟩ (fun b hb => .inl hb) (fun b hb => .inl hb) (fun k hk h1 _ _ => hoth k h1), ?_, ⟨rfl, rfl, rfl, by rw [hsz']; exact Nat.le_refl _, fun k hk hn' => hoth k (fun heq => hn' (heq ▸ hF.el n e he))⟩⟩
  have hF2 := hF.upd (w' := w.setCell ⟨(pl n).blk, 2, none⟩ (.int .i64 m)) (n := n) (f := fun _ => { e with parent := m }) (p := pl n) (by rw [hsz']; exact Nat.le_refl _) (hF.el n e he) (fun b hb => .inl (hF.av n e he b hb)) (fun b hb => by rw [hsz']; exact hF.lt b (hF.kv n e he b hb)) (fun b hb => hF.av n e he b hb)
  refine ⟨hF.d, hF.m, fun x ex hx => ?_, fun x ex hx b hb => ?_, fun x ex hx b hb => ?_, fun k hk => by rw [hsz']; exact hF.lt k hk⟩
  · rcases hF2.el x ex hx with h' | h'
    · exact h'
    · exact hF.kv n e he _ h'
  · rcases hF2.av x ex hx b hb with h' | h'
    · exact h'
    · exact hF.kv n e he _ h'
  · rcases hF2.kv x ex hx b hb with h' | h'
    · exact h'
    · exact hF.kv n e he _ h'
end Lead.Dc
