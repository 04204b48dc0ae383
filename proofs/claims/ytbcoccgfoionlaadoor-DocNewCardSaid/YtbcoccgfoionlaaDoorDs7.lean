/-
  While a node's children are laid: what holds, and how one more child keeps it.
-/
import Derived.Test.YtbcoccgfoionlaaDoorDs6
import Derived.Test.YtbcoccgfoionlaaDoorApn
namespace Lead.Dc
open Go Go.RowKit Lead
/-- What laying makes of a document: its numbers below stay where they lie. -/
def LaidTo (P : Program) (T : Tys) (w w' : World) (bd bm : Nat) (F : Nat → Prop) (pl : Nat → Plc) (next : Nat) (s : Els × Nat) : Prop :=
  ∃ (pl' : Nat → Plc) (cnt' : Nat) (D' : DataW Unit) (F' : Nat → Prop), DAt P T w' bd s.1 s.2 pl' bm cnt' D' ∧ cnt' ≤ s.2 ∧ Foot w' F' bd bm s.1 pl' ∧ (∀ k, F' k → F k ∨ w.heap.size ≤ k) ∧ Turn F w w' ∧ ∀ x, x < next → pl' x = pl x
/-- A slice of children that is nil, or has a block. -/
def KvOk (v : Value) : Prop := v = .slice none 0 0 ∨ ∃ b, rowB v = some b
theorem kv_own {w : World} {base : Nat} {e : TypeId} {v : Value} {xs : List Nat} (h : OwnQ EIn w base e v xs) (hk : KvOk v) : OwnR EIn w base e v xs ∧ v.ownBlock = rowB v := by
  rcases h with h | ⟨a, rfl, rfl⟩
  · refine ⟨h, ?_⟩
    rcases hk with rfl | ⟨b, hb⟩
    · rfl
    · rw [hb]; exact rowB_own h hb
  · rcases hk with hk | ⟨b, hb⟩
    · cases hk
    · cases hb
/-- While a node's children are laid. -/
structure LayInv (P : Program) (T : Tys) (w wr : World) (bd bm be : Nat) (F : Nat → Prop) (pl : Nat → Plc) (next : Nat) (s : Els × Nat) (pl' : Nat → Plc) (cnt' : Nat) (D' : DataW Unit) (F' : Nat → Prop) (e' : El) : Prop where
  doc : DAt P T wr bd s.1 s.2 pl' bm cnt' D'
  c : cnt' ≤ s.2
  ft : Foot wr F' bd bm s.1 pl'
  nw : ∀ k, F' k → F k ∨ w.heap.size ≤ k
  tn : Turn F w wr
  old : ∀ x, x < next → pl' x = pl x
  blk : (pl' next).blk = be
  kv : KvOk (pl' next).kv
  el : elAt s.1 next = some e'
  ok : LOk s
  kl : e'.kids.length + next < s.2
theorem kvOk_app {w : World} {e : TypeId} {v : Value} {xs : List Nat} {x : Nat} (h : OwnR EIn w 0 e v (xs ++ [x])) : KvOk v := by
  have h1 := own_rowB h (by simp)
  rcases h with ⟨_, ⟨rfl, h2⟩ | ⟨g, cap, cur, rfl, _⟩⟩
  · simp at h2
  · exact .inr ⟨g, h1.symm⟩

theorem LayInv.lt {P : Program} {T : Tys} {w wr : World} {bd bm be next cnt' : Nat} {F F' : Nat → Prop} {pl pl' : Nat → Plc} {s : Els × Nat} {D' : DataW Unit} {e' : El} (h : LayInv P T w wr bd bm be F pl next s pl' cnt' D' F' e') : next < s.2 := by have := h.kl; omega
section
variable {P : Program} {T : Tys} {w wr w1 w2 : World} {bd bm be next cnt' : Nat} {F F' : Nat → Prop} {pl pl' : Nat → Plc} {s : Els × Nat} {D' : DataW Unit} {e' : El} {kr : RT}
/-- The laid node's element, its children, after the call. -/
theorem LayInv.after (h : LayInv P T w wr bd bm be F pl next s pl' cnt' D' F' e') (hL : LaidTo P T w1 w2 bd bm F' pl' s.2 (layN kr (next : Int) s)) :
    w2.heap[be]? = some (.cells #[.string e'.name, (pl' next).av, .int .i64 e'.parent, (pl' next).kv] T.E (0, 0)) ∧ OwnR EIn w2 0 T.I (pl' next).kv e'.kids := by
  obtain ⟨pl2, cnt2, D2, F2, hA2, hc2, hF2, hFF2, hT2, hold2⟩ := hL
  have ho := (h.ok.layN kr (next : Int)).2.2 next h.lt
  rw [h.el] at ho
  have he := hA2.els next e' ho
  rw [hold2 next h.lt] at he
  have hc := he.cell
  rw [h.blk] at hc
  exact ⟨hc, (kv_own he.kids h.kv).1⟩
/-- One child more. -/
theorem LayInv.more (K : TysOk P T) (h : LayInv P T w wr bd bm be F pl next s pl' cnt' D' F' e') (hb1 : Below wr.heap.size wr w1) (hL : LaidTo P T w1 w2 bd bm F' pl' s.2 (layN kr (next : Int) s))
    {wa w3 w4 : World} {v' : Value} (hba : Below w2.heap.size w2 wa) (hv : OwnR EIn w3 0 T.I v' (e'.kids ++ [s.2])) (hg : wa.grownBy w3 (pl' next).kv.ownBlock) (hob : v'.ownBlock = (pl' next).kv.ownBlock ∨ v'.ownBlock = some wa.heap.size)
    (h4 : Below (w3.setCell ⟨be, 3, none⟩ v').heap.size (w3.setCell ⟨be, 3, none⟩ v') w4) :
    ∃ pl3 cnt3 D3 F3, LayInv P T w w4 bd bm be F pl next (Dc.upd (layN kr (next : Int) s).1 next (fun e => { e with kids := e.kids ++ [s.2] }), (layN kr (next : Int) s).2) pl3 cnt3 D3 F3 { e' with kids := e'.kids ++ [s.2] } := by
  obtain ⟨pl2, cnt2, D2, F2, hA2, hc2, hF2, hFF2, hT2, hold2⟩ := hL
  obtain ⟨hok2, hs2, hsame⟩ := h.ok.layN kr (next : Int)
  have hlt := h.lt
  have he := hsame next hlt
  rw [h.el] at he
  have hpn := hold2 next hlt
  have hEl := hA2.els next e' he
  rw [hpn] at hEl
  obtain ⟨hown, hrb⟩ := kv_own hEl.kids h.kv
  have zwr := h.tn.size
  have z1 := hb1.size
  have z2 := hT2.size
  have za := hba.size
  have zg := hg.size
  have hk := DocAt.kids K hA2 hF2 (n := next) he (w1 := w3) (v' := v') (l' := e'.kids ++ [s.2])
    ⟨hg.os.trans hba.os, hg.tape.trans hba.tape, hg.output.trans hba.output⟩ (by omega)
    (fun k hk hn => by
      rw [hpn] at hn
      exact (hg.block k (by omega) (fun e => hn (hrb.symm.trans e.symm))).trans (hba.block k hk))
    hv (fun b hb => by
      rw [hpn]
      have hbo := rowB_own hv hb
      rcases hob with ho | ho
      · left; rw [← hrb, ← ho]; exact hbo
      · right
        rw [ho] at hbo
        injection hbo with hbo
        omega)
  rw [hpn, h.blk, upd_const hok2.nd he (fun e => { e with kids := e.kids ++ [s.2] })] at hk
  obtain ⟨hA4, hF4, hT4⟩ := hk
  have hnw2 : ∀ j, F2 j → F j ∨ w.heap.size ≤ j := fun j hj => by
    rcases hFF2 j hj with h' | h'
    · exact h.nw j h'
    · right; omega
  refine ⟨_, cnt2, D2, _, hA4.keep h4, hc2, hF4.keep h4.size, fun j hj => ?_, ?_, fun x hx => ?_, ?_, ?_, ?_, hok2.upd next _, ?_⟩
  · rcases hj with h' | h'
    · exact hnw2 j h'
    · have hbo := rowB_own hv h'
      rcases hob with ho | ho
      · rw [ho, hrb] at hbo
        exact h.nw j (h.ft.kv next e' h.el j hbo)
      · rw [ho] at hbo
        injection hbo with hbo
        right; omega
  · exact (((h.tn.goOn (Turn.of_below (F := F) hb1) (fun j hj => .inl hj)).goOn hT2 h.nw).goOn hT4 hnw2).goOn (Turn.of_below (F := F) h4) (fun j hj => .inl hj)
  · show (if x = next then _ else pl2 x) = pl x
    rw [if_neg (by omega), hold2 x (by omega)]
    exact h.old x hx
  · show (if next = next then _ else pl2 next : Plc).blk = be
    rw [if_pos rfl]
  · show KvOk (if next = next then _ else pl2 next : Plc).kv
    rw [if_pos rfl]
    exact kvOk_app hv
  · show elAt (Dc.upd (layN kr (next : Int) s).1 next (fun e => { e with kids := e.kids ++ [s.2] })) next = _
    rw [elAt_upd, if_pos rfl, he]; rfl
  · show (e'.kids ++ [s.2]).length + next < (layN kr (next : Int) s).2
    rw [hs2, List.length_append]
    have := h.kl
    have : 1 ≤ kr.cnt := by cases kr; rw [RT.cnt]; omega
    simp; omega
theorem LaidTo.size (hL : LaidTo P T w1 w2 bd bm F' pl' next s) : w1.heap.size ≤ w2.heap.size := by
  obtain ⟨_, _, _, _, _, _, _, _, hT2, _⟩ := hL
  exact hT2.size
/-- An element's block stays while its row grows. -/
theorem el_stays {wa w3 : World} {TE TI : TypeId} {cs : Array Value} {V : Value} {xs : List Nat} (h : w2.heap[be]? = some (.cells cs TE (0, 0))) (ho : OwnR EIn w2 0 TI V xs) (hT : TE ≠ TI) (hba : Below w2.heap.size w2 wa) (hg : wa.grownBy w3 V.ownBlock) : w3.heap[be]? = some (.cells cs TE (0, 0)) := by
  have hlt := Dc.hlt h
  refine (hg.block be (by have := hba.size; omega) (fun he => ?_)).trans ((hba.block be hlt).trans h)
  obtain ⟨_, ⟨rfl, _⟩ | ⟨g, cap, cur, rfl, _, hh, _⟩⟩ := ho
  · cases he
  · have he : some be = some g := he
    injection he with he
    subst he
    rw [h] at hh
    injection hh with hh
    injection hh with _ hh
    exact hT hh
end
end Lead.Dc
