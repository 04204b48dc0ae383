/-
  A node as it comes in: a tree; its attributes and children in rows; how it reads.
-/
import Derived.Test.YtbcoccgfoionlaaDoorDm2
import Derived.ChangeSame
import Derived.Deep.Slices
import Derived.Deep.Strs
namespace Lead.Dc
open Go Go.RowKit Go.ChangeShapes Go.WideShapes Go.ChangeAt Lead
/-- A node, with the slices that its cells hold. -/
inductive NT where
  | mk (name : ByteArray) (ao : Option Addr) (al ac : Nat) (attrs : List (ByteArray × ByteArray)) (ko : Option Addr) (kl kc : Nat) (kids : List NT)
def NT.name : NT → ByteArray | .mk n _ _ _ _ _ _ _ _ => n
def NT.attrs : NT → List (ByteArray × ByteArray) | .mk _ _ _ _ a _ _ _ _ => a
def NT.kids : NT → List NT | .mk _ _ _ _ _ _ _ _ k => k
def NT.vals : NT → List Value | .mk n ao al ac _ ko kl kc _ => [.string n, .slice ao al ac, .slice ko kl kc]
instance : Inhabited NT := ⟨.mk ⟨#[]⟩ none 0 0 [] none 0 0 []⟩
def ENd : Enc NT := ⟨NT.vals, 3, fun n => by cases n; rfl, fun n u h => by cases n; simp [NT.vals] at h; rcases h with rfl | rfl | rfl <;> rfl, by decide⟩
variable {α : Type}
/-- A slice that came in. -/
def SlA (E : Enc α) (w : World) (oa : Option Addr) (len cap : Nat) (xs : List α) : Prop :=
  len = xs.length ∧ len ≤ cap ∧ cap ≤ maxLen ∧ (xs = [] ∨ ∃ b off, oa = some ⟨b, off, none⟩ ∧ b < w.heap.size ∧ RowIn E w b off xs)
theorem SlA.keep {E : Enc α} {w w' : World} {oa : Option Addr} {len cap : Nat} {xs : List α} {B : Nat} (h : SlA E w oa len cap xs) (hb : Below B w w') (hB : B = w.heap.size) : SlA E w' oa len cap xs := by
  obtain ⟨h1, h2, h3, h4⟩ := h
  refine ⟨h1, h2, h3, ?_⟩
  rcases h4 with h4 | ⟨b, off, e, hlt, hr⟩
  · exact .inl h4
  · exact .inr ⟨b, off, e, Nat.lt_of_lt_of_le hlt hb.size, hr.keep hb (by omega)⟩
inductive NodeOk (w : World) : NT → Prop
  | mk {name : ByteArray} {ao : Option Addr} {al ac : Nat} {attrs : List (ByteArray × ByteArray)} {ko : Option Addr} {kl kc : Nat} {kids : List NT} :
      SlA EAt w ao al ac attrs → SlA ENd w ko kl kc kids → (∀ k ∈ kids, NodeOk w k) → NodeOk w (.mk name ao al ac attrs ko kl kc kids)
theorem NodeOk.keep {w w' : World} {B : Nat} (hb : Below B w w') (hB : B = w.heap.size) {n : NT} (h : NodeOk w n) : NodeOk w' n := by
  induction h with
  | mk h1 h2 _ ih => exact .mk (h1.keep hb hB) (h2.keep hb hB) ih
section
variable {H : Type} {enc : TypeId × Value → H} {P : Program} {w : World} {base : Nat} {spare : Nat → Bool} {held : Bool}
/-- A slice of whatever reads. -/
theorem open_rowA [Inhabited α] (E : Enc α) {t e : TypeId} {fuel : Nat} {cs : List Value} {x : DataW H × List MemPlace} {Q : α → Prop} (ht : P.underlying t = some (.slice e)) (hk : P.cellsOf e = E.k)
    (hel : ∀ n, n < fuel → ∀ cs' y, DataW.trod enc P w base spare held n e cs' = some y → ∃ q, cs' = E.enc q ∧ Q q) (h : DataW.trod enc P w base spare held fuel t cs = some x) :
    ∃ oa len cap xs, cs = [.slice oa len cap] ∧ SlA E w oa len cap xs ∧ ∀ q ∈ xs, Q q := by
  rcases DataW.trod_slice ht h with ⟨hcs, _⟩ | ⟨a, len, cap, elems, rest, n, hf, hcs, _, _, hl, hm, hlen, hi, _⟩
  · exact ⟨none, 0, 0, [], hcs, ⟨rfl, Nat.le_refl _, Nat.zero_le _, .inl rfl⟩, fun q hq => by cases hq⟩
  · by_cases h0 : len = 0
    · subst h0
      exact ⟨some a, 0, cap, [], hcs, ⟨rfl, Nat.zero_le _, hm, .inl rfl⟩, fun q hq => by cases hq⟩
    · have hat : ∀ i, i < len → ∃ q : α, Q q ∧ ∀ j v, (E.enc q)[j]? = some v → w.cell? ((a.add (i * E.k)).add j) = some v := by
        intro i him
        have h1 := hi i him
        rw [List.getElem?_eq_getElem (by omega), hk] at h1
        obtain ⟨cs', hc, ht'⟩ := Option.bind_eq_some_iff.1 h1
        obtain ⟨q, rfl, hq⟩ := hel n (by omega) cs' _ ht'
        obtain ⟨_, _, hcell⟩ := World.cells?_some hc
        refine ⟨q, hq, fun j v hv => ?_⟩
        have hj : j < E.k := by rw [← E.len q]; exact (List.getElem?_eq_some_iff.1 hv).1
        exact (hcell j hj).trans hv
      have hfirst : ∃ v, w.cell? a = some v := by
        obtain ⟨q, _, hq⟩ := hat 0 (by omega)
        have : 0 < (E.enc q).length := by rw [E.len]; exact E.pos
        have h1 := hq 0 _ (List.getElem?_eq_getElem this)
        rw [Nat.zero_mul] at h1
        exact ⟨_, by simpa [Addr.add] using h1⟩
      obtain ⟨b, off, spot⟩ := a
      have hsp : spot = none := by
        obtain ⟨v, hv⟩ := hfirst
        exact World.cell?_spot hv
      subst hsp
      have hb : b < w.heap.size := by
        obtain ⟨v, hv⟩ := hfirst
        exact World.block_lt_of_cell? w _ hv
      obtain ⟨f, hf'⟩ := Deep.choose_lt hat
      refine ⟨_, len, cap, (List.range len).map f, hcs, ⟨by simp, hl, hm, .inr ⟨b, off, rfl, hb, ?_⟩⟩, ?_⟩
      · intro i hil j v hv
        have hil' : i < len := by simpa using hil
        simp only [List.getElem_map, List.getElem_range] at hv
        have := (hf' i hil').2 j v hv
        rw [add_cell, add_cell] at this
        exact this
      · intro q hq
        obtain ⟨i, hi', rfl⟩ := List.mem_map.1 hq
        exact (hf' i (List.mem_range.1 hi')).1
/-- The types of a node. -/
structure NodeTys (P : Program) (tN tL tAs tA tS : TypeId) : Prop where
  node : ∃ f0 f1 f2, P.underlying tN = some (.struct #[f0, f1, f2]) ∧ f0.type = tS ∧ f0.offset = 0 ∧ f1.type = tAs ∧ f1.offset = 1 ∧ f2.type = tL ∧ f2.offset = 2
  attr : ∃ f0 f1, P.underlying tA = some (.struct #[f0, f1]) ∧ f0.type = tS ∧ f0.offset = 0 ∧ f1.type = tS ∧ f1.offset = 1
  kids : P.underlying tL = some (.slice tN)
  attrs : P.underlying tAs = some (.slice tA)
  str : P.underlying tS = some .string
  c : P.cellsOf tN = 3 ∧ P.cellsOf tA = 2 ∧ P.cellsOf tS = 1 ∧ P.cellsOf tAs = 1 ∧ P.cellsOf tL = 1
theorem open_attr {tN tL tAs tA tS : TypeId} (T : NodeTys P tN tL tAs tA tS) {fuel : Nat} {cs : List Value} {x : DataW H × List MemPlace} (h : DataW.trod enc P w base spare held fuel tA cs = some x) : ∃ q : ByteArray × ByteArray, cs = EAt.enc q := by
  obtain ⟨f0, f1, hA, a1, a2, a3, a4⟩ := T.attr
  obtain ⟨c1, c2, c3, c4, c5⟩ := T.c
  obtain ⟨y0, y1, m, _, hl, h0, h1⟩ := trod_struct2 hA h
  rw [c2] at hl
  match cs, hl with
  | [v0, v1], _ =>
    rw [a1, a2, c3] at h0
    rw [a3, a4, c3] at h1
    simp only [List.drop_zero, List.take_succ_cons, List.take_zero, List.drop_succ_cons] at h0 h1
    obtain ⟨s0, e0, _⟩ := DataW.trod_string T.str h0
    obtain ⟨s1, e1, _⟩ := DataW.trod_string T.str h1
    simp at e0 e1
    subst e0 e1
    exact ⟨(s0, s1), rfl⟩
theorem open_node {tN tL tAs tA tS : TypeId} (T : NodeTys P tN tL tAs tA tS) : ∀ (fuel : Nat) (cs : List Value) (x : DataW H × List MemPlace), DataW.trod enc P w base spare held fuel tN cs = some x → ∃ n : NT, cs = n.vals ∧ NodeOk w n := by
  intro fuel
  induction fuel using Nat.strongRecOn with
  | ind fuel ih =>
    intro cs x h
    obtain ⟨f0, f1, f2, hN, a1, a2, a3, a4, a5, a6⟩ := T.node
    obtain ⟨c1, c2, c3, c4, c5⟩ := T.c
    obtain ⟨xs, n, hf, _, hl, hlen, hfs⟩ := DataW.trod_struct hN h
    match xs, hlen with
    | [y0, y1, y2], _ =>
      have h0 := hfs 0 f0 rfl
      have h1 := hfs 1 f1 rfl
      have h2 := hfs 2 f2 rfl
      rw [c1] at hl
      match cs, hl with
      | [v0, v1, v2], _ =>
        rw [a1, a2, c3] at h0
        rw [a3, a4, c4] at h1
        rw [a5, a6, c5] at h2
        simp only [List.drop_zero, List.take_succ_cons, List.take_zero, List.drop_succ_cons, List.getElem?_cons_zero, List.getElem?_cons_succ] at h0 h1 h2
        obtain ⟨s0, e0, _⟩ := DataW.trod_string T.str h0
        obtain ⟨ao, al, ac, ats, e1, hs1, _⟩ := open_rowA (Q := fun _ => True) EAt T.attrs c2 (fun m _ cs' y hy => by
          obtain ⟨q, hq⟩ := open_attr T hy
          exact ⟨q, hq, trivial⟩) h1
        obtain ⟨ko, kl, kc, kids, e2, hs2, hk⟩ := open_rowA (Q := NodeOk w) ENd T.kids c1 (fun m hm cs' y hy => ih m (by omega) cs' y hy) h2
        simp at e0 e1 e2
        subst e0 e1 e2
        exact ⟨.mk s0 ao al ac ats ko kl kc kids, rfl, .mk hs1 hs2 hk⟩
end
end Lead.Dc
