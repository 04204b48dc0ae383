/-
  Several texts as one: Pc0, No1, No2, No3.
-/
import Derived.Test.YtndlmmpheecleaaGreatDoorFf1
import Derived.Test.YtndlmmpheecleaaGreatDoorDq
import Derived.Test.YtndlmmpheecleaaGreatDoorDn
import Derived.Test.YtndlmmpheecleaaGreatDoorFz
import Derived.Deep.DeepCutAuto
/-
  Plain: the reference's fault of a node's flats is the one that the program's check finds.
-/
namespace Lead.Dc
open Go Go.RowKit Lead
mutual
theorem ff_chkN : ∀ (n : RT) (p : Int) (deep k i : Nat) (rest : List FlatV), ffE (allF n p deep k ++ rest) i = if (chkN n i deep).2 ≠ 0 then chkN n i deep else ffE rest (chkN n i deep).1
  | .mk nm ats ks, p, deep, k, i, rest => by
    rw [allF, List.cons_append, ffE, chkN]
    have hd : (⟨nm, ats, p, (deep : Int)⟩ : FlatV).deep.toNat = deep := Int.toNat_natCast deep
    rw [hd]
    by_cases h : nodeE nm ats i deep ≠ 0
    · rw [if_pos h, if_pos h, if_pos h]
    · rw [if_neg h, if_neg h]
      exact ff_chkL ks k (deep + 1) (k + 1) (i + 1) rest
theorem ff_chkL : ∀ (ks : List RT) (p deep k i : Nat) (rest : List FlatV), ffE (allFs ks p deep k ++ rest) i = if (chkL ks i deep).2 ≠ 0 then chkL ks i deep else ffE rest (chkL ks i deep).1
  | [], p, deep, k, i, rest => by rw [allFs, chkL]; rfl
  | x :: r, p, deep, k, i, rest => by
    rw [allFs, List.append_assoc, ff_chkN x, chkL]
    by_cases h : (chkN x i deep).2 ≠ 0
    · rw [if_pos h, if_pos h, if_pos h]
    · rw [if_neg h, if_neg h]
      exact ff_chkL r p deep (k + x.cnt) (chkN x i deep).1 rest
end
theorem ff_all (n : RT) (p : Int) (deep k i : Nat) : ffE (allF n p deep k) i = chkN n i deep := by
  have h := ff_chkN n p deep k i []
  rw [List.append_nil] at h
  rw [h]
  split
  · rfl
  · next h0 =>
    have h1 : (chkN n i deep).2 = 0 := Decidable.not_not.1 h0
    show ((chkN n i deep).1, 0) = chkN n i deep
    rw [← h1]
end Lead.Dc

/-
  Plain: a document as a tree; a node that is made anew, in memory.
-/
namespace Lead.Dc
open Go Go.RowKit Lead
/-- An element, and all below, as a tree. -/
def rtE (E : Els) : Nat → Nat → RT
  | 0, n => match elAt E n with
    | none => .mk ⟨#[]⟩ [] []
    | some e => .mk e.name e.attrs []
  | f + 1, n => match elAt E n with
    | none => .mk ⟨#[]⟩ [] []
    | some e => .mk e.name e.attrs (e.kids.map (rtE E f))
variable {E : Els} {next : Nat} {d : Nat → Nat}
theorem Good.fuelT (g : Good E next d) : ∀ (f f' n : Nat), 10 ≤ d n + f → 10 ≤ d n + f' → rtE E f n = rtE E f' n := by
  have nokid : ∀ n e, elAt E n = some e → 10 ≤ d n → e.kids = [] := fun n e he hd => by
    cases hk : e.kids with
    | nil => rfl
    | cons k r =>
      have := (g.kid (n := n) (k := k) (by rw [kidsAt_some he, hk]; exact List.mem_cons_self)).2.1
      omega
  intro f
  induction f with
  | zero =>
    intro f' n h1 h2
    cases f' with
    | zero => rfl
    | succ f' =>
      unfold rtE
      cases he : elAt E n with
      | none => rfl
      | some e => dsimp only; rw [nokid n e he (by omega)]; rfl
  | succ f ih =>
    intro f' n h1 h2
    cases f' with
    | zero =>
      unfold rtE
      cases he : elAt E n with
      | none => rfl
      | some e => dsimp only; rw [nokid n e he (by omega)]; rfl
    | succ f' =>
      unfold rtE
      cases he : elAt E n with
      | none => rfl
      | some e =>
        dsimp only
        congr 1
        refine List.map_congr_left fun k hk => ?_
        have := (g.kid (n := n) (k := k) (by rw [kidsAt_some he]; exact hk)).1
        exact ih f' k (by omega) (by omega)
theorem Good.rt_eq (g : Good E next d) {n : Nat} {e : El} (he : elAt E n = some e) : rtE E 10 n = .mk e.name e.attrs (e.kids.map (rtE E 10)) := by
  rw [g.fuelT 10 11 n (by omega) (by omega)]
  show (match elAt E n with | none => _ | some e => RT.mk e.name e.attrs (e.kids.map (rtE E 10))) = _
  rw [he]
/-- A slice whose block lies in S. -/
def SlS {α : Type} (En : Enc α) (w : World) (S : Nat → Prop) (oa : Option Addr) (len cap : Nat) (xs : List α) : Prop :=
  len = xs.length ∧ len ≤ cap ∧ cap ≤ maxLen ∧ (xs = [] ∨ ∃ b off, oa = some ⟨b, off, none⟩ ∧ S b ∧ b < w.heap.size ∧ RowIn En w b off xs)
theorem SlS.sl {α : Type} {En : Enc α} {w : World} {S : Nat → Prop} {oa : Option Addr} {len cap : Nat} {xs : List α} (h : SlS En w S oa len cap xs) : SlA En w oa len cap xs :=
  ⟨h.1, h.2.1, h.2.2.1, h.2.2.2.imp id fun ⟨b, off, h1, _, h3, h4⟩ => ⟨b, off, h1, h3, h4⟩⟩
theorem SlS.mono {α : Type} {En : Enc α} {w w' : World} {S S' : Nat → Prop} {oa : Option Addr} {len cap : Nat} {xs : List α} (h : SlS En w S oa len cap xs) (hs : w.heap.size ≤ w'.heap.size) (hk : ∀ k, S k → k < w.heap.size → w'.heap[k]? = w.heap[k]?) (hS : ∀ k, S k → k < w.heap.size → S' k) : SlS En w' S' oa len cap xs :=
  ⟨h.1, h.2.1, h.2.2.1, h.2.2.2.imp id fun ⟨b, off, h1, h2, h3, h4⟩ => ⟨b, off, h1, hS b h2 h3, Nat.lt_of_lt_of_le h3 hs, fun i hi j u hu => (World.cell?_of_block (w := w) (hk b h2 h3)).trans (h4 i hi j u hu)⟩⟩
theorem SlS.of_own {α : Type} {En : Enc α} {w : World} {S : Nat → Prop} {base : Nat} {e : TypeId} {oa : Option Addr} {len cap : Nat} {xs : List α} (h : OwnR En w base e (.slice oa len cap) xs) (hS : ∀ k, (Value.slice oa len cap).ownBlock = some k → S k) : SlS En w S oa len cap xs := by
  rcases h.form with ⟨h1, h2⟩ | ⟨g, cap', h1, h2, h3, h4, h5, h6⟩
  · cases h1; subst h2; exact ⟨rfl, Nat.le_refl _, Nat.zero_le _, .inl rfl⟩
  · obtain ⟨o, l, c, he, hs⟩ := OwnQ.sl (.inl h)
    injection he with a1 a2 a3
    subst a1 a2 a3
    injection h1 with b1 b2 b3
    subst b1
    exact ⟨hs.1, hs.2.1, hs.2.2.1, .inr ⟨g, 0, rfl, hS g rfl, h3, h6⟩⟩
/-- A node whose rows lie in blocks of S. -/
inductive NodeW (w : World) (S : Nat → Prop) : NT → Prop
  | mk {name : ByteArray} {ao : Option Addr} {al ac : Nat} {attrs : List (ByteArray × ByteArray)} {ko : Option Addr} {kl kc : Nat} {kids : List NT} :
      SlS EAt w S ao al ac attrs → SlS ENd w S ko kl kc kids → (∀ k ∈ kids, NodeW w S k) → NodeW w S (.mk name ao al ac attrs ko kl kc kids)
theorem NodeW.ok {w : World} {S : Nat → Prop} {n : NT} (h : NodeW w S n) : NodeOk w n := by
  induction h with
  | mk h1 h2 _ ih => exact .mk h1.sl h2.sl ih
theorem NodeW.mono {w w' : World} {S S' : Nat → Prop} (hs : w.heap.size ≤ w'.heap.size) (hk : ∀ k, S k → k < w.heap.size → w'.heap[k]? = w.heap[k]?) (hS : ∀ k, S k → k < w.heap.size → S' k) {n : NT} (h : NodeW w S n) : NodeW w' S' n := by
  induction h with
  | mk h1 h2 _ ih => exact .mk (h1.mono hs hk hS) (h2.mono hs hk hS) ih
/-- Where node walks: the box that it fills, and the children so far. -/
structure NoInv (TN : TypeId) (w : World) (bo : Nat) (nm : ByteArray) (ao : Option Addr) (al ac : Nat) (ats : List (ByteArray × ByteArray)) (W : World) (vk : Value) (ks : List NT) : Prop where
  bel : Below w.heap.size w W
  lt : w.heap.size < bo
  box : W.heap[bo]? = some (.cells #[.string nm, .slice ao al ac, vk] TN (0, 0))
  at_ : SlS EAt W (fun k => w.heap.size < k ∧ k ≠ bo ∧ vk.ownBlock ≠ some k) ao al ac ats
  own : OwnR ENd W (w.heap.size + 1) TN vk ks
  ne : vk.ownBlock ≠ some bo
  kid : ∀ k ∈ ks, NodeW W (fun k => w.heap.size < k ∧ k ≠ bo ∧ vk.ownBlock ≠ some k) k
  res : ∃ y0 y1 y2 : Value, W.heap[w.heap.size]? = some (.cells #[y0, y1, y2] TN (0, 0))
variable {TN : TypeId} {w W W' : World} {bo : Nat} {nm : ByteArray} {ao : Option Addr} {al ac : Nat} {ats : List (ByteArray × ByteArray)} {vk vk' : Value} {ks : List NT}
theorem NoInv.ltb (h : NoInv TN w bo nm ao al ac ats W vk ks) : bo < W.heap.size := hlt h.box
theorem NoInv.step (h : NoInv TN w bo nm ao al ac ats W vk ks) (hb : Below W.heap.size W W') : NoInv TN w bo nm ao al ac ats W' vk ks :=
  ⟨below_via h.bel hb, h.lt, (hb.block _ h.ltb).trans h.box, h.at_.mono hb.size (fun k _ hk => hb.block k hk) (fun _ hk _ => hk), h.own.keep hb, h.ne, fun k hk => (h.kid k hk).mono hb.size (fun j _ hj => hb.block j hj) (fun _ hj _ => hj), by
    obtain ⟨y0, y1, y2, h1⟩ := h.res
    exact ⟨y0, y1, y2, (hb.block _ (hlt h1)).trans h1⟩⟩
theorem NoInv.startA {TA : TypeId} {w1 wC : World} {B : Nat} {y0 y1 y2 : Value} (hb1 : Below w.heap.size w w1) (hres : w1.heap[w.heap.size]? = some (.cells #[y0, y1, y2] TN (0, 0))) (hbC : Below w1.heap.size w1 wC) (hv : OwnR EAt wC B TA (.slice ao al ac) ats) (hB : w1.heap.size ≤ B) :
    NoInv TN w wC.heap.size nm ao al ac ats (wC.alloc (.cells #[.string nm, .slice ao al ac, .slice none 0 0] TN)) (.slice none 0 0) [] := by
  have h1 := hlt hres
  have h2 := hbC.size
  have hba : Below wC.heap.size wC (wC.alloc (.cells #[.string nm, .slice ao al ac, .slice none 0 0] TN)) := (Below.refl _ _).alloc (Nat.le_refl _) _
  refine ⟨below_via (below_via hb1 hbC) hba, by omega, heap_alloc_new _ _, ?_, OwnR.nil _ _ _ _, (fun e => by cases e), (fun k hk => by cases hk), y0, y1, y2, (hba.block _ (by omega)).trans ((hbC.block _ h1).trans hres)⟩
  exact (SlS.of_own (S := fun k => B ≤ k) hv (fun k hk => (hv.lt k hk).1)).mono hba.size (fun k _ hk => hba.block k hk) (fun k h3 h4 => ⟨by omega, by omega, fun e => by cases e⟩)
theorem NoInv.startB {TA : TypeId} {w1 wC : World} {B : Nat} {y0 y1 y2 x0 x1 x2 : Value} (hb1 : Below w.heap.size w w1) (hres : w1.heap[w.heap.size]? = some (.cells #[y0, y1, y2] TN (0, 0))) (hbC : Below w1.heap.size w1 wC) (hbox : wC.heap[w1.heap.size]? = some (.cells #[x0, x1, x2] TN (0, 0))) (hv : OwnR EAt wC B TA (.slice ao al ac) ats) (hB : w1.heap.size < B) :
    NoInv TN w w1.heap.size nm ao al ac ats (((wC.setCell ⟨w1.heap.size, 0, none⟩ (.string nm)).setCell ⟨w1.heap.size, 1, none⟩ (.slice ao al ac)).setCell ⟨w1.heap.size, 2, none⟩ (.slice none 0 0)) (.slice none 0 0) [] := by
  have h1 := hlt hres
  have h4 := heap_setCell_same _ w1.heap.size 2 _ _ (.slice none 0 0) (heap_setCell_same _ w1.heap.size 1 _ _ (.slice ao al ac) (heap_setCell_same wC w1.heap.size 0 _ _ (.string nm) hbox))
  have hoth : ∀ k, k ≠ w1.heap.size → (((wC.setCell ⟨w1.heap.size, 0, none⟩ (.string nm)).setCell ⟨w1.heap.size, 1, none⟩ (.slice ao al ac)).setCell ⟨w1.heap.size, 2, none⟩ (.slice none 0 0)).heap[k]? = wC.heap[k]? := fun k hk =>
    (heap_setCell_other _ ⟨w1.heap.size, 2, none⟩ k _ hk).trans ((heap_setCell_other _ ⟨w1.heap.size, 1, none⟩ k _ hk).trans (heap_setCell_other _ ⟨w1.heap.size, 0, none⟩ k _ hk))
  have hB0 := below_via hb1 hbC
  have hge : w.heap.size ≤ w1.heap.size := by omega
  refine ⟨((hB0.setCell (p := ⟨w1.heap.size, 0, none⟩) hge _).setCell (p := ⟨w1.heap.size, 1, none⟩) hge _).setCell (p := ⟨w1.heap.size, 2, none⟩) hge _, h1, h4, ?_, OwnR.nil _ _ _ _, (fun e => by cases e), (fun k hk => by cases hk), y0, y1, y2, (hoth _ (by omega)).trans ((hbC.block _ h1).trans hres)⟩
  exact (SlS.of_own (S := fun k => B ≤ k) hv (fun k hk => (hv.lt k hk).1)).mono (by rw [World.size_setCell, World.size_setCell, World.size_setCell]; exact Nat.le_refl _) (fun k h3 _ => hoth k (by omega)) (fun k h3 h4 => ⟨by omega, by omega, fun e => by cases e⟩)
/-- One child more: appended to the row, and the row stored in the box. -/
theorem NoInv.more {w3 : World} {x : NT} (h : NoInv TN w bo nm ao al ac ats W vk ks) (hx : NodeW W (fun k => w.heap.size < k ∧ k ≠ bo ∧ vk.ownBlock ≠ some k) x) (hv : OwnR ENd w3 (w.heap.size + 1) TN vk' (ks ++ [x])) (hg : W.grownBy w3 vk.ownBlock) (ho : vk'.ownBlock = vk.ownBlock ∨ vk'.ownBlock = some W.heap.size) :
    NoInv TN w bo nm ao al ac ats (w3.setCell ⟨bo, 2, none⟩ vk') vk' (ks ++ [x]) := by
  have hlb := h.ltb
  have hb3 : w3.heap[bo]? = some (.cells #[.string nm, .slice ao al ac, vk] TN (0, 0)) := (hg.block bo hlb (fun e => h.ne e.symm)).trans h.box
  have hset := heap_setCell_same w3 bo 2 _ _ vk' hb3
  have hoth : ∀ k, k ≠ bo → (w3.setCell ⟨bo, 2, none⟩ vk').heap[k]? = w3.heap[k]? := fun k hk => heap_setCell_other w3 ⟨bo, 2, none⟩ k vk' hk
  have hsz : (w3.setCell ⟨bo, 2, none⟩ vk').heap.size = w3.heap.size := World.size_setCell _ _ _
  have hne : vk'.ownBlock ≠ some bo := fun e => by
    rcases ho with ho | ho
    · rw [ho] at e; exact h.ne e
    · rw [ho] at e; injection e with e; omega
  have hS : ∀ k, (w.heap.size < k ∧ k ≠ bo ∧ vk.ownBlock ≠ some k) → k < W.heap.size → (w.heap.size < k ∧ k ≠ bo ∧ vk'.ownBlock ≠ some k) := fun k hk hl => ⟨hk.1, hk.2.1, fun e => by
    rcases ho with ho | ho
    · rw [ho] at e; exact hk.2.2 e
    · rw [ho] at e; injection e with e; omega⟩
  have hkp : ∀ k, (w.heap.size < k ∧ k ≠ bo ∧ vk.ownBlock ≠ some k) → k < W.heap.size → (w3.setCell ⟨bo, 2, none⟩ vk').heap[k]? = W.heap[k]? := fun k hk hl => (hoth k hk.2.1).trans (hg.block k hl (fun e => hk.2.2 e.symm))
  have hs3 : W.heap.size ≤ (w3.setCell ⟨bo, 2, none⟩ vk').heap.size := by rw [hsz]; exact hg.size
  have hBg : Below w.heap.size w w3 := h.bel.grown hg h.bel.size (fun k hk => by have := (h.own.lt k hk).1; omega)
  refine ⟨hBg.setCell (p := ⟨bo, 2, none⟩) (Nat.le_of_lt h.lt) _, h.lt, hset, h.at_.mono hs3 hkp hS, own_kept hv (fun k hk => hoth k (fun e => hne (by rw [hk, e]))), hne, fun k hk => ?_, ?_⟩
  · rcases List.mem_append.1 hk with hk | hk
    · exact (h.kid k hk).mono hs3 hkp hS
    · rw [List.mem_singleton.1 hk]; exact hx.mono hs3 hkp hS
  · obtain ⟨y0, y1, y2, h1⟩ := h.res
    refine ⟨y0, y1, y2, ?_⟩
    have hl := h.lt
    rw [hoth _ (by omega), hg.block _ (hlt h1) (fun e => by have := (h.own.lt _ e.symm).1; omega)]
    exact h1
/-- .. behind the call that makes the child. -/
theorem NoInv.nextk {wr wW w2 wa w3 w4 : World} {x : NT} (h : NoInv TN w bo nm ao al ac ats wr vk ks) (hb1 : Below wr.heap.size wr wW) (hx : NodeW w2 (fun j => wW.heap.size < j) x) (hb2 : Below wW.heap.size wW w2) (hba : Below w2.heap.size w2 wa)
    (hv : OwnR ENd w3 (w.heap.size + 1) TN vk' (ks ++ [x])) (hg : wa.grownBy w3 vk.ownBlock) (ho : vk'.ownBlock = vk.ownBlock ∨ vk'.ownBlock = some wa.heap.size) (h4 : Below (w3.setCell ⟨bo, 2, none⟩ vk').heap.size (w3.setCell ⟨bo, 2, none⟩ vk') w4) : NoInv TN w bo nm ao al ac ats w4 vk' (ks ++ [x]) := by
  have hlb := h.ltb
  have hl := h.lt
  have hs1 := hb1.size
  have ha := h.step (below_via (below_via hb1 hb2) hba)
  refine (ha.more (hx.mono hba.size (fun k _ hk => hba.block k hk) (fun k hk _ => ⟨by omega, by omega, fun e => ?_⟩)) hv hg ho).step h4
  have := (h.own.lt k e).2
  omega
/-- The node that is handed back. -/
theorem NoInv.done {oa : Option Addr} {kl kc : Nat} {W2 : World} (h : NoInv TN w bo nm ao al ac ats W (.slice oa kl kc) ks) (hs : W.heap.size ≤ W2.heap.size) (hk : ∀ k, w.heap.size < k → k < W.heap.size → W2.heap[k]? = W.heap[k]?) : NodeW W2 (fun k => w.heap.size < k) (.mk nm ao al ac ats oa kl kc ks) :=
  .mk (h.at_.mono hs (fun k h1 h2 => hk k h1.1 h2) (fun k h1 _ => h1.1)) ((SlS.of_own (S := fun k => w.heap.size < k) h.own (fun k h1 => (h.own.lt k h1).1)).mono hs (fun k h1 h2 => hk k h1 h2) (fun _ h1 _ => h1))
    (fun k h1 => (h.kid k h1).mono hs (fun j h2 h3 => hk j h2.1 h3) (fun j h2 _ => h2.1))
end Lead.Dc

/-
  Walks over package doc: node, Node.
-/
namespace Lead.Dc
open Go Go.RowKit Lead
/-- What node hands back: a node of its own memory. -/
def NodeR (E : Els) (n : Nat) (w : World) (en : Ending) (w' : World) : Prop := ∃ (nm : ByteArray) (ao : Option Addr) (al ac : Nat) (ats : List (ByteArray × ByteArray)) (ko : Option Addr) (kl kc : Nat) (ks : List NT),
  en = .returned (.agg #[.string nm, .slice ao al ac, .slice ko kl kc]) ∧ NodeW w' (fun j => w.heap.size < j) (.mk nm ao al ac ats ko kl kc ks) ∧ (NT.mk nm ao al ac ats ko kl kc ks).rt = rtE E 10 n ∧ Below w.heap.size w w'
/-- The result's box, filled. -/
theorem NoInv.fill {TN : TypeId} {w W : World} {bo : Nat} {nm : ByteArray} {ao : Option Addr} {al ac : Nat} {ats : List (ByteArray × ByteArray)} {oa : Option Addr} {kl kc : Nat} {ks : List NT} (h : NoInv TN w bo nm ao al ac ats W (.slice oa kl kc) ks) (x0 x1 x2 : Value) :
    Below w.heap.size w (((W.setCell ⟨w.heap.size, 0, none⟩ x0).setCell ⟨w.heap.size, 1, none⟩ x1).setCell ⟨w.heap.size, 2, none⟩ x2) ∧
    (∀ j, (((W.setCell ⟨w.heap.size, 0, none⟩ x0).setCell ⟨w.heap.size, 1, none⟩ x1).setCell ⟨w.heap.size, 2, none⟩ x2).cell? ⟨w.heap.size, j, none⟩ = (#[x0, x1, x2] : Array Value)[j]?) ∧
    NodeW (((W.setCell ⟨w.heap.size, 0, none⟩ x0).setCell ⟨w.heap.size, 1, none⟩ x1).setCell ⟨w.heap.size, 2, none⟩ x2) (fun j => w.heap.size < j) (.mk nm ao al ac ats oa kl kc ks) := by
  obtain ⟨y0, y1, y2, h1⟩ := h.res
  have h4 := heap_setCell_same _ w.heap.size 2 _ _ x2 (heap_setCell_same _ w.heap.size 1 _ _ x1 (heap_setCell_same W w.heap.size 0 _ _ x0 h1))
  refine ⟨((h.bel.setCell (p := ⟨w.heap.size, 0, none⟩) (Nat.le_refl _) _).setCell (p := ⟨w.heap.size, 1, none⟩) (Nat.le_refl _) _).setCell (p := ⟨w.heap.size, 2, none⟩) (Nat.le_refl _) _, fun j => ?_, ?_⟩
  · rw [cell_of h4]; rfl
  · exact h.done (by rw [World.size_setCell, World.size_setCell, World.size_setCell]; exact Nat.le_refl _) fun k hk _ =>
      (heap_setCell_other _ ⟨w.heap.size, 2, none⟩ k _ (by show k ≠ w.heap.size; omega)).trans ((heap_setCell_other _ ⟨w.heap.size, 1, none⟩ k _ (by show k ≠ w.heap.size; omega)).trans (heap_setCell_other _ ⟨w.heap.size, 0, none⟩ k _ (by show k ≠ w.heap.size; omega)))
/-- The relation's row is as long as the children read. -/
theorem rtL_len {E : Els} {ks : List NT} {xs : List Nat} {i : Nat} (h : NT.rtL ks = (xs.take i).map (rtE E 10)) (hi : i ≤ xs.length) : ks.length = i := by
  have h := congrArg List.length h
  rw [rtL_map, List.length_map, List.length_map, List.length_take] at h
  omega
end Lead.Dc
namespace Go.Proofs.YtndlmmpheecleaaGreatDoor
open Go.RowKit Go.WideMaps Go.Maps Lead Lead.Dc
theorem infoNdN : (Tryz.prog.info? 25).map (fun i => (i.zero, i.size, i.bytes)) = some (some (.agg #[.string ⟨#[]⟩, .slice none 0 0, .slice none 0 0]), 3, 64) := by kernel_rfl
theorem infoAtN : (Tryz.prog.info? 59).map (fun i => (i.zero, i.size, i.bytes)) = some (some (.agg #[.string ⟨#[]⟩, .string ⟨#[]⟩]), 2, 32) := by kernel_rfl
theorem rres_node (tmps : Array Value) (w0 : World) (g : Nat) (y0 y1 y2 : Value) (h4 : tmps[4]?.getD undef = .pointer (some ⟨g, 0, none⟩)) (hc : ∀ j, w0.cell? ⟨g, j, none⟩ = (#[y0, y1, y2] : Array Value)[j]?) :
    (results Tryz.f104 tmps).run Tryz.prog w0 = .ok (.agg #[y0, y1, y2]) w0 := by
  simp [results, Tryz.results104, go_sem, h4, hc]
set_option maxHeartbeats 8000000 in
set_option maxRecDepth 100000 in
theorem node_step (bd next n : Nat) (F : Nat → Prop) (E : Els) (d : Nat → Nat) (e : El) (w : World) (hD : DokG Tryz.prog TT w bd F E next d) (he : elAt E n = some e) (hal9 : e.attrs.length ≤ 1000)
    (ih : ∀ k ∈ e.kids, ∀ w', DokG Tryz.prog TT w' bd F E next d → Calls Tryz.prog 104 #[.pointer (some ⟨bd, 0, none⟩), .int .i64 (k : Int)] w' (NodeR E k w')) :
    Calls Tryz.prog 104 #[.pointer (some ⟨bd, 0, none⟩), .int .i64 (n : Int)] w (NodeR E n w) := by
  have hDG := hD
  obtain ⟨⟨pl, bm, cnt, D, hA, hcn, hF⟩, hg, hbig, hlen⟩ := hD
  obtain ⟨iN, hiN, hzN0, hzN1, hzN2⟩ := info_parts infoNdN
  obtain ⟨iA, hiA, hzA0, hzA1, hzA2⟩ := info_parts infoAtN
  have hnI : I64 (n : Int) := i64_nat (by have := hg.lt n e he; omega)
  have hE := hA.els n e he
  have e0 := hE.e0
  have e1 := hE.e1
  have e3 := hE.e3
  have hbl := hE.lt
  obtain ⟨oa, la, ca, hav, hSa⟩ := hE.attrs.sl
  obtain ⟨ok, lk, ck, hkv, hSk⟩ := hE.kids.sl
  rw [hav] at e1
  rw [hkv] at e3
  have hlk : lk = e.kids.length := hSk.1
  have hla : la = e.attrs.length := hSa.1
  have hkm := hg.kids_len he
  have hrt := hg.rt_eq he
  have hb1 : Below w.heap.size w (w.alloc (.cells #[.string ⟨#[]⟩, .slice none 0 0, .slice none 0 0] 25)) := (Below.refl _ _).alloc (Nat.le_refl _) _
  obtain ⟨w1, hw1⟩ : ∃ u, w.alloc (.cells #[.string ⟨#[]⟩, .slice none 0 0, .slice none 0 0] 25) = u := ⟨_, rfl⟩
  have hres1 : w1.heap[w.heap.size]? = some (.cells #[.string ⟨#[]⟩, .slice none 0 0, .slice none 0 0] 25 (0, 0)) := by rw [← hw1]; exact heap_alloc_new _ _
  rw [hw1] at hb1
  have hA1 := hA.keep hb1
  have c0 := hA1.c0
  have hz1 : w.heap.size < w1.heap.size := hlt hres1
  have q0 := (hb1.cell (p := ⟨(pl n).blk, 0, none⟩) hbl).trans e0
  have q1 := (hb1.cell (p := ⟨(pl n).blk, 1, none⟩) hbl).trans e1
  have hbl1 : (pl n).blk < w1.heap.size := by omega
  have SK : ∀ W, Below w1.heap.size w1 W → Below w1.heap.size w1 W ∧ W.cell? ⟨(pl n).blk, 0, none⟩ = some (.string e.name) ∧ W.cell? ⟨(pl n).blk, 1, none⟩ = some (.slice oa la ca) := fun W h =>
    ⟨h, (h.cell (p := ⟨(pl n).blk, 0, none⟩) hbl1).trans q0, (h.cell (p := ⟨(pl n).blk, 1, none⟩) hbl1).trans q1⟩
  have hcl := fun (W : World) (hb : Below w1.heap.size w1 W) => clone_any (ρ := Tryz.clA_ren) EAt Tryz.clA iA (.agg #[.string ⟨#[]⟩, .string ⟨#[]⟩]) 32 hiA hzA0 hzA1 hzA2 rfl (by decide) Tryz.sizeOf59 ((hSa.keep hb1 rfl).keep hb rfl) (show la ≤ 1000000 by omega)
  clear e0 e1
  have H_hA := Lib.hid hA
  clear hA
  have H_hDG := Lib.hid hDG
  clear hDG
  have H_he := Lib.hid he
  clear he
  have H_hnI := Lib.hid hnI
  clear hnI
  have H_hE := Lib.hid hE
  clear hE
  have H_hav := Lib.hid hav
  clear hav
  have H_hkv := Lib.hid hkv
  clear hkv
  have H_hSa := Lib.hid hSa
  clear hSa
  have H_hSk := Lib.hid hSk
  clear hSk
  have H_hlk := Lib.hid hlk
  clear hlk
  have H_hla := Lib.hid hla
  clear hla
  have H_hrt := Lib.hid hrt
  clear hrt
  have H_hres1 := Lib.hid hres1
  clear hres1
  have H_hA1 := Lib.hid hA1
  clear hA1
  have H_hcl := Lib.hid hcl
  clear hcl
  have H_SK := Lib.hid SK
  clear SK
  have H_hF := Lib.hid hF
  clear hF
  have H_hg := Lib.hid hg
  clear hg
  have H_hiN := Lib.hid hiN
  clear hiN
  have H_hzN0 := Lib.hid hzN0
  clear hzN0
  have H_hzN1 := Lib.hid hzN1
  clear hzN1
  have H_hzN2 := Lib.hid hzN2
  clear hzN2
  have H_hiA := Lib.hid hiA
  clear hiA
  have H_hzA0 := Lib.hid hzA0
  clear hzA0
  have H_hzA1 := Lib.hid hzA1
  clear hzA1
  have H_hzA2 := Lib.hid hzA2
  clear hzA2
  have H_ih := Lib.hid ih
  clear ih
  go_enter Tryz.func104, Tryz.ntmps104
  go_upto_region 2 with (at_lookup; refine wp_hit (T := TT) TK rfl _ _ rfl rfl rfl H_hA1.out H_he.out H_hnI.out ?_)
  go_cut [6] (fun s6 wx => ∃ (bo : Nat) (oC : Option Addr) (lC cC : Nat), s6 = .pointer (some ⟨bo, 0, none⟩) ∧ RowKit.Hid (NoInv 25 w bo e.name oC lC cC e.attrs wx (.slice none 0 0) []))
  case first =>
    go_region_law (first | (go_simp; go_at_call 92; ((refine (H_hcl.out _ ?hb).mono ?_); (case hb => exact (by repeat' (first | (with_reducible first | exact bwR _ _ | assumption | refine bdn ?_ | refine bwA ?_ ?_ _ | refine bwD ?_ | refine bwS ?_ ?_ _) | omega | (simp <;> omega)))); rintro en wC ⟨vC, rfl, hvC, hC⟩; obtain ⟨oC, lC, cC, rfl⟩ := own_form hvC; have hbC : Below w1.heap.size w1 wC := below_via (by repeat' (first | (with_reducible first | exact bwR _ _ | assumption | refine bdn ?_ | refine bwA ?_ ?_ _ | refine bwD ?_ | refine bwS ?_ ?_ _) | omega | (simp <;> omega))) hC; have tC := hbC.size; have hblC : (pl n).blk < wC.heap.size := Nat.lt_of_lt_of_le hbl1 tC; obtain ⟨_, q0, q1⟩ := H_SK.out _ hbC; have H_vC := Lib.hid hvC; try (have hbx : wC.heap[w1.heap.size]? = some (.cells #[.string ⟨#[]⟩, .slice none 0 0, .slice none 0 0] 25 (0, 0)) := (hC.block _ (by simp)).trans (heap_alloc_new _ _); have x0 := Dc.hcell (j := 0) hbx rfl; have x1 := Dc.hcell (j := 1) hbx rfl; have x2 := Dc.hcell (j := 2) hbx rfl; have xf := fun j => Dc.hfree (i := j) hbx; have H_bx := Lib.hid hbx; clear hbx); clear hC hvC)))
    all_goals
      go_wp2_with fail
      go_meet
      first
      | exact ⟨_, _, _, _, rfl, NoInv.startA hb1 H_hres1.out hbC H_vC.out (by simp)⟩
      | exact ⟨_, _, _, _, rfl, (NoInv.startA hb1 H_hres1.out hbC H_vC.out (by simp)).step (Below.refl _ _).drew⟩
      | exact ⟨_, _, _, _, rfl, NoInv.startB hb1 H_hres1.out hbC H_bx.out H_vC.out (by simp)⟩
      | exact ⟨_, _, _, _, rfl, (NoInv.startB hb1 H_hres1.out hbC H_bx.out H_vC.out (by simp)).step (Below.refl _ _).drew⟩
  case rest =>
    obtain ⟨bo, oC, lC, cC, rfl, H_N⟩ := hcut
    rename World => wR
    have q3 : wR.cell? ⟨(pl n).blk, 3, none⟩ = some (.slice ok lk ck) := (H_N.out.bel.cell (p := ⟨(pl n).blk, 3, none⟩) hbl).trans e3
    clear c0 q0 q1
    go_wp2_with fail
    go_loopw [30] (fun t30 wr => ∃ (i : Nat) (ks : List NT) (vk : Value), i ≤ lk ∧ t30 = .int .i64 i ∧ RowKit.Hid (NT.rtL ks = (e.kids.take i).map (rtE E 10)) ∧ RowKit.Hid (NoInv 25 w bo e.name oC lC cC e.attrs wr vk ks)) (fun t30 _ => lk - (intOf t30).toNat)
    case atStart => exact ⟨0, [], _, Nat.zero_le _, rfl, rfl, H_N⟩
    case round =>
      obtain ⟨i, ks, vk, hil, rfl, H_rt, H_I⟩ := hrel
      have hzr := H_I.out.bel.size
      obtain ⟨oV, lV, cV, rfl⟩ := own_form H_I.out.own
      have hbx := H_I.out.box
      have zbo := H_I.out.lt
      have zbr := H_I.out.ltb
      have xb0 : wr.cell? ⟨bo, 0, none⟩ = some (.string e.name) := Dc.hcell hbx rfl
      have xb1 : wr.cell? ⟨bo, 1, none⟩ = some (.slice oC lC cC) := Dc.hcell hbx rfl
      have xb2 : wr.cell? ⟨bo, 2, none⟩ = some (.slice oV lV cV) := Dc.hcell hbx rfl
      have xbf := Dc.hfree (i := 2) hbx
      clear hbx
      by_cases hlt : i < lk
      · have hk' : i < e.kids.length := by have := H_hlk.out; omega
        obtain ⟨b, off, rfl, hbw, hr⟩ : ∃ b off, ok = some ⟨b, off, none⟩ ∧ b < w.heap.size ∧ RowIn EIn w b off e.kids := by
          refine H_hSk.out.2.2.2.resolve_left ?_
          intro h; rw [h] at hk'; simp at hk'
        have q0 : wr.cell? ⟨b, off + i, none⟩ = some (.int .i64 (e.kids[i] : Int)) := by
          have h := (hr.keep H_I.out.bel hbw) i hk' 0 _ rfl
          simpa [EIn] using h
        have hsl := rtL_len H_rt.out (Nat.le_of_lt hk')
        have hstep : NT.rtL ks ++ [rtE E 10 e.kids[i]] = (e.kids.take (i + 1)).map (rtE E 10) := by
          rw [H_rt.out, List.take_succ_eq_append_getElem hk', List.map_append]; rfl
        have hcall := fun (W : World) (hb : Below wr.heap.size wr W) => H_ih.out e.kids[i] (List.getElem_mem hk') W (H_hDG.out.keep (below_via H_I.out.bel hb))
        obtain ⟨c, hce⟩ : ∃ c, e.kids[i] = c := ⟨_, rfl⟩
        rw [hce] at q0 hcall hstep
        have hkl1 : ks.length + 1 ≤ 1000000 := by omega
        clear hr hce hsl
        have H_hcall := Lib.hid hcall
        clear hcall
        have H_hstep := Lib.hid hstep
        clear hstep
        have H_hkl1 := Lib.hid hkl1
        clear hkl1
        go_wp2_with fail
        go_region_law (first | (go_simp; go_at_call 104; ((refine (H_hcall.out _ ?hb).mono ?_); (case hb => exact (by repeat' (first | (with_reducible first | exact bwR _ _ | assumption | refine bdn ?_ | refine bwA ?_ ?_ _ | refine bwD ?_ | refine bwS ?_ ?_ _) | omega | (simp <;> omega)))); rintro en w2 ⟨nm', ao', al', ac', ats', ko', kl', kc', ks', rfl, hnw, hnrt, hb2⟩; have hbW : Below wr.heap.size wr w2 := below_via (by repeat' (first | (with_reducible first | exact bwR _ _ | assumption | refine bdn ?_ | refine bwA ?_ ?_ _ | refine bwD ?_ | refine bwS ?_ ?_ _) | omega | (simp <;> omega))) hb2; have z2 := hbW.size; have z22 : bo < w2.heap.size := Nat.lt_of_lt_of_le zbr z2; have hI2 := H_I.out.step hbW; have hbx := hI2.box; have xc2 : w2.cell? ⟨bo, 2, none⟩ = some (.slice oV lV cV) := Dc.hcell hbx rfl; have xcf := Dc.hfree (i := 2) hbx; have hmk := fun (wa w3 w4 : World) (v' : Value) (hba : Below w2.heap.size w2 wa) (hv : OwnR ENd w3 (w.heap.size + 1) 25 v' (ks ++ [NT.mk nm' ao' al' ac' ats' ko' kl' kc' ks'])) (hg : wa.grownBy w3 (Value.slice oV lV cV).ownBlock) (ho : v'.ownBlock = (Value.slice oV lV cV).ownBlock ∨ v'.ownBlock = some wa.heap.size) (h4 : Below (w3.setCell ⟨bo, 2, none⟩ v').heap.size (w3.setCell ⟨bo, 2, none⟩ v') w4) => H_I.out.nextk (by repeat' (first | (with_reducible first | exact bwR _ _ | assumption | refine bdn ?_ | refine bwA ?_ ?_ _ | refine bwD ?_ | refine bwS ?_ ?_ _) | omega | (simp <;> omega))) hnw hb2 hba hv hg ho h4; have H_mk := Lib.hid hmk; have H_I2 := Lib.hid hI2; have H_nrt := Lib.hid hnrt; have H_bx2 := Lib.hid hbx; clear hmk hI2 hnrt hbx hnw hb2)) | ((refine step_append_told rfl (.tmp 35) (.tmp 39) 23 rfl ENd (w.heap.size + 1) 25 iN _ 64 Tryz.underlying23 H_hiN.out H_hzN0.out H_hzN1.out H_hzN2.out rfl (by decide) (.slice oV lV cV) ks rfl _ 0 1 1 [NT.mk nm' ao' al' ac' ats' ko' kl' kc' ks'] rfl rfl ?a2 ?a3 ?a4 ?a5 ?_); (case a2 => exact H_hkl1.out); (case a3 => first | exact H_I2.out.own.alloc _ | exact (H_I2.out.own.alloc _).keep (Below.refl _ _).drew); (case a4 => first | exact row_one (vs := #[.string nm', .slice ao' al' ac', .slice ko' kl' kc']) rfl (fun j => World.cell?_alloc_new _ _ _ _) | exact row_one (vs := #[.string nm', .slice ao' al' ac', .slice ko' kl' kc']) rfl (fun j => by rw [World.cell?_drew]; exact World.cell?_alloc_new _ _ _ _)); (case a5 => simp; omega); intro v' w3 hv3 hA3 hg3 ho3; obtain ⟨oV3, lV3, cV3, hV3⟩ := own_form hv3; subst hV3; have hb3 := (hg3.block bo (by simp; omega) (fun h => H_I2.out.ne h.symm)).trans ((show Below w2.heap.size w2 _ from (by repeat' (first | (with_reducible first | exact bwR _ _ | assumption | refine bdn ?_ | refine bwA ?_ ?_ _ | refine bwD ?_ | refine bwS ?_ ?_ _) | omega | (simp <;> omega)))).block bo z22); have hbx3 := hb3.trans H_bx2.out; have e33 : w3.cell? ⟨bo, 2, none⟩ = some (.slice oV lV cV) := Dc.hcell hbx3 rfl; have x33 : w3.frozen? ⟨bo, 2, none⟩ = false := Dc.hfree hbx3; have z3 := Dc.hlt hbx3; have hend := fun (w4 : World) h4 => H_mk.out _ w3 w4 _ (by repeat' (first | (with_reducible first | exact bwR _ _ | assumption | refine bdn ?_ | refine bwA ?_ ?_ _ | refine bwD ?_ | refine bwS ?_ ?_ _) | omega | (simp <;> omega))) hv3 hg3 ho3 h4; have H_hend := Lib.hid hend; clear hend hb3 hbx3 hv3 hA3 hg3 ho3))
        all_goals
          go_wp2_with fail
          go_roundw
          case rel =>
            have hI3 := H_hend.out _ (by first | exact Below.refl _ _ | exact (Below.refl _ _).drew)
            refine ⟨i + 1, _, _, by omega, by go_num, ?_, hI3⟩
            show NT.rtL (ks ++ [_]) = _
            rw [rtL_map, List.map_append, ← rtL_map, ← H_hstep.out, ← H_nrt.out]
            rfl
          case measure => simp [intOf]; omega
      · obtain rfl : i = lk := by omega
        have hfull : e.kids.take i = e.kids := List.take_of_length_le (by have := H_hlk.out; omega)
        have hfill := H_I.out.fill
        obtain ⟨y0, y1, y2, hy⟩ := H_I.out.res
        have r0 := Dc.hcell (j := 0) hy rfl
        have r1 := Dc.hcell (j := 1) hy rfl
        have r2 := Dc.hcell (j := 2) hy rfl
        have rf := fun j => Dc.hfree (i := j) hy
        have hrt2 := H_rt.out
        rw [hfull] at hrt2
        clear hy hfull
        have H_hfill := Lib.hid hfill
        clear hfill
        have H_hrt2 := Lib.hid hrt2
        clear hrt2
        go_wp2_with fail
        try go_simp
        repeat go_step
        with_reducible refine bodyPost_ret (rres_node _ _ w.heap.size _ _ _ ?h4 ((H_hfill.out _ _ _).2.1)) rfl ?_
        case h4 => simp
        refine ⟨_, _, _, _, _, _, _, _, _, rfl, (H_hfill.out _ _ _).2.2, ?_, (H_hfill.out _ _ _).1⟩
        rw [H_hrt.out, rt_eq]
        show RT.mk e.name e.attrs (NT.rtL ks) = _
        rw [H_hrt2.out]
theorem node_any (bd next : Nat) (F : Nat → Prop) (E : Els) (d : Nat → Nat) (g : Lead.Dc.Good E next d) (hal9 : ∀ n e, elAt E n = some e → e.attrs.length ≤ 1000) : ∀ (f n : Nat) (e : El) (w : World), DokG Tryz.prog TT w bd F E next d → elAt E n = some e → 10 ≤ d n + f →
    Calls Tryz.prog 104 #[.pointer (some ⟨bd, 0, none⟩), .int .i64 (n : Int)] w (NodeR E n w) := by
  intro f
  induction f with
  | zero =>
    intro n e w hD he hf
    refine node_step bd next n F E d e w hD he (hal9 n e he) fun k hk w' hD' => ?_
    have := (g.kid (n := n) (k := k) (by rw [kidsAt_some he]; exact hk)).2.1
    omega
  | succ f ih =>
    intro n e w hD he hf
    refine node_step bd next n F E d e w hD he (hal9 n e he) fun k hk w' hD' => ?_
    obtain ⟨h1, _, ke, hke, _⟩ := g.kid (n := n) (k := k) (by rw [kidsAt_some he]; exact hk)
    exact ih k ke w' hD' hke (by omega)
end Go.Proofs.YtndlmmpheecleaaGreatDoor

/-
  Walks over package doc: Node.
-/
namespace Lead.Dc
open Go Go.RowKit Lead
/-- What Node hands back: the tree below the root. -/
def NodeT (E : Els) (w : World) (en : Ending) (w' : World) : Prop := ∃ (nm : ByteArray) (ao : Option Addr) (al ac : Nat) (ats : List (ByteArray × ByteArray)) (ko : Option Addr) (kl kc : Nat) (ks : List NT),
  en = .returned (.agg #[.string nm, .slice ao al ac, .slice ko kl kc]) ∧ NodeOk w' (.mk nm ao al ac ats ko kl kc ks) ∧ (NT.mk nm ao al ac ats ko kl kc ks).rt = rtE E 10 0 ∧ Below w.heap.size w w'
theorem fill3 {W : World} {g : Nat} {y0 y1 y2 : Value} {t : TypeId} (h : W.heap[g]? = some (.cells #[y0, y1, y2] t (0, 0))) (x0 x1 x2 : Value) :
    (∀ j, (((W.setCell ⟨g, 0, none⟩ x0).setCell ⟨g, 1, none⟩ x1).setCell ⟨g, 2, none⟩ x2).cell? ⟨g, j, none⟩ = (#[x0, x1, x2] : Array Value)[j]?) ∧ W.heap.size ≤ (((W.setCell ⟨g, 0, none⟩ x0).setCell ⟨g, 1, none⟩ x1).setCell ⟨g, 2, none⟩ x2).heap.size ∧
    ∀ k, k ≠ g → (((W.setCell ⟨g, 0, none⟩ x0).setCell ⟨g, 1, none⟩ x1).setCell ⟨g, 2, none⟩ x2).heap[k]? = W.heap[k]? := by
  refine ⟨fun j => ?_, by rw [World.size_setCell, World.size_setCell, World.size_setCell]; exact Nat.le_refl _, fun k hk => (heap_setCell_other _ ⟨g, 2, none⟩ k _ hk).trans ((heap_setCell_other _ ⟨g, 1, none⟩ k _ hk).trans (heap_setCell_other _ ⟨g, 0, none⟩ k _ hk))⟩
  rw [cell_of (heap_setCell_same _ g 2 _ _ x2 (heap_setCell_same _ g 1 _ _ x1 (heap_setCell_same W g 0 _ _ x0 h)))]
  rfl
end Lead.Dc
namespace Go.Proofs.YtndlmmpheecleaaGreatDoor
open Go.RowKit Go.WideMaps Go.Maps Lead Lead.Dc
theorem rres_nodeT (tmps : Array Value) (w0 : World) (g : Nat) (y0 y1 y2 : Value) (h4 : tmps[2]?.getD undef = .pointer (some ⟨g, 0, none⟩)) (hc : ∀ j, w0.cell? ⟨g, j, none⟩ = (#[y0, y1, y2] : Array Value)[j]?) :
    (results Tryz.f69 tmps).run Tryz.prog w0 = .ok (.agg #[y0, y1, y2]) w0 := by
  simp [results, Tryz.results69, go_sem, h4, hc]
set_option maxHeartbeats 4000000 in
set_option maxRecDepth 100000 in
theorem nodeT_any (bd next : Nat) (F : Nat → Prop) (E : Els) (d : Nat → Nat) (w : World) (hD : DokG Tryz.prog TT w bd F E next d) (hal9 : ∀ n e, elAt E n = some e → e.attrs.length ≤ 1000) :
    Calls Tryz.prog 69 #[.pointer (some ⟨bd, 0, none⟩)] w (NodeT E w) := by
  obtain ⟨e, he, _⟩ := hD.good.root
  have hb1 : Below w.heap.size w (w.alloc (.cells #[.string ⟨#[]⟩, .slice none 0 0, .slice none 0 0] 25)) := (Below.refl _ _).alloc (Nat.le_refl _) _
  obtain ⟨w1, hw1⟩ : ∃ u, w.alloc (.cells #[.string ⟨#[]⟩, .slice none 0 0, .slice none 0 0] 25) = u := ⟨_, rfl⟩
  have hres1 : w1.heap[w.heap.size]? = some (.cells #[.string ⟨#[]⟩, .slice none 0 0, .slice none 0 0] 25 (0, 0)) := by rw [← hw1]; exact heap_alloc_new _ _
  rw [hw1] at hb1
  have hz1 := Dc.hlt hres1
  have hcall := fun (W : World) (hb : Below w.heap.size w W) => node_any bd next F E d hD.good hal9 10 0 e W (hD.keep hb) he (by omega)
  have H_hcall := Lib.hid hcall
  clear hcall
  have H_hres1 := Lib.hid hres1
  clear hres1
  go_enter Tryz.func69, Tryz.ntmps69
  go_wp2_with fail
  refine (H_hcall.out _ hb1).mono ?_
  rintro en w2 ⟨nm', ao', al', ac', ats', ko', kl', kc', ks', rfl, hnw, hnrt, hb2⟩
  have z2 := hb2.size
  have hb12 := below_via hb1 hb2
  have hr2 := (hb2.block _ hz1).trans H_hres1.out
  have r0 := Dc.hcell (j := 0) hr2 rfl
  have r1 := Dc.hcell (j := 1) hr2 rfl
  have r2 := Dc.hcell (j := 2) hr2 rfl
  have rf := fun j => Dc.hfree (i := j) hr2
  have hf3 := fill3 hr2 (.string nm') (.slice ao' al' ac') (.slice ko' kl' kc')
  have H_hf3 := Lib.hid hf3
  clear hf3
  have H_hnw := Lib.hid hnw
  clear hnw
  have H_hnrt := Lib.hid hnrt
  clear hnrt
  have H_hr2 := Lib.hid hr2
  clear hr2
  go_wp2_with fail
  try go_simp
  repeat go_step
  with_reducible refine bodyPost_ret (rres_nodeT _ _ w.heap.size _ _ _ ?h4 H_hf3.out.1) rfl ?_
  case h4 => simp
  exact ⟨_, _, _, _, _, _, _, _, _, rfl, (H_hnw.out.mono (S' := fun _ => True) H_hf3.out.2.1 (fun k hk _ => H_hf3.out.2.2 k (by have h : w1.heap.size < k := hk; omega)) (fun _ _ _ => trivial)).ok, H_hnrt.out, by repeat' (first | (with_reducible first | exact bwR _ _ | assumption | refine bdn ?_ | refine bwA ?_ ?_ _ | refine bwD ?_ | refine bwS ?_ ?_ _) | omega | (simp <;> omega))⟩
end Go.Proofs.YtndlmmpheecleaaGreatDoor
