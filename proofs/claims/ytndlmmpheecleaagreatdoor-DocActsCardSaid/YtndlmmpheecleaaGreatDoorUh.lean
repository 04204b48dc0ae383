/-
  Several texts as one: Ni1, Pf1, Pn0, Rf1.
-/
import Derived.Test.YtndlmmpheecleaaGreatDoorFl3
import Derived.Test.YtndlmmpheecleaaGreatDoorUg
import Derived.Test.YtndlmmpheecleaaGreatDoorAk1
import Derived.Test.YtndlmmpheecleaaGreatDoorRm1
import Derived.Test.YtndlmmpheecleaaGreatDoorUc
import Derived.Test.YtndlmmpheecleaaGreatDoorUe
import Derived.Deep.OwnRows
/-
  Walks over the statements' helper NodeIs: a node that has what a list has.
-/
namespace Go.Proofs.YtndlmmpheecleaaGreatDoor
open Go.RowKit Go.WideMaps Go.Maps Lead Lead.Dc
set_option maxHeartbeats 4000000 in
set_option maxRecDepth 100000 in
theorem nodeis_yes (n : NT) (o : Option Addr) (len c : Nat) (ys : List FlX) (w : World) (hn : NodeOk w n) (hS : SlA EFl w o len c ys) (hy : ∀ y ∈ ys, SlA EAt w y.ao y.al y.ac y.ats) (hl : len ≤ 150) (hbig : ¬ Big (allF n.rt (-1) 1 0)) (hsame : ∀ xs : List FlX, xs.map fv = allF n.rt (-1) 1 0 → xs.map fk3 = ys.map fk3) :
    Calls Tryz.prog 68 #[.agg n.vals.toArray, .slice o len c] w fun en w' => en = .returned (.bool true) ∧ Below w.heap.size w w' := by
  have hcall := fun (W : World) (hW : Below w.heap.size w W) => flats2_any w (SizeOf.sizeOf n + 1) n (.slice none 0 0) [] (-1) 1 W (Nat.lt_succ_self _) (OwnR.nil _ _ _ _) (by decide) (fun x hx => by cases hx) (fun b hb => by cases hb) (by decide) hW hn
  obtain ⟨ao, al, ac, ko, kl, kc, hv, _⟩ := hn.attrsAt
  rw [hv] at ⊢
  simp only [hv] at hcall
  obtain ⟨nk, hnk⟩ : ∃ u, n.name = u := ⟨_, rfl⟩
  rw [hnk] at ⊢
  simp only [hnk] at hcall
  have hlen : len = ys.length := hS.1
  have hb1 : Below w.heap.size w (w.alloc (.cells #[.string nk, .slice ao al ac, .slice ko kl kc] 25)) := (Below.refl _ _).alloc (Nat.le_refl _) _
  obtain ⟨w1, hw1⟩ : ∃ u, w.alloc (.cells #[.string nk, .slice ao al ac, .slice ko kl kc] 25) = u := ⟨_, rfl⟩
  have hres1 : w1.heap[w.heap.size]? = some (.cells #[.string nk, .slice ao al ac, .slice ko kl kc] 25 (0, 0)) := by rw [← hw1]; exact heap_alloc_new _ _
  rw [hw1] at hb1
  have hz1 := Dc.hlt hres1
  have hbox := fun (W : World) (hW : Below w1.heap.size w1 W) => (hW.block _ hz1).trans hres1
  clear hv hnk
  have H_hcall := Lib.hid hcall
  clear hcall
  have H_hS := Lib.hid hS
  clear hS
  have H_hy := Lib.hid hy
  clear hy
  have H_hbig := Lib.hid hbig
  clear hbig
  have H_hsame := Lib.hid hsame
  clear hsame
  have H_hlen := Lib.hid hlen
  clear hlen
  have H_hres1 := Lib.hid hres1
  clear hres1
  have H_hbox := Lib.hid hbox
  clear hbox
  have H_hn := Lib.hid hn
  clear hn
  go_enter Tryz.func68, Tryz.ntmps68
  go_wp2_with fail
  go_loopw [5] (fun t5 wr => ∃ i : Nat, i ≤ len ∧ t5 = .int .i64 i ∧ Below w1.heap.size w1 wr) (fun t5 _ => len - (intOf t5).toNat)
  case atStart => exact ⟨0, Nat.zero_le _, rfl, Below.refl _ _⟩
  case round =>
    obtain ⟨i, hi, rfl, hB⟩ := hrel
    have hBw : Below w.heap.size w wr := below_via hb1 hB
    by_cases hlt : i < len
    · have hi' : i < ys.length := by have := H_hlen.out; omega
      obtain ⟨g, off, rfl, hgl, hr⟩ := H_hS.out.2.2.2.resolve_left (by intro h; rw [h] at hi'; simp at hi')
      have q3 : wr.cell? ⟨g, off + i * 4 + 3, none⟩ = some (.int .i64 ys[i].dp) := (hr.keep hBw hgl) i hi' 3 _ rfl
      obtain ⟨dp, hdp⟩ : ∃ u, ys[i].dp = u := ⟨_, rfl⟩
      rw [hdp] at q3
      clear hr hdp
      have gi : IntKind.i64.wrap ((i : Int) + 1) = ((i + 1 : Nat) : Int) := IntWalk.i64_in _ (by omega)
      have g150 : ¬ (150 : Int) ≤ (i : Int) := by omega
      by_cases hd : 15 < dp
      · have g1 : (15 : Int) < dp := hd
        go_wp2_with fail
        go_returns
        exact ⟨rfl, hBw⟩
      · have g1 : ¬ (15 : Int) < dp := hd
        go_wp2_with fail
        go_roundw
        case rel => exact ⟨i + 1, by omega, by go_num, hB⟩
        case measure => simp [intOf]; omega
    · obtain rfl : i = len := by omega
      have hbx := H_hbox.out wr hB
      have x0 := Dc.hcell (j := 0) hbx rfl
      have x1 := Dc.hcell (j := 1) hbx rfl
      have x2 := Dc.hcell (j := 2) hbx rfl
      clear hbx
      have cF := H_hcall.out wr hBw
      have H_cF := Lib.hid cF
      clear cF
      go_wp2_with fail
      refine (H_cF.out).mono ?_
      rintro en w2 ⟨oa, l2, ca, rfl, hl2, hcase, hT⟩
      rcases hcase with ⟨_, hb⟩ | ⟨_, xs, hu1, hu2, hu3, _, hu5⟩
      · exact absurd hb H_hbig.out
      · have hB2 : Below wr.heap.size wr w2 := hT.below (Nat.le_refl _) (fun b hb => by cases hb)
        have hBw2 : Below w.heap.size w w2 := below_via hBw hB2
        have cA := alike_any oa o l2 i ca c xs ys w2 (own_sla hu1) (H_hS.out.keep hBw2 rfl) (fun x hx => (hu3 x hx).keep hBw2 rfl) (fun y hy => (H_hy.out y hy).keep hBw2 rfl)
        rw [if_pos (H_hsame.out xs hu5)] at cA
        clear hu1 hu2 hu3 hu5 hT x0 x1 x2
        have H_cA := Lib.hid cA
        clear cA
        go_wp2_with fail
        refine (H_cA.out).mono ?_
        rintro _ w3 ⟨rfl, hb3⟩
        have hBw3 : Below w.heap.size w w3 := below_via hBw2 hb3
        go_wp2_with fail
        go_returns
        exact ⟨rfl, hBw3⟩
end Go.Proofs.YtndlmmpheecleaaGreatDoor

/-
  Plain: a document's flats: what lies below the root, each with its parent's place.
-/
namespace Lead.Dc
open Go Go.RowKit Lead
/-- Flats as they lie: the parent's place is the one of the parent's number, or the one ahead of all. -/
def FlP (E : Els) (A : List Nat) (L : List FlatV) (k : Nat) (Q : Nat → Nat → Int → Int → Prop) : Prop :=
  L.length = A.length ∧ ∀ i a, A[i]? = some a → ∃ (e : El) (x : FlatV), elAt E a = some e ∧ L[i]? = some x ∧ x.name = e.name ∧ x.attrs = e.attrs ∧ (Q i a x.parent e.parent ∨ ∃ j b, j < i ∧ A[j]? = some b ∧ x.parent = ((k + j : Nat) : Int) ∧ e.parent = (b : Int))
variable {E : Els} {next : Nat} {d : Nat → Nat}
theorem FlP.tree (g : Good E next d) : ∀ (f n : Nat) (e : El) (par : Int) (deep k : Nat), elAt E n = some e → FlP E (below E f n) (allF (rtE E f n) par deep k) k (fun i a x _ => i = 0 ∧ a = n ∧ x = par) := by
  intro f
  induction f with
  | zero =>
    intro n e par deep k he
    unfold rtE
    rw [he]
    dsimp only
    rw [allF, allFs]
    refine ⟨rfl, fun i a hi => ?_⟩
    cases i with
    | zero =>
      obtain rfl : n = a := by simpa [below] using hi
      exact ⟨e, _, he, rfl, rfl, rfl, .inl ⟨rfl, rfl, rfl⟩⟩
    | succ i => simp [below] at hi
  | succ f ih =>
    intro n e par deep k he
    have hfor : ∀ (ks : List Nat) (pn k0 : Nat), (∀ c ∈ ks, c ∈ e.kids) → FlP E (ks.flatMap (below E f)) (allFs (ks.map (rtE E f)) pn (deep + 1) k0) k0 (fun _ _ x p => x = (pn : Int) ∧ p = (n : Int)) := by
      intro ks
      induction ks with
      | nil => intro pn k0 _; exact ⟨rfl, fun i a hi => by simp at hi⟩
      | cons c r ihr =>
        intro pn k0 hk
        obtain ⟨ce, hce, hcp⟩ := g.down n e c he (hk c List.mem_cons_self)
        obtain ⟨h1, h2⟩ := ih c ce (pn : Int) (deep + 1) k0 hce
        have hcnt : (rtE E f c).cnt = (below E f c).length := by rw [← h1, allF_len]
        obtain ⟨h3, h4⟩ := ihr pn (k0 + (rtE E f c).cnt) (fun x hx => hk x (List.mem_cons_of_mem _ hx))
        rw [List.flatMap_cons, List.map_cons, allFs]
        refine ⟨by rw [List.length_append, List.length_append, h1, h3], fun i a hi => ?_⟩
        by_cases hlt : i < (below E f c).length
        · rw [List.getElem?_append_left hlt] at hi
          obtain ⟨ei, x, a1, a2, a3, a4, a5⟩ := h2 i a hi
          refine ⟨ei, x, a1, by rw [List.getElem?_append_left (by omega)]; exact a2, a3, a4, ?_⟩
          rcases a5 with ⟨b1, b2, b3⟩ | ⟨j, b, b1, b2, b3, b4⟩
          · subst b2
            rw [hce] at a1
            cases a1
            exact .inl ⟨b3, hcp⟩
          · exact .inr ⟨j, b, b1, by rw [List.getElem?_append_left (by omega)]; exact b2, b3, b4⟩
        · rw [List.getElem?_append_right (by omega)] at hi
          obtain ⟨ei, x, a1, a2, a3, a4, a5⟩ := h4 _ a hi
          refine ⟨ei, x, a1, by rw [List.getElem?_append_right (by omega), h1]; exact a2, a3, a4, ?_⟩
          rcases a5 with b1 | ⟨j, b, b1, b2, b3, b4⟩
          · exact .inl b1
          · refine .inr ⟨(below E f c).length + j, b, by omega, ?_, ?_, b4⟩
            · rw [List.getElem?_append_right (by omega), Nat.add_sub_cancel_left]; exact b2
            · rw [b3, hcnt]; congr 1; omega
    obtain ⟨h1, h2⟩ := hfor e.kids k (k + 1) (fun _ h => h)
    unfold rtE
    rw [he]
    dsimp only
    rw [allF, below, kidsAt_some he]
    refine ⟨by rw [List.length_cons, List.length_cons, h1], fun i a hi => ?_⟩
    cases i with
    | zero =>
      obtain rfl : n = a := by simpa using hi
      exact ⟨e, _, he, rfl, rfl, rfl, .inl ⟨rfl, rfl, rfl⟩⟩
    | succ i =>
      rw [List.getElem?_cons_succ] at hi
      obtain ⟨ei, x, a1, a2, a3, a4, a5⟩ := h2 i a hi
      refine ⟨ei, x, a1, by rw [List.getElem?_cons_succ]; exact a2, a3, a4, .inr ?_⟩
      rcases a5 with ⟨b1, b2⟩ | ⟨j, b, b1, b2, b3, b4⟩
      · exact ⟨0, n, by omega, rfl, by rw [b1]; rfl, b2⟩
      · exact ⟨j + 1, b, by omega, by rw [List.getElem?_cons_succ]; exact b2, by rw [b3]; congr 1; omega, b4⟩
/-- What the reference says of the same elements. -/
def FlQ (E : Els) (A : List Nat) (ys : List FlX) : Prop :=
  ys.length = A.length ∧ ∀ (i a : Nat), A[i]? = some a → ∃ (e : El) (y : FlX), elAt E a = some e ∧ ys[i]? = some y ∧ y.nm = e.name ∧ y.ats = e.attrs ∧ (e.parent < 0 → y.par = -1) ∧ ∀ (b j : Nat), e.parent = (b : Int) → A[j]? = some b → y.par = (j : Int)
theorem FlQ.same (g : Good E next d) {ys xs : List FlX} (h : FlQ E (below E 10 0) ys) {deep : Nat} (hx : xs.map fv = allF (rtE E 10 0) (-1) deep 0) : xs.map fk3 = ys.map fk3 := by
  obtain ⟨e0, he0, hp0⟩ := g.root
  obtain ⟨h1, h2⟩ := FlP.tree g 10 0 e0 (-1) deep 0 he0
  rw [← hx] at h1 h2
  rw [List.length_map] at h1
  refine fk3_map (by rw [h1, h.1]) fun i hi1 hi2 => ?_
  have hA : i < (below E 10 0).length := by rw [← h1]; exact hi1
  obtain ⟨e, x, a1, a2, a3, a4, a5⟩ := h2 i _ (List.getElem?_eq_getElem hA)
  obtain ⟨e', y, b1, b2, b3, b4, b5, b6⟩ := h.2 i _ (List.getElem?_eq_getElem hA)
  rw [a1] at b1
  cases b1
  rw [List.getElem?_map, List.getElem?_eq_getElem hi1] at a2
  rw [List.getElem?_eq_getElem hi2] at b2
  cases a2
  cases b2
  have hpar : xs[i].par = ys[i].par := by
    rcases a5 with ⟨c1, c2, c3⟩ | ⟨j, b, c1, c2, c3, c4⟩
    · rw [c2, he0] at a1
      cases a1
      rw [b5 (by rw [hp0]; decide)]
      exact c3
    · rw [b6 b j c4 c2]
      have : xs[i].par = ((0 + j : Nat) : Int) := c3
      rw [this, Nat.zero_add]
  unfold fk3
  rw [hpar, b3, b4]
  have e1 : xs[i].nm = e.name := a3
  have e2 : xs[i].ats = e.attrs := a4
  rw [e1, e2]
end Lead.Dc

/-
  Plain: a document's flats are neither too many nor too deep.
-/
namespace Lead.Dc
open Go Go.RowKit Lead
mutual
theorem allF_deep : ∀ (n : RT) (p : Int) (deep k : Nat), ∀ x ∈ allF n p deep k, x.deep < (deep : Int) + (n.hgt : Int)
  | .mk nm ats ks, p, deep, k => by
    intro x hx
    simp only [allF, RT.hgt] at hx ⊢
    rcases List.mem_cons.1 hx with rfl | hx
    · show (deep : Int) < _
      omega
    · have := allFs_deep ks k (deep + 1) (k + 1) x hx
      omega
theorem allFs_deep : ∀ (ks : List RT) (p deep k : Nat), ∀ x ∈ allFs ks p deep k, x.deep < (deep : Int) + (RT.hgtL ks : Int)
  | [], p, deep, k => by intro x hx; simp [allFs] at hx
  | y :: r, p, deep, k => by
    intro x hx
    simp only [allFs, RT.hgtL] at hx ⊢
    rcases List.mem_append.1 hx with hx | hx
    · have := allF_deep y (p : Int) deep k x hx
      omega
    · have := allFs_deep r p deep (k + y.cnt) x hx
      omega
end
theorem hgtL_le {K : Nat} : ∀ (l : List RT), (∀ x ∈ l, x.hgt ≤ K) → RT.hgtL l ≤ K
  | [], _ => Nat.zero_le _
  | x :: r, h => by
    rw [RT.hgtL]
    exact Nat.max_le.2 ⟨h x List.mem_cons_self, hgtL_le r fun y hy => h y (List.mem_cons_of_mem _ hy)⟩
theorem rtE_hgt (E : Els) : ∀ (f n : Nat), (rtE E f n).hgt ≤ f + 1 := by
  intro f
  induction f with
  | zero =>
    intro n
    unfold rtE
    cases elAt E n <;> simp [RT.hgt, RT.hgtL]
  | succ f ih =>
    intro n
    unfold rtE
    cases elAt E n with
    | none => simp [RT.hgt, RT.hgtL]
    | some e =>
      dsimp only
      rw [RT.hgt]
      have := hgtL_le (K := f + 1) (e.kids.map (rtE E f)) (fun x hx => by
        obtain ⟨k, _, rfl⟩ := List.mem_map.1 hx
        exact ih k)
      omega
variable {E : Els} {next : Nat} {d : Nat → Nat}
theorem Good.notBig (g : Good E next d) (hE : E.length ≤ 150) : ¬ Big (allF (rtE E 10 0) (-1) 1 0) := fun h => by
  obtain ⟨e0, he0, _⟩ := g.root
  obtain ⟨h1, _⟩ := FlP.tree g 10 0 e0 (-1) 1 0 he0
  refine h ⟨by rw [h1, g.all_len]; exact hE, fun x hx => ?_⟩
  have h2 := allF_deep _ _ _ _ x hx
  have h3 := rtE_hgt E 10 0
  omega
end Lead.Dc

/-
  Walks over the reference's document: Flats.
-/
namespace Lead.Rc
open Go Go.RowKit Lead Lead.Dc
/-- Where Flats walks: the first i told, and each one's place. -/
def FlI (E : Els) (A : List Nat) (i : Nat) (ys : List FlX) : Prop :=
  ys.length = i ∧ ∀ (j a : Nat), j < i → A[j]? = some a → ∃ (e : El) (y : FlX), elAt E a = some e ∧ ys[j]? = some y ∧ y.nm = e.name ∧ y.ats = e.attrs ∧ (e.parent < 0 → y.par = -1) ∧ ∀ (b q : Nat), e.parent = (b : Int) → A[q]? = some b → y.par = (q : Int)
theorem FlI.nil (E : Els) (A : List Nat) : FlI E A 0 [] := ⟨rfl, fun _ _ h => absurd h (Nat.not_lt_zero _)⟩
theorem FlI.done {E : Els} {A : List Nat} {ys : List FlX} (h : FlI E A A.length ys) : FlQ E A ys :=
  ⟨h.1, fun i a hi => h.2 i a (by
    rcases Nat.lt_or_ge i A.length with h' | h'
    · exact h'
    · rw [List.getElem?_eq_none h'] at hi; cases hi) hi⟩
theorem FlI.next {E : Els} {A : List Nat} {i a : Nat} {ys : List FlX} {e : El} {y : FlX} (h : FlI E A i ys) (ha : A[i]? = some a) (he : elAt E a = some e) (h1 : y.nm = e.name) (h2 : y.ats = e.attrs) (h3 : e.parent < 0 → y.par = -1) (h4 : ∀ (b q : Nat), e.parent = (b : Int) → A[q]? = some b → y.par = (q : Int)) : FlI E A (i + 1) (ys ++ [y]) := by
  refine ⟨by rw [List.length_append, h.1]; rfl, fun j b hj hb => ?_⟩
  by_cases hji : j = i
  · subst hji
    rw [ha] at hb
    cases hb
    exact ⟨e, y, he, by rw [List.getElem?_append_right (by rw [h.1]; exact Nat.le_refl _), h.1, Nat.sub_self]; rfl, h1, h2, h3, h4⟩
  · obtain ⟨e', y', a1, a2, a3⟩ := h.2 j b (by omega) hb
    exact ⟨e', y', a1, by rw [List.getElem?_append_left (by rw [h.1]; omega)]; exact a2, a3⟩
/-- The places told so far. -/
def PlI (A : List Nat) (i : Nat) (f : Nat → Value) : Prop := (∀ j a, j < i → A[j]? = some a → f a = .int .i64 (j : Int)) ∧ ∀ j, ∃ z : Int, f j = .int .i64 z
theorem PlI.zero (A : List Nat) : PlI A 0 (fun _ => .int .i64 0) := ⟨fun _ _ h => absurd h (Nat.not_lt_zero _), fun _ => ⟨0, rfl⟩⟩
theorem PlI.next {A : List Nat} (hA : A.Nodup) {i a : Nat} {f : Nat → Value} (h : PlI A i f) (ha : A[i]? = some a) : PlI A (i + 1) (fun j => if j = a then .int .i64 (i : Int) else f j) := by
  refine ⟨fun j b hj hb => ?_, fun j => ?_⟩
  · by_cases hba : b = a
    · subst hba
      have hi := (List.getElem?_eq_some_iff.1 ha).1
      have hji : i = j := (List.getElem?_inj hi hA).1 (ha.trans hb.symm)
      dsimp only
      rw [if_pos rfl, hji]
    · dsimp only
      rw [if_neg hba]
      refine h.1 j b ?_ hb
      by_cases e : j = i
      · subst e; rw [ha] at hb; cases hb; exact absurd rfl hba
      · omega
  · by_cases hja : j = a
    · exact ⟨_, if_pos hja⟩
    · obtain ⟨z, hz⟩ := h.2 j
      exact ⟨z, (if_neg hja).trans hz⟩
end Lead.Rc
namespace Lead.Dc
open Go Go.RowKit Lead
/-- A parent lies ahead of its child. -/
theorem Good.ahead {E : Els} {next : Nat} {d : Nat → Nat} (g : Good E next d) {i a b q : Nat} {e : El} (ha : (below E 10 0)[i]? = some a) (he : elAt E a = some e) (hb : e.parent = (b : Int)) (hq : (below E 10 0)[q]? = some b) : q < i := by
  obtain ⟨e0, he0, hp0⟩ := g.root
  obtain ⟨_, h2⟩ := FlP.tree g 10 0 e0 (-1) 1 0 he0
  obtain ⟨e', x, a1, _, _, _, a5⟩ := h2 i a ha
  rw [he] at a1
  cases a1
  rcases a5 with ⟨_, c2, _⟩ | ⟨j, b', c1, c2, _, c4⟩
  · subst c2
    rw [he0] at he
    cases he
    rw [hp0] at hb
    omega
  · have hbb : b' = b := by rw [hb] at c4; omega
    subst hbb
    have hi := (List.getElem?_eq_some_iff.1 hq).1
    have hqj : q = j := (List.getElem?_inj hi (g.below_nodup 10 0)).1 (hq.trans c2.symm)
    omega
theorem Good.par_in {E : Els} {next : Nat} {d : Nat → Nat} (g : Good E next d) {a b : Nat} {e : El} (he : elAt E a = some e) (hb : e.parent = (b : Int)) : ∃ q : Nat, (below E 10 0)[q]? = some b := by
  have h0 : a ≠ 0 := fun h => by
    subst h
    obtain ⟨e0, he0, hp0⟩ := g.root
    rw [he0] at he; cases he
    rw [hp0] at hb; omega
  obtain ⟨p, pe, h1, h2, _⟩ := g.up a e he h0
  have hpb : p = b := by rw [hb] at h1; omega
  subst hpb
  exact List.mem_iff_getElem?.1 ((g.all_mem p).1 ⟨pe, h2⟩)
end Lead.Dc
namespace Go.Proofs.YtndlmmpheecleaaGreatDoor
open Go.RowKit Lead Lead.Dc Lead.Rc
theorem infoIntF : (Tryz.prog.info? 3).map (fun i => (i.zero, i.size, i.bytes)) = some (some (.int .i64 0), 1, 8) := by kernel_rfl
theorem infoFlF : (Tryz.prog.info? 95).map (fun i => (i.zero, i.size, i.bytes)) = some (some (.agg #[.string ⟨#[]⟩, .slice none 0 0, .int .i64 0, .int .i64 0]), 4, 56) := by kernel_rfl
end Go.Proofs.YtndlmmpheecleaaGreatDoor
