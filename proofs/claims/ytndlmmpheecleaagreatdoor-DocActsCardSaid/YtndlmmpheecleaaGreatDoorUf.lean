/-
  Several texts as one: Rrb, Da1, Da2, Rp1, Pfr, Pst, Pat, Do9, Lo0.
-/
import Derived.Test.YtndlmmpheecleaaGreatDoorRm3
import Derived.Test.YtndlmmpheecleaaGreatDoorDz
import Derived.Test.YtndlmmpheecleaaGreatDoorPu6
import Derived.Test.YtndlmmpheecleaaGreatDoorRs4
import Derived.Test.YtndlmmpheecleaaGreatDoorRm4
import Derived.Test.YtndlmmpheecleaaGreatDoorRa7
import Derived.Test.YtndlmmpheecleaaGreatDoorRc3
import Derived.Test.YtndlmmpheecleaaGreatDoorDp
import Derived.Test.YtndlmmpheecleaaGreatDoorUc
import Derived.Test.YtndlmmpheecleaaGreatDoorUb
import Derived.Test.YtndlmmpheecleaaGreatDoorFz
/-
  Walks over the reference's document: Remove's errors.
-/
namespace Go.Proofs.YtndlmmpheecleaaGreatDoor
open Go.RowKit Lead Lead.Dc Lead.Pk Lead.Rc
set_option maxHeartbeats 4000000 in
set_option maxRecDepth 100000 in
theorem rrem_bad (base b : Nat) (v : Value) (l : List ReX) (E : Els) (next : Nat) (d : Nat → Nat) (z : Int) (w : World) (h : RDoc RT_ base w b v l) (hR : RelD l E next) (hnx : next ≤ 900000) (_g : Lead.Dc.Good E next d) (hc : remC E z ≠ 0) :
    Calls Tryz.prog 15 #[.pointer (some ⟨b, 0, none⟩), .int .i64 z] w fun en w' => en = .returned (.int .i64 (remC E z : Nat)) ∧ Below w.heap.size w w' := by
  have hlm : l.length ≤ 1000000 := by rw [hR.len]; omega
  have cH1 := rhas_any base b v l z w h hlm
  rw [hR.has] at cH1
  cases hz : atZ E z with
  | none =>
    have hz' : (if 0 ≤ z then elAt E z.toNat else none) = none := hz
    have hC : remC E z = 5 := by unfold remC; first | rw [hz'] | rw [hz]
    rw [hC]
    rw [hz'] at cH1
    have H_cH1 := Lib.hid cH1
    clear cH1
    have H_h := Lib.hid h
    clear h
    have H_hR := Lib.hid hR
    clear hR
    have H_hz := Lib.hid hz
    clear hz
    have H_hz' := Lib.hid hz'
    clear hz'
    have H_hC := Lib.hid hC
    clear hC
    have H_hc := Lib.hid hc
    clear hc
    go_enter Tryz.func15, Tryz.ntmps15
    go_wp2_with fail
    refine (H_cH1.out).mono ?_
    rintro _ w1 ⟨rfl, hb1⟩
    have hB1 : Below w.heap.size w w1 := hb1
    clear hb1
    go_wp2_with fail
    go_returns
    exact ⟨rfl, by repeat' (first | (with_reducible first | exact bwR _ _ | assumption | refine bdn ?_ | refine bwA ?_ ?_ _ | refine bwD ?_ | refine bwS ?_ ?_ _) | omega | (simp <;> omega))⟩
  | some e =>
    have hz' : (if 0 ≤ z then elAt E z.toNat else none) = some e := hz
    rw [hz'] at cH1
    have h0 : z = 0 := Decidable.byContradiction fun h0 => hc (by unfold remC; first | (rw [hz']; simp [h0]) | (rw [hz]; simp [h0]))
    have hC : remC E z = 3 := by unfold remC; first | (rw [hz']; simp [h0]) | (rw [hz]; simp [h0])
    rw [hC]
    subst h0
    have H_cH1 := Lib.hid cH1
    clear cH1
    have H_h := Lib.hid h
    clear h
    have H_hR := Lib.hid hR
    clear hR
    have H_hz := Lib.hid hz
    clear hz
    have H_hz' := Lib.hid hz'
    clear hz'
    have H_hC := Lib.hid hC
    clear hC
    have H_hc := Lib.hid hc
    clear hc
    go_enter Tryz.func15, Tryz.ntmps15
    go_wp2_with fail
    refine (H_cH1.out).mono ?_
    rintro _ w1 ⟨rfl, hb1⟩
    have hB1 : Below w.heap.size w w1 := hb1
    clear hb1
    go_wp2_with fail
    go_returns
    exact ⟨rfl, by repeat' (first | (with_reducible first | exact bwR _ _ | assumption | refine bdn ?_ | refine bwA ?_ ?_ _ | refine bwD ?_ | refine bwS ?_ ?_ _) | omega | (simp <;> omega))⟩
end Go.Proofs.YtndlmmpheecleaaGreatDoor

/-
  DocActs: what the law's loop keeps: the program's document and the reference's, each in blocks of its own.
-/
namespace Lead.Rc
open Go Go.RowKit Lead Lead.Dc
variable {T : RTys} {base b : Nat} {W W' : World} {v : Value} {l : List ReX}
theorem RG.lt (h : RDoc T base W b v l) {k : Nat} (hk : RG b v l k) : base ≤ k ∧ k < W.heap.size := by
  rcases hk with rfl | h1 | ⟨x, hx, h1 | h1⟩
  · exact ⟨h.bb, h.lt⟩
  · exact h.own.lt k h1
  · exact (h.sub x hx).ats.lt k h1
  · exact (h.sub x hx).kids.lt k h1
theorem RDoc.kept (h : RDoc T base W b v l) (hw : ∀ k, RG b v l k → W'.heap[k]? = W.heap[k]?) : RDoc T base W' b v l :=
  ⟨(hw b (.inl rfl)).trans h.box, h.bb, own_kept h.own (fun k hk => hw k (.inr (.inl hk))), h.ne, fun x hx =>
    ⟨own_kept (h.sub x hx).ats (fun k hk => hw k (.inr (.inr ⟨x, hx, .inl hk⟩))), own_kept (h.sub x hx).kids (fun k hk => hw k (.inr (.inr ⟨x, hx, .inr hk⟩))), (h.sub x hx).aq, (h.sub x hx).kq⟩⟩
end Lead.Rc
namespace Lead.Dc
open Go Go.RowKit Go.Maps Lead
theorem DokG.kept {P : Program} {T : Tys} {w w' : World} {bd next : Nat} {F : Nat → Prop} {E : Els} {d : Nat → Nat} (h : DokG P T w bd F E next d) (hs : w.heap.size ≤ w'.heap.size) (hw : ∀ k, F k → w'.heap[k]? = w.heap[k]?) : DokG P T w' bd F E next d := by
  obtain ⟨⟨pl, bm, cnt, D, hA, hc, hF⟩, hg, hb, hl⟩ := h
  exact ⟨⟨pl, bm, cnt, D, ⟨hA.geD, hA.geM, (hw bd hF.d).trans hA.doc, map_below hA.map (hw bm hF.m), hA.md, fun n e he =>
    ⟨(hA.els n e he).ge, (hw _ (hF.el n e he)).trans (hA.els n e he).cell, (hA.els n e he).attrs.kept (fun b hb => hw b (hF.av n e he b hb)), (hA.els n e he).kids.kept (fun b hb => hw b (hF.kv n e he b hb))⟩, hA.ne⟩, hc, hF.keep hs⟩, hg, hb, hl⟩
end Lead.Dc
namespace Go.Proofs.YtndlmmpheecleaaGreatDoor
open Go.RowKit Go.WideMaps Go.Maps Lead Lead.Dc Lead.Rc
/-- The program's document E and the reference's E2, apart. -/
structure Two (B BR : Nat) (W0 : World) (bd b : Nat) (W : World) (F : Nat → Prop) (v : Value) (l : List ReX) (E : Els) (next : Nat) (d : Nat → Nat) (E2 : Els) (n2 : Nat) (kb : Nat) (ob : Option Obj) : Prop where
  dok : DokG Tryz.prog TT W bd F E next d
  rdoc : RDoc RT_ BR W b v l
  rel : RelD l E2 n2
  hi : ∀ k, F k → B ≤ k
  br : B ≤ BR
  ap : ∀ k, F k → ¬ RG b v l k
  bel : Below B W0 W
  box : kb < W.heap.size ∧ W.heap[kb]? = ob ∧ ¬ F kb ∧ ¬ RG b v l kb
section
variable {B BR bd b next n2 : Nat} {kb : Nat} {ob : Option Obj} {W0 W W1 : World} {F : Nat → Prop} {v : Value} {l : List ReX} {E E2 : Els} {d : Nat → Nat}
theorem Two.big (h : Two B BR W0 bd b W F v l E next d E2 n2 kb ob) : B ≤ W.heap.size := Nat.le_of_lt (Nat.lt_of_le_of_lt (h.hi bd h.dok.ok.inF) h.dok.ok.lt)
theorem Two.bigR (h : Two B BR W0 bd b W F v l E next d E2 n2 kb ob) : BR ≤ W.heap.size := Nat.le_of_lt (Nat.lt_of_le_of_lt h.rdoc.bb h.rdoc.lt)
theorem Two.keep (h : Two B BR W0 bd b W F v l E next d E2 n2 kb ob) (hb : Below W.heap.size W W1) : Two B BR W0 bd b W1 F v l E next d E2 n2 kb ob :=
  ⟨h.dok.keep hb, h.rdoc.keep hb, h.rel, h.hi, h.br, h.ap, h.bel.trans (hb.mono h.big), Nat.lt_of_lt_of_le h.box.1 hb.size, (hb.block _ h.box.1).trans h.box.2.1, h.box.2.2⟩
theorem Two.prog {E' : Els} {next' : Nat} {d' : Nat → Nat} (h : Two B BR W0 bd b W F v l E next d E2 n2 kb ob) (hs : Step Tryz.prog TT F bd W W1 E' next' d') : ∃ F', Two B BR W0 bd b W1 F' v l E' next' d' E2 n2 kb ob := by
  obtain ⟨F', h1, h2, h3⟩ := hs
  refine ⟨F', h2, h.rdoc.kept (fun k hk => h3.block k (RG.lt h.rdoc hk).2 (fun hf => h.ap k hf hk)), h.rel, fun k hk => ?_, h.br, fun k hk hr => ?_, h.bel.trans (h3.below h.big h.hi), Nat.lt_of_lt_of_le h.box.1 h3.size, (h3.block _ h.box.1 h.box.2.2.1).trans h.box.2.1, fun hf => ?_, h.box.2.2.2⟩
  · rcases h1 k hk with h4 | h4
    · exact h.hi k h4
    · exact Nat.le_trans h.big h4
  · rcases h1 k hk with h4 | h4
    · exact h.ap k h4 hr
    · have := (RG.lt h.rdoc hr).2; omega
  · rcases h1 kb hf with h4 | h4
    · exact h.box.2.2.1 h4
    · have := h.box.1; omega
/-- Another block is watched: one that neither document has. -/
theorem Two.watch {kb' : Nat} {ob' : Option Obj} (h : Two B BR W0 bd b W F v l E next d E2 n2 kb ob) (hk : kb' < W.heap.size ∧ W.heap[kb']? = ob' ∧ ¬ F kb' ∧ ¬ RG b v l kb') : Two B BR W0 bd b W F v l E next d E2 n2 kb' ob' :=
  ⟨h.dok, h.rdoc, h.rel, h.hi, h.br, h.ap, h.bel, hk⟩
/-- A new block is watched. -/
theorem Two.fresh {o : Obj} (h : Two B BR W0 bd b W F v l E next d E2 n2 kb ob) (hb : Below W.heap.size W W1) (ho : W1.heap[W.heap.size]? = some o) : Two B BR W0 bd b W1 F v l E next d E2 n2 W.heap.size (some o) :=
  (h.keep hb).watch ⟨(Array.getElem?_eq_some_iff.1 ho).1, ho, fun hf => by have := h.dok.ok.F_lt _ hf; omega, fun hf => by have := (RG.lt h.rdoc hf).2; omega⟩
theorem Two.ref {E2' : Els} {n2' : Nat} {l' : List ReX} {v' : Value} (h : Two B BR W0 bd b W F v l E next d E2 n2 kb ob) (hr : RelD l' E2' n2') (ha : RActs BR b v l l' v' W W1) : Two B BR W0 bd b W1 F v' l' E next d E2' n2' kb ob := by
  obtain ⟨h1, h2, h3, _, _⟩ := ha
  have hF := h.dok.ok.F_lt
  refine ⟨h.dok.kept h2.size (fun k hk => h2.block k (hF k hk) (h.ap k hk)), h1, hr, h.hi, h.br, fun k hk hr => ?_, h.bel.trans (h2.below h.big (fun k hk => Nat.le_trans h.br (RG.lt h.rdoc hk).1)), Nat.lt_of_lt_of_le h.box.1 h2.size, (h2.block _ h.box.1 h.box.2.2.2).trans h.box.2.1, h.box.2.2.1, fun hr => ?_⟩
  · rcases h3 k hr with h4 | h4
    · exact h.ap k hk h4
    · have := hF k hk; omega
  · rcases h3 kb hr with h4 | h4
    · exact h.box.2.2.2 h4
    · have := h.box.1; omega
end
/-- Both documents, the same; in bounds behind i acts. -/
structure Inv (B BR : Nat) (W0 : World) (bd b : Nat) (W : World) (F : Nat → Prop) (v : Value) (l : List ReX) (E : Els) (next : Nat) (d : Nat → Nat) (i : Nat) (kb : Nat) (ob : Option Obj) : Prop where
  two : Two B BR W0 bd b W F v l E next d E next kb ob
  dis : RDis l
  sz : Sz (100 + i) l
  at_ : AtD E
  len : E.length ≤ 100
  nx : next ≤ 100 + i
section
variable {B BR bd b next i : Nat} {kb : Nat} {ob : Option Obj} {W0 W W1 W2 : World} {F : Nat → Prop} {v : Value} {l : List ReX} {E : Els} {d : Nat → Nat}
theorem Inv.keep (h : Inv B BR W0 bd b W F v l E next d i kb ob) (hb : Below W.heap.size W W1) : Inv B BR W0 bd b W1 F v l E next d i kb ob := ⟨h.two.keep hb, h.dis, h.sz, h.at_, h.len, h.nx⟩
theorem sz_le {K K' : Nat} {l : List ReX} (h : Sz K l) (hle : K ≤ K') : Sz K' l := fun x hx => by have := h x hx; omega
theorem Inv.later (h : Inv B BR W0 bd b W F v l E next d i kb ob) : Inv B BR W0 bd b W F v l E next d (i + 1) kb ob := ⟨h.two, h.dis, sz_le h.sz (by omega), h.at_, h.len, Nat.le_trans h.nx (by omega)⟩
/-- Behind both acts. -/
theorem Inv.acted {E' : Els} {next' : Nat} {d' : Nat → Nat} {F' : Nat → Prop} {l' : List ReX} {v' : Value} (h : Inv B BR W0 bd b W F v l E next d i kb ob) (h1 : Two B BR W0 bd b W1 F' v l E' next' d' E next kb ob) (hr : RelD l' E' next') (ha : RActs BR b v l l' v' W1 W2) (hat : AtD E') (hlen : E'.length ≤ 100) (hnx : next' ≤ next + 1) : Inv B BR W0 bd b W2 F' v' l' E' next' d' (i + 1) kb ob :=
  ⟨h1.ref hr ha, ha.2.2.2.1 h.dis, ha.2.2.2.2 _ h.sz, hat, hlen, by have := h.nx; omega⟩
end
end Go.Proofs.YtndlmmpheecleaaGreatDoor

/-
  DocActs: each act of the program's document and of the reference's, together.
-/
namespace Lead.Dc
open Go Go.RowKit Go.Maps Lead Lead.Rc
variable {E : Els} {next : Nat} {d : Nat → Nat}
theorem AtD.of_sub {E' : Els} (h : AtD E) (hs : ∀ n e, elAt E' n = some e → e.attrs = [] ∨ ∃ m f, elAt E m = some f ∧ e.attrs = f.attrs) : AtD E' := fun n e he => by
  rcases hs n e he with h1 | ⟨m, f, h1, h2⟩
  · rw [h1]; exact ⟨List.nodup_nil, Nat.zero_le _⟩
  · rw [h2]; exact h m f h1
theorem AtD.addE (h : AtD E) (g : Good E next d) {p k : Nat} {nm : ByteArray} : AtD (addE E next p k nm) := h.of_sub fun n e he => by
  unfold Dc.addE at he
  rw [elAt_append _ _ _ (by rw [upd_keys]; exact g.new_key), elAt_upd] at he
  split at he
  · cases he; exact .inl rfl
  · split at he
    · cases hf : elAt E n with
      | none => rw [hf] at he; cases he
      | some f => rw [hf] at he; cases he; exact .inr ⟨n, f, hf, rfl⟩
    · exact .inr ⟨n, e, he, rfl⟩
theorem AtD.removeE (h : AtD E) {n p : Nat} : AtD (removeE E n p) := h.of_sub fun x e he => by
  rw [removeE_at] at he
  split at he
  · cases he
  · split at he
    · cases hf : elAt E x with
      | none => rw [hf] at he; cases he
      | some f => rw [hf] at he; cases he; exact .inr ⟨x, f, hf, rfl⟩
    · exact .inr ⟨x, e, he, rfl⟩
theorem AtD.moveE (h : AtD E) {n m i p : Nat} : AtD (moveE E n m i p) := h.of_sub fun x e he => by
  rw [moveE_at] at he
  cases hf : elAt E x with
  | none => rw [hf] at he; cases he
  | some f => rw [hf] at he; cases he; exact .inr ⟨x, f, hf, rfl⟩
/-- An element's attributes; of none none. -/
def attrsZ (E : Els) (z : Int) : List At := match atZ E z with
  | some e => e.attrs
  | none => []
theorem attrsZ_nat {n : Nat} {e : El} (h : elAt E n = some e) : attrsZ E (n : Int) = e.attrs := by unfold attrsZ; rw [atZ_nat, h]
end Lead.Dc
namespace Go.Proofs.YtndlmmpheecleaaGreatDoor
open Go.RowKit Go.WideMaps Go.Maps Lead Lead.Dc Lead.Rc
section
variable {B BR bd b next i : Nat} {kb : Nat} {ob : Option Obj} {W0 W W1 W2 : World} {F F' : Nat → Prop} {v : Value} {l : List ReX} {E E' : Els} {d d' : Nat → Nat} {next' : Nat}
/-- What an act makes of the elements: they turn into X, where there is no error. -/
def ToE (c : Nat) (X : Els) (xn : Nat) (xd : Nat → Nat) (E : Els) (next : Nat) (d : Nat → Nat) (E' : Els) (next' : Nat) (d' : Nat → Nat) : Prop := (c = 0 ∧ X = E' ∧ xn = next' ∧ xd = d') ∨ (c ≠ 0 ∧ E = E' ∧ next = next' ∧ d = d')
/-- The program's half is done. -/
def Half (B BR : Nat) (W0 : World) (bd b : Nat) (v : Value) (l : List ReX) (E : Els) (next : Nat) (d : Nat → Nat) (c : Nat) (X : Els) (xn : Nat) (xd : Nat → Nat) (kb : Nat) (ob : Option Obj) (W1 : World) : Prop := ∃ F' E' next' d', ToE c X xn xd E next d E' next' d' ∧ Two B BR W0 bd b W1 F' v l E' next' d' E next kb ob
/-- Both halves are done. -/
def Full (B BR : Nat) (W0 : World) (bd b : Nat) (i : Nat) (kb : Nat) (ob : Option Obj) (W2 : World) : Prop := ∃ F' v' l' E' next' d', Inv B BR W0 bd b W2 F' v' l' E' next' d' (i + 1) kb ob
theorem half_ok {c : Nat} {X : Els} {xn : Nat} {xd : Nat → Nat} (hI : Inv B BR W0 bd b W F v l E next d i kb ob) (hc : c = 0) (hs : Step Tryz.prog TT F bd W W1 X xn xd) : Half B BR W0 bd b v l E next d c X xn xd kb ob W1 := by
  obtain ⟨F', h1⟩ := hI.two.prog hs
  exact ⟨F', _, _, _, .inl ⟨hc, rfl, rfl, rfl⟩, h1⟩
theorem half_no {c : Nat} {X : Els} {xn : Nat} {xd : Nat → Nat} (hI : Inv B BR W0 bd b W F v l E next d i kb ob) (hc : c ≠ 0) (hs : Step Tryz.prog TT F bd W W1 E next d) : Half B BR W0 bd b v l E next d c X xn xd kb ob W1 := by
  obtain ⟨F', h1⟩ := hI.two.prog hs
  exact ⟨F', _, _, _, .inr ⟨hc, rfl, rfl, rfl⟩, h1⟩
theorem half_err {c : Nat} {X : Els} {xn : Nat} {xd : Nat → Nat} (hI : Inv B BR W0 bd b W F v l E next d i kb ob) (hc : c ≠ 0) (hs : Below W.heap.size W W1) : Half B BR W0 bd b v l E next d c X xn xd kb ob W1 := half_no hI hc (Step.same hI.two.dok hs)
theorem full_no (hI : Inv B BR W0 bd b W F v l E next d i kb ob) (h1 : Two B BR W0 bd b W1 F' v l E next d E next kb ob) (hb : Below W1.heap.size W1 W2) : Full B BR W0 bd b i kb ob W2 :=
  ⟨F', v, l, E, next, d, (Inv.later ⟨h1.keep hb, hI.dis, hI.sz, hI.at_, hI.len, hI.nx⟩)⟩
theorem Inv.good (hI : Inv B BR W0 bd b W F v l E next d i kb ob) : Lead.Dc.Good E next d := hI.two.dok.good
theorem Inv.kids (hI : Inv B BR W0 bd b W F v l E next d i kb ob) {n : Nat} {e : El} (he : elAt E n = some e) : e.kids.length ≤ 100 := Nat.le_trans (hI.good.kids_len he) hI.len
/-! ### add -/
def ansA (E : Els) (next : Nat) (d : Nat → Nat) (p q : Int) (nm : ByteArray) : Nat := if addC E d p q nm = 0 then next else 0
abbrev HalfA (B BR : Nat) (W0 : World) (bd b : Nat) (v : Value) (l : List ReX) (E : Els) (next : Nat) (d : Nat → Nat) (p q : Int) (nm : ByteArray) (kb : Nat) (ob : Option Obj) (W1 : World) : Prop :=
  Half B BR W0 bd b v l E next d (addC E d p q nm) (addE E next p.toNat q.toNat nm) (next + 1) (fun x => if x = next then d p.toNat + 1 else d x) kb ob W1
theorem p_add (ea : Nat → Addr) (p q : Int) (nm : ByteArray) (hI : Inv B BR W0 bd b W F v l E next d i kb ob) (hi : i ≤ 60) (hG : DGs ea W) (hp : I64 p) (hq : I64 q) :
    Calls Tryz.prog 11 #[.pointer (some ⟨bd, 0, none⟩), .int .i64 p, .int .i64 q, .string nm] W fun en w1 => en = .returned (.tuple #[.int .i64 (ansA E next d p q nm : Nat), evl 264 ea (addC E d p q nm)]) ∧ HalfA B BR W0 bd b v l E next d p q nm kb ob w1 := by
  refine (add_any ea bd next p q nm F E d W hI.two.dok hG (by have := hI.nx; omega) hp hq).mono ?_
  intro en w1 h
  unfold AddIs at h
  unfold ansA
  split at h
  · next hc => rw [if_pos hc, evl_0 hc]; exact ⟨h.1, half_ok hI hc h.2⟩
  · next hc => rw [if_neg hc, evl_n hc]; exact ⟨h.1, half_no hI hc h.2⟩
theorem r_add (p q : Int) (nm : ByteArray) (hI : Inv B BR W0 bd b W F v l E next d i kb ob) (hi : i ≤ 60) (hH : HalfA B BR W0 bd b v l E next d p q nm kb ob W1) (hp : I64 p) (hq : I64 q) (hnm : nm.size ≤ 1000000) :
    Calls Tryz.prog 12 #[.pointer (some ⟨b, 0, none⟩), .int .i64 p, .int .i64 q, .string nm] W1 fun en w2 => en = .returned (.tuple #[.int .i64 (ansA E next d p q nm : Nat), .int .i64 (addC E d p q nm : Nat)]) ∧ Full B BR W0 bd b i kb ob w2 := by
  obtain ⟨F', E', next', d', hto, h1⟩ := hH
  have hn := hI.nx
  have hl := hI.len
  unfold ansA
  rcases hto with ⟨hc, rfl, rfl, rfl⟩ | ⟨hc, rfl, rfl, rfl⟩
  · obtain ⟨q', k, pe, rfl, rfl, he, hk, hok, hdp, hlen⟩ := addC_ok hc
    have hkb := hI.kids he
    refine (radd_ok BR b v l E next d q' k nm pe W1 h1.rdoc h1.bigR hI.two.rel (by omega) hI.good hlen hnm he hk (by omega) hok hdp).mono ?_
    rintro _ w2 ⟨rfl, l', v', hr, ha⟩
    rw [if_pos hc, hc]
    exact ⟨rfl, _, v', l', _, _, _, hI.acted h1 hr ha (hI.at_.addE hI.good) (by rw [addE_len]; omega) (Nat.le_refl _)⟩
  · rw [if_neg hc]
    refine (radd_bad BR b v l E next d p q nm W1 h1.rdoc hI.two.rel (by omega) hI.good (by omega) hp hq hnm hc).mono ?_
    rintro _ w2 ⟨rfl, hb⟩
    exact ⟨rfl, full_no hI h1 hb⟩
/-! ### remove -/
abbrev HalfR (B BR : Nat) (W0 : World) (bd b : Nat) (v : Value) (l : List ReX) (E : Els) (next : Nat) (d : Nat → Nat) (n : Int) (kb : Nat) (ob : Option Obj) (W1 : World) : Prop :=
  Half B BR W0 bd b v l E next d (remC E n) (removeE E n.toNat (parZ E n).toNat) next d kb ob W1
theorem p_rem (ea : Nat → Addr) (n : Int) (hI : Inv B BR W0 bd b W F v l E next d i kb ob) (hG : DGs ea W) (hn : I64 n) :
    Calls Tryz.prog 14 #[.pointer (some ⟨bd, 0, none⟩), .int .i64 n] W fun en w1 => en = .returned (evl 264 ea (remC E n)) ∧ HalfR B BR W0 bd b v l E next d n kb ob w1 := by
  refine (rem_any ea bd next n F E d W hI.two.dok hG hn).mono ?_
  intro en w1 h
  unfold RemIs at h
  split at h
  · next hc => rw [evl_0 hc]; exact ⟨h.1, half_ok hI hc h.2⟩
  · next hc => rw [evl_n hc]; exact ⟨h.1, half_no hI hc h.2⟩
theorem r_rem (n : Int) (hI : Inv B BR W0 bd b W F v l E next d i kb ob) (hi : i ≤ 60) (hH : HalfR B BR W0 bd b v l E next d n kb ob W1) :
    Calls Tryz.prog 15 #[.pointer (some ⟨b, 0, none⟩), .int .i64 n] W1 fun en w2 => en = .returned (.int .i64 (remC E n : Nat)) ∧ Full B BR W0 bd b i kb ob w2 := by
  obtain ⟨F', E', next', d', hto, h1⟩ := hH
  have hn := hI.nx
  have hl := hI.len
  rcases hto with ⟨hc, rfl, rfl, rfl⟩ | ⟨hc, rfl, rfl, rfl⟩
  · obtain ⟨k, e, rfl, he, h0⟩ := remC_ok hc
    obtain ⟨p, pe, hp, hpe, _⟩ := hI.good.up k e he h0
    have hkb := hI.kids hpe
    refine (rrem_ok BR b v l E _ _ k p e pe W1 h1.rdoc h1.bigR hI.two.rel (by omega) hI.good he h0 hp hpe (by omega)).mono ?_
    rintro _ w2 ⟨rfl, l', hr, ha⟩
    rw [hc]
    rw [parZ_nat he, hp, Int.toNat_natCast, Int.toNat_natCast] at h1
    exact ⟨rfl, _, v, l', _, _, _, hI.acted h1 hr ha hI.at_.removeE (Nat.le_trans (removeE_len k p) hl) (Nat.le_succ _)⟩
  · refine (rrem_bad BR b v l E _ _ n W1 h1.rdoc hI.two.rel (by omega) hI.good hc).mono ?_
    rintro _ w2 ⟨rfl, hb⟩
    exact ⟨rfl, full_no hI h1 hb⟩
/-! ### move -/
abbrev HalfM (B BR : Nat) (W0 : World) (bd b : Nat) (v : Value) (l : List ReX) (E : Els) (next : Nat) (d : Nat → Nat) (n m q : Int) (kb : Nat) (ob : Option Obj) (W1 : World) : Prop :=
  Half B BR W0 bd b v l E next d (movC E d n m q) (moveE E n.toNat m.toNat q.toNat (parZ E n).toNat) next (fun x => if x ∈ below E 10 n.toNat then d x - d n.toNat + d m.toNat + 1 else d x) kb ob W1
theorem p_mov (ea : Nat → Addr) (n m q : Int) (hI : Inv B BR W0 bd b W F v l E next d i kb ob) (hG : DGs ea W) (hn : I64 n) (hm : I64 m) (hq : I64 q) :
    Calls Tryz.prog 16 #[.pointer (some ⟨bd, 0, none⟩), .int .i64 n, .int .i64 m, .int .i64 q] W fun en w1 => en = .returned (evl 264 ea (movC E d n m q)) ∧ HalfM B BR W0 bd b v l E next d n m q kb ob w1 := by
  refine (mov_any ea bd next n m q F E d W hI.two.dok hG hn hm hq).mono ?_
  intro en w1 h
  unfold MovIs at h
  split at h
  · next hc => rw [evl_0 hc]; exact ⟨h.1, half_ok hI hc h.2⟩
  · next hc => rw [evl_n hc]; exact ⟨h.1, half_no hI hc h.2⟩
theorem r_mov (n m q : Int) (hI : Inv B BR W0 bd b W F v l E next d i kb ob) (hi : i ≤ 60) (hH : HalfM B BR W0 bd b v l E next d n m q kb ob W1) :
    Calls Tryz.prog 17 #[.pointer (some ⟨b, 0, none⟩), .int .i64 n, .int .i64 m, .int .i64 q] W1 fun en w2 => en = .returned (.int .i64 (movC E d n m q : Nat)) ∧ Full B BR W0 bd b i kb ob w2 := by
  obtain ⟨F', E', next', d', hto, h1⟩ := hH
  have hn := hI.nx
  have hl := hI.len
  have hsz : ∀ x ∈ l, x.ats.length ≤ 900000 ∧ x.kids.length ≤ 900000 := fun x hx => by have := hI.sz x hx; omega
  rcases hto with ⟨hc, rfl, rfl, rfl⟩ | ⟨hc, rfl, rfl, rfl⟩
  · obtain ⟨a, m, j, e, me, rfl, rfl, rfl, ha, hm, h0, hmb, hj, hdp⟩ := movC_ok hc
    obtain ⟨p, pe, hp, hpe, _⟩ := hI.good.up a e ha h0
    have hk1 := hI.kids hpe
    have hk2 := hI.kids hm
    refine (rmov_go BR b v l E _ d a m p j e me pe W1 h1.rdoc h1.bigR hI.two.rel (by omega) hI.good hsz ha hm h0 hmb hp hpe (by omega) (by omega) hj).mono ?_
    rintro _ w2 (⟨h10, _⟩ | ⟨_, rfl, l', v', hr, hact⟩)
    · omega
    rw [hc]
    rw [parZ_nat ha, hp, Int.toNat_natCast, Int.toNat_natCast, Int.toNat_natCast, Int.toNat_natCast] at h1
    exact ⟨rfl, _, v', l', _, _, _, hI.acted h1 hr hact hI.at_.moveE (by rw [moveE_len]; exact hl) (Nat.le_succ _)⟩
  · by_cases hpre : movC E d n m q = 5 ∨ movC E d n m q = 3 ∨ movC E d n m q = 9
    · refine (rmov_pre BR b v l E _ d n m q W1 h1.rdoc hI.two.rel (by omega) hI.good hpre).mono ?_
      rintro _ w2 ⟨rfl, hb⟩
      exact ⟨rfl, full_no hI h1 hb⟩
    · rcases atZ_cases E n with hz | ⟨a, e, rfl, ha⟩
      · exact absurd (.inl (movC_no1 hz)) hpre
      rcases atZ_cases E m with hz | ⟨m, me, rfl, hm⟩
      · exact absurd (.inl (movC_no2 hz)) hpre
      have hC := movC_at (d := d) (i := q) ha hm
      by_cases h0 : a = 0
      · rw [if_pos h0] at hC; exact absurd (.inr (.inl hC)) hpre
      by_cases hmb : m ∈ below E 10 a
      · rw [if_neg h0, if_pos hmb] at hC; exact absurd (.inr (.inr hC)) hpre
      rw [if_neg h0, if_neg hmb] at hC
      obtain ⟨p, pe, hp, hpe, _⟩ := hI.good.up a e ha h0
      have hk1 := hI.kids hpe
      have hk2 := hI.kids hm
      by_cases h2 : q < 0 ∨ ((if e.parent = (m : Int) then me.kids.length - 1 else me.kids.length : Nat) : Int) < q
      · rw [if_pos h2] at hC
        rw [hC]
        refine (rmov_bound BR b v l E _ d a m p q e me pe W1 h1.rdoc hI.two.rel (by omega) hI.good hsz ha hm h0 hmb hp hpe (by omega) (by omega) h2).mono ?_
        rintro _ w2 ⟨rfl, hb⟩
        exact ⟨rfl, full_no hI h1 hb⟩
      · rw [if_neg h2] at hC
        obtain ⟨j, rfl⟩ := Int.eq_ofNat_of_zero_le (show 0 ≤ q by omega)
        refine (rmov_go BR b v l E _ d a m p j e me pe W1 h1.rdoc h1.bigR hI.two.rel (by omega) hI.good hsz ha hm h0 hmb hp hpe (by omega) (by omega) (by omega)).mono ?_
        rintro _ w2 (⟨h10, rfl, hb⟩ | ⟨h10, _⟩)
        · rw [if_pos h10] at hC
          rw [hC]
          exact ⟨rfl, full_no hI h1 hb⟩
        · rw [if_neg (by omega)] at hC
          exact absurd hC hc
/-! ### set -/
abbrev HalfS (B BR : Nat) (W0 : World) (bd b : Nat) (v : Value) (l : List ReX) (E : Els) (next : Nat) (d : Nat → Nat) (n : Int) (nm vl : ByteArray) (kb : Nat) (ob : Option Obj) (W1 : World) : Prop :=
  Half B BR W0 bd b v l E next d (setC E n nm vl) (atsE E n.toNat (setA nm vl (attrsZ E n))) next d kb ob W1
theorem p_set (ea : Nat → Addr) (n : Int) (nm vl : ByteArray) (hI : Inv B BR W0 bd b W F v l E next d i kb ob) (hG : DGs ea W) (hn : I64 n) :
    Calls Tryz.prog 18 #[.pointer (some ⟨bd, 0, none⟩), .int .i64 n, .string nm, .string vl] W fun en w1 => en = .returned (evl 264 ea (setC E n nm vl)) ∧ HalfS B BR W0 bd b v l E next d n nm vl kb ob w1 := by
  rcases atZ_cases E n with hz | ⟨k, e, rfl, he⟩
  · have hc : setC E n nm vl = 5 := by unfold setC; rw [hz]
    refine (pset_none ea bd next n nm vl F E d W hI.two.dok hG hn hz).mono ?_
    rintro en w1 ⟨rfl, hb⟩
    exact ⟨by rw [hc]; rfl, half_err hI (by rw [hc]; decide) hb⟩
  · by_cases hc : setC E (k : Int) nm vl = 0
    · refine (pset_ok bd next k nm vl F E d e W hI.two.dok he hc (by have := (hI.at_ k e he).2; omega)).mono ?_
      rintro en w1 ⟨rfl, hb⟩
      refine ⟨by rw [evl_0 hc], half_ok hI hc ?_⟩
      rw [attrsZ_nat he, Int.toNat_natCast]
      exact Step.of_became hb hI.good.ats (by have := hI.two.dok.big; omega) (by rw [atsE_len]; exact hI.two.dok.len)
    · refine (pset_bad ea bd next k nm vl F E d e W hI.two.dok hG he hc).mono ?_
      rintro en w1 ⟨rfl, hb⟩
      exact ⟨by rw [evl_n hc], half_err hI hc hb⟩
theorem r_set (n : Int) (nm vl : ByteArray) (hI : Inv B BR W0 bd b W F v l E next d i kb ob) (hi : i ≤ 60) (hH : HalfS B BR W0 bd b v l E next d n nm vl kb ob W1) (hnm : nm.size ≤ 1000000) (hvl : vl.size ≤ 1000000) :
    Calls Tryz.prog 19 #[.pointer (some ⟨b, 0, none⟩), .int .i64 n, .string nm, .string vl] W1 fun en w2 => en = .returned (.int .i64 (setC E n nm vl : Nat)) ∧ Full B BR W0 bd b i kb ob w2 := by
  obtain ⟨F', E', next', d', hto, h1⟩ := hH
  have hn := hI.nx
  have hl := hI.len
  rcases hto with ⟨hc, rfl, rfl, rfl⟩ | ⟨hc, rfl, rfl, rfl⟩
  · rcases atZ_cases E n with hz | ⟨k, e, rfl, he⟩
    · have hc' : setC E n nm vl = 5 := by unfold setC; rw [hz]
      rw [hc'] at hc; cases hc
    have h12 := (hI.at_ k e he).2
    refine (rset_ok BR b v l E _ k nm vl e W1 h1.rdoc h1.bigR hI.two.rel hI.dis (by omega) hnm hvl he hc (by omega)).mono ?_
    rintro _ w2 ⟨rfl, l', hr, ha⟩
    rw [attrsZ_nat he, Int.toNat_natCast] at h1
    refine ⟨by rw [hc]; rfl, _, v, l', _, _, _, hI.acted h1 hr ha (hI.at_.set he fun hi => ?_) (by rw [atsE_len]; exact hl) (Nat.le_succ _)⟩
    unfold setC at hc
    rw [atZ_nat, he] at hc
    dsimp only at hc
    rcases Nat.lt_or_ge e.attrs.length 12 with h' | h'
    · exact h'
    · rw [if_pos (show idxA nm e.attrs = none ∧ 12 ≤ e.attrs.length from ⟨hi, h'⟩)] at hc
      split at hc
      · cases hc
      · split at hc <;> cases hc
  · refine (rset_bad BR b v l E _ n nm vl W1 h1.rdoc hI.two.rel (by omega) hnm hvl hc).mono ?_
    rintro _ w2 ⟨rfl, hb⟩
    exact ⟨rfl, full_no hI h1 hb⟩
/-! ### unset -/
abbrev HalfU (B BR : Nat) (W0 : World) (bd b : Nat) (v : Value) (l : List ReX) (E : Els) (next : Nat) (d : Nat → Nat) (n : Int) (nm : ByteArray) (kb : Nat) (ob : Option Obj) (W1 : World) : Prop :=
  Half B BR W0 bd b v l E next d (unsC E n nm) (atsE E n.toNat (unsetA nm (attrsZ E n))) next d kb ob W1
theorem p_uns (ea : Nat → Addr) (n : Int) (nm : ByteArray) (hI : Inv B BR W0 bd b W F v l E next d i kb ob) (hG : DGs ea W) (hn : I64 n) :
    Calls Tryz.prog 20 #[.pointer (some ⟨bd, 0, none⟩), .int .i64 n, .string nm] W fun en w1 => en = .returned (evl 264 ea (unsC E n nm)) ∧ HalfU B BR W0 bd b v l E next d n nm kb ob w1 := by
  by_cases hc : unsC E n nm = 0
  · rcases atZ_cases E n with hz | ⟨k, e, rfl, he⟩
    · have hc' : unsC E n nm = 5 := by unfold unsC; rw [hz]
      rw [hc'] at hc; cases hc
    refine (puns_ok bd next k nm F E d e W hI.two.dok he hc).mono ?_
    rintro en w1 ⟨rfl, hb⟩
    refine ⟨by rw [evl_0 hc], half_ok hI hc ?_⟩
    rw [attrsZ_nat he, Int.toNat_natCast]
    exact Step.of_became hb hI.good.ats (by have := hI.two.dok.big; omega) (by rw [atsE_len]; exact hI.two.dok.len)
  · refine (puns_bad ea bd next n nm F E d W hI.two.dok hG hn hc).mono ?_
    rintro en w1 ⟨rfl, hb⟩
    exact ⟨by rw [evl_n hc], half_err hI hc hb⟩
theorem r_uns (n : Int) (nm : ByteArray) (hI : Inv B BR W0 bd b W F v l E next d i kb ob) (hi : i ≤ 60) (hH : HalfU B BR W0 bd b v l E next d n nm kb ob W1) :
    Calls Tryz.prog 21 #[.pointer (some ⟨b, 0, none⟩), .int .i64 n, .string nm] W1 fun en w2 => en = .returned (.int .i64 (unsC E n nm : Nat)) ∧ Full B BR W0 bd b i kb ob w2 := by
  obtain ⟨F', E', next', d', hto, h1⟩ := hH
  have hn := hI.nx
  have hl := hI.len
  rcases hto with ⟨hc, rfl, rfl, rfl⟩ | ⟨hc, rfl, rfl, rfl⟩
  · rcases atZ_cases E n with hz | ⟨k, e, rfl, he⟩
    · have hc' : unsC E n nm = 5 := by unfold unsC; rw [hz]
      rw [hc'] at hc; cases hc
    obtain ⟨hnd, h12⟩ := hI.at_ k e he
    refine (runset_ok BR b v l E _ k nm e W1 h1.rdoc h1.bigR hI.two.rel hI.dis (by omega) he hc (by omega) hnd).mono ?_
    rintro _ w2 ⟨rfl, l', hr, ha⟩
    rw [attrsZ_nat he, Int.toNat_natCast] at h1
    exact ⟨by rw [hc]; rfl, _, v, l', _, _, _, hI.acted h1 hr ha (hI.at_.unset he) (by rw [atsE_len]; exact hl) (Nat.le_succ _)⟩
  · refine (runset_bad BR b v l E _ n nm W1 h1.rdoc hI.two.rel (by omega) hc).mono ?_
    rintro _ w2 ⟨rfl, hb⟩
    exact ⟨rfl, full_no hI h1 hb⟩
end
end Go.Proofs.YtndlmmpheecleaaGreatDoor

/-
  Plain: what DocOf makes of a node's flats are the elements of the node's tree.
-/
namespace Lead.Rc
open Lead Lead.Dc
/-- A flat and an element: name, attributes, parent. -/
def k3 (f : FlatV) : ByteArray × List At × Int := (f.name, f.attrs, f.parent)
def k3e (y : Nat × El) : ByteArray × List At × Int := (y.2.name, y.2.attrs, y.2.parent)
mutual
theorem allF_k3 : ∀ (n : RT) (p : Int) (deep k : Nat), (allF n p deep k).map k3 = (treeE n p k).map k3e
  | .mk nm ats ks, p, deep, k => by
    simp only [allF, treeE, List.map_cons]
    rw [allFs_k3 ks k (deep + 1) (k + 1)]; rfl
theorem allFs_k3 : ∀ (ks : List RT) (p deep k : Nat), (allFs ks p deep k).map k3 = (treesE ks p k).map k3e
  | [], _, _, _ => rfl
  | x :: r, p, deep, k => by
    simp only [allFs, treesE, List.map_append]
    rw [allF_k3 x (p : Int) deep k, allFs_k3 r p deep (k + x.cnt)]
end
theorem cnt_pos : ∀ n : RT, 1 ≤ n.cnt
  | .mk _ _ _ => by rw [RT.cnt]; omega
theorem ids_lo : ∀ (ks : List RT) (k : Nat), ∀ x ∈ idsL ks k, k ≤ x
  | [], _, x, h => by cases h
  | y :: r, k, x, h => by
    rw [idsL, List.mem_cons] at h
    rcases h with rfl | h
    · exact Nat.le_refl _
    · have := ids_lo r _ x h; omega
theorem ids_asc : ∀ (ks : List RT) (k : Nat), (idsL ks k).Pairwise (· < ·)
  | [], _ => List.Pairwise.nil
  | y :: r, k => by
    rw [idsL]
    refine List.Pairwise.cons (fun x hx => ?_) (ids_asc r _)
    have h1 := ids_lo r _ x hx
    have h2 := cnt_pos y
    omega
mutual
/-- A node's children ascend, and stand behind it. -/
theorem tree_asc : ∀ (n : RT) (p : Int) (k : Nat), ∀ y ∈ treeE n p k, y.2.kids.Pairwise (· < ·) ∧ ∀ x ∈ y.2.kids, y.1 < x
  | .mk nm ats ks, p, k, y, h => by
    simp only [treeE, List.mem_cons] at h
    rcases h with rfl | h
    · exact ⟨ids_asc ks _, fun x hx => by have := ids_lo ks _ x hx; show k < x; omega⟩
    · exact trees_asc ks k (k + 1) y h
theorem trees_asc : ∀ (ks : List RT) (p k : Nat), ∀ y ∈ treesE ks p k, y.2.kids.Pairwise (· < ·) ∧ ∀ x ∈ y.2.kids, y.1 < x
  | [], _, _, y, h => by simp only [treesE] at h; cases h
  | x :: r, p, k, y, h => by
    simp only [treesE, List.mem_append] at h
    rcases h with h | h
    · exact tree_asc x (p : Int) k y h
    · exact trees_asc r p (k + x.cnt) y h
end
theorem filter_asc {l : List Nat} (h : l.Pairwise (· < ·)) (m : Nat) : l.filter (fun x => decide (x < m + 1)) = l.filter (fun x => decide (x < m)) ++ (if m ∈ l then [m] else []) := by
  induction l with
  | nil => simp
  | cons a r ih =>
    have ih := ih h.of_cons
    have h1 : ∀ x ∈ r, a < x := fun x hx => List.rel_of_pairwise_cons h hx
    rcases Nat.lt_trichotomy a m with ha | ha | ha
    · rw [List.filter_cons_of_pos (by simp; omega), List.filter_cons_of_pos (by simp; omega), ih, List.cons_append]
      congr 2
      have : m ∈ a :: r ↔ m ∈ r := by rw [List.mem_cons]; exact ⟨fun h => h.resolve_left (by omega), .inr⟩
      simp only [this]
    · subst ha
      have hr : r.filter (fun x => decide (x < a + 1)) = [] := List.filter_eq_nil_iff.2 fun x hx => by have := h1 x hx; simp; omega
      have hr2 : r.filter (fun x => decide (x < a)) = [] := List.filter_eq_nil_iff.2 fun x hx => by have := h1 x hx; simp; omega
      rw [List.filter_cons_of_pos (by simp), List.filter_cons_of_neg (by simp), hr, hr2, if_pos List.mem_cons_self]; rfl
    · have hr : r.filter (fun x => decide (x < m + 1)) = [] := List.filter_eq_nil_iff.2 fun x hx => by have := h1 x hx; simp; omega
      have hr2 : r.filter (fun x => decide (x < m)) = [] := List.filter_eq_nil_iff.2 fun x hx => by have := h1 x hx; simp; omega
      rw [List.filter_cons_of_neg (by simp; omega), List.filter_cons_of_neg (by simp; omega), hr, hr2, if_neg]
      · rfl
      · intro hm
        rcases List.mem_cons.1 hm with hm | hm
        · omega
        · have := h1 _ hm; omega
/-- An element, its children below a number. -/
def cutE (m : Nat) (y : Nat × El) : RE := ⟨y.2.name, y.2.attrs, y.2.parent, y.2.kids.filter (fun x => decide (x < m)), true⟩
def fullE (y : Nat × El) : RE := ⟨y.2.name, y.2.attrs, y.2.parent, y.2.kids, true⟩
theorem tree_len (n : RT) : (treeE n (-1) 0).length = n.cnt := by
  have h := congrArg List.length (tree_keys n)
  simpa using h
theorem tree_key (n : RT) {i : Nat} (hi : i < (treeE n (-1) 0).length) : ((treeE n (-1) 0)[i]).1 = i := by
  have h : ((treeE n (-1) 0).map (·.1))[i]? = (List.range' 0 n.cnt)[i]? := by rw [tree_keys]
  rw [List.getElem?_map, List.getElem?_eq_getElem hi, List.getElem?_range' (by rw [tree_len] at hi; exact hi)] at h
  simpa using h
theorem tree_elAt (n : RT) {i : Nat} (hi : i < (treeE n (-1) 0).length) : elAt (treeE n (-1) 0) i = some ((treeE n (-1) 0)[i]).2 := by
  have hmem : (i, ((treeE n (-1) 0)[i]).2) ∈ treeE n (-1) 0 := by
    have h2 : (treeE n (-1) 0)[i] = (i, ((treeE n (-1) 0)[i]).2) := Prod.ext (tree_key n hi) rfl
    rw [← h2]; exact List.getElem_mem hi
  exact elAt_of_mem (by rw [tree_keys]; exact List.nodup_range') hmem
theorem docR_take_tree (n : RT) : ∀ m, m ≤ n.cnt → docR ((allF n (-1) 1 0).take m) = ((treeE n (-1) 0).take m).map (cutE m)
  | 0, _ => rfl
  | m + 1, hm => by
    have ih := docR_take_tree n m (by omega)
    obtain ⟨dep, t⟩ := treeE_ok n (-1) 0 1
    have hl := tree_len n
    have hfl : (allF n (-1) 1 0).length = n.cnt := allF_len n (-1) 1 0
    have hk3 := allF_k3 n (-1) 1 0
    have hmT : m < (treeE n (-1) 0).length := by omega
    have hmF : m < (allF n (-1) 1 0).length := by omega
    have hk : k3 (allF n (-1) 1 0)[m] = k3e (treeE n (-1) 0)[m] := by
      have h : ((allF n (-1) 1 0).map k3)[m]? = ((treeE n (-1) 0).map k3e)[m]? := by rw [hk3]
      rw [List.getElem?_map, List.getElem?_map, List.getElem?_eq_getElem hmF, List.getElem?_eq_getElem hmT] at h
      simpa using h
    have hasc := tree_asc n (-1) 0
    have hkey := fun (i : Nat) (hi : i < (treeE n (-1) 0).length) => tree_key n hi
    have hat := fun (i : Nat) (hi : i < (treeE n (-1) 0).length) => tree_elAt n hi
    rw [docR_take hmF, ih]
    generalize hfm : (allF n (-1) 1 0)[m] = f at hk
    generalize treeE n (-1) 0 = T at hl hmT hk hasc hkey hat t ⊢
    simp only [k3, k3e, Prod.mk.injEq] at hk
    obtain ⟨e1, e2, e3⟩ := hk
    -- who has m for a child
    have hpar : ∀ j (hj : j < T.length), m ∈ (T[j]).2.kids ↔ f.parent = (j : Int) := fun j hj => by
      constructor
      · intro hm'
        obtain ⟨e, he, hp⟩ := t.down j _ m (hat j hj) hm'
        rw [hat m hmT] at he
        injection he with he
        rw [e3, he, hp]
      · intro hp
        rcases t.up m _ (hat m hmT) with h | ⟨q, qe, h1, h2, h3⟩
        · obtain ⟨e, he, hp'⟩ := t.roots m h
          rw [hat m hmT] at he
          injection he with he
          rw [← he, ← e3, hp] at hp'
          omega
        · rw [← e3, hp] at h1
          obtain rfl : j = q := by omega
          rw [hat j hj] at h2
          injection h2 with h2
          rw [h2]; exact h3
    have hcut : ∀ j (hj : j < T.length), cutE (m + 1) T[j] = { cutE m T[j] with kids := (cutE m T[j]).kids ++ (if f.parent = (j : Int) then [m] else []) } := fun j hj => by
      unfold cutE
      rw [filter_asc (hasc _ (List.getElem_mem hj)).1 m]
      simp only [hpar j hj]
    have hnew : cutE m T[m] = ⟨f.name, f.attrs, f.parent, [], true⟩ := by
      unfold cutE
      rw [List.filter_eq_nil_iff.2 (fun x hx => by
        have := (hasc _ (List.getElem_mem hmT)).2 x hx
        rw [hkey m hmT] at this
        simp; omega), e1, e2, e3]
    have hL : (T.take (m + 1)).map (cutE m) = (T.take m).map (cutE m) ++ [⟨f.name, f.attrs, f.parent, [], true⟩] := by
      rw [List.take_succ_eq_append_getElem hmT, List.map_append, List.map_cons, List.map_nil, hnew]
    unfold addR
    rw [← hL]
    have hlen : ((T.take m).map (cutE m)).length = m := by rw [List.length_map, List.length_take]; omega
    rw [hlen]
    by_cases hp : 0 ≤ f.parent
    · rw [if_pos hp]
      refine List.ext_getElem (by simp) fun j h1 h2 => ?_
      have hjT : j < T.length := by
        rw [List.length_map, List.length_take] at h2; omega
      rw [List.getElem_modify, List.getElem_map, List.getElem_take, List.getElem_map, List.getElem_take, hcut j hjT]
      by_cases hj : f.parent.toNat = j
      · rw [if_pos hj, if_pos (by omega)]
      · rw [if_neg hj, if_neg (by omega), List.append_nil]
    · rw [if_neg hp]
      refine List.ext_getElem (by simp) fun j h1 h2 => ?_
      have hjT : j < T.length := by
        rw [List.length_map, List.length_take] at h2; omega
      rw [List.getElem_map, List.getElem_take, List.getElem_map, List.getElem_take, hcut j hjT, if_neg (by omega), List.append_nil]
/-- The reference's document of a node is the node's tree. -/
theorem docR_tree (n : RT) : docR (allF n (-1) 1 0) = (treeE n (-1) 0).map fullE := by
  have h := docR_take_tree n n.cnt (Nat.le_refl _)
  rw [List.take_of_length_le (by rw [allF_len]; exact Nat.le_refl _), List.take_of_length_le (by rw [tree_len]; exact Nat.le_refl _)] at h
  rw [h]
  refine List.map_congr_left fun y hy => ?_
  obtain ⟨dep, t⟩ := treeE_ok n (-1) 0 1
  unfold cutE fullE
  rw [List.filter_eq_self.2]
  intro x hx
  have hkn : elAt (treeE n (-1) 0) y.1 = some y.2 := elAt_of_mem (by rw [tree_keys]; exact List.nodup_range') hy
  obtain ⟨e, he, _⟩ := t.down y.1 y.2 x hkn hx
  have := (t.rng he).2
  simp; omega
end Lead.Rc

/-
  Plain: the reference's document of a whole node.
-/
namespace Lead.Rc
open Go Go.RowKit Lead Lead.Dc
/-- What a tree's elements are in the reference's document. -/
theorem rx_of {n : RT} {l : List ReX} (h : l.map ReX.re = docR (allF n (-1) 1 0)) {i : Nat} (hi : i < l.length) : ∃ e, elAt (treeE n (-1) 0) i = some e ∧ l[i].nm = e.name ∧ l[i].ats = e.attrs ∧ l[i].par = e.parent ∧ l[i].kids = e.kids ∧ l[i].inn = true := by
  rw [docR_tree] at h
  have hl := congrArg List.length h
  rw [List.length_map, List.length_map] at hl
  have hi' : i < (treeE n (-1) 0).length := by omega
  refine ⟨_, tree_elAt n hi', ?_⟩
  have h1 : (l.map ReX.re)[i]? = ((treeE n (-1) 0).map fullE)[i]? := by rw [h]
  rw [List.getElem?_map, List.getElem?_map, List.getElem?_eq_getElem hi, List.getElem?_eq_getElem hi'] at h1
  injection h1 with h1
  unfold ReX.re fullE at h1
  injection h1 with a b c d e
  exact ⟨a, b, c, d, e⟩
theorem rx_len {n : RT} {l : List ReX} (h : l.map ReX.re = docR (allF n (-1) 1 0)) : l.length = n.cnt := by
  rw [docR_tree] at h
  have hl := congrArg List.length h
  rw [List.length_map, List.length_map, tree_len] at hl
  exact hl
theorem tree_lt {n : RT} {p : Nat} {e : El} (h : elAt (treeE n (-1) 0) p = some e) : p < n.cnt := by
  have hm := elAt_mem h
  have hk := tree_keys n
  have : p ∈ (treeE n (-1) 0).map (·.1) := List.mem_map.2 ⟨_, hm, rfl⟩
  rw [hk, List.mem_range'] at this
  obtain ⟨i, hi, h⟩ := this
  omega
theorem fl_par {n : RT} {xs : List FlX} (h : xs.map fv = allF n (-1) 1 0) {i : Nat} (hi : i < xs.length) : (xs[i]).par < (i : Int) := by
  have hl := congrArg List.length h
  rw [List.length_map, allF_len] at hl
  obtain ⟨e, h1, h2, h3, h4⟩ := tree_at n (i := i) (by omega)
  rw [← h, List.getElem?_map, List.getElem?_map, List.getElem?_eq_getElem hi] at h2
  injection h2 with h2
  have h2' : (xs[i]).par = e.parent := h2
  rw [h2']
  by_cases h0 : i = 0
  · rw [h3 h0]; omega
  · exact (h4 h0).2
end Lead.Rc

/-
  Plain: the reference's document of a whole node has the program's elements.
-/
namespace Lead.Rc
open Go Go.RowKit Lead Lead.Dc
theorem RelD.start {n : RT} {l : List ReX} (h : l.map ReX.re = docR (allF n (-1) 1 0)) : RelD l (treeE n (-1) 0) n.cnt := by
  refine ⟨rx_len h, fun i e he => ?_, fun i hi hno => ?_⟩
  · have hi : i < l.length := by rw [rx_len h]; exact tree_lt he
    obtain ⟨e', h1, h2, h3, h4, h5, h6⟩ := rx_of h hi
    rw [he] at h1
    cases h1
    exact ⟨hi, h2, h3, h4, h5, h6⟩
  · obtain ⟨e', h1, _⟩ := rx_of h hi
    rw [hno] at h1
    cases h1
end Lead.Rc

/-
  Plain: a checked tree's attributes are few, and of names of their own; the reference's rows at the start are short.
-/
namespace Lead.Dc
open Go Lead
theorem atC_nodup : ∀ (r l : List (ByteArray × ByteArray)), atC l r = 0 → (l.map (·.1)).Nodup → ((l ++ r).map (·.1)).Nodup
  | [], l, _, h => by rw [List.append_nil]; exact h
  | a :: r, l, h0, h => by
    unfold atC at h0
    split at h0
    · cases h0
    · split at h0
      · cases h0
      · next h2 =>
        split at h0
        · cases h0
        · have h3 := atC_nodup r (l ++ [a]) h0 (by
            rw [List.map_append]
            refine List.nodup_append.2 ⟨h, by simp, fun x hx y hy hxy => ?_⟩
            obtain rfl : y = a.1 := by simpa using hy
            obtain ⟨b, hb, hb2⟩ := List.mem_map.1 hx
            exact h2 (List.any_eq_true.2 ⟨b, hb, decide_eq_true (hb2.trans hxy)⟩))
          rw [List.append_assoc] at h3; exact h3
theorem nodeE_at {nm : ByteArray} {ats : List (ByteArray × ByteArray)} {i deep : Nat} (h : nodeE nm ats i deep = 0) : (ats.map (·.1)).Nodup ∧ ats.length ≤ 12 := by
  unfold nodeE at h
  split at h
  · cases h
  · split at h
    · cases h
    · split at h
      · cases h
      · unfold atE at h
        split at h
        · cases h
        · next h1 => exact ⟨atC_nodup ats [] h List.nodup_nil, by omega⟩
mutual
theorem treeE_atd : ∀ (n : RT) (i deep : Nat) (p : Int) (k : Nat), (chkN n i deep).2 = 0 → ∀ y ∈ treeE n p k, (y.2.attrs.map (·.1)).Nodup ∧ y.2.attrs.length ≤ 12
  | .mk nm ats ks, i, deep, p, k, h, y, hy => by
    simp only [chkN] at h
    split at h
    · next hc => exact absurd h hc
    · next hc =>
      simp only [treeE, List.mem_cons] at hy
      rcases hy with rfl | hy
      · exact nodeE_at (Decidable.not_not.1 hc)
      · exact treesE_atd ks (i + 1) (deep + 1) k (k + 1) h y hy
theorem treesE_atd : ∀ (ks : List RT) (i deep p k : Nat), (chkL ks i deep).2 = 0 → ∀ y ∈ treesE ks p k, (y.2.attrs.map (·.1)).Nodup ∧ y.2.attrs.length ≤ 12
  | [], _, _, _, _, _, y, hy => by simp only [treesE] at hy; cases hy
  | x :: r, i, deep, p, k, h, y, hy => by
    simp only [chkL] at h
    split at h
    · next hc => exact absurd h hc
    · next hc =>
      simp only [treesE, List.mem_append] at hy
      rcases hy with hy | hy
      · exact treeE_atd x i deep (p : Int) k (Decidable.not_not.1 hc) y hy
      · exact treesE_atd r (chkN x i deep).1 deep p (k + x.cnt) h y hy
end
theorem tree_atd {n : RT} (h : (chkN n 0 1).2 = 0) : AtD (treeE n (-1) 0) := fun _ _ he => treeE_atd n 0 1 (-1) 0 h _ (elAt_mem he)
theorem atC_le : ∀ (r l : List (ByteArray × ByteArray)), atC l r ≤ 11
  | [], _ => by unfold atC; decide
  | a :: r, l => by
    unfold atC
    split
    · decide
    · split
      · decide
      · split
        · decide
        · exact atC_le r (l ++ [a])
theorem nodeE_le (nm : ByteArray) (ats : List (ByteArray × ByteArray)) (i deep : Nat) : nodeE nm ats i deep ≤ 11 := by
  unfold nodeE
  split
  · decide
  · split
    · decide
    · split
      · decide
      · unfold atE
        split
        · decide
        · exact atC_le ats []
mutual
theorem chkN_le : ∀ (n : RT) (i deep : Nat), (chkN n i deep).2 ≤ 11
  | .mk nm ats ks, i, deep => by
    simp only [chkN]
    split
    · exact nodeE_le nm ats i deep
    · exact chkL_le ks (i + 1) (deep + 1)
theorem chkL_le : ∀ (ks : List RT) (i deep : Nat), (chkL ks i deep).2 ≤ 11
  | [], _, _ => by simp only [chkL]; decide
  | x :: r, i, deep => by
    simp only [chkL]
    split
    · exact chkN_le x i deep
    · exact chkL_le r (chkN x i deep).1 deep
end
end Lead.Dc
namespace Lead.Rc
open Go Go.RowKit Lead Lead.Dc
theorem own_lower {α : Type} {En : Enc α} {W : World} {base base' : Nat} {e : TypeId} {v : Value} {xs : List α} (h : OwnR En W base e v xs) (hb : base' ≤ base) : OwnR En W base' e v xs :=
  ⟨h.1, h.2.imp id (fun ⟨g, cap, cur, h1, h2, h3⟩ => ⟨g, cap, cur, h1, Nat.le_trans hb h2, h3⟩)⟩
theorem RDoc.lower {T : RTys} {base base' b : Nat} {W : World} {v : Value} {l : List ReX} (h : RDoc T base W b v l) (hb : base' ≤ base) : RDoc T base' W b v l :=
  ⟨h.box, Nat.le_trans hb h.bb, own_lower h.own hb, h.ne, fun x hx => ⟨own_lower (h.sub x hx).ats hb, own_lower (h.sub x hx).kids hb, (h.sub x hx).aq, (h.sub x hx).kq⟩⟩
theorem sz_start {n : RT} {l : List ReX} {d : Nat → Nat} (h : l.map ReX.re = docR (allF n (-1) 1 0)) (hc : (chkN n 0 1).2 = 0) (g : Good (treeE n (-1) 0) n.cnt d) (hl : (treeE n (-1) 0).length ≤ 100) : Sz 100 l := fun x hx => by
  obtain ⟨i, hi, rfl⟩ := List.mem_iff_getElem.1 hx
  obtain ⟨e, he, _, h2, _, h4, _⟩ := rx_of h hi
  rw [h2, h4]
  exact ⟨Nat.le_trans (tree_atd hc i e he).2 (by decide), Nat.le_trans (g.kids_len he) hl⟩
end Lead.Rc

/-
  Walks: SameInts of two rows that are one; docked.
-/
namespace Lead.Dc
open Go Go.RowKit Go.Maps Lead
def ntA : NT := .mk ⟨#[97]⟩ none 0 0 [] none 0 0 []
theorem ntA_ok (w : World) : NodeOk w ntA := .mk ⟨rfl, Nat.le_refl _, by decide, .inl rfl⟩ ⟨rfl, Nat.le_refl _, by decide, .inl rfl⟩ (fun k hk => by cases hk)
theorem ntA_chk : (chkN ntA.rt 0 1).2 = 0 := by decide
theorem ntA_cnt : ntA.rt.cnt = 1 := by decide
theorem ntA_tree : treeE ntA.rt (-1) 0 = [(0, ⟨⟨#[97]⟩, [], -1, []⟩)] := rfl
theorem ntA_nm : nmOk ⟨#[98]⟩ = true := by decide
end Lead.Dc
namespace Go.Proofs.YtndlmmpheecleaaGreatDoor
open Go.RowKit Go.WideMaps Go.Maps Lead Lead.Dc
/-- One row twice: the same. -/
theorem sameints_eq (oa ob : Option Addr) (len ca cb : Nat) (xs : List Nat) (w : World) (ha : SlA EIn w oa len ca xs) (hb : SlA EIn w ob len cb xs) (hbig : len ≤ 1000000) :
    Calls Tryz.prog 66 #[.slice oa len ca, .slice ob len cb] w fun e w' => e = .returned (.bool true) ∧ Below w.heap.size w w' := by
  have e0 : ((len : Int) != len) = false := by simp
  have H_ha := Lib.hid ha
  clear ha
  have H_hb := Lib.hid hb
  clear hb
  go_enter Tryz.func66, Tryz.ntmps66
  go_wp2_with fail
  go_loopw [5] (fun i wr => ∃ k : Nat, k ≤ len ∧ i = .int .i64 k ∧ Below w.heap.size w wr) (fun i _ => len - (intOf i).toNat)
  case atStart => exact ⟨0, Nat.zero_le _, rfl, by repeat' (first | (with_reducible first | exact bwR _ _ | assumption | refine bdn ?_ | refine bwA ?_ ?_ _ | refine bwD ?_ | refine bwS ?_ ?_ _) | omega | (simp <;> omega))⟩
  case round =>
    obtain ⟨k, hk, rfl, hB⟩ := hrel
    by_cases hlt : k < len
    · have hk' : k < xs.length := by have := H_ha.out.1; omega
      obtain ⟨a, o1, rfl, hla, hra⟩ := H_ha.out.2.2.2.resolve_left (by intro h; rw [h] at hk'; simp at hk')
      obtain ⟨b, o2, rfl, hlb, hrb⟩ := H_hb.out.2.2.2.resolve_left (by intro h; rw [h] at hk'; simp at hk')
      have q0 : wr.cell? ⟨a, o1 + k, none⟩ = some (.int .i64 (xs[k] : Int)) := by
        have h := (hra.keep hB hla) k hk' 0 _ rfl
        simpa [EIn] using h
      have q1 : wr.cell? ⟨b, o2 + k, none⟩ = some (.int .i64 (xs[k] : Int)) := by
        have h := (hrb.keep hB hlb) k hk' 0 _ rfl
        simpa [EIn] using h
      obtain ⟨s, hs'⟩ : ∃ s, xs[k] = s := ⟨_, rfl⟩
      rw [hs'] at q0 q1
      clear hs' hra hrb
      have e1 : ((s : Int) != s) = false := by simp
      go_wp2_with fail
      go_region
      all_goals
        go_wp2_with fail
        go_roundw
        case rel => exact ⟨k + 1, by omega, by go_num, by repeat' (first | (with_reducible first | exact bwR _ _ | assumption | refine bdn ?_ | refine bwA ?_ ?_ _ | refine bwD ?_ | refine bwS ?_ ?_ _) | omega | (simp <;> omega))⟩
        case measure => simp [intOf]; omega
    · obtain rfl : k = len := by omega
      go_wp2_with fail
      go_returns
      exact ⟨rfl, by repeat' (first | (with_reducible first | exact bwR _ _ | assumption | refine bdn ?_ | refine bwA ?_ ?_ _ | refine bwD ?_ | refine bwS ?_ ?_ _) | omega | (simp <;> omega))⟩
set_option maxHeartbeats 1000000 in
theorem docked_any (ea : Nat → Addr) (w : World) (hG : DGs ea w) :
    Calls Tryz.prog 5 #[] w fun e w' => e = .returned (.bool true) ∧ Below w.heap.size w w' := by
  have hnew := new_any ea ntA w (ntA_ok w) hG.toC
  have H_hG := Lib.hid hG
  clear hG
  have H_hnew := Lib.hid hnew
  clear hnew
  go_enter Tryz.func5, Tryz.ntmps5
  go_wp2_with fail
  refine H_hnew.out.mono ?_
  rintro en w1 ⟨hb1, hN⟩
  rw [if_pos ntA_chk] at hN
  obtain ⟨bd, F, d, rfl, hF, hD, _⟩ := hN
  rw [ntA_tree, ntA_cnt] at hD
  have t1 := hb1.size
  have hc : addC [(0, ⟨⟨#[97]⟩, [], -1, []⟩)] d 0 0 ⟨#[98]⟩ = 0 := by
    rw [show (0 : Int) = ((0 : Nat) : Int) from rfl, addC_el (pe := ⟨⟨#[97]⟩, [], -1, []⟩) rfl, if_neg (by simp), ntA_nm, if_neg (by simp), hD.good.d0, if_neg (by decide), if_neg (by simp)]
  have hadd := add_any ea bd 1 0 0 ⟨#[98]⟩ F _ d w1 hD (H_hG.out.keep hb1 rfl) (by decide) (by unfold I64; omega) (by unfold I64; omega)
  clear hD
  have H_hadd := Lib.hid hadd
  clear hadd
  have H_hc := Lib.hid hc
  clear hc
  have H_hF := Lib.hid hF
  clear hF
  go_wp2_with fail
  refine H_hadd.out.mono ?_
  rintro en w2 hA
  unfold AddIs at hA
  rw [if_pos H_hc.out] at hA
  obtain ⟨he, F2, hF2, hD2, hT2⟩ := hA
  have hb2 : Below w.heap.size w1 w2 := hT2.below t1 H_hF.out
  have he' : en = .returned (.tuple #[.int .i64 1, .nilIface]) := he
  subst he'
  have hD3 : DokG Tryz.prog TT w2 bd F2 [(0, ⟨⟨#[97]⟩, [], -1, [1]⟩), (1, ⟨⟨#[98]⟩, [], 0, []⟩)] 2 _ := hD2
  have hb2' : Below w.heap.size w w2 := hb1.trans hb2
  have t2 := hb2'.size
  have cC := fun (W : World) (hb : Below w2.heap.size w2 W) => count_any bd 2 F2 _ _ W (hD3.keep hb)
  have cP := fun (W : World) (hb : Below w2.heap.size w2 W) => parent_any bd 2 1 F2 _ _ W (hD3.keep hb) (by unfold I64; omega)
  have hbt : ((ByteArray.mk #[98]).toList == [98]) = true := by rw [ByteArray.toList_eq]; rfl
  have cN : ∀ (W : World), Below w2.heap.size w2 W → Calls Tryz.prog 39 #[.pointer (some ⟨bd, 0, none⟩), .int .i64 1] W fun e w' => e = .returned (.string ⟨#[98]⟩) ∧ Below W.heap.size W w' := fun (W : World) (hb : Below w2.heap.size w2 W) => name_any bd 2 1 F2 _ _ W (hD3.keep hb) (by unfold I64; omega)
  clear hD2 hD3 he hb2
  have H_cC := Lib.hid cC
  clear cC
  have H_cP := Lib.hid cP
  clear cP
  have H_cN := Lib.hid cN
  clear cN
  go_wp2_with fail
  refine (H_cC.out _ (by repeat' (first | (with_reducible first | exact bwR _ _ | assumption | refine bdn ?_ | refine bwA ?_ ?_ _ | refine bwD ?_ | refine bwS ?_ ?_ _) | omega | (simp <;> omega)))).mono ?_
  rintro _ w3 ⟨rfl, hb3⟩
  have hb3' : Below w2.heap.size w2 w3 := hb3
  clear hb3
  have t3 := hb3'.size
  go_wp2_with fail
  refine (H_cP.out _ (by repeat' (first | (with_reducible first | exact bwR _ _ | assumption | refine bdn ?_ | refine bwA ?_ ?_ _ | refine bwD ?_ | refine bwS ?_ ?_ _) | omega | (simp <;> omega)))).mono ?_
  rintro _ w4 ⟨rfl, hb4⟩
  have hb4' : Below w2.heap.size w2 w4 := below_via (by repeat' (first | (with_reducible first | exact bwR _ _ | assumption | refine bdn ?_ | refine bwA ?_ ?_ _ | refine bwD ?_ | refine bwS ?_ ?_ _) | omega | (simp <;> omega))) hb4
  clear hb4
  go_wp2_with fail
  refine (H_cN.out _ (by repeat' (first | (with_reducible first | exact bwR _ _ | assumption | refine bdn ?_ | refine bwA ?_ ?_ _ | refine bwD ?_ | refine bwS ?_ ?_ _) | omega | (simp <;> omega)))).mono ?_
  rintro _ w5 ⟨rfl, hb5⟩
  have hb5' : Below w.heap.size w w5 := hb2'.trans ((below_via hb4' hb5).mono t2)
  go_wp2_with fail
  go_returns
  exact ⟨rfl, by repeat' (first | (with_reducible first | exact bwR _ _ | assumption | refine bdn ?_ | refine bwA ?_ ?_ _ | refine bwD ?_ | refine bwS ?_ ?_ _) | omega | (simp <;> omega))⟩
end Go.Proofs.YtndlmmpheecleaaGreatDoor

/-
  Plain: the state of the law DocOne's loop; moved and moved back.
-/
namespace Lead.Dc
open Go Go.RowKit Go.Maps Lead
/-- An act, as the statements' helpers write it. -/
structure AcX where
  nm : ByteArray
  id : Int
  dst : Int
  at' : Int
  s4 : ByteArray
  s5 : ByteArray
def EAc : Enc AcX := ⟨fun x => [.string x.nm, .int .i64 x.id, .int .i64 x.dst, .int .i64 x.at', .string x.s4, .string x.s5], 6, fun _ => rfl, fun x u h => by simp at h; rcases h with rfl | rfl | rfl | rfl | rfl | rfl <;> rfl, by decide⟩
/-- The document while the acts are done: its blocks lie behind B. -/
structure LoSt (P : Program) (T : Tys) (B bd : Nat) (wB wr : World) (E : Els) (next k : Nat) (d : Nat → Nat) (F : Nat → Prop) : Prop where
  dok : DokG P T wr bd F E next d
  far : ∀ j, F j → B ≤ j
  few : next ≤ 100 + k
  bel : Below B wB wr
  hB : B = wB.heap.size
theorem LoSt.next {P : Program} {T : Tys} {B bd : Nat} {wB wr w1 w2 : World} {E E' : Els} {next next' k : Nat} {d d' : Nat → Nat} {F : Nat → Prop} (h : LoSt P T B bd wB wr E next k d F) (h1 : Below wr.heap.size wr w1) (h2 : Step P T F bd w1 w2 E' next' d') (hn : next' ≤ next + 1) : ∃ F', LoSt P T B bd wB w2 E' next' (k + 1) d' F' := by
  obtain ⟨F', f1, f2, f3⟩ := h2
  have hsz := h.bel.size
  have hB := h.hB
  have z1 := h1.size
  refine ⟨F', f2, fun j hj => ?_, by have := h.few; omega, (h.bel.trans (h1.mono (by omega))).trans (f3.below (by omega) h.far), h.hB⟩
  rcases f1 j hj with h' | h'
  · exact h.far j h'
  · omega
theorem LoSt.turn {P : Program} {T : Tys} {B bd : Nat} {wB wr w1 w2 : World} {E E' : Els} {next k : Nat} {d d' : Nat → Nat} {F : Nat → Prop} (h : LoSt P T B bd wB wr E next k d F) (h1 : Below wr.heap.size wr w1) (h2 : Step P T F bd w1 w2 E' next d') : ∃ F', LoSt P T B bd wB w2 E' next k d' F' ∧ (∀ j, F' j → F j ∨ w1.heap.size ≤ j) ∧ Turn F w1 w2 := by
  obtain ⟨F', f1, f2, f3⟩ := h2
  have hsz := h.bel.size
  have hB := h.hB
  have z1 := h1.size
  refine ⟨F', ⟨f2, fun j hj => ?_, h.few, (h.bel.trans (h1.mono (by omega))).trans (f3.below (by omega) h.far), h.hB⟩, f1, f3⟩
  rcases f1 j hj with h' | h'
  · exact h.far j h'
  · omega
theorem LoSt.keep {P : Program} {T : Tys} {B bd : Nat} {wB wr w1 : World} {E : Els} {next k : Nat} {d : Nat → Nat} {F : Nat → Prop} (h : LoSt P T B bd wB wr E next k d F) (h1 : Below wr.heap.size wr w1) : LoSt P T B bd wB w1 E next (k + 1) d F := by
  have hsz := h.bel.size
  have hB := h.hB
  exact ⟨h.dok.keep h1, h.far, by have := h.few; omega, h.bel.trans (h1.mono (by omega)), h.hB⟩
theorem DokG.lt {P : Program} {T : Tys} {w : World} {bd next : Nat} {F : Nat → Prop} {E : Els} {d : Nat → Nat} (h : DokG P T w bd F E next d) {j : Nat} (hj : F j) : j < w.heap.size := by
  obtain ⟨⟨pl, bm, cnt, D, h1, h2, h3⟩, _⟩ := h
  exact h3.lt j hj
end Lead.Dc
