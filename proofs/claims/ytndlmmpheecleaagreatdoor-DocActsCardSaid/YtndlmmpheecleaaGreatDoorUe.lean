/-
  Several texts as one: Rp2, Ra3, Ra6.
-/
import Derived.Test.YtndlmmpheecleaaGreatDoorRe
import Derived.Test.YtndlmmpheecleaaGreatDoorDq
import Derived.Test.YtndlmmpheecleaaGreatDoorUc
import Derived.Test.YtndlmmpheecleaaGreatDoorRk2
import Derived.Test.YtndlmmpheecleaaGreatDoorUd
import Derived.Test.YtndlmmpheecleaaGreatDoorDz
/-
  Walks over the reference's document: All.
-/
namespace Lead.Rc
open Go Go.RowKit Lead Lead.Dc
/-- The length a slice carries. -/
def slLen : Value → Nat
  | .slice _ n _ => n
  | _ => 0
/-- A round of the list of what is left to do. -/
theorem todo_step {E : Els} {next : Nat} {d : Nat → Nat} (g : Good E next d) {c : Nat} {e : El} (he : elAt E c = some e) {dn r : List Nat} {tot : List Nat} (h : dn ++ (c :: r).flatMap (below E 10) = tot) :
    (dn ++ [c]) ++ (e.kids ++ r).flatMap (below E 10) = tot ∧ dn.length < tot.length := by
  rw [List.flatMap_cons, g.below_eq c, kidsAt_some he] at h
  subst h
  constructor
  · simp only [List.flatMap_append, List.append_assoc, List.cons_append, List.nil_append]
  · rw [List.length_append, List.length_append, List.length_cons]; omega
theorem self_below2 (E : Els) : ∀ (f n : Nat), 1 ≤ (below E f n).length
  | 0, _ => Nat.le_refl _
  | f + 1, n => by show 1 ≤ (n :: _).length; rw [List.length_cons]; omega
theorem todo_len (E : Els) (td : List Nat) : td.length ≤ (td.flatMap (below E 10)).length := by
  induction td with
  | nil => exact Nat.le_refl _
  | cons a r ih =>
    have := self_below2 E 10 a
    rw [List.flatMap_cons, List.length_append, List.length_cons]; omega
end Lead.Rc
namespace Go.Proofs.YtndlmmpheecleaaGreatDoor
open Go.RowKit Lead Lead.Dc Lead.Rc
end Go.Proofs.YtndlmmpheecleaaGreatDoor

/-
  Walks over the reference's document: All, where elements have been taken away.
-/
namespace Go.Proofs.YtndlmmpheecleaaGreatDoor
open Go.RowKit Lead Lead.Dc Lead.Rc
set_option maxHeartbeats 4000000 in
set_option maxRecDepth 100000 in
theorem rall2_any (base b : Nat) (v : Value) (l : List ReX) (E : Els) (next : Nat) (d : Nat → Nat) (w : World) (h : RDoc RT_ base w b v l) (g : Lead.Dc.Good E next d) (hlen : E.length ≤ 1000)
    (hE : ∀ n e, elAt E n = some e → ∃ h : n < l.length, l[n].kids = e.kids) :
    Calls Tryz.prog 53 #[.pointer (some ⟨b, 0, none⟩)] w (RetR EIn 3 (below E 10 0) w) := by
  obtain ⟨e0, he0, _⟩ := g.root
  have hl0 : 0 < l.length := (hE 0 e0 he0).1
  obtain ⟨gd, cap, hv, hgd, _⟩ := h.v_form hl0
  subst hv
  have hC := fun (W : World) (hW : Below w.heap.size w W) (n : Nat) (hn : n < l.length) => (h.keep hW).cells rfl hn
  have hK : ∀ (W : World), Below w.heap.size w W → ∀ (n : Nat) (hn : n < l.length), SlA EIn W l[n].ko l[n].kl l[n].kc l[n].kids := fun W hW n hn => sla_of (show OwnR EIn W base 3 (.slice l[n].ko l[n].kl l[n].kc) l[n].kids from ((h.keep hW).sub _ (List.getElem_mem hn)).kids)
  have c0 := h.c0
  have hbl := h.lt
  obtain ⟨i0, hi0, hz0, hz1, hz2⟩ := info_parts infoIn
  obtain ⟨N, hN⟩ : ∃ u, l.length = u := ⟨_, rfl⟩
  have htl : (below E 10 0).length ≤ 1000 := Nat.le_trans (g.below_len he0) hlen
  have hstart : ([] : List Nat) ++ [0].flatMap (below E 10) = below E 10 0 := by simp
  obtain ⟨tot, htot⟩ : ∃ u, below E 10 0 = u := ⟨_, rfl⟩
  rw [htot] at htl hstart
  rw [htot]
  rw [hN] at c0 hl0
  have H_h := Lib.hid h
  clear h
  have H_hC := Lib.hid hC
  clear hC
  have H_hK := Lib.hid hK
  clear hK
  have H_g := Lib.hid g
  clear g
  have H_hE := Lib.hid hE
  clear hE
  have H_he0 := Lib.hid he0
  clear he0
  have H_hi0 := Lib.hid hi0
  clear hi0
  have H_hz0 := Lib.hid hz0
  clear hz0
  have H_hz1 := Lib.hid hz1
  clear hz1
  have H_hz2 := Lib.hid hz2
  clear hz2
  have H_hN := Lib.hid hN
  clear hN
  have H_hstart := Lib.hid hstart
  clear hstart
  have H_htot := Lib.hid htot
  clear htot
  go_enter Tryz.func53, Tryz.ntmps53
  go_wp2_with fail
  go_loopw [3, 4] (fun t3 t4 wr => ∃ dn td : List Nat, RowKit.Hid (OwnR EIn wr w.heap.size 3 t3 dn) ∧ RowKit.Hid (OwnR EIn wr w.heap.size 3 t4 td) ∧ RowKit.Hid (∀ k, t3.ownBlock = some k → t4.ownBlock ≠ some k) ∧ RowKit.Hid (dn ++ td.flatMap (below E 10) = tot) ∧ RowKit.Hid (∀ x ∈ td, ∃ e, elAt E x = some e) ∧ Below w.heap.size w wr) (fun t3 _ _ => tot.length - slLen t3)
  case atStart =>
    refine ⟨[], [0], Lib.hid (OwnR.nil _ _ _ _), Lib.hid ?_, Lib.hid (fun k hk => by cases hk), Lib.hid H_hstart.out, Lib.hid (fun x hx => by rw [List.mem_singleton.1 hx]; exact ⟨e0, H_he0.out⟩), (Below.refl _ _).alloc (Nat.le_refl _) _⟩
    exact World.ownsRow_lit w #[.int .i64 0] 1 (Nat.le_refl _) (by unfold maxLen; decide) rfl
  case round =>
    obtain ⟨dn, td, H_dn, H_td, H_ne, H_eq, H_lt, hB⟩ := hrel
    have hzr := hB.size
    obtain ⟨o3, c3, rfl⟩ := ow_form H_dn.out
    obtain ⟨o4, c4, rfl⟩ := ow_form H_td.out
    have hdt : dn.length + td.length ≤ tot.length := by have h1 := congrArg List.length H_eq.out; have h2 := todo_len E td; rw [List.length_append] at h1; omega
    cases td with
    | nil =>
      have hfin : dn = tot := by have h1 := H_eq.out; simpa using h1
      subst hfin
      go_wp2_with fail
      go_returns
      exact ⟨_, rfl, H_dn.out, hB⟩
    | cons c r =>
      obtain ⟨g4, rfl, hg4, hg4w, hlc4, hlm4, hr4⟩ : ∃ g4, o4 = some ⟨g4, 0, none⟩ ∧ w.heap.size ≤ g4 ∧ g4 < wr.heap.size ∧ (c :: r).length ≤ c4 ∧ c4 ≤ maxLen ∧ RowIn EIn wr g4 0 (c :: r) := by
        have hs4 := sla_of H_td.out
        rcases H_td.out.form with ⟨_, h0⟩ | ⟨g4, c4', e4, h1, h2, h3, _, h5⟩
        · cases h0
        · cases e4
          exact ⟨g4, rfl, h1, h2, h3, hs4.2.2.1, h5⟩
      have q0 : wr.cell? ⟨g4, 0, none⟩ = some (.int .i64 (c : Int)) := by
        have h := hr4 0 (by simp) 0 _ rfl
        simpa [EIn] using h
      rw [List.length_cons] at hlc4 hdt
      obtain ⟨e, he⟩ := H_lt.out c List.mem_cons_self
      obtain ⟨hcl, hek⟩ := H_hE.out c e he
      have hc : c < N := by rw [← H_hN.out]; exact hcl
      have hst := todo_step H_g.out he H_eq.out
      have hlt := hst.2
      have hkl : (e.kids ++ r).length ≤ tot.length := by
        have h1 := congrArg List.length hst.1
        have h2 := todo_len E (e.kids ++ r)
        rw [List.length_append] at h1; omega
      rw [List.length_append] at hkl
      have hin : ∀ x ∈ e.kids ++ r, ∃ e, elAt E x = some e := fun x hx => by
        rcases List.mem_append.1 hx with hx | hx
        · obtain ⟨xe, hxe, _⟩ := H_g.out.down c e x he hx
          exact ⟨xe, hxe⟩
        · exact H_lt.out x (List.mem_cons_of_mem _ hx)
      have hne4 : ∀ k, (Value.slice o3 dn.length c3).ownBlock = some k → k ≠ g4 := fun k hk e => H_ne.out k hk (by rw [e]; rfl)
      have hcm4 : c4 ≤ 9223372036854775807 := by unfold maxLen at hlm4; omega
      have gl1 : (1 : Int) ≤ ((r.length + 1 : Nat) : Int) := by omega
      have gl2 : (0 : Int) < ((r.length + 1 : Nat) : Int) := by omega
      have gc : (c : Int) < (N : Int) := by omega
      rw [List.length_cons]
      have H_hst := Lib.hid hst
      clear hst
      have H_hr4 := Lib.hid hr4
      clear hr4
      have H_hin := Lib.hid hin
      clear hin
      have H_hek := Lib.hid hek
      clear hek
      have H_he := Lib.hid he
      clear he
      have H_hne4 := Lib.hid hne4
      clear hne4
      go_wp2_with (at_builtin; refine wp_append_told rfl (.tmp 14) (.tmp 16) 60 rfl EIn w.heap.size 3 i0 _ 8 Tryz.underlying60 H_hi0.out H_hz0.out H_hz1.out H_hz2.out rfl (by decide) _ dn rfl _ 0 1 1 [c] rfl rfl ?a1 ?a2 ?a3 ?a4 ?_)
      case a1 => rw [List.length_cons, List.length_nil]; omega
      case a2 => exact H_dn.out.alloc _
      case a3 => exact row_one (vs := #[.int .i64 c]) rfl (fun j => World.cell?_alloc_new _ _ _ _)
      case a4 => simp; omega
      intro v5 w5 hv5 hA5 hg5 ho5
      obtain ⟨o5, c5, rfl⟩ := ow_form hv5
      have hB5 : Below w.heap.size w w5 := (hB.alloc hzr _).trans hA5
      have s5 := hB5.size
      have k4 : w5.heap[g4]? = wr.heap[g4]? := by
        refine (hg5.block g4 (by simp; omega) (fun e => ?_)).trans ?_
        · first | exact H_hne4.out _ e rfl | exact H_hne4.out _ e.symm rfl
        · exact ((Below.refl wr.heap.size wr).alloc (Nat.le_refl _) _).block g4 hg4w
      have h5r : RowIn EIn w5 g4 0 (c :: r) := fun p hp j u hu => by
        have := H_hr4.out p hp j u hu
        rw [← this]
        unfold World.cell?
        simp only [k4]
      have hg45 : g4 < w5.heap.size := by
        rcases Nat.lt_or_ge g4 w5.heap.size with h | h
        · exact h
        · rw [Array.getElem?_eq_none h, Array.getElem?_eq_getElem hg4w] at k4; cases k4
      have c05 : w5.cell? ⟨b, 0, none⟩ = some (.slice (some ⟨gd, 0, none⟩) N cap) := (hB5.cell (p := ⟨b, 0, none⟩) hbl).trans c0
      obtain ⟨_, _, _, q3, _⟩ := H_hC.out w5 hB5 c hcl
      have hS7 := H_hK.out w5 hB5 c hcl
      have hd4 : SlA EIn w5 (if c4 = 1 then some ⟨g4, 0, none⟩ else some ⟨g4, 1, none⟩) r.length (c4 - 1) r := by
        by_cases h1 : c4 = 1
        · rw [if_pos h1]
          exact ⟨rfl, by omega, by omega, .inl (List.eq_nil_of_length_eq_zero (by omega))⟩
        · rw [if_neg h1]
          exact ⟨rfl, by omega, by omega, .inr ⟨g4, 1, rfl, hg45, fun p hp j u hu => by
            have := h5r (p + 1) (by simpa using hp) j u (by simpa using hu)
            rw [show 1 + p * EIn.k = 0 + (p + 1) * EIn.k by show 1 + p * 1 = 0 + (p + 1) * 1; omega]; exact this⟩⟩
      rw [H_hek.out] at hS7
      clear hg5 ho5 hA5 k4 h5r
      have H_hv5 := Lib.hid hv5
      clear hv5
      have H_hS7 := Lib.hid hS7
      clear hS7
      have H_hd4 := Lib.hid hd4
      clear hd4
      go_wp2_with (at_builtin; refine wp_append_sla rfl (.tmp 18) (.tmp 26) 60 rfl EIn w.heap.size 3 i0 _ 8 Tryz.underlying60 H_hi0.out H_hz0.out H_hz1.out H_hz2.out rfl (by decide) _ [] rfl _ _ _ e.kids rfl H_hS7.out ?b1 (OwnR.nil _ _ _ _) s5 ?_)
      case b1 => rw [List.length_nil]; omega
      intro v7 w7 hv7' hA7 hg7 ho7
      have hv7 : OwnR EIn w7 w.heap.size 3 v7 e.kids := hv7'
      have hA75 : Below w5.heap.size w5 w7 := (Below.refl _ _).grown hg7 (Nat.le_refl _) (fun k hk => by cases hk)
      obtain ⟨o7, c7, rfl⟩ := ow_form hv7
      have hB7 : Below w.heap.size w w7 := hB5.trans hA7
      have s7 := hB7.size
      have s57 := hA75.size
      have hd7 := H_hd4.out.keep hA75 rfl
      have hv57 := H_hv5.out.keep hA75
      have hsep : ∀ k, (Value.slice o7 e.kids.length c7).ownBlock = some k → w5.heap.size ≤ k := fun k hk => by
        rcases ho7 with h | h
        · rw [h] at hk; cases hk
        · rw [h] at hk; injection hk with hk; omega
      have h5lt := H_hv5.out.lt
      clear hv7' hg7 ho7 hA7
      have H_hv7 := Lib.hid hv7
      clear hv7
      have H_hd7 := Lib.hid hd7
      clear hd7
      have H_hv57 := Lib.hid hv57
      clear hv57
      have H_hsep := Lib.hid hsep
      clear hsep
      have H_h5lt := Lib.hid h5lt
      clear h5lt
      go_wp2_with (at_builtin; refine wp_append_sla rfl (.tmp 28) (.tmp 30) 60 rfl EIn w.heap.size 3 i0 _ 8 Tryz.underlying60 H_hi0.out H_hz0.out H_hz1.out H_hz2.out rfl (by decide) _ e.kids rfl _ _ _ r rfl H_hd7.out (by omega) H_hv7.out s7 ?_)
      all_goals
        intro v8 w8 hv8 hA8 hg8 ho8
        have hB8 : Below w.heap.size w w8 := hB7.trans hA8
        have hsep8 : ∀ k, (Value.slice o5 (dn ++ [c]).length c5).ownBlock = some k → v8.ownBlock ≠ some k := fun k hk e8 => by
          have h1 := (H_h5lt.out k hk).2
          rcases ho8 with h | h
          · rw [h] at e8; have := H_hsep.out k e8; omega
          · rw [h] at e8; injection e8 with e8; omega
        have hv58 : OwnR EIn w8 w.heap.size 3 (.slice o5 (dn ++ [c]).length c5) (dn ++ [c]) := own_kept H_hv57.out fun k hk => hg8.block k (by have := (H_h5lt.out k hk).2; omega) (fun e => by
          have h1 := (H_h5lt.out k hk).2
          first
            | (have := H_hsep.out k e; omega)
            | (have := H_hsep.out k e.symm; omega))
        clear hg8 ho8 hA8
        have e5 : (dn ++ [c]).length = dn.length + 1 := by simp
        rw [e5] at hsep8 hv58
        have H_hv8 := Lib.hid hv8
        clear hv8
        have H_hsep8 := Lib.hid hsep8
        clear hsep8
        have H_hv58 := Lib.hid hv58
        clear hv58
        go_wp2_with fail
        go_roundw
        case rel => exact ⟨_, _, H_hv58, H_hv8, H_hsep8, Lib.hid H_hst.out.1, H_hin, hB8⟩
        case measure => simp [slLen]; omega
end Go.Proofs.YtndlmmpheecleaaGreatDoor

/-
  Walks over the reference's document: Add.
-/
namespace Lead.Rc
open Go Go.RowKit Lead Lead.Dc Lead.Pk
/-- A new element of the reference's. -/
def newX (nm : ByteArray) (q : Nat) : ReX := ⟨nm, none, 0, 0, [], (q : Int), none, 0, 0, [], true⟩
theorem newX_none (nm : ByteArray) (q : Nat) : (newX nm q).av.ownBlock = none ∧ (newX nm q).kv.ownBlock = none := ⟨rfl, rfl⟩
theorem RelD.add {l : List ReX} {E : Els} {next : Nat} {d : Nat → Nat} (h : RelD l E next) (g : Good E next d) {q k : Nat} {nm : ByteArray} {ko : Option Addr} {kl kc : Nat} (hq : q < (l ++ [newX nm q]).length) (hql : q < l.length) :
    RelD ((l ++ [newX nm q]).set q { (l ++ [newX nm q])[q] with ko := ko, kl := kl, kc := kc, kids := (l ++ [newX nm q])[q].kids.take k ++ next :: (l ++ [newX nm q])[q].kids.drop k }) (addE E next q k nm) (next + 1) := by
  have hlen := h.len
  have hqe : (l ++ [newX nm q])[q] = l[q] := List.getElem_append_left hql
  rw [hqe]
  refine ⟨by rw [List.length_set, List.length_append, hlen]; rfl, fun x e he => ?_, fun x hx hno => ?_⟩
  · rw [g.addE_at] at he
    by_cases hxn : x = next
    · rw [if_pos hxn] at he
      injection he with he
      have h1 : x < (l ++ [newX nm q]).length := by rw [List.length_append, hlen, hxn]; simp
      refine ⟨by rw [List.length_set]; exact h1, ?_⟩
      rw [List.getElem_set, if_neg (by omega), List.getElem_append_right (by omega)]
      simp only [show x - l.length = 0 by omega, List.getElem_cons_zero, ← he]
      exact ⟨rfl, rfl, rfl, rfl, rfl⟩
    · rw [if_neg hxn] at he
      by_cases hxq : x = q
      · subst hxq
        rw [if_pos rfl] at he
        cases hex : elAt E x with
        | none => rw [hex] at he; cases he
        | some pe =>
          rw [hex] at he
          injection he with he
          obtain ⟨h1, a1, a2, a3, a4, a5⟩ := h.el x pe hex
          refine ⟨by rw [List.length_set]; exact hq, ?_⟩
          rw [List.getElem_set, if_pos rfl, ← he]
          exact ⟨a1, a2, a3, by show l[x].kids.take k ++ next :: l[x].kids.drop k = insK pe.kids k next; rw [a4]; rfl, a5⟩
      · rw [if_neg hxq] at he
        obtain ⟨h1, a1, a2, a3, a4, a5⟩ := h.el x e he
        refine ⟨by rw [List.length_set, List.length_append]; omega, ?_⟩
        rw [List.getElem_set, if_neg (fun h => hxq h.symm), List.getElem_append_left h1]
        exact ⟨a1, a2, a3, a4, a5⟩
  · rw [List.length_set, List.length_append] at hx
    rw [g.addE_at] at hno
    by_cases hxn : x = next
    · rw [if_pos hxn] at hno; cases hno
    · rw [if_neg hxn] at hno
      have hxl : x < l.length := by simp only [List.length_cons, List.length_nil] at hx; omega
      have hne : elAt E x = none := by
        by_cases hxq : x = q
        · rw [if_pos hxq] at hno
          cases hx : elAt E x with
          | none => rfl
          | some e => rw [hx] at hno; cases hno
        · rw [if_neg hxq] at hno; exact hno
      have h0 := h.no x hxl hne
      rw [List.getElem_set]
      split
      · next h3 => subst h3; exact h0
      · rw [List.getElem_append_left hxl]; exact h0
end Lead.Rc
namespace Go.Proofs.YtndlmmpheecleaaGreatDoor
open Go.RowKit Go.WideMaps Go.Maps Lead Lead.Dc Lead.Pk Lead.Rc
set_option maxHeartbeats 4000000 in
set_option maxRecDepth 100000 in
theorem radd_bad (base b : Nat) (v : Value) (l : List ReX) (E : Els) (next : Nat) (d : Nat → Nat) (z i : Int) (nm : ByteArray) (w : World) (h : RDoc RT_ base w b v l) (hR : RelD l E next) (hnx : next ≤ 1000000) (g : Lead.Dc.Good E next d) (hlen : E.length ≤ 1000) (hz : I64 z) (hi : I64 i) (hnm : nm.size ≤ 1000000) (hc : addC E d z i nm ≠ 0) :
    Calls Tryz.prog 12 #[.pointer (some ⟨b, 0, none⟩), .int .i64 z, .int .i64 i, .string nm] w fun en w' => en = .returned (.tuple #[.int .i64 0, .int .i64 (addC E d z i nm : Nat)]) ∧ Below w.heap.size w w' := by
  have hlm : l.length ≤ 1000000 := by rw [hR.len]; exact hnx
  have cH := rhas_any base b v l z w h hlm
  rw [hR.has] at cH
  cases hat : atZ E z with
  | none =>
    have hat' : (if 0 ≤ z then elAt E z.toNat else none) = none := hat
    rw [addC_no hat]
    rw [hat'] at cH
    have H_cH := Lib.hid cH
    clear cH
    have H_h := Lib.hid h
    clear h
    have H_hR := Lib.hid hR
    clear hR
    have H_g := Lib.hid g
    clear g
    have H_hat := Lib.hid hat
    clear hat
    have H_hat' := Lib.hid hat'
    clear hat'
    have H_hc := Lib.hid hc
    clear hc
    go_enter Tryz.func12, Tryz.ntmps12
    go_wp2_with fail
    refine (H_cH.out).mono ?_
    rintro _ w1 ⟨rfl, hb1⟩
    go_wp2_with fail
    go_returns
    exact ⟨rfl, hb1⟩
  | some pe =>
    have hat' : (if 0 ≤ z then elAt E z.toNat else none) = some pe := hat
    rw [hat'] at cH
    have hz0 : 0 ≤ z := by
      rcases Int.lt_or_le z 0 with h | h
      · rw [if_neg (by omega)] at hat'; cases hat'
      · exact h
    obtain ⟨q, rfl⟩ := Int.eq_ofNat_of_zero_le hz0
    rw [if_pos hz0, Int.toNat_natCast] at hat'
    obtain ⟨hql, _, _, _, hqk, _⟩ := hR.el q pe hat'
    obtain ⟨gd, cap, hv, hgd, hbg, hgb, _, _, _, hfz⟩ := h.v_form hql
    have hcell := fun (W : World) (hW : Below w.heap.size w W) => (h.keep hW).cells (g := gd) (cap := cap) (p := q) hv hql
    have hc0 := fun (W : World) (hW : Below w.heap.size w W) => (h.keep hW).c0
    simp only [hv] at hc0
    have hkl : l[q].kl = pe.kids.length := by
      have hs := (h.sub _ (List.getElem_mem hql)).kids
      have := (Rc.sla_of (show OwnR EIn w base 3 (.slice l[q].ko l[q].kl l[q].kc) l[q].kids from hs)).1
      rw [this, hqk]
    have hk9 : (pe.kids.length : Int) ≤ 9223372036854775807 := by
      have hs := (h.sub _ (List.getElem_mem hql)).kids
      have h1 := (Rc.sla_of (show OwnR EIn w base 3 (.slice l[q].ko l[q].kl l[q].kc) l[q].kids from hs))
      have h2 := h1.2.1
      have h3 := h1.2.2.1
      unfold maxLen at h3
      omega
    have hadd := addC_el (d := d) (i := i) (nm := nm) hat'
    have gql : (q : Int) < (l.length : Int) := by omega
    obtain ⟨N, hN⟩ : ∃ u, l.length = u := ⟨_, rfl⟩
    obtain ⟨ko, hko⟩ : ∃ u, l[q].ko = u := ⟨_, rfl⟩
    obtain ⟨kc, hkc⟩ : ∃ u, l[q].kc = u := ⟨_, rfl⟩
    simp only [hkl, hko, hkc] at hcell
    rw [hN] at hc0 gql
    have cN := fun (W : World) => risname_any nm W hnm
    have cD := fun (W : World) (hW : Below w.heap.size w W) => rdeep_any base b v l E next d q pe W (h.keep hW) g hR.par hat'
    have cA := fun (W : World) (hW : Below w.heap.size w W) => rall2_any base b v l E next d W (h.keep hW) g hlen (fun n e he => by obtain ⟨h1, _, _, _, h2, _⟩ := hR.el n e he; exact ⟨h1, h2⟩)
    have hall := g.all_len
    obtain ⟨K, hK⟩ : ∃ u, pe.kids.length = u := ⟨_, rfl⟩
    rw [hK] at hcell hadd hk9
    obtain ⟨D, hD⟩ : ∃ u, d q = u := ⟨_, rfl⟩
    rw [hD] at cD hadd
    have hd10 := g.dm q pe hat'
    rw [hD] at hd10
    obtain ⟨C, hC⟩ : ∃ u, addC E d (q : Int) i nm = u := ⟨_, rfl⟩
    rw [hC] at hc hadd ⊢
    have H_cH := Lib.hid cH
    clear cH
    have H_h := Lib.hid h
    clear h
    have H_hR := Lib.hid hR
    clear hR
    have H_g := Lib.hid g
    clear g
    have H_hat := Lib.hid hat
    clear hat
    have H_hat' := Lib.hid hat'
    clear hat'
    have H_cN := Lib.hid cN
    clear cN
    have H_cD := Lib.hid cD
    clear cD
    have H_cA := Lib.hid cA
    clear cA
    have H_hall := Lib.hid hall
    clear hall
    have H_hcell := Lib.hid hcell
    clear hcell
    have H_hc0 := Lib.hid hc0
    clear hc0
    have H_hqk := Lib.hid hqk
    clear hqk
    have H_hkl := Lib.hid hkl
    clear hkl
    have H_hko := Lib.hid hko
    clear hko
    have H_hkc := Lib.hid hkc
    clear hkc
    have H_hC := Lib.hid hC
    clear hC
    go_enter Tryz.func12, Tryz.ntmps12
    go_wp2_with fail
    refine (H_cH.out).mono ?_
    rintro _ w1 ⟨rfl, hb1⟩
    have hB1 : Below w.heap.size w w1 := hb1
    have c0 := H_hc0.out w1 hB1
    obtain ⟨_, _, _, q3, _⟩ := H_hcell.out w1 hB1
    clear hb1
    by_cases hbad : i < 0 ∨ (K : Int) < i
    · rw [if_pos hbad] at hadd
      subst hadd
      by_cases hi0 : i < 0
      · clear hbad hc
        go_wp2_with fail
        go_returns
        exact ⟨rfl, hB1⟩
      · have hi1 : (K : Int) < i := hbad.resolve_left hi0
        clear hbad hc
        go_wp2_with fail
        go_returns
        exact ⟨rfl, hB1⟩
    rw [if_neg hbad] at hadd
    have hi0 : ¬ i < 0 := fun h => hbad (.inl h)
    have hi1 : ¬ (K : Int) < i := fun h => hbad (.inr h)
    clear hbad
    obtain ⟨nb, hnb⟩ : ∃ u, nmOk nm = u := ⟨_, rfl⟩
    have cN2 := H_cN.out
    rw [hnb] at cN2 hadd
    clear H_cN
    have H_cN2 := Lib.hid cN2
    clear cN2
    have H_hnb := Lib.hid hnb
    clear hnb
    have H_hadd := Lib.hid hadd
    clear hadd
    go_wp2_with fail
    refine (H_cN2.out _).mono ?_
    rintro _ w2 ⟨rfl, hb2⟩
    have hB2 : Below w.heap.size w w2 := below_via hB1 hb2
    clear hb2 c0 q3
    cases nb with
    | false =>
      have hadd := H_hadd.out
      rw [if_pos rfl] at hadd
      subst hadd
      clear hc
      go_wp2_with fail
      go_returns
      exact ⟨rfl, hB2⟩
    | true =>
      go_wp2_with fail
      refine (H_cD.out _ hB2).mono ?_
      rintro _ w3 ⟨rfl, hb3⟩
      have hB3 : Below w.heap.size w w3 := below_via hB2 hb3
      have gD : IntKind.i64.wrap ((D : Int) + 1) = ((D + 1 : Nat) : Int) := IntWalk.i64_in _ (by omega)
      clear hb3
      by_cases hD10 : 10 ≤ D
      · have hadd := H_hadd.out
        rw [if_neg (by decide), if_pos hD10] at hadd
        subst hadd
        have gd1 : (10 : Int) < ((D + 1 : Nat) : Int) := by omega
        clear hc
        go_wp2_with fail
        go_returns
        exact ⟨rfl, hB3⟩
      have gd1 : ¬ (10 : Int) < ((D + 1 : Nat) : Int) := by omega
      by_cases hE1 : 100 ≤ E.length
      · have hadd := H_hadd.out
        rw [if_neg (by decide), if_neg hD10, if_pos hE1] at hadd
        subst hadd
        clear hc
        go_wp2_with fail
        refine (H_cA.out _ hB3).mono ?_
        rintro _ w4 ⟨v4, rfl, hv4, hb4⟩
        obtain ⟨o4, c4, rfl⟩ := Rc.ow_form hv4
        have hB4 : Below w.heap.size w w4 := below_via hB3 hb4
        have hal := H_hall.out
        obtain ⟨M, hM⟩ : ∃ u, (below E 10 0).length = u := ⟨_, rfl⟩
        rw [hM] at hal ⊢
        have gM : (100 : Int) ≤ (M : Int) := by omega
        clear hb4 hv4
        have H_hM := Lib.hid hM
        clear hM
        have H_hal := Lib.hid hal
        clear hal
        go_wp2_with fail
        go_returns
        exact ⟨rfl, hB4⟩
      · have hadd := H_hadd.out
        rw [if_neg (by decide), if_neg hD10, if_neg hE1] at hadd
        exact absurd hadd hc
end Go.Proofs.YtndlmmpheecleaaGreatDoor
