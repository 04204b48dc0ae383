/-
  Walks over the reference's document: All.
-/
import Derived.Test.YtenegeddcbccdaaGreatDoorRe
import Derived.Test.YtenegeddcbccdaaGreatDoorDq
namespace Lead.Rc
open Go Go.RowKit Lead Lead.Dc
/-- The length a slice carries. -/
def slLen : Value → Nat
  | .slice _ n _ => n
  | _ => 0
/-- A round of the list of what is left to do. -/
theorem todo_step {E : Els} {next : Nat} {d : Nat → Nat} (g : Good E next d) {c : Nat} {e : El} (he : elAt E c = some e) {dn r : List Nat} {tot : List Nat} (h : dn ++ (c :: r).flatMap (below E 10) = tot) :
    (dn ++ [c]) ++ (e.kids ++ r).flatMap (below E 10) = tot ∧ dn.length < tot.length := by
  rw [List.flatMap_cons, g.below_eq c, kidsAt_some he] at h
  subst h
  constructor
  · simp only [List.flatMap_append, List.append_assoc, List.cons_append, List.nil_append]
  · rw [List.length_append, List.length_append, List.length_cons]; omega
theorem self_below2 (E : Els) : ∀ (f n : Nat), 1 ≤ (below E f n).length
  | 0, _ => Nat.le_refl _
  | f + 1, n => by show 1 ≤ (n :: _).length; rw [List.length_cons]; omega
theorem todo_len (E : Els) (td : List Nat) : td.length ≤ (td.flatMap (below E 10)).length := by
  induction td with
  | nil => exact Nat.le_refl _
  | cons a r ih =>
    have := self_below2 E 10 a
    rw [List.flatMap_cons, List.length_append, List.length_cons]; omega
end Lead.Rc
namespace Go.Proofs.YtenegeddcbccdaaGreatDoor
open Go.RowKit Lead Lead.Dc Lead.Rc
set_option maxHeartbeats 4000000 in
set_option maxRecDepth 100000 in
theorem rall_any (base b : Nat) (v : Value) (l : List ReX) (E : Els) (next : Nat) (d : Nat → Nat) (w : World) (h : RDoc RT_ base w b v l) (hl0 : 0 < l.length) (_hl : l.length ≤ 1000) (g : Lead.Dc.Good E next d) (hlen : E.length ≤ 1000)
    (hE : ∀ n (hn : n < l.length), ∃ e, elAt E n = some e ∧ l[n].kids = e.kids) (hEn : ∀ p e, elAt E p = some e → p < l.length) :
    Calls Tryz.prog 35 #[.pointer (some ⟨b, 0, none⟩)] w (RetR EIn 3 (below E 10 0) w) := by
  obtain ⟨gd, cap, hv, hgd, _⟩ := h.v_form hl0
  subst hv
  have hC := fun (W : World) (hW : Below w.heap.size w W) (n : Nat) (hn : n < l.length) => (h.keep hW).cells rfl hn
  have hK : ∀ (W : World), Below w.heap.size w W → ∀ (n : Nat) (hn : n < l.length), SlA EIn W l[n].ko l[n].kl l[n].kc l[n].kids := fun W hW n hn => sla_of (show OwnR EIn W base 3 (.slice l[n].ko l[n].kl l[n].kc) l[n].kids from ((h.keep hW).sub _ (List.getElem_mem hn)).kids)
  have c0 := h.c0
  have hbl := h.lt
  obtain ⟨i0, hi0, hz0, hz1, hz2⟩ := info_parts infoIn
  obtain ⟨N, hN⟩ : ∃ u, l.length = u := ⟨_, rfl⟩
  obtain ⟨e0, he0, _⟩ := hE 0 hl0
  have htl : (below E 10 0).length ≤ 1000 := Nat.le_trans (g.below_len he0) hlen
  have hstart : ([] : List Nat) ++ [0].flatMap (below E 10) = below E 10 0 := by simp
  obtain ⟨tot, htot⟩ : ∃ u, below E 10 0 = u := ⟨_, rfl⟩
  rw [htot] at htl hstart
  rw [htot]
  rw [hN] at c0 hl0
  have H_h := Lib.hid h
  clear h
  have H_hC := Lib.hid hC
  clear hC
  have H_hK := Lib.hid hK
  clear hK
  have H_g := Lib.hid g
  clear g
  have H_hE := Lib.hid hE
  clear hE
  have H_hEn := Lib.hid hEn
  clear hEn
  have H_hi0 := Lib.hid hi0
  clear hi0
  have H_hz0 := Lib.hid hz0
  clear hz0
  have H_hz1 := Lib.hid hz1
  clear hz1
  have H_hz2 := Lib.hid hz2
  clear hz2
  have H_hN := Lib.hid hN
  clear hN
  have H_hstart := Lib.hid hstart
  clear hstart
  have H_htot := Lib.hid htot
  clear htot
  go_enter Tryz.func35, Tryz.ntmps35
  go_wp2_with fail
  go_loopw [3, 4] (fun t3 t4 wr => ∃ dn td : List Nat, RowKit.Hid (OwnR EIn wr w.heap.size 3 t3 dn) ∧ RowKit.Hid (OwnR EIn wr w.heap.size 3 t4 td) ∧ RowKit.Hid (∀ k, t3.ownBlock = some k → t4.ownBlock ≠ some k) ∧ RowKit.Hid (dn ++ td.flatMap (below E 10) = tot) ∧ RowKit.Hid (∀ x ∈ td, x < N) ∧ Below w.heap.size w wr) (fun t3 _ _ => tot.length - slLen t3)
  case atStart =>
    refine ⟨[], [0], Lib.hid (OwnR.nil _ _ _ _), Lib.hid ?_, Lib.hid (fun k hk => by cases hk), Lib.hid H_hstart.out, Lib.hid (fun x hx => by rw [List.mem_singleton.1 hx]; exact hl0), (Below.refl _ _).alloc (Nat.le_refl _) _⟩
    exact World.ownsRow_lit w #[.int .i64 0] 1 (Nat.le_refl _) (by unfold maxLen; decide) rfl
  case round =>
    obtain ⟨dn, td, H_dn, H_td, H_ne, H_eq, H_lt, hB⟩ := hrel
    have hzr := hB.size
    obtain ⟨o3, c3, rfl⟩ := ow_form H_dn.out
    obtain ⟨o4, c4, rfl⟩ := ow_form H_td.out
    have hdt : dn.length + td.length ≤ tot.length := by have h1 := congrArg List.length H_eq.out; have h2 := todo_len E td; rw [List.length_append] at h1; omega
    cases td with
    | nil =>
      have hfin : dn = tot := by have h1 := H_eq.out; simpa using h1
      subst hfin
      go_wp2_with fail
      go_returns
      exact ⟨_, rfl, H_dn.out, hB⟩
    | cons c r =>
      obtain ⟨g4, rfl, hg4, hg4w, hlc4, hlm4, hr4⟩ : ∃ g4, o4 = some ⟨g4, 0, none⟩ ∧ w.heap.size ≤ g4 ∧ g4 < wr.heap.size ∧ (c :: r).length ≤ c4 ∧ c4 ≤ maxLen ∧ RowIn EIn wr g4 0 (c :: r) := by
        have hs4 := sla_of H_td.out
        rcases H_td.out.form with ⟨_, h0⟩ | ⟨g4, c4', e4, h1, h2, h3, _, h5⟩
        · cases h0
        · cases e4
          exact ⟨g4, rfl, h1, h2, h3, hs4.2.2.1, h5⟩
      have q0 : wr.cell? ⟨g4, 0, none⟩ = some (.int .i64 (c : Int)) := by
        have h := hr4 0 (by simp) 0 _ rfl
        simpa [EIn] using h
      rw [List.length_cons] at hlc4 hdt
      have hc : c < N := H_lt.out c List.mem_cons_self
      have hcl : c < l.length := by rw [H_hN.out]; exact hc
      obtain ⟨e, he, hek⟩ := H_hE.out c hcl
      have hst := todo_step H_g.out he H_eq.out
      have hlt := hst.2
      have hkl : (e.kids ++ r).length ≤ tot.length := by
        have h1 := congrArg List.length hst.1
        have h2 := todo_len E (e.kids ++ r)
        rw [List.length_append] at h1; omega
      rw [List.length_append] at hkl
      have hin : ∀ x ∈ e.kids ++ r, x < N := fun x hx => by
        rcases List.mem_append.1 hx with hx | hx
        · obtain ⟨xe, hxe, _⟩ := H_g.out.down c e x he hx
          have := H_hEn.out x xe hxe
          rw [H_hN.out] at this; exact this
        · exact H_lt.out x (List.mem_cons_of_mem _ hx)
      have hne4 : ∀ k, (Value.slice o3 dn.length c3).ownBlock = some k → k ≠ g4 := fun k hk e => H_ne.out k hk (by rw [e]; rfl)
      have hcm4 : c4 ≤ 9223372036854775807 := by unfold maxLen at hlm4; omega
      have gl1 : (1 : Int) ≤ ((r.length + 1 : Nat) : Int) := by omega
      have gl2 : (0 : Int) < ((r.length + 1 : Nat) : Int) := by omega
      have gc : (c : Int) < (N : Int) := by omega
      rw [List.length_cons]
      have H_hst := Lib.hid hst
      clear hst
      have H_hr4 := Lib.hid hr4
      clear hr4
      have H_hin := Lib.hid hin
      clear hin
      have H_hek := Lib.hid hek
      clear hek
      have H_he := Lib.hid he
      clear he
      have H_hne4 := Lib.hid hne4
      clear hne4
      go_wp2_with (at_builtin; refine wp_append_told rfl (.tmp 14) (.tmp 16) 60 rfl EIn w.heap.size 3 i0 _ 8 Tryz.underlying60 H_hi0.out H_hz0.out H_hz1.out H_hz2.out rfl (by decide) _ dn rfl _ 0 1 1 [c] rfl rfl ?a1 ?a2 ?a3 ?a4 ?_)
      case a1 => rw [List.length_cons, List.length_nil]; omega
      case a2 => exact H_dn.out.alloc _
      case a3 => exact row_one (vs := #[.int .i64 c]) rfl (fun j => World.cell?_alloc_new _ _ _ _)
      case a4 => simp; omega
      intro v5 w5 hv5 hA5 hg5 ho5
      obtain ⟨o5, c5, rfl⟩ := ow_form hv5
      have hB5 : Below w.heap.size w w5 := (hB.alloc hzr _).trans hA5
      have s5 := hB5.size
      have k4 : w5.heap[g4]? = wr.heap[g4]? := by
        refine (hg5.block g4 (by simp; omega) (fun e => ?_)).trans ?_
        · first | exact H_hne4.out _ e rfl | exact H_hne4.out _ e.symm rfl
        · exact ((Below.refl wr.heap.size wr).alloc (Nat.le_refl _) _).block g4 hg4w
      have h5r : RowIn EIn w5 g4 0 (c :: r) := fun p hp j u hu => by
        have := H_hr4.out p hp j u hu
        rw [← this]
        unfold World.cell?
        simp only [k4]
      have hg45 : g4 < w5.heap.size := by
        rcases Nat.lt_or_ge g4 w5.heap.size with h | h
        · exact h
        · rw [Array.getElem?_eq_none h, Array.getElem?_eq_getElem hg4w] at k4; cases k4
      have c05 : w5.cell? ⟨b, 0, none⟩ = some (.slice (some ⟨gd, 0, none⟩) N cap) := (hB5.cell (p := ⟨b, 0, none⟩) hbl).trans c0
      obtain ⟨_, _, _, q3, _⟩ := H_hC.out w5 hB5 c hcl
      have hS7 := H_hK.out w5 hB5 c hcl
      have hd4 : SlA EIn w5 (if c4 = 1 then some ⟨g4, 0, none⟩ else some ⟨g4, 1, none⟩) r.length (c4 - 1) r := by
        by_cases h1 : c4 = 1
        · rw [if_pos h1]
          exact ⟨rfl, by omega, by omega, .inl (List.eq_nil_of_length_eq_zero (by omega))⟩
        · rw [if_neg h1]
          exact ⟨rfl, by omega, by omega, .inr ⟨g4, 1, rfl, hg45, fun p hp j u hu => by
            have := h5r (p + 1) (by simpa using hp) j u (by simpa using hu)
            rw [show 1 + p * EIn.k = 0 + (p + 1) * EIn.k by show 1 + p * 1 = 0 + (p + 1) * 1; omega]; exact this⟩⟩
      rw [H_hek.out] at hS7
      clear hg5 ho5 hA5 k4 h5r
      have H_hv5 := Lib.hid hv5
      clear hv5
      have H_hS7 := Lib.hid hS7
      clear hS7
      have H_hd4 := Lib.hid hd4
      clear hd4
      go_wp2_with (at_builtin; refine wp_append_sla rfl (.tmp 18) (.tmp 26) 60 rfl EIn w.heap.size 3 i0 _ 8 Tryz.underlying60 H_hi0.out H_hz0.out H_hz1.out H_hz2.out rfl (by decide) _ [] rfl _ _ _ e.kids rfl H_hS7.out ?b1 (OwnR.nil _ _ _ _) s5 ?_)
      case b1 => rw [List.length_nil]; omega
      intro v7 w7 hv7' hA7 hg7 ho7
      have hv7 : OwnR EIn w7 w.heap.size 3 v7 e.kids := hv7'
      have hA75 : Below w5.heap.size w5 w7 := (Below.refl _ _).grown hg7 (Nat.le_refl _) (fun k hk => by cases hk)
      obtain ⟨o7, c7, rfl⟩ := ow_form hv7
      have hB7 : Below w.heap.size w w7 := hB5.trans hA7
      have s7 := hB7.size
      have s57 := hA75.size
      have hd7 := H_hd4.out.keep hA75 rfl
      have hv57 := H_hv5.out.keep hA75
      have hsep : ∀ k, (Value.slice o7 e.kids.length c7).ownBlock = some k → w5.heap.size ≤ k := fun k hk => by
        rcases ho7 with h | h
        · rw [h] at hk; cases hk
        · rw [h] at hk; injection hk with hk; omega
      have h5lt := H_hv5.out.lt
      clear hv7' hg7 ho7 hA7
      have H_hv7 := Lib.hid hv7
      clear hv7
      have H_hd7 := Lib.hid hd7
      clear hd7
      have H_hv57 := Lib.hid hv57
      clear hv57
      have H_hsep := Lib.hid hsep
      clear hsep
      have H_h5lt := Lib.hid h5lt
      clear h5lt
      go_wp2_with (at_builtin; refine wp_append_sla rfl (.tmp 28) (.tmp 30) 60 rfl EIn w.heap.size 3 i0 _ 8 Tryz.underlying60 H_hi0.out H_hz0.out H_hz1.out H_hz2.out rfl (by decide) _ e.kids rfl _ _ _ r rfl H_hd7.out (by omega) H_hv7.out s7 ?_)
      all_goals
        intro v8 w8 hv8 hA8 hg8 ho8
        have hB8 : Below w.heap.size w w8 := hB7.trans hA8
        have hsep8 : ∀ k, (Value.slice o5 (dn ++ [c]).length c5).ownBlock = some k → v8.ownBlock ≠ some k := fun k hk e8 => by
          have h1 := (H_h5lt.out k hk).2
          rcases ho8 with h | h
          · rw [h] at e8; have := H_hsep.out k e8; omega
          · rw [h] at e8; injection e8 with e8; omega
        have hv58 : OwnR EIn w8 w.heap.size 3 (.slice o5 (dn ++ [c]).length c5) (dn ++ [c]) := own_kept H_hv57.out fun k hk => hg8.block k (by have := (H_h5lt.out k hk).2; omega) (fun e => by
          have h1 := (H_h5lt.out k hk).2
          first
            | (have := H_hsep.out k e; omega)
            | (have := H_hsep.out k e.symm; omega))
        clear hg8 ho8 hA8
        have e5 : (dn ++ [c]).length = dn.length + 1 := by simp
        rw [e5] at hsep8 hv58
        have H_hv8 := Lib.hid hv8
        clear hv8
        have H_hsep8 := Lib.hid hsep8
        clear hsep8
        have H_hv58 := Lib.hid hv58
        clear hv58
        go_wp2_with fail
        go_roundw
        case rel => exact ⟨_, _, H_hv58, H_hv8, H_hsep8, Lib.hid H_hst.out.1, H_hin, hB8⟩
        case measure => simp [slLen]; omega
end Go.Proofs.YtenegeddcbccdaaGreatDoor
