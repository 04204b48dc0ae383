/-
  Several texts as one: Do1, Do2, Do3, Do7.
-/
import Derived.Test.YtndlmmpheecleaaGreatDoorDn
import Derived.Test.YtndlmmpheecleaaGreatDoorShelf
import Derived.Test.YtndlmmpheecleaaGreatDoorChecked
import Derived.Test.YtndlmmpheecleaaGreatDoorMore
import Derived.Test.YtndlmmpheecleaaGreatDoorPa
import Derived.Test.YtndlmmpheecleaaGreatDoorRw
import Derived.Test.YtndlmmpheecleaaGreatDoorKm
/-
  Walks over package doc: Parent, Name, Count, Kids.
-/
namespace Lead.Dc
open Go Go.RowKit Lead
/-- A document that is right, of bounded numbers. -/
structure DokG (P : Program) (T : Tys) (w : World) (bd : Nat) (F : Nat → Prop) (E : Els) (next : Nat) (d : Nat → Nat) : Prop where
  ok : Dok P T w bd F E next
  good : Good E next d
  big : next ≤ 1000000
  len : E.length ≤ 1000000
theorem DokG.keep {P : Program} {T : Tys} {w w' : World} {bd next : Nat} {F : Nat → Prop} {E : Els} {d : Nat → Nat} (h : DokG P T w bd F E next d) (hb : Below w.heap.size w w') : DokG P T w' bd F E next d := ⟨h.ok.keep hb, h.good, h.big, h.len⟩
/-- A call that answers a row of its own. -/
def RetR {α : Type} (En : Enc α) (e : TypeId) (xs : List α) (w : World) (en : Ending) (w' : World) : Prop := ∃ v, en = .returned v ∧ OwnR En w' w.heap.size e v xs ∧ Below w.heap.size w w'
end Lead.Dc
namespace Go.Proofs.YtndlmmpheecleaaGreatDoor
open Go.RowKit Lead Lead.Dc
def TT : Tys := ⟨99, 108, 59, 3, 97, 105⟩
theorem TK : TysOk Tryz.prog TT := ⟨by decide, by decide, by decide, by decide, by decide, by decide, Tryz.underlying97, Tryz.underlying3, fun w => by kernel_rfl⟩
theorem infoIntD : (Tryz.prog.info? 3).map (fun i => (i.zero, i.size, i.bytes)) = some (some (.int .i64 0), 1, 8) := by kernel_rfl
theorem parent_any (bd next : Nat) (z : Int) (F : Nat → Prop) (E : Els) (d : Nat → Nat) (w : World) (hD : DokG Tryz.prog TT w bd F E next d) (hz : I64 z) :
    Calls Tryz.prog 38 #[.pointer (some ⟨bd, 0, none⟩), .int .i64 z] w fun e w' => e = .returned (.int .i64 (parZ E z)) ∧ Below w.heap.size w w' := by
  obtain ⟨⟨pl, bm, cnt, D, hA, hc, hF⟩, hg, hbig, hlen⟩ := hD
  have c0 := hA.c0
  cases h : atZ E z with
  | none =>
    have hp : parZ E z = -1 := by unfold parZ; rw [h]
    have hm := atZ_none h
    rw [hp]
    have H_hA := Lib.hid hA
    clear hA
    have H_hm := Lib.hid hm
    clear hm
    have H_h := Lib.hid h
    clear h
    have H_hz := Lib.hid hz
    clear hz
    have H_hp := Lib.hid hp
    clear hp
    clear hc hF hg
    go_enter Tryz.func38, Tryz.ntmps38
    go_wp2_with (at_lookup; refine wp_miss_ok (T := TT) TK rfl _ _ rfl rfl rfl H_hA.out H_hm.out H_hz.out ?_)
    go_returns
    exact ⟨rfl, by repeat' (first | (with_reducible first | exact bwR _ _ | assumption | refine bdn ?_ | refine bwA ?_ ?_ _ | refine bwD ?_ | refine bwS ?_ ?_ _) | omega | (simp <;> omega))⟩
  | some e =>
    obtain ⟨n, rfl, he⟩ := atZ_some h
    have hp : parZ E (n : Int) = e.parent := parZ_nat he
    have hE := hA.els n e he
    have e2 := hE.e2
    rw [hp]
    have H_hA := Lib.hid hA
    clear hA
    have H_hE := Lib.hid hE
    clear hE
    have H_he := Lib.hid he
    clear he
    have H_h := Lib.hid h
    clear h
    have H_hz := Lib.hid hz
    clear hz
    have H_hp := Lib.hid hp
    clear hp
    clear hc hF hg
    go_enter Tryz.func38, Tryz.ntmps38
    go_wp2_with (at_lookup; refine wp_hit_ok (T := TT) TK rfl _ _ rfl rfl rfl H_hA.out H_he.out H_hz.out ?_)
    go_returns
    exact ⟨rfl, by repeat' (first | (with_reducible first | exact bwR _ _ | assumption | refine bdn ?_ | refine bwA ?_ ?_ _ | refine bwD ?_ | refine bwS ?_ ?_ _) | omega | (simp <;> omega))⟩
theorem name_any (bd next : Nat) (z : Int) (F : Nat → Prop) (E : Els) (d : Nat → Nat) (w : World) (hD : DokG Tryz.prog TT w bd F E next d) (hz : I64 z) :
    Calls Tryz.prog 39 #[.pointer (some ⟨bd, 0, none⟩), .int .i64 z] w fun e w' => e = .returned (.string (nameZ E z)) ∧ Below w.heap.size w w' := by
  obtain ⟨⟨pl, bm, cnt, D, hA, hc, hF⟩, hg, hbig, hlen⟩ := hD
  have c0 := hA.c0
  cases h : atZ E z with
  | none =>
    have hp : nameZ E z = ⟨#[]⟩ := by unfold nameZ; rw [h]
    have hm := atZ_none h
    rw [hp]
    have H_hA := Lib.hid hA
    clear hA
    have H_hm := Lib.hid hm
    clear hm
    have H_h := Lib.hid h
    clear h
    have H_hz := Lib.hid hz
    clear hz
    have H_hp := Lib.hid hp
    clear hp
    clear hc hF hg
    go_enter Tryz.func39, Tryz.ntmps39
    go_wp2_with (at_lookup; refine wp_miss_ok (T := TT) TK rfl _ _ rfl rfl rfl H_hA.out H_hm.out H_hz.out ?_)
    go_returns
    exact ⟨rfl, by repeat' (first | (with_reducible first | exact bwR _ _ | assumption | refine bdn ?_ | refine bwA ?_ ?_ _ | refine bwD ?_ | refine bwS ?_ ?_ _) | omega | (simp <;> omega))⟩
  | some e =>
    obtain ⟨n, rfl, he⟩ := atZ_some h
    have hp : nameZ E (n : Int) = e.name := nameZ_nat he
    have hE := hA.els n e he
    have e0 := hE.e0
    rw [hp]
    have H_hA := Lib.hid hA
    clear hA
    have H_hE := Lib.hid hE
    clear hE
    have H_he := Lib.hid he
    clear he
    have H_h := Lib.hid h
    clear h
    have H_hz := Lib.hid hz
    clear hz
    have H_hp := Lib.hid hp
    clear hp
    clear hc hF hg
    go_enter Tryz.func39, Tryz.ntmps39
    go_wp2_with (at_lookup; refine wp_hit_ok (T := TT) TK rfl _ _ rfl rfl rfl H_hA.out H_he.out H_hz.out ?_)
    go_returns
    exact ⟨rfl, by repeat' (first | (with_reducible first | exact bwR _ _ | assumption | refine bdn ?_ | refine bwA ?_ ?_ _ | refine bwD ?_ | refine bwS ?_ ?_ _) | omega | (simp <;> omega))⟩
theorem count_any (bd next : Nat) (F : Nat → Prop) (E : Els) (d : Nat → Nat) (w : World) (hD : DokG Tryz.prog TT w bd F E next d) :
    Calls Tryz.prog 37 #[.pointer (some ⟨bd, 0, none⟩)] w fun e w' => e = .returned (.int .i64 (E.length : Int)) ∧ Below w.heap.size w w' := by
  obtain ⟨⟨pl, bm, cnt, D, hA, hc, hF⟩, hg, hbig, hlen⟩ := hD
  have c0 := hA.c0
  have hsz := hA.md.size
  have hown := hA.map
  have H_hA := Lib.hid hA
  clear hA
  have H_hown := Lib.hid hown
  clear hown
  have H_hsz := Lib.hid hsz
  clear hsz
  clear hc hF hg
  go_enter Tryz.func37, Tryz.ntmps37
  go_wp2_with (at_len; refine wpList_len_own _ rfl _ 97 rfl 3 105 Tryz.underlying97 pElem bm cnt D rfl H_hown.out ?_)
  go_returns
  exact ⟨by rw [H_hsz.out]; rfl, by repeat' (first | (with_reducible first | exact bwR _ _ | assumption | refine bdn ?_ | refine bwA ?_ ?_ _ | refine bwD ?_ | refine bwS ?_ ?_ _) | omega | (simp <;> omega))⟩
theorem kids_any (bd next : Nat) (z : Int) (F : Nat → Prop) (E : Els) (d : Nat → Nat) (w : World) (hD : DokG Tryz.prog TT w bd F E next d) (hz : I64 z) :
    Calls Tryz.prog 71 #[.pointer (some ⟨bd, 0, none⟩), .int .i64 z] w (RetR EIn 3 (kidsZ E z) w) := by
  obtain ⟨⟨pl, bm, cnt, D, hA, hc, hF⟩, hg, hbig, hlen⟩ := hD
  have c0 := hA.c0
  cases h : atZ E z with
  | none =>
    have hp : kidsZ E z = [] := by unfold kidsZ; rw [h]
    have hm := atZ_none h
    rw [hp]
    have H_hA := Lib.hid hA
    clear hA
    have H_hm := Lib.hid hm
    clear hm
    have H_h := Lib.hid h
    clear h
    have H_hz := Lib.hid hz
    clear hz
    have H_hp := Lib.hid hp
    clear hp
    clear hc hF hg
    go_enter Tryz.func71, Tryz.ntmps71
    go_wp2_with (at_lookup; refine wp_miss_ok (T := TT) TK rfl _ _ rfl rfl rfl H_hA.out H_hm.out H_hz.out ?_)
    go_returns
    exact ⟨_, rfl, OwnR.nil _ _ _ _, by repeat' (first | (with_reducible first | exact bwR _ _ | assumption | refine bdn ?_ | refine bwA ?_ ?_ _ | refine bwD ?_ | refine bwS ?_ ?_ _) | omega | (simp <;> omega))⟩
  | some e =>
    obtain ⟨n, rfl, he⟩ := atZ_some h
    have hp : kidsZ E (n : Int) = e.kids := kidsZ_nat he
    have hE := hA.els n e he
    have hkl := hg.kids_len he
    obtain ⟨oa, len, cap, hkv, hS⟩ := hE.kids.sl
    have e3 := hE.e3
    rw [hkv] at e3
    have hll : len ≤ 1000000 := by have := hS.1; omega
    rw [hp]
    obtain ⟨i0, hi, hz0, hz1, hz2⟩ := info_parts infoIntD
    have H_hA := Lib.hid hA
    clear hA
    have H_hE := Lib.hid hE
    clear hE
    have H_he := Lib.hid he
    clear he
    have H_h := Lib.hid h
    clear h
    have H_hz := Lib.hid hz
    clear hz
    have H_hp := Lib.hid hp
    clear hp
    have H_hS := Lib.hid hS
    clear hS
    have H_hkv := Lib.hid hkv
    clear hkv
    have H_hi := Lib.hid hi
    clear hi
    have H_hz0 := Lib.hid hz0
    clear hz0
    have H_hz1 := Lib.hid hz1
    clear hz1
    have H_hz2 := Lib.hid hz2
    clear hz2
    clear hc hF hg
    go_enter Tryz.func71, Tryz.ntmps71
    go_wp2_with (at_lookup; refine wp_hit_ok (T := TT) TK rfl _ _ rfl rfl rfl H_hA.out H_he.out H_hz.out ?_)
    have hB : Below w.heap.size w w := Below.refl _ _
    refine (clone_any (ρ := Tryz.clI_ren) EIn Tryz.clI i0 (.int .i64 0) 8 H_hi.out H_hz0.out H_hz1.out H_hz2.out rfl (by decide) Tryz.sizeOf3 H_hS.out hll).mono ?_
    rintro _ w1 ⟨v1, rfl, ho, hb⟩
    have H_ho := Lib.hid ho
    clear ho
    go_wp2_with fail
    go_returns
    exact ⟨_, rfl, H_ho.out, hb⟩
end Go.Proofs.YtndlmmpheecleaaGreatDoor

/-
  Walks over package doc: below, All, deep, high.
-/
namespace Lead.Dc
open Go Go.RowKit Lead
variable {E : Els} {next : Nat} {d : Nat → Nat}
theorem Good.fuelH (g : Good E next d) : ∀ (f f' n : Nat), 10 ≤ d n + f → 10 ≤ d n + f' → high E f n = high E f' n := by
  intro f
  induction f with
  | zero =>
    intro f' n h h'
    cases f' with
    | zero => rfl
    | succ f' =>
      have hk : kidsAt E n = [] := by
        cases hk : kidsAt E n with
        | nil => rfl
        | cons k r =>
          have := (g.kid (n := n) (k := k) (by rw [hk]; exact List.mem_cons_self)).2.1
          omega
      show 1 = (kidsAt E n).foldl (fun k x => max k (high E f' x)) 0 + 1
      rw [hk]; rfl
  | succ f ih =>
    intro f' n h h'
    cases f' with
    | zero =>
      have hk : kidsAt E n = [] := by
        cases hk : kidsAt E n with
        | nil => rfl
        | cons k r =>
          have := (g.kid (n := n) (k := k) (by rw [hk]; exact List.mem_cons_self)).2.1
          omega
      show (kidsAt E n).foldl (fun k x => max k (high E f x)) 0 + 1 = 1
      rw [hk]; rfl
    | succ f' =>
      show (kidsAt E n).foldl (fun k x => max k (high E f x)) 0 + 1 = (kidsAt E n).foldl (fun k x => max k (high E f' x)) 0 + 1
      congr 1
      refine foldl_congr _ _ fun k hk => ih f' k ?_ ?_
      · have := (g.kid hk).1; omega
      · have := (g.kid hk).1; omega
theorem Good.below_eq (g : Good E next d) (n : Nat) : below E 10 n = n :: (kidsAt E n).flatMap (below E 10) := (g.fuel 10 11 n (by omega) (by omega)).trans rfl
theorem Good.high_eq (g : Good E next d) (n : Nat) : high E 10 n = (kidsAt E n).foldl (fun k x => max k (high E 10 x)) 0 + 1 := (g.fuelH 10 11 n (by omega) (by omega)).trans rfl
theorem Good.below_len (g : Good E next d) {n : Nat} {e : El} (h : elAt E n = some e) : (below E 10 n).length ≤ E.length := by
  have h1 := g.below_nodup 10 n
  have h2 : ∀ x ∈ below E 10 n, x ∈ E.map (·.1) := fun x hx => elAt_some.1 (g.below_in 10 n x ⟨e, h⟩ hx)
  have h3 : (below E 10 n).Perm ((E.map (·.1)).filter fun x => decide (x ∈ below E 10 n)) := (List.perm_ext_iff_of_nodup h1 (g.keys.sublist List.filter_sublist)).2 fun x => by
    rw [List.mem_filter]
    exact ⟨fun hx => ⟨h2 x hx, decide_eq_true hx⟩, fun hx => of_decide_eq_true hx.2⟩
  have h4 := List.length_filter_le (fun x => decide (x ∈ below E 10 n)) (E.map (·.1))
  rw [h3.length_eq]
  rw [List.length_map] at h4
  exact h4
theorem Good.high_small (g : Good E next d) {n : Nat} {e : El} (h : elAt E n = some e) : high E 10 n ≤ 11 := by
  have := g.high_le 10 n ⟨e, h⟩; omega
theorem flat_take (l : List Nat) (k : Nat) (h : k < l.length) (f : Nat → List Nat) : (l.take (k + 1)).flatMap f = (l.take k).flatMap f ++ f l[k] := by
  rw [List.take_succ_eq_append_getElem h, List.flatMap_append]; simp
theorem flat_pre (l : List Nat) (k : Nat) (f : Nat → List Nat) : ((l.take k).flatMap f).length ≤ (l.flatMap f).length := by
  have h : l.flatMap f = (l.take k).flatMap f ++ (l.drop k).flatMap f := by rw [← List.flatMap_append, List.take_append_drop]
  rw [h, List.length_append]; omega
/-- Elements over which a walk may go down: each is there, its children are among them, one level lower. -/
structure Wk (E : Els) (next : Nat) (d : Nat → Nat) (S : Nat → Prop) : Prop where
  here : ∀ n, S n → ∃ e, elAt E n = some e
  lt : ∀ n, S n → n < next
  kid : ∀ n, S n → ∀ k ∈ kidsAt E n, S k ∧ d k = d n + 1
  dm : ∀ n, S n → d n ≤ 10
  len : ∀ n, S n → (below E 10 n).length ≤ 1000000
  kl : ∀ n, S n → (kidsAt E n).length ≤ 1000000
theorem Wk.fuel {S : Nat → Prop} (g : Wk E next d S) : ∀ (f f' n : Nat), S n → 10 ≤ d n + f → 10 ≤ d n + f' → below E f n = below E f' n := by
  have none_ : ∀ n, S n → 10 ≤ d n → kidsAt E n = [] := fun n hn h => by
    cases hk : kidsAt E n with
    | nil => rfl
    | cons k r =>
      have h1 := g.kid n hn k (by rw [hk]; exact List.mem_cons_self)
      have h2 := g.dm k h1.1
      omega
  intro f
  induction f with
  | zero =>
    intro f' n hn h h'
    cases f' with
    | zero => rfl
    | succ f' =>
      show [n] = n :: (kidsAt E n).flatMap (below E f')
      rw [none_ n hn (by omega)]; rfl
  | succ f ih =>
    intro f' n hn h h'
    cases f' with
    | zero =>
      show n :: (kidsAt E n).flatMap (below E f) = [n]
      rw [none_ n hn (by omega)]; rfl
    | succ f' =>
      show n :: (kidsAt E n).flatMap (below E f) = n :: (kidsAt E n).flatMap (below E f')
      congr 1
      unfold List.flatMap
      congr 1
      refine List.map_congr_left fun k hk => ih f' k (g.kid n hn k hk).1 ?_ ?_
      · have := (g.kid n hn k hk).2; omega
      · have := (g.kid n hn k hk).2; omega
theorem Wk.below_eq {S : Nat → Prop} (g : Wk E next d S) {n : Nat} (hn : S n) : below E 10 n = n :: (kidsAt E n).flatMap (below E 10) := (g.fuel 10 11 n hn (by omega) (by omega)).trans rfl
theorem Good.wk (g : Good E next d) (hl : E.length ≤ 1000000) : Wk E next d (fun n => ∃ e, elAt E n = some e) :=
  ⟨fun n h => h, fun n ⟨e, h⟩ => g.lt n e h, fun n _ k hk => by
    obtain ⟨h1, _, ke, hke, _⟩ := g.kid hk
    exact ⟨⟨ke, hke⟩, h1⟩, fun n ⟨e, h⟩ => g.dm n e h, fun n ⟨e, h⟩ => Nat.le_trans (g.below_len h) hl, fun n ⟨e, h⟩ => by rw [kidsAt_some h]; exact Nat.le_trans (g.kids_len h) hl⟩
def upto (h : Nat → Nat) (l : List Nat) : Nat := l.foldl (fun k x => max k (h x)) 0
theorem upto_snoc (h : Nat → Nat) (l : List Nat) (k : Nat) (hk : k < l.length) : upto h (l.take (k + 1)) = max (upto h (l.take k)) (h l[k]) := by
  unfold upto
  rw [List.take_succ_eq_append_getElem hk, List.foldl_append]; rfl
theorem upto_le (h : Nat → Nat) (l : List Nat) (k m : Nat) (hm : ∀ x ∈ l, h x ≤ m) : upto h (l.take k) ≤ m := by
  rcases (foldl_max h (l.take k) 0).2.2 with e | ⟨x, hx, e⟩
  · unfold upto; rw [e]; exact Nat.zero_le _
  · unfold upto; rw [e]; exact hm x (List.mem_of_mem_take hx)
end Lead.Dc
namespace Go.Proofs.YtndlmmpheecleaaGreatDoor
open Go.RowKit Lead Lead.Dc
set_option maxHeartbeats 1000000 in
theorem below_step (bd next n : Nat) (F : Nat → Prop) (E : Els) (d : Nat → Nat) (S : Nat → Prop) (e : El) (w : World) (hD : Dok Tryz.prog TT w bd F E next) (hbig : next ≤ 1000000) (hg : Wk E next d S) (hS0 : S n) (he : elAt E n = some e)
    (ih : ∀ k ∈ e.kids, ∀ w', Dok Tryz.prog TT w' bd F E next → Calls Tryz.prog 55 #[.pointer (some ⟨bd, 0, none⟩), .int .i64 (k : Int)] w' (RetR EIn 3 (below E 10 k) w')) :
    Calls Tryz.prog 55 #[.pointer (some ⟨bd, 0, none⟩), .int .i64 (n : Int)] w (RetR EIn 3 (below E 10 n) w) := by
  obtain ⟨i0, hi, hz0, hz1, hz2⟩ := info_parts infoIntD
  have hDG := hD
  obtain ⟨pl, bm, cnt, D, hA, hc, hF⟩ := hD
  have c0 := hA.c0
  have hnI : I64 (n : Int) := i64_nat (by have := hg.lt n hS0; omega)
  have hE := hA.els n e he
  have e3 := hE.e3
  obtain ⟨oa, len, cap, hkv, hS⟩ := hE.kids.sl
  rw [hkv] at e3
  have hb0 := hE.lt
  have hb1 : ¬ w.heap.size = (pl n).blk := by omega
  have hd0 := hA.ltD
  have hd1 : ¬ w.heap.size = bd := by omega
  have hlk : len = e.kids.length := hS.1
  have hbe := hg.below_eq hS0
  rw [kidsAt_some he] at hbe
  have hbl := hg.len n hS0
  have hll : len ≤ 1000000 := by have := hg.kl n hS0; rw [kidsAt_some he] at this; omega
  have hin : ∀ k ∈ e.kids, k < next := fun k hk => hg.lt k (hg.kid n hS0 k (by rw [kidsAt_some he]; exact hk)).1
  obtain ⟨blk, hblk⟩ : ∃ b, (pl n).blk = b := ⟨_, rfl⟩
  have hcs := hS.2.2.2
  rw [hblk] at e3 hb0 hb1
  have H_hA := Lib.hid hA
  clear hA
  have H_hE := Lib.hid hE
  clear hE
  have H_he := Lib.hid he
  clear he
  have H_hS := Lib.hid hS
  clear hS
  have H_hkv := Lib.hid hkv
  clear hkv
  have H_hi := Lib.hid hi
  clear hi
  have H_hz0 := Lib.hid hz0
  clear hz0
  have H_hz1 := Lib.hid hz1
  clear hz1
  have H_hz2 := Lib.hid hz2
  clear hz2
  have H_hbe := Lib.hid hbe
  clear hbe
  have H_hbl := Lib.hid hbl
  clear hbl
  have H_hin := Lib.hid hin
  clear hin
  have H_hDG := Lib.hid hDG
  clear hDG
  have H_hcs := Lib.hid hcs
  clear hcs
  have H_ih := Lib.hid ih
  clear ih
  have H_hblk := Lib.hid hblk
  clear hblk
  have H_hnI := Lib.hid hnI
  clear hnI
  have H_hlk := Lib.hid hlk
  clear hlk
  clear hc hF hg hS0
  go_enter Tryz.func55, Tryz.ntmps55
  go_wp2_with (at_lookup; refine wp_hit (T := TT) TK rfl _ _ rfl rfl rfl (H_hA.out.keep (by repeat' (first | (with_reducible first | exact bwR _ _ | assumption | refine bdn ?_ | refine bwA ?_ ?_ _ | refine bwD ?_ | refine bwS ?_ ?_ _) | omega | (simp <;> omega)))) H_he.out H_hnI.out ?_; rw [H_hblk.out])
  go_loopw [5, 20] (fun t5 t20 wr => ∃ k : Nat, k ≤ len ∧ t20 = .int .i64 k ∧ OwnR EIn wr w.heap.size 3 t5 (n :: (e.kids.take k).flatMap (below E 10)) ∧ Below w.heap.size w wr) (fun _ t20 _ => len - (intOf t20).toNat)
  case atStart =>
    refine ⟨0, Nat.zero_le _, rfl, ?_, (Below.refl _ _).alloc (Nat.le_refl _) _⟩
    exact World.ownsRow_lit w #[.int .i64 n] 1 (Nat.le_refl _) (by unfold maxLen; decide) rfl
  case round =>
    obtain ⟨k, hk, rfl, hown, hB⟩ := hrel
    have H_own := Lib.hid hown
    clear hown
    have hzr := hB.size
    by_cases hlt : k < len
    · have hk' : k < e.kids.length := by have := H_hlk.out; omega
      obtain ⟨b, off, rfl, hbw, hr⟩ : ∃ b off, oa = some ⟨b, off, none⟩ ∧ b < w.heap.size ∧ RowIn EIn w b off e.kids := by
        refine H_hcs.out.resolve_left ?_
        intro h; rw [h] at hk'; simp at hk'
      have q0 : wr.cell? ⟨b, off + k, none⟩ = some (.int .i64 (e.kids[k] : Int)) := by
        have h := (hr.keep hB hbw) k hk' 0 _ rfl
        simpa [EIn] using h
      have hst := flat_take e.kids k hk' (below E 10)
      have hpre := flat_pre e.kids (k + 1) (below E 10)
      have hle : ((e.kids.take (k + 1)).flatMap (below E 10)).length + 1 ≤ 1000000 := by
        have h1 := H_hbl.out
        rw [H_hbe.out, List.length_cons] at h1
        omega
      rw [hst, List.length_append] at hle
      have hcall := H_ih.out e.kids[k] (List.getElem_mem hk') wr (H_hDG.out.keep hB)
      obtain ⟨c, hce⟩ : ∃ c, e.kids[k] = c := ⟨_, rfl⟩
      rw [hce] at q0 hst hle hcall
      clear hr hpre hce
      have H_hst := Lib.hid hst
      clear hst
      have H_hcall := Lib.hid hcall
      clear hcall
      go_wp2_with fail
      refine H_hcall.out.mono ?_
      rintro _ w1 ⟨v1, rfl, ho1, hb1'⟩
      have t1 := hb1'.size
      obtain ⟨g, cp, rfl, hg0, hg1, _, _, hr1⟩ : ∃ g cp, v1 = .slice (some ⟨g, 0, none⟩) (below E 10 c).length cp ∧ wr.heap.size ≤ g ∧ g < w1.heap.size ∧ (below E 10 c).length ≤ cp ∧ (below E 10 c).length ≤ maxLen ∧ RowIn EIn w1 g 0 (below E 10 c) := by
        rcases ho1.form with ⟨_, h⟩ | h
        · have := self_below (E := E) 10 c; rw [h] at this; cases this
        · exact h
      have hB1 : Below w.heap.size w w1 := below_via hB hb1'
      have hown1 := H_own.out.keep hb1'
      clear ho1
      have H_hr1 := Lib.hid hr1
      clear hr1
      have H_hown1 := Lib.hid hown1
      clear hown1
      go_wp2_with (at_builtin; refine wp_append_row (w0 := w) rfl (.tmp 24) (.tmp 27) 60 rfl EIn w.heap.size 3 i0 _ 8 Tryz.underlying60 H_hi.out H_hz0.out H_hz1.out H_hz2.out rfl (by decide) _ _ rfl H_hown1.out g 0 (below E 10 c).length cp (below E 10 c) rfl rfl H_hr1.out ?q2 ?q3 hB1 (Nat.le_refl _) ?_)
      case q2 => rw [List.length_cons]; omega
      case q3 => omega
      intro v5 w5 hv5 hb5 hz5 c5 d5 hA5
      clear c5 d5 hA5
      rw [← H_hst.out] at hv5
      have H_hv5 := Lib.hid hv5
      clear hv5
      go_wp2_with fail
      go_roundw
      case rel => exact ⟨k + 1, by omega, by go_num, H_hv5.out, hb5⟩
      case measure => simp [intOf]; omega
    · obtain rfl : k = len := by omega
      have hfull : e.kids.take k = e.kids := List.take_of_length_le (by have := H_hlk.out; omega)
      rw [hfull, ← H_hbe.out] at H_own
      clear hfull
      go_wp2_with fail
      go_returns
      exact ⟨_, rfl, H_own.out, hB⟩
theorem below_wk (bd next : Nat) (F : Nat → Prop) (E : Els) (d : Nat → Nat) (S : Nat → Prop) (g : Wk E next d S) (hbig : next ≤ 1000000) : ∀ (f n : Nat) (w : World), Dok Tryz.prog TT w bd F E next → S n → 10 ≤ d n + f →
    Calls Tryz.prog 55 #[.pointer (some ⟨bd, 0, none⟩), .int .i64 (n : Int)] w (RetR EIn 3 (below E 10 n) w) := by
  intro f
  induction f with
  | zero =>
    intro n w hD hS hf
    obtain ⟨e, he⟩ := g.here n hS
    refine below_step bd next n F E d S e w hD hbig g hS he fun k hk w' hD' => ?_
    have h1 := g.kid n hS k (by rw [kidsAt_some he]; exact hk)
    have := g.dm k h1.1
    omega
  | succ f ih =>
    intro n w hD hS hf
    obtain ⟨e, he⟩ := g.here n hS
    refine below_step bd next n F E d S e w hD hbig g hS he fun k hk w' hD' => ?_
    have h1 := g.kid n hS k (by rw [kidsAt_some he]; exact hk)
    exact ih k w' hD' h1.1 (by omega)
theorem below_any (bd next : Nat) (F : Nat → Prop) (E : Els) (d : Nat → Nat) (f n : Nat) (e : El) (w : World) (hD : DokG Tryz.prog TT w bd F E next d) (he : elAt E n = some e) (hf : 10 ≤ d n + f) :
    Calls Tryz.prog 55 #[.pointer (some ⟨bd, 0, none⟩), .int .i64 (n : Int)] w (RetR EIn 3 (below E 10 n) w) :=
  below_wk bd next F E d _ (hD.good.wk hD.len) hD.big f n w hD.ok ⟨e, he⟩ hf
theorem all_any (bd next : Nat) (F : Nat → Prop) (E : Els) (d : Nat → Nat) (w : World) (hD : DokG Tryz.prog TT w bd F E next d) :
    Calls Tryz.prog 67 #[.pointer (some ⟨bd, 0, none⟩)] w (RetR EIn 3 (below E 10 0) w) := by
  obtain ⟨e, he, _⟩ := hD.good.root
  have hcon := below_any bd next F E d 10 0 e w hD he (by omega)
  have H_hcon := Lib.hid hcon
  clear hcon
  clear he hD
  go_enter Tryz.func67, Tryz.ntmps67
  go_wp2_with fail
  refine H_hcon.out.mono ?_
  rintro _ w1 ⟨v1, rfl, ho, hb⟩
  have H_ho := Lib.hid ho
  clear ho
  go_wp2_with fail
  go_returns
  exact ⟨_, rfl, H_ho.out, hb⟩
set_option maxHeartbeats 1000000 in
theorem deep_any (bd next n : Nat) (F : Nat → Prop) (E : Els) (d : Nat → Nat) (e : El) (w : World) (hD : DokG Tryz.prog TT w bd F E next d) (he : elAt E n = some e) :
    Calls Tryz.prog 49 #[.pointer (some ⟨bd, 0, none⟩), .int .i64 (n : Int)] w fun en w' => en = .returned (.int .i64 (d n : Int)) ∧ Below w.heap.size w w' := by
  have hDG := hD
  obtain ⟨⟨pl, bm, cnt, D, hA, hc, hF⟩, hg, hbig, hlen⟩ := hD
  have c0 := hA.c0
  have hdn := hg.dm n e he
  have hd0 := hA.ltD
  have H_hA := Lib.hid hA
  clear hA
  have H_hDG := Lib.hid hDG
  clear hDG
  have H_he := Lib.hid he
  clear he
  have H_hg := Lib.hid hg
  clear hg
  clear hc hF
  go_enter Tryz.func49, Tryz.ntmps49
  go_wp2_with fail
  go_loopw [1, 5] (fun t1 t5 wr => ∃ k : Nat, t5 = .int .i64 k ∧ ((t1 = .int .i64 (-1) ∧ k = d n) ∨ ∃ (y : Nat) (f : El), t1 = .int .i64 y ∧ RowKit.Hid (elAt E y = some f) ∧ k + d y = d n) ∧ Below w.heap.size w wr) (fun _ t5 _ => 11 - (intOf t5).toNat)
  case atStart => exact ⟨0, rfl, .inr ⟨n, e, rfl, H_he.out, Nat.zero_add _⟩, Below.refl _ _⟩
  case round =>
    obtain ⟨k, rfl, hcase, hB⟩ := hrel
    rcases hcase with ⟨rfl, hk⟩ | ⟨y, f, rfl, hy, hk⟩
    · go_wp2_with fail
      go_returns
      exact ⟨by rw [hk]; rfl, hB⟩
    · have H_hy : RowKit.Hid (elAt E y = some f) := hy
      have hAr := H_hA.out.keep hB
      have c0r := hAr.c0
      have hyI : I64 (y : Int) := i64_nat (by have := H_hg.out.lt y f H_hy.out; omega)
      have e2 := (hAr.els y f H_hy.out).e2
      have hy1 := H_hg.out.d1 H_hy.out
      clear c0 hy
      by_cases h0 : y = 0
      · subst h0
        obtain ⟨er, her, hp⟩ := H_hg.out.root
        have hfe : f = er := by have h := H_hy.out; rw [her] at h; exact (Option.some.inj h).symm
        rw [hfe, hp] at e2
        have hd1 := H_hg.out.d0
        rw [hd1] at hk
        have hge : (0 : Int) ≤ ((0 : Nat) : Int) := by omega
        clear hfe her hp hd1 hy1
        have H_hAr := Lib.hid hAr
        clear hAr
        have H_hyI := Lib.hid hyI
        clear hyI
        go_wp2_with (at_lookup; refine wp_hit (T := TT) TK rfl _ _ rfl rfl rfl H_hAr.out H_hy.out H_hyI.out ?_)
        go_roundw
        case rel => exact ⟨k + 1, by go_num, .inl ⟨rfl, hk⟩, hB⟩
        case measure => simp [intOf]; omega
      · obtain ⟨p, pe, hp, hpe, hdp, _, _⟩ := H_hg.out.par H_hy.out h0
        have hge : (0 : Int) ≤ (y : Int) := by omega
        rw [hp] at e2
        have H_hAr := Lib.hid hAr
        clear hAr
        have H_hyI := Lib.hid hyI
        clear hyI
        have H_hpe := Lib.hid hpe
        clear hpe
        clear hp
        go_wp2_with (at_lookup; refine wp_hit (T := TT) TK rfl _ _ rfl rfl rfl H_hAr.out H_hy.out H_hyI.out ?_)
        go_roundw
        case rel => exact ⟨k + 1, by go_num, .inr ⟨p, pe, rfl, H_hpe, by omega⟩, hB⟩
        case measure => simp [intOf]; omega
set_option maxHeartbeats 1000000 in
theorem high_step (bd next n : Nat) (F : Nat → Prop) (E : Els) (d : Nat → Nat) (e : El) (w : World) (hD : DokG Tryz.prog TT w bd F E next d) (he : elAt E n = some e)
    (ih : ∀ k ∈ e.kids, ∀ w', DokG Tryz.prog TT w' bd F E next d → Calls Tryz.prog 59 #[.pointer (some ⟨bd, 0, none⟩), .int .i64 (k : Int)] w' fun en w1 => en = .returned (.int .i64 (high E 10 k : Int)) ∧ Below w'.heap.size w' w1) :
    Calls Tryz.prog 59 #[.pointer (some ⟨bd, 0, none⟩), .int .i64 (n : Int)] w fun en w1 => en = .returned (.int .i64 (high E 10 n : Int)) ∧ Below w.heap.size w w1 := by
  have hDG := hD
  obtain ⟨⟨pl, bm, cnt, D, hA, hc, hF⟩, hg, hbig, hlen⟩ := hD
  have c0 := hA.c0
  have hnI : I64 (n : Int) := i64_nat (by have := hg.lt n e he; omega)
  have hE := hA.els n e he
  have e3 := hE.e3
  obtain ⟨oa, len, cap, hkv, hS⟩ := hE.kids.sl
  rw [hkv] at e3
  have hlk : len = e.kids.length := hS.1
  have hhe := hg.high_eq n
  have hll : len ≤ 1000000 := by have := hg.kids_len he; omega
  rw [kidsAt_some he] at hhe
  have hsm : ∀ k ∈ e.kids, high E 10 k ≤ 11 := fun k hk => by
    obtain ⟨ke, hke, _⟩ := hg.down n e k he hk
    exact hg.high_small hke
  have hcs := hS.2.2.2
  have H_hA := Lib.hid hA
  clear hA
  have H_hE := Lib.hid hE
  clear hE
  have H_he := Lib.hid he
  clear he
  have H_hS := Lib.hid hS
  clear hS
  have H_hkv := Lib.hid hkv
  clear hkv
  have H_hhe := Lib.hid hhe
  clear hhe
  have H_hsm := Lib.hid hsm
  clear hsm
  have H_hDG := Lib.hid hDG
  clear hDG
  have H_hcs := Lib.hid hcs
  clear hcs
  have H_ih := Lib.hid ih
  clear ih
  have H_hnI := Lib.hid hnI
  clear hnI
  have H_hlk := Lib.hid hlk
  clear hlk
  clear hc hF hg
  go_enter Tryz.func59, Tryz.ntmps59
  go_wp2_with (at_lookup; refine wp_hit (T := TT) TK rfl _ _ rfl rfl rfl H_hA.out H_he.out H_hnI.out ?_)
  go_loopw [5, 18] (fun t5 t18 wr => ∃ k : Nat, k ≤ len ∧ t18 = .int .i64 k ∧ t5 = .int .i64 (upto (high E 10) (e.kids.take k) : Int) ∧ Below w.heap.size w wr) (fun _ t18 _ => len - (intOf t18).toNat)
  case atStart => exact ⟨0, Nat.zero_le _, rfl, rfl, Below.refl _ _⟩
  case round =>
    obtain ⟨k, hk, rfl, rfl, hB⟩ := hrel
    have hzr := hB.size
    by_cases hlt : k < len
    · have hk' : k < e.kids.length := by have := H_hlk.out; omega
      obtain ⟨b, off, rfl, hbw, hr⟩ : ∃ b off, oa = some ⟨b, off, none⟩ ∧ b < w.heap.size ∧ RowIn EIn w b off e.kids := by
        refine H_hcs.out.resolve_left ?_
        intro h; rw [h] at hk'; simp at hk'
      have q0 : wr.cell? ⟨b, off + k, none⟩ = some (.int .i64 (e.kids[k] : Int)) := by
        have h := (hr.keep hB hbw) k hk' 0 _ rfl
        simpa [EIn] using h
      have hst := upto_snoc (high E 10) e.kids k hk'
      have hcall := H_ih.out e.kids[k] (List.getElem_mem hk') wr (H_hDG.out.keep hB)
      obtain ⟨c, hce⟩ : ∃ c, e.kids[k] = c := ⟨_, rfl⟩
      rw [hce] at q0 hst hcall
      obtain ⟨M, hM⟩ : ∃ u, upto (high E 10) (e.kids.take k) = u := ⟨_, rfl⟩
      obtain ⟨H, hH⟩ : ∃ u, high E 10 c = u := ⟨_, rfl⟩
      rw [hM, hH] at hst
      rw [hH] at hcall
      rw [hM]
      clear hr hce hM hH
      have H_hst := Lib.hid hst
      clear hst
      have H_hcall := Lib.hid hcall
      clear hcall
      go_wp2_with fail
      refine H_hcall.out.mono ?_
      rintro _ w1 ⟨rfl, hb1⟩
      have hB1 := below_via hB hb1
      go_wp2_with fail
      go_roundw
      case rel => exact ⟨k + 1, by omega, by go_num, by rw [H_hst.out]; congr 1; omega, hB1⟩
      case measure => simp [intOf]; omega
    · obtain rfl : k = len := by omega
      have hfull : e.kids.take k = e.kids := List.take_of_length_le (by have := H_hlk.out; omega)
      rw [hfull]
      have hup : upto (high E 10) e.kids ≤ 11 := by
        have := upto_le (high E 10) e.kids e.kids.length 11 H_hsm.out
        rw [List.take_of_length_le (Nat.le_refl _)] at this
        exact this
      have hh2 : high E 10 n = upto (high E 10) e.kids + 1 := H_hhe.out
      obtain ⟨M, hM⟩ : ∃ u, upto (high E 10) e.kids = u := ⟨_, rfl⟩
      rw [hM] at hup ⊢
      rw [hM] at hh2
      clear hfull hM
      have H_hh2 := Lib.hid hh2
      clear hh2
      go_wp2_with fail
      go_returns
      exact ⟨by rw [H_hh2.out]; go_num, hB⟩
theorem high_any (bd next : Nat) (F : Nat → Prop) (E : Els) (d : Nat → Nat) (g : Lead.Dc.Good E next d) : ∀ (f n : Nat) (e : El) (w : World), DokG Tryz.prog TT w bd F E next d → elAt E n = some e → 10 ≤ d n + f →
    Calls Tryz.prog 59 #[.pointer (some ⟨bd, 0, none⟩), .int .i64 (n : Int)] w fun en w1 => en = .returned (.int .i64 (high E 10 n : Int)) ∧ Below w.heap.size w w1 := by
  intro f
  induction f with
  | zero =>
    intro n e w hD he hf
    refine high_step bd next n F E d e w hD he fun k hk w' hD' => ?_
    have := (g.kid (n := n) (k := k) (by rw [kidsAt_some he]; exact hk)).2.1
    omega
  | succ f ih =>
    intro n e w hD he hf
    refine high_step bd next n F E d e w hD he fun k hk w' hD' => ?_
    obtain ⟨h1, _, ke, hke, _⟩ := g.kid (n := n) (k := k) (by rw [kidsAt_some he]; exact hk)
    exact ih k ke w' hD' hke (by omega)
end Go.Proofs.YtndlmmpheecleaaGreatDoor

/-
  Walks over package doc: lay.
-/
namespace Go.Proofs.YtndlmmpheecleaaGreatDoor
theorem hlt_of {w : World} {g : Nat} {o : Obj} (h : w.heap[g]? = some o) : g < w.heap.size := Lead.Dc.hlt h
theorem hcell_of {w : World} {g j : Nat} {vs : Array Value} {t : TypeId} {v : Value} (h : w.heap[g]? = some (.cells vs t (0, 0))) (hj : vs[j]? = some v) : w.cell? ⟨g, j, none⟩ = some v := Lead.Dc.hcell h hj
open Go.RowKit Go.WideMaps Go.Maps Lead Lead.Dc
theorem infoAttr : (Tryz.prog.info? 59).map (fun i => (i.zero, i.size, i.bytes)) = some (some (.agg #[.string ⟨#[]⟩, .string ⟨#[]⟩]), 2, 32) := by kernel_rfl
set_option maxHeartbeats 3000000 in
set_option maxRecDepth 100000 in
theorem lay_step (bd next bm cnt : Nat) (par : Int) (F : Nat → Prop) (E : Els) (pl : Nat → Plc) (D : DataW Unit) (nm : ByteArray) (ao : Option Addr) (al ac : Nat) (ats : List (ByteArray × ByteArray)) (ko : Option Addr) (kl kc : Nat) (ks : List NT) (wB w : World)
    (hA : DAt Tryz.prog TT w bd E next pl bm cnt D) (hc : cnt ≤ next) (hF : Foot w F bd bm E pl) (hL : LOk (E, next)) (hB : Below wB.heap.size wB w) (hFb : ∀ k, F k → wB.heap.size ≤ k)
    (h1 : SlA EAt wB ao al ac ats) (h2 : SlA ENd wB ko kl kc ks) (h3 : ∀ k ∈ ks, NodeOk wB k) (h12 : ats.length ≤ 12) (hsz : next + RT.cntL (NT.rtL ks) + 1 ≤ 1000000)
    (ih : ∀ k ∈ ks, ∀ (w' : World) (next' cnt' : Nat) (F' : Nat → Prop) (E' : Els) (pl' : Nat → Plc) (D' : DataW Unit), DAt Tryz.prog TT w' bd E' next' pl' bm cnt' D' → cnt' ≤ next' → Foot w' F' bd bm E' pl' → LOk (E', next') → Below wB.heap.size wB w' → (∀ j, F' j → wB.heap.size ≤ j) → next' + k.rt.cnt ≤ 1000000 →
      Calls Tryz.prog 42 #[.pointer (some ⟨bd, 0, none⟩), .agg k.vals.toArray, .int .i64 (next : Int)] w' fun en w1 => en = .returned (.int .i64 (next' : Int)) ∧ LaidTo Tryz.prog TT w' w1 bd bm F' pl' next' (layN k.rt (next : Int) (E', next'))) :
    Calls Tryz.prog 42 #[.pointer (some ⟨bd, 0, none⟩), .agg #[.string nm, .slice ao al ac, .slice ko kl kc], .int .i64 par] w fun en w1 => en = .returned (.int .i64 (next : Int)) ∧ LaidTo Tryz.prog TT w w1 bd bm F pl next (layN (.mk nm ats (NT.rtL ks)) par (E, next)) := by
  obtain ⟨i0, hi, hz0, hz1, hz2⟩ := info_parts infoAttr
  obtain ⟨iI, hiI, hzI0, hzI1, hzI2⟩ := info_parts infoIntD
  have c1 := hA.c1
  have y1 := hA.fr 1
  have zbd := hA.ltD
  have hal : al ≤ 12 := by have := h1.1; omega
  have hnxI : I64 (next : Int) := i64_nat (by omega)
  have hkm : kl ≤ 9223372036854775807 := by have h := h2.2.2.1; have h' := h2.2.1; unfold maxLen at h; omega
  have zB := hB.size
  have hnin := hL.nin
  have hnone := hL.none (Nat.le_refl _)
  have H_hA := Lib.hid hA
  clear hA
  have H_hF := Lib.hid hF
  clear hF
  have H_hL := Lib.hid hL
  clear hL
  have H_hB := Lib.hid hB
  clear hB
  have H_hFb := Lib.hid hFb
  clear hFb
  have H_h1 := Lib.hid h1
  clear h1
  have H_h2 := Lib.hid h2
  clear h2
  have H_h3 := Lib.hid h3
  clear h3
  have H_ih := Lib.hid ih
  clear ih
  have H_hi := Lib.hid hi
  clear hi
  have H_hz0 := Lib.hid hz0
  clear hz0
  have H_hz1 := Lib.hid hz1
  clear hz1
  have H_hz2 := Lib.hid hz2
  clear hz2
  have H_hiI := Lib.hid hiI
  clear hiI
  have H_hzI0 := Lib.hid hzI0
  clear hzI0
  have H_hzI1 := Lib.hid hzI1
  clear hzI1
  have H_hzI2 := Lib.hid hzI2
  clear hzI2
  have H_hnxI := Lib.hid hnxI
  clear hnxI
  have H_hnin := Lib.hid hnin
  clear hnin
  have H_hnone := Lib.hid hnone
  clear hnone
  go_enter Tryz.func42, Tryz.ntmps42
  go_wp2_with fail
  have hA1 := (H_hA.out.bump TK (next + 1) (v := .int .i64 ((next : Int) + 1)) (by go_num)).keep ((Below.refl _ _).alloc (Nat.le_refl _) (.cells #[.string nm, .slice ao al ac, .slice ko kl kc] 25))
  obtain ⟨w1, hw1⟩ : ∃ u, (w.setCell ⟨bd, 1, none⟩ (.int .i64 ((next : Int) + 1))).alloc (.cells #[.string nm, .slice ao al ac, .slice ko kl kc] 25) = u := ⟨_, rfl⟩
  have hz1' : w1.heap.size = w.heap.size + 1 := by rw [← hw1]; simp
  have hbox : w1.heap[w.heap.size]? = some (.cells #[.string nm, .slice ao al ac, .slice ko kl kc] 25 (0, 0)) := by
    rw [← hw1]
    have h := heap_alloc_new (w.setCell ⟨bd, 1, none⟩ (.int .i64 ((next : Int) + 1))) (.cells #[.string nm, .slice ao al ac, .slice ko kl kc] 25)
    rw [World.size_setCell] at h
    exact h
  have hT1 : Turn F w w1 := by
    rw [← hw1]
    exact (Turn.set (a := ⟨bd, 1, none⟩) H_hF.out.d).goOn (Turn.of_below (F := F) ((Below.refl _ _).alloc (Nat.le_refl _) _)) (fun j h => .inl h)
  have hB1 : Below wB.heap.size wB w1 := H_hB.out.trans (hT1.below zB H_hFb.out)
  rw [hw1] at hA1 ⊢
  have hs1 : SlA EAt w1 ao al ac ats := H_h1.out.keep hB1 rfl
  have b0 : w1.cell? ⟨w.heap.size, 0, none⟩ = some (.string nm) := hcell hbox rfl
  have b1 : w1.cell? ⟨w.heap.size, 1, none⟩ = some (.slice ao al ac) := hcell hbox rfl
  have zb : w.heap.size < w1.heap.size := by omega
  have SK : ∀ W, Below w1.heap.size w1 W → Below w1.heap.size w1 W ∧ W.cell? ⟨w.heap.size, 0, none⟩ = some (.string nm) ∧ W.cell? ⟨w.heap.size, 1, none⟩ = some (.slice ao al ac) := fun W h => ⟨h, gkeep h b0 rfl, gkeep h b1 rfl⟩
  have hcl := fun (W : World) (hb : Below w1.heap.size w1 W) => clone_any (ρ := Tryz.clA_ren) EAt Tryz.clA i0 (.agg #[.string ⟨#[]⟩, .string ⟨#[]⟩]) 32 H_hi.out H_hz0.out H_hz1.out H_hz2.out rfl (by decide) Tryz.sizeOf59 (hs1.keep hb rfl) (show al ≤ 1000000 by omega)
  clear hw1 b0 b1 c1 y1
  have H_hA1 := Lib.hid hA1
  clear hA1
  have H_hbox := Lib.hid hbox
  clear hbox
  have H_hT1 := Lib.hid hT1
  clear hT1
  have H_hB1 := Lib.hid hB1
  clear hB1
  have H_hs1 := Lib.hid hs1
  clear hs1
  have H_SK := Lib.hid SK
  clear SK
  have H_hcl := Lib.hid hcl
  clear hcl
  go_region_held3 (fun W => Below w1.heap.size w1 W ∧ W.cell? ⟨w.heap.size, 0, none⟩ = some (.string nm) ∧ W.cell? ⟨w.heap.size, 1, none⟩ = some (.slice ao al ac)) (exact H_SK.out _ (by repeat' (first | (with_reducible first | exact bwR _ _ | assumption | refine bdn ?_ | refine bwA ?_ ?_ _ | refine bwD ?_ | refine bwS ?_ ?_ _) | omega | (simp <;> omega))))
    ((go_at_call 92; go_must ((refine (H_hcl.out _ ?hb).mono ?_); (case hb => exact (by repeat' (first | (with_reducible first | exact bwR _ _ | assumption | refine bdn ?_ | refine bwA ?_ ?_ _ | refine bwD ?_ | refine bwS ?_ ?_ _) | omega | (simp <;> omega)))); rintro en wC ⟨vC, rfl, hvC, hC⟩; obtain ⟨oC, lC, cC, rfl⟩ := own_form hvC; have hbC : Below w1.heap.size w1 wC := below_via (by repeat' (first | (with_reducible first | exact bwR _ _ | assumption | refine bdn ?_ | refine bwA ?_ ?_ _ | refine bwD ?_ | refine bwS ?_ ?_ _) | omega | (simp <;> omega))) hC; have tC := hbC.size)))
  rename Below _ _ _ ∧ _ => hHeld
  clear hHeld H_SK H_hcl
  have hAC := H_hA1.out.keep hbC
  obtain ⟨w3, hw3⟩ : ∃ u, wC.alloc (.cells #[.string nm, .slice oC lC cC, .int .i64 par, .slice none 0 0] 108) = u := ⟨_, rfl⟩
  have hB3 : Below wC.heap.size wC w3 := by rw [← hw3]; exact (Below.refl _ _).alloc (Nat.le_refl _) _
  have hz3 : wC.heap.size < w3.heap.size := by rw [← hw3]; simp
  have helem : w3.heap[wC.heap.size]? = some (.cells #[.string nm, .slice oC lC cC, .int .i64 par, .slice none 0 0] 108 (0, 0)) := by rw [← hw3]; exact heap_alloc_new _ _
  have hA3 := hAC.keep hB3
  have c0_3 := hA3.c0
  rw [hw3]
  have hvA : OwnR EAt w3 w1.heap.size 59 (.slice oC lC cC) ats := OwnR.keep (show OwnR EAt wC w1.heap.size 59 (.slice oC lC cC) ats from hvC) hB3
  have hE3 : ElIn TT.E TT.A TT.I 0 w3 ⟨nm, ats, par, []⟩ ⟨wC.heap.size, .slice oC lC cC, .slice none 0 0⟩ := ⟨Nat.zero_le _, helem, .inl (own_base0 hvA), .inl (OwnR.nil _ _ _ _)⟩
  have hT3 : Turn F w w3 := H_hT1.out.goOn ((Turn.of_below (F := F) hbC).goOn (Turn.of_below (F := F) hB3) (fun j h => .inl h)) (fun j h => .inl h)
  have hbox3 : w3.heap[w.heap.size]? = some (.cells #[.string nm, .slice ao al ac, .slice ko kl kc] 25 (0, 0)) := (hB3.block _ (by omega)).trans ((hbC.block _ zb).trans H_hbox.out)
  have hcb : cnt < maxLen := by unfold maxLen; omega
  clear hw3 hAC helem hvC
  have H_hA3 := Lib.hid hA3
  clear hA3
  have H_hvA := Lib.hid hvA
  clear hvA
  have H_hE3 := Lib.hid hE3
  clear hE3
  have H_hT3 := Lib.hid hT3
  clear hT3
  have H_hbox3 := Lib.hid hbox3
  clear hbox3
  go_wp2_with (at_mapUpdate; refine wpList_mapUpdate_own _ rfl _ _ _ 97 rfl 3 105 (int_keyed Tryz.underlying3) Tryz.underlying97 pElem bm cnt D rfl H_hA3.out.map hcb _ _ _ rfl rfl (key_of TK H_hnxI.out) (.lit (.int .i64 (wC.heap.size : Int))) [] rfl ?_)
  intro w5 hown5 hgrow5
  have hz5 := hgrow5.size
  have hA5 := H_hA3.out.put (w' := w5) H_hnone.out H_hE3.out (fun m f hf => by
    have hm := H_hA.out.els m f hf
    refine ⟨by have := hm.lt; show wC.heap.size ≠ _; omega, fun b hb h' => ?_, fun b hb => by cases hb⟩
    have h6 := (own_block_lt H_hvA.out hb).1
    have h7 := (hm.attrs.rowB h').2.1
    omega) hown5 hgrow5
  have hF5 := (H_hF.out.keep (w' := w3) H_hT3.out.size).put (w' := w5) (n := next) (e := ⟨nm, ats, par, []⟩) (p := ⟨wC.heap.size, .slice oC lC cC, .slice none 0 0⟩) H_hnin.out hz5 (by show wC.heap.size < _; omega) (fun b hb => Nat.lt_of_lt_of_le (own_block_lt H_hvA.out hb).2 hz5) (fun b hb => by cases hb)
  have hT5 : Turn F w w5 := H_hT3.out.goOn (Turn.grown hgrow5 H_hF.out.m) (fun j h => .inl h)
  have hbox5 : w5.heap[w.heap.size]? = some (.cells #[.string nm, .slice ao al ac, .slice ko kl kc] 25 (0, 0)) := (hgrow5.block _ (by omega) (fun e => by
    injection e with e
    have := H_hF.out.lt bm H_hF.out.m
    omega)).trans H_hbox3.out
  have b2 : w5.cell? ⟨w.heap.size, 2, none⟩ = some (.slice ko kl kc) := hcell hbox5 rfl
  have hI5 : LayInv Tryz.prog TT w w5 bd bm wC.heap.size F pl next (E ++ [(next, ⟨nm, ats, par, []⟩)], next + 1) (fun x => if x = next then ⟨wC.heap.size, .slice oC lC cC, .slice none 0 0⟩ else pl x) (cnt + 1) _ _ ⟨nm, ats, par, []⟩ :=
    { doc := hA5
      c := (by show cnt + 1 ≤ next + 1; omega)
      ft := hF5
      nw := (fun j hj => by
        rcases hj with h | h | h | h
        · exact .inl h
        · right; rw [show j = wC.heap.size from h]; omega
        · right; have := (own_block_lt H_hvA.out h).1; omega
        · cases h)
      tn := hT5
      old := (fun x hx => if_neg (by omega))
      blk := (by show (if next = next then _ else pl next : Plc).blk = _; rw [if_pos rfl])
      kv := (by show KvOk (if next = next then _ else pl next : Plc).kv; rw [if_pos rfl]; exact .inl rfl)
      el := (by show elAt (E ++ [_]) next = _; rw [elAt_append E next _ H_hnin.out, if_pos rfl])
      ok := H_hL.out.put _
      kl := (by show 0 + next < next + 1; omega) }
  obtain ⟨be, hbe⟩ : ∃ u, wC.heap.size = u := ⟨_, rfl⟩
  rw [hbe] at hI5 ⊢
  have zbe : w.heap.size < be := by omega
  have H_hI5 := Lib.hid hI5
  clear hI5
  clear hA5 hF5 hT5 hown5 hgrow5 hbox5 hbe
  go_wp2_with fail
  go_loopw [39] (fun t39 wr => ∃ (k : Nat) (s : Els × Nat) (pl' : Nat → Plc) (cnt' : Nat) (D' : DataW Unit) (F' : Nat → Prop) (e' : El), k ≤ kl ∧ t39 = .int .i64 k ∧ RowKit.Hid (s = layL (NT.rtL (ks.take k)) next (E ++ [(next, ⟨nm, ats, par, []⟩)], next + 1)) ∧ RowKit.Hid (LayInv Tryz.prog TT w wr bd bm be F pl next s pl' cnt' D' F' e')) (fun t39 _ => kl - (intOf t39).toNat)
  case atStart => exact ⟨0, _, _, _, _, _, _, Nat.zero_le _, rfl, rfl, H_hI5⟩
  case round =>
    obtain ⟨k, ⟨sE, n2⟩, pl', cnt', D', F', e', hk, rfl, H_hs, H_hI⟩ := hrel
    have hzr := H_hI.out.tn.size
    try clear b2
    try clear H_hI5
    try clear H_hA1
    try clear H_hA3
    try clear H_hvA
    try clear H_hE3
    try clear H_hT3
    try clear H_hbox3
    try clear H_hA
    try clear H_hT1
    try clear H_hs1
    try clear H_hbox
    try clear c0_3
    by_cases hlt : k < kl
    · have hk' : k < ks.length := by have := H_h2.out.1; omega
      obtain ⟨b, off, rfl, hbw, hr⟩ : ∃ b off, ko = some ⟨b, off, none⟩ ∧ b < wB.heap.size ∧ RowIn ENd wB b off ks := by
        refine H_h2.out.2.2.2.resolve_left ?_
        intro h; rw [h] at hk'; simp at hk'
      have hBr : Below wB.heap.size wB wr := H_hB.out.trans (H_hI.out.tn.below zB H_hFb.out)
      have hkid := H_h3.out _ (List.getElem_mem hk')
      obtain ⟨ao', al', ac', ko', kl', kc', hv, _⟩ := hkid.attrsAt
      have hcell := fun (q : Nat) (v : Value) (hq : ks[k].vals[q]? = some v) => (hr.keep hBr hbw) k hk' q v hq
      rw [hv] at hcell
      have q0 : wr.cell? ⟨b, off + k * 3, none⟩ = some (.string ks[k].name) := hcell 0 _ rfl
      have q1 : wr.cell? ⟨b, off + k * 3 + 1, none⟩ = some (.slice ao' al' ac') := hcell 1 _ rfl
      have q2 : wr.cell? ⟨b, off + k * 3 + 2, none⟩ = some (.slice ko' kl' kc') := hcell 2 _ rfl
      have hel := H_hI.out.doc.els next e' H_hI.out.el
      have hec := hel.cell
      rw [H_hI.out.blk] at hec
      obtain ⟨oV, lV, cV, hV⟩ := own_form (kv_own hel.kids H_hI.out.kv).1
      have zbe2 : be < wr.heap.size := hlt_of hec
      rw [hV] at hec
      have e3 : wr.cell? ⟨be, 3, none⟩ = some (.slice oV lV cV) := hcell_of hec rfl
      have hcn := cnt_kid hk'
      have hsl : n2 = next + 1 + RT.cntL (NT.rtL (ks.take k)) := by
        show (sE, n2).2 = _
        rw [H_hs.out]
        exact ((H_hL.out.put ⟨nm, ats, par, []⟩).layL _ next).2
      have hstep : layL (NT.rtL (ks.take (k + 1))) next (E ++ [(next, ⟨nm, ats, par, []⟩)], next + 1) = (upd (layN ks[k].rt (next : Int) (sE, n2)).1 next (fun e => { e with kids := e.kids ++ [n2] }), (layN ks[k].rt (next : Int) (sE, n2)).2) := by
        rw [List.take_succ_eq_append_getElem hk', rtL_map, List.map_append, List.map_cons, List.map_nil, layL_snoc, ← rtL_map, ← H_hs.out]
      have hkl : e'.kids.length + next < n2 := H_hI.out.kl
      have hc51 : ks[k].rt.cnt ≤ RT.cntL (NT.rtL ks) := by omega
      obtain ⟨kr, hkr⟩ : ∃ u, ks[k].rt = u := ⟨_, rfl⟩
      have hcall := fun (W : World) (hb : Below wr.heap.size wr W) => H_ih.out _ (List.getElem_mem hk') W n2 cnt' F' sE pl' D' (H_hI.out.doc.keep hb) H_hI.out.c (H_hI.out.ft.keep hb.size) H_hI.out.ok (hBr.trans (hb.mono (by omega))) (fun j hj => by rcases H_hI.out.nw j hj with h | h; (· exact H_hFb.out j h); (· omega)) (by omega)
      rw [hv, hkr] at hcall
      rw [hkr] at hstep
      have hafter := fun (W W2 : World) (hL : LaidTo Tryz.prog TT W W2 bd bm F' pl' n2 (layN kr (next : Int) (sE, n2))) => H_hI.out.after hL
      rw [hV] at hafter
      have hfin := fun (wW w2 wa w3 w4 : World) (v' : Value) (hb1 : Below wr.heap.size wr wW) (hL : LaidTo Tryz.prog TT wW w2 bd bm F' pl' n2 (layN kr (next : Int) (sE, n2))) (hba : Below w2.heap.size w2 wa) (hv' : OwnR EIn w3 0 TT.I v' (e'.kids ++ [n2])) => H_hI.out.more TK hb1 hL (w4 := w4) hba hv'
      rw [hV] at hfin
      obtain ⟨nk, hnk⟩ : ∃ u, ks[k].name = u := ⟨_, rfl⟩
      rw [hnk] at q0 hcall
      have hlen : e'.kids.length + 1 ≤ 1000000 := by omega
      have hsI : I64 (n2 : Int) := i64_nat (by omega)
      clear hr hkid hv hcell hnk hkr hel hV hec hcn hsl hkl hc51
      have H_hcall := Lib.hid hcall
      clear hcall
      have H_hstep := Lib.hid hstep
      clear hstep
      have H_hafter := Lib.hid hafter
      clear hafter
      have H_hfin := Lib.hid hfin
      clear hfin
      have H_hlen := Lib.hid hlen
      clear hlen
      have H_hsI := Lib.hid hsI
      clear hsI
      go_wp2_with fail
      go_region_law (first | (go_simp; go_at_call 42; ((refine (H_hcall.out _ ?hb).mono ?_); (case hb => exact (by repeat' (first | (with_reducible first | exact bwR _ _ | assumption | refine bdn ?_ | refine bwA ?_ ?_ _ | refine bwD ?_ | refine bwS ?_ ?_ _) | omega | (simp <;> omega)))); rintro en w2 ⟨rfl, hL2⟩; have haf := H_hafter.out _ _ hL2; have e32 : w2.cell? ⟨be, 3, none⟩ = some (.slice oV lV cV) := hcell_of haf.1 rfl; have z2 : wr.heap.size < w2.heap.size := Nat.lt_of_lt_of_le (by first | (simp; done) | (simp; omega)) (LaidTo.size hL2); have z22 : be < w2.heap.size := Nat.lt_trans zbe2 z2; have H_haf := Lib.hid haf; have H_hL2 := Lib.hid hL2; clear haf hL2)) | ((refine step_append_told rfl (.tmp 47) (.tmp 52) 60 rfl EIn 0 3 iI _ 8 Tryz.underlying60 H_hiI.out H_hzI0.out H_hzI1.out H_hzI2.out rfl (by decide) (.slice oV lV cV) e'.kids rfl _ 0 1 1 [n2] rfl rfl ?a2 ?a3 ?a4 ?a5 ?_); (case a2 => exact H_hlen.out); (case a3 => first | exact H_haf.out.2.alloc _ | exact (H_haf.out.2.alloc _).keep (Below.refl _ _).drew); (case a4 => first | exact row_one (vs := #[.int .i64 n2]) rfl (fun j => World.cell?_alloc_new _ _ _ _) | exact row_one (vs := #[.int .i64 n2]) rfl (fun j => by rw [World.cell?_drew]; exact World.cell?_alloc_new _ _ _ _)); (case a5 => exact Nat.zero_le _); intro v' w3 hv3 hA3 hg3 ho3; obtain ⟨oV3, lV3, cV3, hV3⟩ := own_form hv3; subst hV3; have hbe3 := el_stays H_haf.out.1 H_haf.out.2 (show TT.E ≠ TT.I by decide) (by repeat' (first | (with_reducible first | exact bwR _ _ | assumption | refine bdn ?_ | refine bwA ?_ ?_ _ | refine bwD ?_ | refine bwS ?_ ?_ _) | omega | (simp <;> omega))) hg3; have e33 : w3.cell? ⟨be, 3, none⟩ = some (.slice oV lV cV) := hcell_of hbe3 rfl; have x33 : w3.frozen? ⟨be, 3, none⟩ = false := Dc.hfree hbe3; have z3 := Dc.hlt hbe3; have hend := fun (w4 : World) (h4 : Below (w3.setCell ⟨be, 3, none⟩ (.slice oV3 lV3 cV3)).heap.size (w3.setCell ⟨be, 3, none⟩ (.slice oV3 lV3 cV3)) w4) => H_hfin.out _ w2 _ w3 w4 _ (by repeat' (first | (with_reducible first | exact bwR _ _ | assumption | refine bdn ?_ | refine bwA ?_ ?_ _ | refine bwD ?_ | refine bwS ?_ ?_ _) | omega | (simp <;> omega))) H_hL2.out (by repeat' (first | (with_reducible first | exact bwR _ _ | assumption | refine bdn ?_ | refine bwA ?_ ?_ _ | refine bwD ?_ | refine bwS ?_ ?_ _) | omega | (simp <;> omega))) hv3 hg3 ho3 h4; have H_hend := Lib.hid hend; clear hend hbe3 hv3 hA3 hg3 ho3))
      all_goals
        go_wp2_with fail
        go_roundw
        case rel =>
          obtain ⟨pl3, cnt3, D3, F3, hI3⟩ := H_hend.out _ (by first | exact Below.refl _ _ | exact (Below.refl _ _).drew | exact (by repeat' (first | (with_reducible first | exact bwR _ _ | assumption | refine bdn ?_ | refine bwA ?_ ?_ _ | refine bwD ?_ | refine bwS ?_ ?_ _) | omega | (simp <;> omega))))
          exact ⟨k + 1, _, pl3, cnt3, D3, F3, _, by omega, by go_num, H_hstep.out.symm, hI3⟩
        case measure => simp [intOf]; omega
    · obtain rfl : k = kl := by omega
      have hfull : ks.take k = ks := List.take_of_length_le (by have := H_h2.out.1; omega)
      go_wp2_with fail
      go_returns
      refine ⟨rfl, pl', cnt', D', F', ?_⟩
      have hN : layN (.mk nm ats (NT.rtL ks)) par (E, next) = (sE, n2) := by
        have h := H_hs.out
        rw [hfull] at h
        rw [h, layN]
      rw [hN]
      exact ⟨H_hI.out.doc, H_hI.out.c, H_hI.out.ft, H_hI.out.nw, H_hI.out.tn, H_hI.out.old⟩
theorem lay_any (bd bm : Nat) (wB : World) : ∀ (z : Nat) (n : NT) (next cnt : Nat) (par : Int) (F : Nat → Prop) (E : Els) (pl : Nat → Plc) (D : DataW Unit) (w : World), SizeOf.sizeOf n < z →
    DAt Tryz.prog TT w bd E next pl bm cnt D → cnt ≤ next → Foot w F bd bm E pl → LOk (E, next) → Below wB.heap.size wB w → (∀ k, F k → wB.heap.size ≤ k) → NodeOk wB n → Fine n → next + n.rt.cnt ≤ 1000000 →
    Calls Tryz.prog 42 #[.pointer (some ⟨bd, 0, none⟩), .agg n.vals.toArray, .int .i64 par] w fun en w1 => en = .returned (.int .i64 (next : Int)) ∧ LaidTo Tryz.prog TT w w1 bd bm F pl next (layN n.rt par (E, next)) := by
  intro z
  induction z with
  | zero => intro n next cnt par F E pl D w h; omega
  | succ z ih =>
    intro n next cnt par F E pl D w hs hA hc hF hL hB hFb hn hf hcnt
    cases hn with
    | mk h1 h2 h3 =>
      rename_i nm ao al ac ats ko kl kc ks
      cases hf with
      | mk f1 f2 f3 =>
        rw [rt_eq] at hcnt ⊢
        have hcl : next + RT.cntL (NT.rtL ks) + 1 ≤ 1000000 := by
          have h : (RT.mk nm ats (NT.rtL ks)).cnt = 1 + RT.cntL (NT.rtL ks) := by rw [RT.cnt]; try omega
          have h' : next + (RT.mk nm ats (NT.rtL ks)).cnt ≤ 1000000 := hcnt
          omega
        exact lay_step bd next bm cnt par F E pl D nm ao al ac ats ko kl kc ks wB w hA hc hF hL hB hFb h1 h2 h3 f2 hcl fun k hk w' next' cnt' F' E' pl' D' a1 a2 a3 a4 a5 a6 a7 =>
          ih k next' cnt' _ F' E' pl' D' w' (by have := kid_less (n := .mk nm ao al ac ats ko kl kc ks) hk; omega) a1 a2 a3 a4 a5 a6 (h3 k hk) (f3 k hk) a7
end Go.Proofs.YtndlmmpheecleaaGreatDoor

/-
  Walks over package doc: New.
-/
namespace Lead.Dc
open Go Go.RowKit Go.Maps Lead
theorem treeE_len (n : RT) : (treeE n (-1) 0).length = n.cnt := by
  obtain ⟨dep, t⟩ := treeE_ok n (-1) 0 1
  have h := congrArg List.length t.keys
  rw [List.length_map, List.length_range'] at h
  exact h
theorem mapD_nil (pl : Nat → Plc) : MapD (.map []) [] pl := ⟨⟨[], rfl, List.Pairwise.nil⟩, (fun n e h => by cases h), (fun z _ => rfl), rfl⟩
theorem doc_made {P : Program} {T : Tys} {w : World} {bd bm : Nat} (h1 : w.heap[bd]? = some (.cells #[.map (some bm), .int .i64 (0 : Int)] T.D (0, 0))) (h2 : w.ownsMap P T.I pElem bm 0 (.map [])) : DAt P T w bd [] 0 (fun _ => ⟨0, .nilIface, .nilIface⟩) bm 0 (.map []) :=
  ⟨Nat.zero_le _, Nat.zero_le _, h1, h2, mapD_nil _, (fun n e h => by cases h), (fun n m e f _ h => by cases h)⟩
theorem foot_made {w : World} {bd bm : Nat} (h1 : bd < w.heap.size) (h2 : bm < w.heap.size) : Foot w (fun k => k = bd ∨ k = bm) bd bm [] (fun _ => ⟨0, .nilIface, .nilIface⟩) :=
  ⟨.inl rfl, .inr rfl, (fun n e h => by cases h), (fun n e h => by cases h), (fun n e h => by cases h), (fun k hk => by rcases hk with rfl | rfl <;> assumption)⟩
end Lead.Dc
namespace Go.Proofs.YtndlmmpheecleaaGreatDoor
open Go.RowKit Go.WideMaps Go.Maps Lead Lead.Dc
/-- A new document, or an error. -/
def NewIs (ea : Nat → Addr) (n : RT) (w : World) (en : Ending) (w' : World) : Prop :=
  Below w.heap.size w w' ∧ if (chkN n 0 1).2 = 0 then ∃ bd F d, en = .returned (.tuple #[.pointer (some ⟨bd, 0, none⟩), .nilIface]) ∧ (∀ k, F k → w.heap.size ≤ k) ∧ DokG Tryz.prog TT w' bd F (treeE n (-1) 0) n.cnt d ∧ n.cnt ≤ 100
  else ∃ t a, en = .returned (.tuple #[.pointer none, .iface t (.pointer (some a))]) ∧ ErrAt 264 145 ea w.heap.size w' (.iface t (.pointer (some a))) (chkE (chkN n 0 1))
set_option maxHeartbeats 1000000 in
theorem new_any (ea : Nat → Addr) (n : NT) (w : World) (hn : NodeOk w n) (hG : CGs ea w) :
    Calls Tryz.prog 7 #[.agg n.vals.toArray] w (NewIs ea n.rt w) := by
  obtain ⟨ao, al, ac, ko, kl, kc, hv, _⟩ := hn.attrsAt
  have hcon := fun (W : World) (hb : Below w.heap.size w W) => mcheck_any ea n W (hn.keep hb rfl) (hG.keep hb rfl)
  have hlay := fun (bd bm : Nat) (wB W : World) (hb0 : Below w.heap.size w wB) => lay_any bd bm wB (SizeOf.sizeOf n + 1) n 0 0 (-1) (fun k => k = bd ∨ k = bm) [] (fun _ => ⟨0, .nilIface, .nilIface⟩) (.map []) W (Nat.lt_succ_self _)
  have hnk := fun (W : World) (hb : Below w.heap.size w W) => hn.keep hb rfl
  have hfin := fine_of (SizeOf.sizeOf n + 1) n 0 1 (Nat.lt_succ_self _)
  have hok := chkN_ok n.rt 0 1
  have hmm := @run_makeMap Tryz.prog
  obtain ⟨nn, hnn⟩ : ∃ u, n.rt = u := ⟨_, rfl⟩
  obtain ⟨nk, hnke⟩ : ∃ u, n.name = u := ⟨_, rfl⟩
  rw [hv, hnn, hnke] at hcon
  rw [hnn] at hfin hok
  simp only [hv, hnn, hnke] at hlay
  rw [hv, hnn, hnke]
  clear hv hnke hn hG
  have H_hcon := Lib.hid hcon
  clear hcon
  have H_hlay := Lib.hid hlay
  clear hlay
  have H_hnk := Lib.hid hnk
  clear hnk
  have H_hfin := Lib.hid hfin
  clear hfin
  have H_hok := Lib.hid hok
  clear hok
  have H_hnn := Lib.hid hnn
  clear hnn
  go_enter Tryz.func7, Tryz.ntmps7
  go_wp2_with fail
  refine (H_hcon.out _ (by repeat' (first | (with_reducible first | exact bwR _ _ | assumption | refine bdn ?_ | refine bwA ?_ ?_ _ | refine bwD ?_ | refine bwS ?_ ?_ _) | omega | (simp <;> omega)))).mono ?_
  rintro _ w1 ⟨x1, rfl, hx1, hb1⟩
  have hB1 : Below w.heap.size w w1 := below_via (by repeat' (first | (with_reducible first | exact bwR _ _ | assumption | refine bdn ?_ | refine bwA ?_ ?_ _ | refine bwD ?_ | refine bwS ?_ ?_ _) | omega | (simp <;> omega))) hb1
  have t1 := hB1.size
  have z0 : w.heap.size < w1.heap.size := Nat.lt_of_lt_of_le (by simp) hb1.size
  have k0 : w1.cell? ⟨w.heap.size, 0, none⟩ = some (.string nk) := gkeep hb1 (World.cell?_alloc_new _ _ _ _) (by simp)
  have k1 : w1.cell? ⟨w.heap.size, 1, none⟩ = some (.slice ao al ac) := gkeep hb1 (World.cell?_alloc_new _ _ _ _) (by simp)
  have k2 : w1.cell? ⟨w.heap.size, 2, none⟩ = some (.slice ko kl kc) := gkeep hb1 (World.cell?_alloc_new _ _ _ _) (by simp)
  by_cases hc0 : (chkN nn 0 1).2 = 0
  · obtain rfl : x1 = .nilIface := hx1.nil (chkE_0 hc0)
    clear hx1 hb1
    have H_hc0 := Lib.hid hc0
    clear hc0
    go_wp2_with fail
    obtain ⟨W2, hW2⟩ : ∃ u, (w1.alloc (.map #[] 0)).alloc (.cells #[.map (some w1.heap.size), .int .i64 0] 99) = u := ⟨_, rfl⟩
    have hB2 : Below w1.heap.size w1 W2 := by rw [← hW2]; exact ((Below.refl _ _).alloc (Nat.le_refl _) _).alloc (by simp) _
    have z2 : W2.heap.size = w1.heap.size + 2 := by rw [← hW2]; simp
    have hd2 : W2.heap[w1.heap.size + 1]? = some (.cells #[.map (some w1.heap.size), .int .i64 0] 99 (0, 0)) := by
      rw [← hW2]
      have h := heap_alloc_new (w1.alloc (.map #[] 0)) (.cells #[.map (some w1.heap.size), .int .i64 0] 99)
      rw [show (w1.alloc (.map #[] 0)).heap.size = w1.heap.size + 1 by simp] at h
      exact h
    have hm2 : W2.ownsMap Tryz.prog TT.I pElem w1.heap.size 0 (.map []) := by
      refine map_below (World.ownsMap_made w1 Tryz.prog TT.I pElem) ?_
      rw [← hW2]
      exact (Below.alloc (Below.refl (w1.alloc (.map #[] 0)).heap.size (w1.alloc (.map #[] 0))) (Nat.le_refl _) _).block _ (by simp)
    rw [hW2]
    have hokk := H_hok.out H_hc0.out
    have hcl := H_hlay.out (w1.heap.size + 1) w1.heap.size w1 W2 hB1 (doc_made hd2 hm2) (Nat.le_refl _) (foot_made (by omega) (by omega)) ⟨fun x hx => by simp at hx, by simp⟩ hB2 (fun k hk => by rcases hk with rfl | rfl <;> omega) (H_hnk.out w1 hB1) (H_hfin.out H_hc0.out) (by omega)
    clear hW2 hd2 hm2
    refine hcl.mono ?_
    clear hcl
    rintro en w3 ⟨rfl, hL⟩
    rw [layN_eq nn (-1) [] 0 (fun x hx => by simp at hx)] at hL
    obtain ⟨pl', cnt', D', F', hA, hc, hF, hFF, hT, _⟩ := hL
    have hB3 : Below w.heap.size w w3 := (hB1.trans (hB2.mono t1)).trans (hT.below (by omega) (fun k hk => by rcases hk with rfl | rfl <;> omega))
    have hF' : ∀ k, F' k → w.heap.size ≤ k := fun k hk => by
      rcases hFF k hk with (h | h) | h <;> omega
    obtain ⟨dd, hgood⟩ := good_tree nn (by omega)
    have hlen := treeE_len nn
    have hA' : DAt Tryz.prog TT w3 (w1.heap.size + 1) (treeE nn (-1) 0) nn.cnt pl' w1.heap.size cnt' D' := by
      have h : DAt Tryz.prog TT w3 (w1.heap.size + 1) (treeE nn (-1) 0) (0 + nn.cnt) pl' w1.heap.size cnt' D' := hA
      rwa [Nat.zero_add] at h
    have hDok : DokG Tryz.prog TT w3 (w1.heap.size + 1) F' (treeE nn (-1) 0) nn.cnt dd := ⟨⟨pl', w1.heap.size, cnt', D', hA', (by have h : cnt' ≤ 0 + nn.cnt := hc; omega), hF⟩, hgood, by omega, by omega⟩
    have hcn : nn.cnt ≤ 100 := by omega
    clear hA hA' hc hF hFF hT hgood hlen hokk
    have H_hDok := Lib.hid hDok
    clear hDok
    have H_hF' := Lib.hid hF'
    clear hF'
    have H_hcn := Lib.hid hcn
    clear hcn
    go_wp2_with fail
    go_returns
    refine ⟨hB3, ?_⟩
    rw [if_pos H_hc0.out]
    exact ⟨_, F', dd, rfl, H_hF'.out, H_hDok.out, H_hcn.out⟩
  · obtain ⟨t', a', hxe⟩ := hx1.some (by rw [chkE_n hc0]; exact hc0)
    subst hxe
    have hx2 : ErrAt 264 145 ea w.heap.size w1 (.iface t' (.pointer (some a'))) (chkE (chkN nn 0 1)) := hx1.keep (Below.refl _ _) rfl (by simp)
    clear hx1 hb1
    have H_hx2 := Lib.hid hx2
    clear hx2
    have H_hc0 := Lib.hid hc0
    clear hc0
    go_wp2_with fail
    go_returns
    refine ⟨by repeat' (first | (with_reducible first | exact bwR _ _ | assumption | refine bdn ?_ | refine bwA ?_ ?_ _ | refine bwD ?_ | refine bwS ?_ ?_ _) | omega | (simp <;> omega)), ?_⟩
    rw [if_neg H_hc0.out]
    exact ⟨_, _, rfl, H_hx2.out⟩
end Go.Proofs.YtndlmmpheecleaaGreatDoor
