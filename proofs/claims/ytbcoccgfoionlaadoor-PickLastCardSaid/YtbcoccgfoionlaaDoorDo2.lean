/-
  Walks over package doc: below, All, deep, high.
-/
import Derived.Test.YtbcoccgfoionlaaDoorDo1
namespace Lead.Dc
open Go Go.RowKit Lead
variable {E : Els} {next : Nat} {d : Nat → Nat}
theorem Good.fuelH (g : Good E next d) : ∀ (f f' n : Nat), 10 ≤ d n + f → 10 ≤ d n + f' → high E f n = high E f' n := by
  intro f
  induction f with
  | zero =>
    intro f' n h h'
    cases f' with
    | zero => rfl
    | succ f' =>
      have hk : kidsAt E n = [] := by
        cases hk : kidsAt E n with
        | nil => rfl
        | cons k r =>
          have := (g.kid (n := n) (k := k) (by rw [hk]; exact List.mem_cons_self)).2.1
          omega
      show 1 = (kidsAt E n).foldl (fun k x => max k (high E f' x)) 0 + 1
      rw [hk]; rfl
  | succ f ih =>
    intro f' n h h'
    cases f' with
    | zero =>
      have hk : kidsAt E n = [] := by
        cases hk : kidsAt E n with
        | nil => rfl
        | cons k r =>
          have := (g.kid (n := n) (k := k) (by rw [hk]; exact List.mem_cons_self)).2.1
          omega
      show (kidsAt E n).foldl (fun k x => max k (high E f x)) 0 + 1 = 1
      rw [hk]; rfl
    | succ f' =>
      show (kidsAt E n).foldl (fun k x => max k (high E f x)) 0 + 1 = (kidsAt E n).foldl (fun k x => max k (high E f' x)) 0 + 1
      congr 1
      refine foldl_congr _ _ fun k hk => ih f' k ?_ ?_
      · have := (g.kid hk).1; omega
      · have := (g.kid hk).1; omega
theorem Good.below_eq (g : Good E next d) (n : Nat) : below E 10 n = n :: (kidsAt E n).flatMap (below E 10) := (g.fuel 10 11 n (by omega) (by omega)).trans rfl
theorem Good.high_eq (g : Good E next d) (n : Nat) : high E 10 n = (kidsAt E n).foldl (fun k x => max k (high E 10 x)) 0 + 1 := (g.fuelH 10 11 n (by omega) (by omega)).trans rfl
theorem Good.below_len (g : Good E next d) {n : Nat} {e : El} (h : elAt E n = some e) : (below E 10 n).length ≤ E.length := by
  have h1 := g.below_nodup 10 n
  have h2 : ∀ x ∈ below E 10 n, x ∈ E.map (·.1) := fun x hx => elAt_some.1 (g.below_in 10 n x ⟨e, h⟩ hx)
  have h3 : (below E 10 n).Perm ((E.map (·.1)).filter fun x => decide (x ∈ below E 10 n)) := (List.perm_ext_iff_of_nodup h1 (g.keys.sublist List.filter_sublist)).2 fun x => by
    rw [List.mem_filter]
    exact ⟨fun hx => ⟨h2 x hx, decide_eq_true hx⟩, fun hx => of_decide_eq_true hx.2⟩
  have h4 := List.length_filter_le (fun x => decide (x ∈ below E 10 n)) (E.map (·.1))
  rw [h3.length_eq]
  rw [List.length_map] at h4
  exact h4
theorem Good.high_small (g : Good E next d) {n : Nat} {e : El} (h : elAt E n = some e) : high E 10 n ≤ 11 := by
  have := g.high_le 10 n ⟨e, h⟩; omega
theorem flat_take (l : List Nat) (k : Nat) (h : k < l.length) (f : Nat → List Nat) : (l.take (k + 1)).flatMap f = (l.take k).flatMap f ++ f l[k] := by
  rw [List.take_succ_eq_append_getElem h, List.flatMap_append]; simp
theorem flat_pre (l : List Nat) (k : Nat) (f : Nat → List Nat) : ((l.take k).flatMap f).length ≤ (l.flatMap f).length := by
  have h : l.flatMap f = (l.take k).flatMap f ++ (l.drop k).flatMap f := by rw [← List.flatMap_append, List.take_append_drop]
  rw [h, List.length_append]; omega
/-- Elements over which a walk may go down: each is there, its children are among them, one level lower. -/
structure Wk (E : Els) (next : Nat) (d : Nat → Nat) (S : Nat → Prop) : Prop where
  here : ∀ n, S n → ∃ e, elAt E n = some e
  lt : ∀ n, S n → n < next
  kid : ∀ n, S n → ∀ k ∈ kidsAt E n, S k ∧ d k = d n + 1
  dm : ∀ n, S n → d n ≤ 10
  len : ∀ n, S n → (below E 10 n).length ≤ 1000000
  kl : ∀ n, S n → (kidsAt E n).length ≤ 1000000
theorem Wk.fuel {S : Nat → Prop} (g : Wk E next d S) : ∀ (f f' n : Nat), S n → 10 ≤ d n + f → 10 ≤ d n + f' → below E f n = below E f' n := by
  have none_ : ∀ n, S n → 10 ≤ d n → kidsAt E n = [] := fun n hn h => by
    cases hk : kidsAt E n with
    | nil => rfl
    | cons k r =>
      have h1 := g.kid n hn k (by rw [hk]; exact List.mem_cons_self)
      have h2 := g.dm k h1.1
      omega
  intro f
  induction f with
  | zero =>
    intro f' n hn h h'
    cases f' with
    | zero => rfl
    | succ f' =>
      show [n] = n :: (kidsAt E n).flatMap (below E f')
      rw [none_ n hn (by omega)]; rfl
  | succ f ih =>
    intro f' n hn h h'
    cases f' with
    | zero =>
      show n :: (kidsAt E n).flatMap (below E f) = [n]
      rw [none_ n hn (by omega)]; rfl
    | succ f' =>
      show n :: (kidsAt E n).flatMap (below E f) = n :: (kidsAt E n).flatMap (below E f')
      congr 1
      unfold List.flatMap
      congr 1
      refine List.map_congr_left fun k hk => ih f' k (g.kid n hn k hk).1 ?_ ?_
      · have := (g.kid n hn k hk).2; omega
      · have := (g.kid n hn k hk).2; omega
theorem Wk.below_eq {S : Nat → Prop} (g : Wk E next d S) {n : Nat} (hn : S n) : below E 10 n = n :: (kidsAt E n).flatMap (below E 10) := (g.fuel 10 11 n hn (by omega) (by omega)).trans rfl
theorem Good.wk (g : Good E next d) (hl : E.length ≤ 1000000) : Wk E next d (fun n => ∃ e, elAt E n = some e) :=
  ⟨fun n h => h, fun n ⟨e, h⟩ => g.lt n e h, fun n _ k hk => by
    obtain ⟨h1, _, ke, hke, _⟩ := g.kid hk
    exact ⟨⟨ke, hke⟩, h1⟩, fun n ⟨e, h⟩ => g.dm n e h, fun n ⟨e, h⟩ => Nat.le_trans (g.below_len h) hl, fun n ⟨e, h⟩ => by rw [kidsAt_some h]; exact Nat.le_trans (g.kids_len h) hl⟩
def upto (h : Nat → Nat) (l : List Nat) : Nat := l.foldl (fun k x => max k (h x)) 0
theorem upto_snoc (h : Nat → Nat) (l : List Nat) (k : Nat) (hk : k < l.length) : upto h (l.take (k + 1)) = max (upto h (l.take k)) (h l[k]) := by
  unfold upto
  rw [List.take_succ_eq_append_getElem hk, List.foldl_append]; rfl
theorem upto_le (h : Nat → Nat) (l : List Nat) (k m : Nat) (hm : ∀ x ∈ l, h x ≤ m) : upto h (l.take k) ≤ m := by
  rcases (foldl_max h (l.take k) 0).2.2 with e | ⟨x, hx, e⟩
  · unfold upto; rw [e]; exact Nat.zero_le _
  · unfold upto; rw [e]; exact hm x (List.mem_of_mem_take hx)
end Lead.Dc
namespace Go.Proofs.YtbcoccgfoionlaaDoor
open Go.RowKit Lead Lead.Dc
set_option maxHeartbeats 1000000 in
theorem below_step (bd next n : Nat) (F : Nat → Prop) (E : Els) (d : Nat → Nat) (S : Nat → Prop) (e : El) (w : World) (hD : Dok Tryd.prog TT w bd F E next) (hbig : next ≤ 1000000) (hg : Wk E next d S) (hS0 : S n) (he : elAt E n = some e)
    (ih : ∀ k ∈ e.kids, ∀ w', Dok Tryd.prog TT w' bd F E next → Calls Tryd.prog 26 #[.pointer (some ⟨bd, 0, none⟩), .int .i64 (k : Int)] w' (RetR EIn 3 (below E 10 k) w')) :
    Calls Tryd.prog 26 #[.pointer (some ⟨bd, 0, none⟩), .int .i64 (n : Int)] w (RetR EIn 3 (below E 10 n) w) := by
  obtain ⟨i0, hi, hz0, hz1, hz2⟩ := info_parts infoIntD
  have hDG := hD
  obtain ⟨pl, bm, cnt, D, hA, hc, hF⟩ := hD
  have c0 := hA.c0
  have hnI : I64 (n : Int) := i64_nat (by have := hg.lt n hS0; omega)
  have hE := hA.els n e he
  have e3 := hE.e3
  obtain ⟨oa, len, cap, hkv, hS⟩ := hE.kids.sl
  rw [hkv] at e3
  have hb0 := hE.lt
  have hb1 : ¬ w.heap.size = (pl n).blk := by omega
  have hd0 := hA.ltD
  have hd1 : ¬ w.heap.size = bd := by omega
  have hlk : len = e.kids.length := hS.1
  have hbe := hg.below_eq hS0
  rw [kidsAt_some he] at hbe
  have hbl := hg.len n hS0
  have hll : len ≤ 1000000 := by have := hg.kl n hS0; rw [kidsAt_some he] at this; omega
  have hin : ∀ k ∈ e.kids, k < next := fun k hk => hg.lt k (hg.kid n hS0 k (by rw [kidsAt_some he]; exact hk)).1
  obtain ⟨blk, hblk⟩ : ∃ b, (pl n).blk = b := ⟨_, rfl⟩
  have hcs := hS.2.2.2
  rw [hblk] at e3 hb0 hb1
  have H_hA := Lib.hid hA
  clear hA
  have H_hE := Lib.hid hE
  clear hE
  have H_he := Lib.hid he
  clear he
  have H_hS := Lib.hid hS
  clear hS
  have H_hkv := Lib.hid hkv
  clear hkv
  have H_hi := Lib.hid hi
  clear hi
  have H_hz0 := Lib.hid hz0
  clear hz0
  have H_hz1 := Lib.hid hz1
  clear hz1
  have H_hz2 := Lib.hid hz2
  clear hz2
  have H_hbe := Lib.hid hbe
  clear hbe
  have H_hbl := Lib.hid hbl
  clear hbl
  have H_hin := Lib.hid hin
  clear hin
  have H_hDG := Lib.hid hDG
  clear hDG
  have H_hcs := Lib.hid hcs
  clear hcs
  have H_ih := Lib.hid ih
  clear ih
  have H_hblk := Lib.hid hblk
  clear hblk
  have H_hnI := Lib.hid hnI
  clear hnI
  have H_hlk := Lib.hid hlk
  clear hlk
  clear hc hF hg hS0
  go_enter Tryd.func26, Tryd.ntmps26
  go_wp2_with (at_lookup; refine wp_hit (T := TT) TK rfl _ _ rfl rfl rfl (H_hA.out.keep (by repeat' (first | (with_reducible first | exact bwR _ _ | assumption | refine bdn ?_ | refine bwA ?_ ?_ _ | refine bwD ?_ | refine bwS ?_ ?_ _) | omega | (simp <;> omega)))) H_he.out H_hnI.out ?_; rw [H_hblk.out])
  go_loopw [5, 20] (fun t5 t20 wr => ∃ k : Nat, k ≤ len ∧ t20 = .int .i64 k ∧ OwnR EIn wr w.heap.size 3 t5 (n :: (e.kids.take k).flatMap (below E 10)) ∧ Below w.heap.size w wr) (fun _ t20 _ => len - (intOf t20).toNat)
  case atStart =>
    refine ⟨0, Nat.zero_le _, rfl, ?_, (Below.refl _ _).alloc (Nat.le_refl _) _⟩
    exact World.ownsRow_lit w #[.int .i64 n] 1 (Nat.le_refl _) (by unfold maxLen; decide) rfl
  case round =>
    obtain ⟨k, hk, rfl, hown, hB⟩ := hrel
    have H_own := Lib.hid hown
    clear hown
    have hzr := hB.size
    by_cases hlt : k < len
    · have hk' : k < e.kids.length := by have := H_hlk.out; omega
      obtain ⟨b, off, rfl, hbw, hr⟩ : ∃ b off, oa = some ⟨b, off, none⟩ ∧ b < w.heap.size ∧ RowIn EIn w b off e.kids := by
        refine H_hcs.out.resolve_left ?_
        intro h; rw [h] at hk'; simp at hk'
      have q0 : wr.cell? ⟨b, off + k, none⟩ = some (.int .i64 (e.kids[k] : Int)) := by
        have h := (hr.keep hB hbw) k hk' 0 _ rfl
        simpa [EIn] using h
      have hst := flat_take e.kids k hk' (below E 10)
      have hpre := flat_pre e.kids (k + 1) (below E 10)
      have hle : ((e.kids.take (k + 1)).flatMap (below E 10)).length + 1 ≤ 1000000 := by
        have h1 := H_hbl.out
        rw [H_hbe.out, List.length_cons] at h1
        omega
      rw [hst, List.length_append] at hle
      have hcall := H_ih.out e.kids[k] (List.getElem_mem hk') wr (H_hDG.out.keep hB)
      obtain ⟨c, hce⟩ : ∃ c, e.kids[k] = c := ⟨_, rfl⟩
      rw [hce] at q0 hst hle hcall
      clear hr hpre hce
      have H_hst := Lib.hid hst
      clear hst
      have H_hcall := Lib.hid hcall
      clear hcall
      go_wp2_with fail
      refine H_hcall.out.mono ?_
      rintro _ w1 ⟨v1, rfl, ho1, hb1'⟩
      have t1 := hb1'.size
      obtain ⟨g, cp, rfl, hg0, hg1, _, _, hr1⟩ : ∃ g cp, v1 = .slice (some ⟨g, 0, none⟩) (below E 10 c).length cp ∧ wr.heap.size ≤ g ∧ g < w1.heap.size ∧ (below E 10 c).length ≤ cp ∧ (below E 10 c).length ≤ maxLen ∧ RowIn EIn w1 g 0 (below E 10 c) := by
        rcases ho1.form with ⟨_, h⟩ | h
        · have := self_below (E := E) 10 c; rw [h] at this; cases this
        · exact h
      have hB1 : Below w.heap.size w w1 := below_via hB hb1'
      have hown1 := H_own.out.keep hb1'
      clear ho1
      have H_hr1 := Lib.hid hr1
      clear hr1
      have H_hown1 := Lib.hid hown1
      clear hown1
      go_wp2_with (at_builtin; refine wp_append_row (w0 := w) rfl (.tmp 24) (.tmp 27) 51 rfl EIn w.heap.size 3 i0 _ 8 Tryd.underlying51 H_hi.out H_hz0.out H_hz1.out H_hz2.out rfl (by decide) _ _ rfl H_hown1.out g 0 (below E 10 c).length cp (below E 10 c) rfl rfl H_hr1.out ?q2 ?q3 hB1 (Nat.le_refl _) ?_)
      case q2 => rw [List.length_cons]; omega
      case q3 => omega
      intro v5 w5 hv5 hb5 hz5 c5 d5 hA5
      clear c5 d5 hA5
      rw [← H_hst.out] at hv5
      have H_hv5 := Lib.hid hv5
      clear hv5
      go_wp2_with fail
      go_roundw
      case rel => exact ⟨k + 1, by omega, by go_num, H_hv5.out, hb5⟩
      case measure => simp [intOf]; omega
    · obtain rfl : k = len := by omega
      have hfull : e.kids.take k = e.kids := List.take_of_length_le (by have := H_hlk.out; omega)
      rw [hfull, ← H_hbe.out] at H_own
      clear hfull
      go_wp2_with fail
      go_returns
      exact ⟨_, rfl, H_own.out, hB⟩
theorem below_wk (bd next : Nat) (F : Nat → Prop) (E : Els) (d : Nat → Nat) (S : Nat → Prop) (g : Wk E next d S) (hbig : next ≤ 1000000) : ∀ (f n : Nat) (w : World), Dok Tryd.prog TT w bd F E next → S n → 10 ≤ d n + f →
    Calls Tryd.prog 26 #[.pointer (some ⟨bd, 0, none⟩), .int .i64 (n : Int)] w (RetR EIn 3 (below E 10 n) w) := by
  intro f
  induction f with
  | zero =>
    intro n w hD hS hf
    obtain ⟨e, he⟩ := g.here n hS
    refine below_step bd next n F E d S e w hD hbig g hS he fun k hk w' hD' => ?_
    have h1 := g.kid n hS k (by rw [kidsAt_some he]; exact hk)
    have := g.dm k h1.1
    omega
  | succ f ih =>
    intro n w hD hS hf
    obtain ⟨e, he⟩ := g.here n hS
    refine below_step bd next n F E d S e w hD hbig g hS he fun k hk w' hD' => ?_
    have h1 := g.kid n hS k (by rw [kidsAt_some he]; exact hk)
    exact ih k w' hD' h1.1 (by omega)
theorem below_any (bd next : Nat) (F : Nat → Prop) (E : Els) (d : Nat → Nat) (f n : Nat) (e : El) (w : World) (hD : DokG Tryd.prog TT w bd F E next d) (he : elAt E n = some e) (hf : 10 ≤ d n + f) :
    Calls Tryd.prog 26 #[.pointer (some ⟨bd, 0, none⟩), .int .i64 (n : Int)] w (RetR EIn 3 (below E 10 n) w) :=
  below_wk bd next F E d _ (hD.good.wk hD.len) hD.big f n w hD.ok ⟨e, he⟩ hf
theorem all_any (bd next : Nat) (F : Nat → Prop) (E : Els) (d : Nat → Nat) (w : World) (hD : DokG Tryd.prog TT w bd F E next d) :
    Calls Tryd.prog 18 #[.pointer (some ⟨bd, 0, none⟩)] w (RetR EIn 3 (below E 10 0) w) := by
  obtain ⟨e, he, _⟩ := hD.good.root
  have hcon := below_any bd next F E d 10 0 e w hD he (by omega)
  have H_hcon := Lib.hid hcon
  clear hcon
  clear he hD
  go_enter Tryd.func18, Tryd.ntmps18
  go_wp2_with fail
  refine H_hcon.out.mono ?_
  rintro _ w1 ⟨v1, rfl, ho, hb⟩
  have H_ho := Lib.hid ho
  clear ho
  go_wp2_with fail
  go_returns
  exact ⟨_, rfl, H_ho.out, hb⟩
set_option maxHeartbeats 1000000 in
theorem deep_any (bd next n : Nat) (F : Nat → Prop) (E : Els) (d : Nat → Nat) (e : El) (w : World) (hD : DokG Tryd.prog TT w bd F E next d) (he : elAt E n = some e) :
    Calls Tryd.prog 29 #[.pointer (some ⟨bd, 0, none⟩), .int .i64 (n : Int)] w fun en w' => en = .returned (.int .i64 (d n : Int)) ∧ Below w.heap.size w w' := by
  have hDG := hD
  obtain ⟨⟨pl, bm, cnt, D, hA, hc, hF⟩, hg, hbig, hlen⟩ := hD
  have c0 := hA.c0
  have hdn := hg.dm n e he
  have hd0 := hA.ltD
  have H_hA := Lib.hid hA
  clear hA
  have H_hDG := Lib.hid hDG
  clear hDG
  have H_he := Lib.hid he
  clear he
  have H_hg := Lib.hid hg
  clear hg
  clear hc hF
  go_enter Tryd.func29, Tryd.ntmps29
  go_wp2_with fail
  go_loopw [1, 5] (fun t1 t5 wr => ∃ k : Nat, t5 = .int .i64 k ∧ ((t1 = .int .i64 (-1) ∧ k = d n) ∨ ∃ (y : Nat) (f : El), t1 = .int .i64 y ∧ RowKit.Hid (elAt E y = some f) ∧ k + d y = d n) ∧ Below w.heap.size w wr) (fun _ t5 _ => 11 - (intOf t5).toNat)
  case atStart => exact ⟨0, rfl, .inr ⟨n, e, rfl, H_he.out, Nat.zero_add _⟩, Below.refl _ _⟩
  case round =>
    obtain ⟨k, rfl, hcase, hB⟩ := hrel
    rcases hcase with ⟨rfl, hk⟩ | ⟨y, f, rfl, hy, hk⟩
    · go_wp2_with fail
      go_returns
      exact ⟨by rw [hk]; rfl, hB⟩
    · have H_hy : RowKit.Hid (elAt E y = some f) := hy
      have hAr := H_hA.out.keep hB
      have c0r := hAr.c0
      have hyI : I64 (y : Int) := i64_nat (by have := H_hg.out.lt y f H_hy.out; omega)
      have e2 := (hAr.els y f H_hy.out).e2
      have hy1 := H_hg.out.d1 H_hy.out
      clear c0 hy
      by_cases h0 : y = 0
      · subst h0
        obtain ⟨er, her, hp⟩ := H_hg.out.root
        have hfe : f = er := by have h := H_hy.out; rw [her] at h; exact (Option.some.inj h).symm
        rw [hfe, hp] at e2
        have hd1 := H_hg.out.d0
        rw [hd1] at hk
        have hge : (0 : Int) ≤ ((0 : Nat) : Int) := by omega
        clear hfe her hp hd1 hy1
        have H_hAr := Lib.hid hAr
        clear hAr
        have H_hyI := Lib.hid hyI
        clear hyI
        go_wp2_with (at_lookup; refine wp_hit (T := TT) TK rfl _ _ rfl rfl rfl H_hAr.out H_hy.out H_hyI.out ?_)
        go_roundw
        case rel => exact ⟨k + 1, by go_num, .inl ⟨rfl, hk⟩, hB⟩
        case measure => simp [intOf]; omega
      · obtain ⟨p, pe, hp, hpe, hdp, _, _⟩ := H_hg.out.par H_hy.out h0
        have hge : (0 : Int) ≤ (y : Int) := by omega
        rw [hp] at e2
        have H_hAr := Lib.hid hAr
        clear hAr
        have H_hyI := Lib.hid hyI
        clear hyI
        have H_hpe := Lib.hid hpe
        clear hpe
        clear hp
        go_wp2_with (at_lookup; refine wp_hit (T := TT) TK rfl _ _ rfl rfl rfl H_hAr.out H_hy.out H_hyI.out ?_)
        go_roundw
        case rel => exact ⟨k + 1, by go_num, .inr ⟨p, pe, rfl, H_hpe, by omega⟩, hB⟩
        case measure => simp [intOf]; omega
end Go.Proofs.YtbcoccgfoionlaaDoor
