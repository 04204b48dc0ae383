/-
  Walks over package frac: number, Read.
-/
import Derived.Test.YtpdaenldmgpkjaaGreatDoorDa
import Derived.Test.YtpdaenldmgpkjaaGreatDoorFrac6
import Derived.Test.YtpdaenldmgpkjaaGreatDoorFa
import Derived.Test.YtpdaenldmgpkjaaGreatDoorShelf
namespace Lead
open Go Go.RowKit
theorem bytes_below (w : World) (e : TypeId) (s : ByteArray) : Below w.heap.size w (Lib.bytesWorld w e s) := by
  unfold Lib.bytesWorld
  refine Below.trans (((Below.refl _ w).drew).alloc (Nat.le_refl _) (.cells (Lib.bytesCells w e s) e)) ?_
  unfold World.freeze
  rw [if_neg (by decide)]
  refine ⟨rfl, rfl, rfl, by simp, fun k hk => ?_⟩
  simp only [Array.getElem?_modify]
  rw [if_neg (by omega)]
/-- A call that answers a number and false. -/
def RetNF (w : World) (en : Ending) (w' : World) : Prop := ∃ v, en = .returned (.tuple #[.int .i64 v, .bool false]) ∧ Below w.heap.size w w'
theorem call_nf {P : Program} {f : FuncId} {args : Array Value} {w W : World} {R : Ending → World → Prop} (hB : Below w.heap.size w W)
    (h : Below w.heap.size w W → Calls P f args W (RetNF W))
    (k : ∀ v w1, Below w.heap.size w w1 → W.heap.size ≤ w1.heap.size → (∀ b o, b < W.heap.size → w1.cell? ⟨b, o, none⟩ = W.cell? ⟨b, o, none⟩) →
      (∀ b o, b < W.heap.size → w1.frozen? ⟨b, o, none⟩ = W.frozen? ⟨b, o, none⟩) → Below W.heap.size W w1 → R (.returned (.tuple #[.int .i64 v, .bool false])) w1) : Calls P f args W R :=
  (h hB).mono fun en w1 ⟨v, he, hb⟩ => by
    subst he
    exact k v w1 (hB.trans (hb.mono hB.size)) hb.size (bcell hb).1 (bcell hb).2 hb
theorem str_ne {a : List UInt8} {s : ByteArray} (h : a ≠ s.data.toList) : ((⟨a.toArray⟩ : ByteArray).toList == s.toList) = false := by
  rw [beq_eq_false_iff_ne, ByteArray.toList_eq, ByteArray.toList_eq]
  exact h
end Lead
namespace Go.Proofs.YtpdaenldmgpkjaaGreatDoor
open Go.RowKit Lead

/-- What strconv's and strings' functions ask of their own variables. -/
structure Libs (w : World) : Prop where
  syn : ∃ te pe, w.cell? ⟨15, 0, none⟩ = some (.iface te pe)
  ran : ∃ te pe, w.cell? ⟨16, 0, none⟩ = some (.iface te pe)
  len : ∃ m, w.cell? ⟨12, 0, none⟩ = some (.int .i64 m)
  tab : Lib.TabIs Tryz.prog w "internal/strconv.uint64pow10" .u64 Lib.pow10Tab
theorem Libs.keep {w w' : World} {B : Nat} (h : Libs w) (hb : Below B w w') (hB : B = w.heap.size) : Libs w' := by
  obtain ⟨⟨a, b, h1⟩, ⟨c, d, h2⟩, ⟨m, h3⟩, h4⟩ := h
  exact ⟨⟨a, b, gkeep hb h1 hB⟩, ⟨c, d, gkeep hb h2 hB⟩, ⟨m, gkeep hb h3 hB⟩, tab_keep h4 hb hB⟩

theorem atoi_ok (s : ByteArray) (v : Int) (w : World) (hs : s.size ≤ 100000) (h : Lib.atoiAll s.data.toList = .ok v) :
    Calls Tryz.prog 116 #[.string s] w fun e w' => e = .returned (.tuple #[.int .i64 v, .nilIface]) ∧ Below w.heap.size w w' :=
  (Tryz.strconv_Atoi_ok s (by omega) v h w).mono fun e w' ⟨h1, h2⟩ => ⟨h1, by
    rcases h2 with rfl | ⟨t, rfl⟩
    · exact Below.refl _ _
    · exact bytes_below _ _ _⟩
/-- A call that answers a number and an error that is one. -/
theorem atoi_bad (s : ByteArray) (w : World) (hs : s.size ≤ 100000) (hL : Libs w) (h : Lib.atoiAll s.data.toList = .«syntax» ∨ Lib.atoiAll s.data.toList = .range) :
    Calls Tryz.prog 116 #[.string s] w fun e w' => ∃ v t a, e = .returned (.tuple #[.int .i64 v, .iface t (.pointer (some a))]) ∧ Below w.heap.size w w' := by
  rcases h with h | h
  · obtain ⟨te, pe, hv⟩ := hL.syn
    exact (Tryz.strconv_Atoi_syntax s (by omega) h _ w hv (.inr ⟨te, pe, rfl⟩)).mono fun e w' ⟨N, h1, _, _, h4⟩ => ⟨_, _, _, h1, h4⟩
  · obtain ⟨te, pe, hv⟩ := hL.ran
    exact (Tryz.strconv_Atoi_range s (by omega) h _ w hv (.inr ⟨te, pe, rfl⟩)).mono fun e w' ⟨N, h1, _, _, h4⟩ => ⟨_, _, _, h1, h4⟩

set_option maxHeartbeats 1000000 in
theorem fnumber_yes (s : ByteArray) (n : Int) (w : World) (hs : s.size ≤ 100000) (hL : Libs w) (h : numS s.data.toList = some n) :
    Calls Tryz.prog 78 #[.string s] w fun e w' => e = .returned (.tuple #[.int .i64 n, .bool true]) ∧ Below w.heap.size w w' := by
  have h1 := numS_atoi h
  obtain ⟨h2, h3, h4, h5⟩ := numS_itoa h
  have h3' : (Lib.trimPrefix s.data.toList [45]).length ≤ 10 := h3
  obtain ⟨t, ht⟩ : ∃ t, Lib.trimPrefix s.data.toList [45] = t := ⟨_, rfl⟩
  rw [ht] at h3'
  have hn : I64 n := by unfold I64; omega
  have hse : (⟨(Lib.itoa n).toArray⟩ : ByteArray) = s := by rw [← h2]
  have g1 : (t.length : Int) ≤ 10 := by omega
  have H_hL := Lib.hid hL
  clear hL
  have H_h := Lib.hid h
  clear h
  have H_h1 := Lib.hid h1
  clear h1
  have H_h2 := Lib.hid h2
  clear h2
  have H_h3 := Lib.hid h3
  clear h3
  have H_ht := Lib.hid ht
  clear ht
  have H_hse := Lib.hid hse
  clear hse
  have H_hn := Lib.hid hn
  clear hn
  go_enter Tryz.func78, Tryz.ntmps78
  go_wp2_with fail
  refine call_bel (w := w) (by repeat' (first | (with_reducible first | exact bwR _ _ | assumption | refine bdn ?_ | refine bwA ?_ ?_ _ | refine bwD ?_ | refine bwS ?_ ?_ _) | omega | (simp <;> omega))) (fun HB => atoi_ok s n _ hs H_h1.out) ?_
  intro w1 hb1 hz1 c1 d1 hW1
  have t1 := hb1.size
  clear c1 d1 hz1 hW1
  go_wp2_with fail
  refine (Tryz.strings_TrimPrefix s ⟨#[45]⟩ _).mono ?_
  rintro _ _ ⟨rfl, rfl⟩
  rw [show (⟨#[45]⟩ : ByteArray).data.toList = [45] from rfl, H_ht.out]
  go_wp2_with fail
  refine call_bel (w := w) (by repeat' (first | (with_reducible first | exact bwR _ _ | assumption | refine bdn ?_ | refine bwA ?_ ?_ _ | refine bwD ?_ | refine bwS ?_ ?_ _) | omega | (simp <;> omega))) (fun HB => itoa_any n _ H_hn.out (H_hL.out.keep HB rfl).tab) ?_
  intro w2 hb2 hz2 c2 d2 hW2
  have t2 := hb2.size
  clear c2 d2 hz2 hW2
  rw [H_hse.out]
  go_wp2_with fail
  go_returns
  exact ⟨rfl, by repeat' (first | (with_reducible first | exact bwR _ _ | assumption | refine bdn ?_ | refine bwA ?_ ?_ _ | refine bwD ?_ | refine bwS ?_ ?_ _) | omega | (simp <;> omega))⟩

set_option maxHeartbeats 1000000 in
theorem fnumber_no (s : ByteArray) (w : World) (hs : s.size ≤ 100000) (hL : Libs w) (h : numS s.data.toList = none) :
    Calls Tryz.prog 78 #[.string s] w (RetNF w) := by
  rcases h0 : Lib.atoiAll s.data.toList with v | _ | _
  · obtain ⟨t, ht⟩ : ∃ t, Lib.trimPrefix s.data.toList [45] = t := ⟨_, rfl⟩
    have hb := Lib.atoiAll_bounds h0
    have hn : I64 v := hb
    by_cases hl : t.length ≤ 10
    · have hne : Lib.itoa v ≠ s.data.toList := by
        intro e
        have := numS_of e (by rw [ht]; exact hl)
        rw [h] at this; cases this
      have g1 : (t.length : Int) ≤ 10 := by omega
      have hq := str_ne hne
      obtain ⟨x, hx⟩ : ∃ x : ByteArray, (⟨(Lib.itoa v).toArray⟩ : ByteArray) = x := ⟨_, rfl⟩
      rw [hx] at hq
      have H_hL := Lib.hid hL
      clear hL
      have H_h := Lib.hid h
      clear h
      have H_h0 := Lib.hid h0
      clear h0
      have H_hb := Lib.hid hb
      clear hb
      have H_ht := Lib.hid ht
      clear ht
      have H_hne := Lib.hid hne
      clear hne
      have H_hx := Lib.hid hx
      clear hx
      have H_hn := Lib.hid hn
      clear hn
      go_enter Tryz.func78, Tryz.ntmps78
      go_wp2_with fail
      refine call_bel (w := w) (by repeat' (first | (with_reducible first | exact bwR _ _ | assumption | refine bdn ?_ | refine bwA ?_ ?_ _ | refine bwD ?_ | refine bwS ?_ ?_ _) | omega | (simp <;> omega))) (fun HB => atoi_ok s v _ hs H_h0.out) ?_
      intro w1 hb1 hz1 c1 d1 hW1
      have t1 := hb1.size
      clear c1 d1 hz1 hW1
      go_wp2_with fail
      refine (Tryz.strings_TrimPrefix s ⟨#[45]⟩ _).mono ?_
      rintro _ _ ⟨rfl, rfl⟩
      rw [show (⟨#[45]⟩ : ByteArray).data.toList = [45] from rfl, H_ht.out]
      go_wp2_with fail
      refine call_bel (w := w) (by repeat' (first | (with_reducible first | exact bwR _ _ | assumption | refine bdn ?_ | refine bwA ?_ ?_ _ | refine bwD ?_ | refine bwS ?_ ?_ _) | omega | (simp <;> omega))) (fun HB => itoa_any v _ H_hn.out (H_hL.out.keep HB rfl).tab) ?_
      intro w2 hb2 hz2 c2 d2 hW2
      have t2 := hb2.size
      clear c2 d2 hz2 hW2
      rw [H_hx.out]
      go_wp2_with fail
      go_returns
      exact ⟨v, rfl, by repeat' (first | (with_reducible first | exact bwR _ _ | assumption | refine bdn ?_ | refine bwA ?_ ?_ _ | refine bwD ?_ | refine bwS ?_ ?_ _) | omega | (simp <;> omega))⟩
    · have g1 : ¬ (t.length : Int) ≤ 10 := by omega
      have H_hL := Lib.hid hL
      clear hL
      have H_h := Lib.hid h
      clear h
      have H_h0 := Lib.hid h0
      clear h0
      have H_hb := Lib.hid hb
      clear hb
      have H_ht := Lib.hid ht
      clear ht
      have H_hn := Lib.hid hn
      clear hn
      go_enter Tryz.func78, Tryz.ntmps78
      go_wp2_with fail
      refine call_bel (w := w) (by repeat' (first | (with_reducible first | exact bwR _ _ | assumption | refine bdn ?_ | refine bwA ?_ ?_ _ | refine bwD ?_ | refine bwS ?_ ?_ _) | omega | (simp <;> omega))) (fun HB => atoi_ok s v _ hs H_h0.out) ?_
      intro w1 hb1 hz1 c1 d1 hW1
      have t1 := hb1.size
      clear c1 d1 hz1 hW1
      go_wp2_with fail
      refine (Tryz.strings_TrimPrefix s ⟨#[45]⟩ _).mono ?_
      rintro _ _ ⟨rfl, rfl⟩
      rw [show (⟨#[45]⟩ : ByteArray).data.toList = [45] from rfl, H_ht.out]
      go_wp2_with fail
      go_returns
      exact ⟨v, rfl, by repeat' (first | (with_reducible first | exact bwR _ _ | assumption | refine bdn ?_ | refine bwA ?_ ?_ _ | refine bwD ?_ | refine bwS ?_ ?_ _) | omega | (simp <;> omega))⟩
  all_goals
    have hbad : Lib.atoiAll s.data.toList = .«syntax» ∨ Lib.atoiAll s.data.toList = .range := by rw [h0]; simp
    have H_hL := Lib.hid hL
    clear hL
    have H_h := Lib.hid h
    clear h
    have H_h0 := Lib.hid h0
    clear h0
    have H_hbad := Lib.hid hbad
    clear hbad
    go_enter Tryz.func78, Tryz.ntmps78
    go_wp2_with fail
    refine (atoi_bad s _ hs H_hL.out H_hbad.out).mono ?_
    rintro _ w1 ⟨v, t, a, rfl, hb1⟩
    go_wp2_with fail
    go_returns
    exact ⟨v, rfl, by repeat' (first | (with_reducible first | exact bwR _ _ | assumption | refine bdn ?_ | refine bwA ?_ ?_ _ | refine bwD ?_ | refine bwS ?_ ?_ _) | omega | (simp <;> omega))⟩
end Go.Proofs.YtpdaenldmgpkjaaGreatDoor
