/-
  Walks over the statements' helpers: painted; asPieces as a slice of pieces.
-/
import Derived.Test.YtaidgecpglikpaaDoorPnT
import Derived.Test.YtaidgecpglikpaaDoorPn12
namespace Lead
open Go Go.RowKit
theorem slpc_own {w : World} {base : Nat} {e : TypeId} {v : Value} {l : List Pc} (h : OwnR EPc w base e v l) (hp : ∀ p ∈ l, SlP w p.oa p.len p.cap p.ps) : ∃ oa cap, v = .slice oa l.length cap ∧ SlPc w oa l.length cap l := by
  rcases h.form with ⟨rfl, rfl⟩ | ⟨g, cap, rfl, _, hg, hl, hm, hr⟩
  · exact ⟨none, 0, rfl, rfl, Nat.le_refl _, Nat.zero_le _, hp, .inl ⟨rfl, rfl, rfl⟩⟩
  · exact ⟨some ⟨g, 0, none⟩, cap, rfl, rfl, hl, hm, hp, .inr ⟨g, 0, rfl, hg, hr⟩⟩
end Lead
namespace Go.Proofs.YtaidgecpglikpaaDoor
open Go.RowKit Lead
theorem aspieces_any (l : List Pc) (oa : Option Addr) (len cap : Nat) (w : World) (hs : ArgPc w oa len cap l) (h8 : len ≤ 8) (h40 : ∀ p ∈ l, p.len ≤ 40) :
    Calls Tryd.prog 8 #[.slice oa len cap] w fun e w' => ∃ oa' cap' l', e = .returned (.slice oa' l'.length cap') ∧ SlPc w' oa' l'.length cap' l' ∧ l'.map Pc.k = l.map Pc.k ∧ Below w.heap.size w w' := by
  refine (aspieces_own l oa len cap w hs h8 h40).mono ?_
  rintro e w' ⟨v, l', rfl, hown, hin, hk, hB⟩
  obtain ⟨oa', cap', rfl, h⟩ := slpc_own hown (fun p hp => (hin p hp).1)
  exact ⟨oa', cap', l', rfl, h, hk, hB⟩
set_option maxHeartbeats 2000000 in
set_option maxRecDepth 100000 in
theorem painted_any (ea : Nat → Addr) (w : World) (hP : PGs ea w) :
    Calls Tryd.prog 5 #[] w fun e w' => e = .returned (.bool true) ∧ Below w.heap.size w w' := by
  have hs0 : SlPc w none 0 0 [] := ⟨rfl, Nat.le_refl _, Nat.zero_le _, (fun p hp => by cases hp), .inl ⟨rfl, rfl, rfl⟩⟩
  have hp0 := paint_ok ea [] none 0 0 2 1 w hs0 hP (by decide) (by decide) (by decide) (by decide) rfl
  have hc : cellsP (([] : List Pc).map Pc.k) 2 1 = [⟨#[46]⟩, ⟨#[46]⟩] := rfl
  rw [hc] at hp0
  have H_hp0 := Lib.hid hp0
  clear hp0
  go_enter Tryd.func5, Tryd.ntmps5
  go_wp2_with fail
  refine H_hp0.out.mono ?_
  rintro _ w1 ⟨g, cp, rfl, hg0, hg1, hcp, hrow, hB1⟩
  have t1 := hB1.size
  have ht : textT 2 [⟨#[46]⟩, ⟨#[46]⟩] 2 = [46, 46, 10] := by decide
  have H_hrow := Lib.hid hrow
  clear hrow
  go_wp2_with fail
  have HB : Below w1.heap.size w1 (w1.alloc (.cells #[.int .i64 2, .int .i64 1, .slice (some ⟨g, 0, none⟩) 2 cp] 27)) := (Below.refl _ _).alloc (Nat.le_refl _) _
  refine (text_any [⟨#[46]⟩, ⟨#[46]⟩] g 0 cp 2 1 _ (by decide) (by decide) (H_hrow.out.keep HB hg1) (by simp; omega) (by simp) (by intro s hs; simp at hs; subst hs; decide)).mono ?_
  rintro en w2 ⟨rfl, hb2⟩
  go_wp2_with fail
  go_returns
  exact ⟨by first | rfl | decide | simp [ht], (hB1.trans (HB.mono t1)).trans (hb2.mono (by simp; omega))⟩
end Go.Proofs.YtaidgecpglikpaaDoor
