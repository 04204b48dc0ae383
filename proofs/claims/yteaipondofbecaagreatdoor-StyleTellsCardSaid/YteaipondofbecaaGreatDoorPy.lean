/-
  Several texts as one: Pkf, Pkh.
-/
import Derived.Test.YteaipondofbecaaGreatDoorPke
import Derived.Test.YteaipondofbecaaGreatDoorPkg
/-
  Walks over package pick: Fits.
-/
namespace Go.Proofs.YteaipondofbecaaGreatDoor
open Go.RowKit Go.WideMaps Go.Maps Lead Lead.Dc Lead.Pk
set_option maxHeartbeats 4000000 in
set_option maxRecDepth 100000 in
theorem selfits_any (m : Int) (bd next : Nat) (F : Nat → Prop) (E : Els) (d : Nat → Nat) (TS TW : TypeId) (base : Nat) (v : Value) (S : ByteArray) (l : List St) (n : Nat) (e : El) (w : World) (hD : DokG Tryz.prog TT w bd F E next d) (hat : ∀ n e, elAt E n = some e → ∀ a ∈ e.attrs, a.2.size ≤ 100000) (hm : w.cell? ⟨12, 0, none⟩ = some (.int .i64 m))
    (hv : SelOk TS TW base w v l) (hl : l ≠ []) (he : elAt E n = some e) (hn : e.name ≠ ⟨#[]⟩) :
    Calls Tryz.prog 129 #[.agg #[v, .string S], .pointer (some ⟨bd, 0, none⟩), .int .i64 (n : Int)] w fun en w' => en = .returned (.bool (fitsL E l n)) ∧ Below w.heap.size w w' := by
  obtain ⟨xs, h1, h2, rfl⟩ := hv
  rcases h1.form with ⟨_, rfl⟩ | ⟨g, cap, rfl, _, hg, hc, hl', hr⟩
  · exact absurd rfl hl
  · have hpos : 0 < xs.length := by
      cases xs with
      | nil => exact absurd rfl hl
      | cons x r => simp
    have hS := sla_of h1
    have hcm : cap ≤ maxLen := hS.2.2.1
    have hn64 : I64 (n : Int) := i64_nat (by have := hD.good.lt n e he; have := hD.big; omega)
    have cN := fun (W : World) (hb : Below w.heap.size w W) => name_any bd next (n : Int) F E d W (hD.keep hb) hn64
    rw [nameZ_nat he] at cN
    have cF := fun (W : World) (hb : Below w.heap.size w W) => pfits_any m bd next F E d base TW g cap xs w hD hat hm hr hg h2 hc hcm (xs.length - 1) (by omega) n e W hb he
    rw [show xs.length - 1 + 1 = xs.length by omega, List.take_length] at cF
    obtain ⟨ans, hans⟩ : ∃ u, fitsR E (xs.map StX.st).reverse n = u := ⟨_, rfl⟩
    have hans' : fitsL E (xs.map StX.st) n = ans := hans
    rw [hans] at cF
    rw [hans']
    obtain ⟨k, hk⟩ : ∃ u, xs.length = u := ⟨_, rfl⟩
    rw [hk] at cF hpos ⊢
    have gk : (0 : Int) < (k : Int) := by omega
    have hnm : (e.name.toList == []) = false := by
      rw [beq_eq_false_iff_ne]
      intro h
      rw [ByteArray.toList_eq] at h
      exact hn (ByteArray.ext (Array.ext' h))
    obtain ⟨N, hN⟩ : ∃ u, e.name = u := ⟨_, rfl⟩
    rw [hN] at cN hnm
    have H_cN := Lib.hid cN
    clear cN
    have H_cF := Lib.hid cF
    clear cF
    have H_hans := Lib.hid hans
    clear hans
    have H_hans' := Lib.hid hans'
    clear hans'
    have H_hN := Lib.hid hN
    clear hN
    have H_hk := Lib.hid hk
    clear hk
    have H_hD := Lib.hid hD
    clear hD
    have H_hat := Lib.hid hat
    clear hat
    have H_hm := Lib.hid hm
    clear hm
    have H_hr := Lib.hid hr
    clear hr
    have H_h1 := Lib.hid h1
    clear h1
    have H_h2 := Lib.hid h2
    clear h2
    have H_hS := Lib.hid hS
    clear hS
    have H_hcm := Lib.hid hcm
    clear hcm
    have H_he := Lib.hid he
    clear he
    have H_hn64 := Lib.hid hn64
    clear hn64
    have H_hn := Lib.hid hn
    clear hn
    go_enter Tryz.func129, Tryz.ntmps129
    go_wp2_with fail
    refine (H_cN.out _ (by repeat' (first | (with_reducible first | exact bwR _ _ | assumption | refine bdn ?_ | refine bwA ?_ ?_ _ | refine bwD ?_ | refine bwS ?_ ?_ _) | omega | (simp <;> omega)))).mono ?_
    rintro _ w1 ⟨rfl, hb1⟩
    have hB1 : Below w.heap.size w w1 := below_via (by repeat' (first | (with_reducible first | exact bwR _ _ | assumption | refine bdn ?_ | refine bwA ?_ ?_ _ | refine bwD ?_ | refine bwS ?_ ?_ _) | omega | (simp <;> omega))) hb1
    have b0 : w1.cell? ⟨w.heap.size, 0, none⟩ = some (.slice (some ⟨g, 0, none⟩) k cap) := gkeep hb1 (World.cell?_alloc_new _ _ _ _) (by simp)
    clear hb1
    go_wp2_with fail
    refine (H_cF.out _ (by repeat' (first | (with_reducible first | exact bwR _ _ | assumption | refine bdn ?_ | refine bwA ?_ ?_ _ | refine bwD ?_ | refine bwS ?_ ?_ _) | omega | (simp <;> omega)))).mono ?_
    rintro _ w2 ⟨rfl, hb2⟩
    have hB2 : Below w.heap.size w w2 := below_via (by repeat' (first | (with_reducible first | exact bwR _ _ | assumption | refine bdn ?_ | refine bwA ?_ ?_ _ | refine bwD ?_ | refine bwS ?_ ?_ _) | omega | (simp <;> omega))) hb2
    clear hb2
    go_wp2_with fail
    go_returns
    exact ⟨by simp, hB2⟩
end Go.Proofs.YteaipondofbecaaGreatDoor

/-
  Walks over package pick: Text; the law's first lines: picked.
-/
namespace Go.Proofs.YteaipondofbecaaGreatDoor
open Go.RowKit Go.WideMaps Go.Maps Lead Lead.Dc Lead.Pk
theorem text_any (x : Value) (S : ByteArray) (w : World) :
    Calls Tryz.prog 84 #[.agg #[x, .string S], ] w fun en w' => en = .returned (.string S) ∧ Below w.heap.size w w' := by
  go_enter Tryz.func84, Tryz.ntmps84
  go_wp2_with fail
  go_returns
  exact ⟨rfl, by repeat' (first | (with_reducible first | exact bwR _ _ | assumption | refine bdn ?_ | refine bwA ?_ ?_ _ | refine bwD ?_ | refine bwS ?_ ?_ _) | omega | (simp <;> omega))⟩
end Go.Proofs.YteaipondofbecaaGreatDoor
