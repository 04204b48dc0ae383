/-
  Walks: SameInts of two rows that are one; docked.
-/
import Derived.Test.YtbcoccgfoionlaaDoorDo8
namespace Lead.Dc
open Go Go.RowKit Go.Maps Lead
def ntA : NT := .mk ⟨#[97]⟩ none 0 0 [] none 0 0 []
theorem ntA_ok (w : World) : NodeOk w ntA := .mk ⟨rfl, Nat.le_refl _, by decide, .inl rfl⟩ ⟨rfl, Nat.le_refl _, by decide, .inl rfl⟩ (fun k hk => by cases hk)
theorem ntA_chk : (chkN ntA.rt 0 1).2 = 0 := by decide
theorem ntA_cnt : ntA.rt.cnt = 1 := by decide
theorem ntA_tree : treeE ntA.rt (-1) 0 = [(0, ⟨⟨#[97]⟩, [], -1, []⟩)] := rfl
theorem ntA_nm : nmOk ⟨#[98]⟩ = true := by decide
end Lead.Dc
namespace Go.Proofs.YtbcoccgfoionlaaDoor
open Go.RowKit Go.WideMaps Go.Maps Lead Lead.Dc
set_option maxHeartbeats 1000000 in
theorem docked_any (ea : Nat → Addr) (w : World) (hG : DGs ea w) :
    Calls Tryd.prog 6 #[] w fun e w' => e = .returned (.bool true) ∧ Below w.heap.size w w' := by
  have hnew := new_any ea ntA w (ntA_ok w) hG.toC
  have H_hG := Lib.hid hG
  clear hG
  have H_hnew := Lib.hid hnew
  clear hnew
  go_enter Tryd.func6, Tryd.ntmps6
  go_wp2_with fail
  refine H_hnew.out.mono ?_
  rintro en w1 ⟨hb1, hN⟩
  rw [if_pos ntA_chk] at hN
  obtain ⟨bd, F, d, rfl, hF, hD, _⟩ := hN
  rw [ntA_tree, ntA_cnt] at hD
  have t1 := hb1.size
  have hc : addC [(0, ⟨⟨#[97]⟩, [], -1, []⟩)] d 0 0 ⟨#[98]⟩ = 0 := by
    rw [show (0 : Int) = ((0 : Nat) : Int) from rfl, addC_el (pe := ⟨⟨#[97]⟩, [], -1, []⟩) rfl, if_neg (by simp), ntA_nm, if_neg (by simp), hD.good.d0, if_neg (by decide), if_neg (by simp)]
  have hadd := add_any ea bd 1 0 0 ⟨#[98]⟩ F _ d w1 hD (H_hG.out.keep hb1 rfl) (by decide) (by unfold I64; omega) (by unfold I64; omega)
  clear hD
  have H_hadd := Lib.hid hadd
  clear hadd
  have H_hc := Lib.hid hc
  clear hc
  have H_hF := Lib.hid hF
  clear hF
  go_wp2_with fail
  refine H_hadd.out.mono ?_
  rintro en w2 hA
  unfold AddIs at hA
  rw [if_pos H_hc.out] at hA
  obtain ⟨he, F2, hF2, hD2, hT2⟩ := hA
  have hb2 : Below w.heap.size w1 w2 := hT2.below t1 H_hF.out
  have he' : en = .returned (.tuple #[.int .i64 1, .nilIface]) := he
  subst he'
  have hD3 : DokG Tryd.prog TT w2 bd F2 [(0, ⟨⟨#[97]⟩, [], -1, [1]⟩), (1, ⟨⟨#[98]⟩, [], 0, []⟩)] 2 _ := hD2
  have hb2' : Below w.heap.size w w2 := hb1.trans hb2
  have t2 := hb2'.size
  have cC := fun (W : World) (hb : Below w2.heap.size w2 W) => count_any bd 2 F2 _ _ W (hD3.keep hb)
  have cP := fun (W : World) (hb : Below w2.heap.size w2 W) => parent_any bd 2 1 F2 _ _ W (hD3.keep hb) (by unfold I64; omega)
  have hbt : ((ByteArray.mk #[98]).toList == [98]) = true := by rw [ByteArray.toList_eq]; rfl
  have cN : ∀ (W : World), Below w2.heap.size w2 W → Calls Tryd.prog 12 #[.pointer (some ⟨bd, 0, none⟩), .int .i64 1] W fun e w' => e = .returned (.string ⟨#[98]⟩) ∧ Below W.heap.size W w' := fun (W : World) (hb : Below w2.heap.size w2 W) => name_any bd 2 1 F2 _ _ W (hD3.keep hb) (by unfold I64; omega)
  clear hD2 hD3 he hb2
  have H_cC := Lib.hid cC
  clear cC
  have H_cP := Lib.hid cP
  clear cP
  have H_cN := Lib.hid cN
  clear cN
  go_wp2_with fail
  refine (H_cC.out _ (by repeat' (first | (with_reducible first | exact bwR _ _ | assumption | refine bdn ?_ | refine bwA ?_ ?_ _ | refine bwD ?_ | refine bwS ?_ ?_ _) | omega | (simp <;> omega)))).mono ?_
  rintro _ w3 ⟨rfl, hb3⟩
  have hb3' : Below w2.heap.size w2 w3 := hb3
  clear hb3
  have t3 := hb3'.size
  go_wp2_with fail
  refine (H_cP.out _ (by repeat' (first | (with_reducible first | exact bwR _ _ | assumption | refine bdn ?_ | refine bwA ?_ ?_ _ | refine bwD ?_ | refine bwS ?_ ?_ _) | omega | (simp <;> omega)))).mono ?_
  rintro _ w4 ⟨rfl, hb4⟩
  have hb4' : Below w2.heap.size w2 w4 := below_via (by repeat' (first | (with_reducible first | exact bwR _ _ | assumption | refine bdn ?_ | refine bwA ?_ ?_ _ | refine bwD ?_ | refine bwS ?_ ?_ _) | omega | (simp <;> omega))) hb4
  clear hb4
  go_wp2_with fail
  refine (H_cN.out _ (by repeat' (first | (with_reducible first | exact bwR _ _ | assumption | refine bdn ?_ | refine bwA ?_ ?_ _ | refine bwD ?_ | refine bwS ?_ ?_ _) | omega | (simp <;> omega)))).mono ?_
  rintro _ w5 ⟨rfl, hb5⟩
  have hb5' : Below w.heap.size w w5 := hb2'.trans ((below_via hb4' hb5).mono t2)
  go_wp2_with fail
  go_returns
  exact ⟨rfl, by repeat' (first | (with_reducible first | exact bwR _ _ | assumption | refine bdn ?_ | refine bwA ?_ ?_ _ | refine bwD ?_ | refine bwS ?_ ?_ _) | omega | (simp <;> omega))⟩
end Go.Proofs.YtbcoccgfoionlaaDoor
