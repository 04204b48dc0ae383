/-
  Walks over the reference's selectors: stepOf, where its head is good.
-/
import Derived.Test.YteaipondofbecaaGreatDoorRb
import Derived.Test.YteaipondofbecaaGreatDoorRz
import Derived.Deep.CutBlock
namespace Lead.Rc
open Go Go.RowKit Lead Lead.Dc Lead.Pk
variable {T TW : TypeId} {w W W1 : World} {b5 : Nat} {nm : By} {v : Value} {A : List Wn}
theorem StpR.after {w3 : World} {v3 : Value} {x : Wn} (h : StpR T TW w W b5 nm v A) (hb : Below W.heap.size W W1) (hv : OwnR EWs w3 (b5 + 1) TW v3 (A ++ [x])) (hg : W1.grownBy w3 v.ownBlock) :
    StpR T TW w (w3.setCell ⟨b5, 1, none⟩ v3) b5 nm v3 (A ++ [x]) ∧ w3.cell? ⟨b5, 1, none⟩ = some v ∧ ∀ j, w3.frozen? ⟨b5, j, none⟩ = false := by
  have h' := h.step hb
  have hbb := (hg.block b5 h'.lt (fun e => by have := (h'.own.lt b5 e.symm).1; omega)).trans h'.box
  exact ⟨h'.app hv hg, Dc.hcell hbb rfl, fun _ => Dc.hfree hbb⟩
end Lead.Rc
namespace Go.Proofs.YteaipondofbecaaGreatDoor
open Go.RowKit Lead Lead.Dc Lead.Pk Lead.Rc
theorem infoTx : (Tryz.prog.info? 9).map (fun i => (i.zero, i.size, i.bytes)) = some (some (.string ⟨#[]⟩), 1, 16) := by kernel_rfl
set_option maxHeartbeats 8000000 in
set_option maxRecDepth 100000 in
theorem rstepof_good (S : ByteArray) (s : By) (hSs : S.data.toList = s) (w : World) (hs : S.size ≤ 100000) (hgood : ¬ badH s) :
    Calls Tryz.prog 166 #[.string S] w (StepRs 9 (stepP s) w) := by
  have hlen : s.length = S.size := by rw [← hSs]; simp
  obtain ⟨i0, hi, hz0, hz1, hz2⟩ := info_parts infoTx
  have H_hlen := Lib.hid hlen
  clear hlen
  have H_hSs := Lib.hid hSs
  clear hSs
  have H_hgood := Lib.hid hgood
  clear hgood
  have H_hi := Lib.hid hi
  clear hi
  have H_hz0 := Lib.hid hz0
  clear hz0
  have H_hz1 := Lib.hid hz1
  clear hz1
  have H_hz2 := Lib.hid hz2
  clear hz2
  go_enter Tryz.func166, Tryz.ntmps166
  go_upto_block 0 with fail
  go_cut [5] from 12 to 35 (fun s5 wx => s5 = .int .i64 ((headW s).length : Int) ∧ RowKit.Hid (∀ h : (headW s).length < s.length, isSg s[(headW s).length] = true) ∧ RowKit.Hid (S.extract 0 (headW s).length = bs (headW s) ∧ (headW s).length ≤ S.size ∧ tailW s = s.drop (headW s).length) ∧ RowKit.Hid (StpR 213 9 w wx (w.heap.size + 1) [] (.slice none 0 0) []))
  case first =>
    go_wp2_with fail
    go_loopw [5] (fun t5 wr => ∃ k : Nat, k ≤ S.size ∧ t5 = .int .i64 k ∧ RowKit.Hid (ScanTo (fun c => !isSg c) s 0 k) ∧ RowKit.Hid (StpR 213 9 w wr (w.heap.size + 1) [] (.slice none 0 0) [])) (fun t5 _ => S.size - (intOf t5).toNat)
    case atStart => exact ⟨0, Nat.zero_le _, rfl, Lib.hid (ScanTo.start _ _ _), Lib.hid (StpR.start0 _)⟩
    case round =>
      obtain ⟨k, hk, rfl, H_k, H_W⟩ := hrel
      by_cases hlt : k < S.size
      · have hkl : k < s.length := by have := H_hlen.out; omega
        obtain ⟨c, hc⟩ : ∃ c : UInt8, S[k] = c := ⟨_, rfl⟩
        have hcL : s[k] = c := by
          have h : S.data.toList[k] = c := hc
          simpa only [H_hSs.out] using h
        have gk : IntKind.i64.wrap ((k : Int) + 1) = ((k + 1 : Nat) : Int) := IntWalk.i64_in _ (by omega)
        by_cases h35 : c = 35
        · have g35 : ((c.toNat : Int) != 35) = false := by rw [h35]; rfl
          have hhd := scan_head H_k.out (by have := H_hlen.out; omega) (fun hl => by rw [hcL, h35]; decide)
          have hkl2 : (headW s).length = k := by rw [hhd.1, List.length_take]; have := H_hlen.out; omega
          have hsg : ∀ h : k < s.length, isSg s[k] = true := (fun hl => by rw [hcL, h35]; decide)
          have hex : S.extract 0 k = bs (headW s) := by rw [ext_list S 0 k (Nat.zero_le _), H_hSs.out, hhd.1]; rfl
          have H_hhd := Lib.hid hhd
          clear hhd
          have H_hsg := Lib.hid hsg
          clear hsg
          have H_hex := Lib.hid hex
          clear hex
          go_wp2_with fail
          go_meet
          rw [hkl2]
          exact ⟨rfl, H_hsg, Lib.hid ⟨H_hex.out, hk, H_hhd.out.2⟩, H_W⟩
        · have g35 : ((c.toNat : Int) != 35) = true := by
            rw [bne_iff_ne]; intro h; exact h35 (UInt8.toNat.inj (by show c.toNat = 35; omega))
          by_cases h46 : c = 46
          · have g46 : ((c.toNat : Int) != 46) = false := by rw [h46]; rfl
            have hhd := scan_head H_k.out (by have := H_hlen.out; omega) (fun hl => by rw [hcL, h46]; decide)
            have hkl2 : (headW s).length = k := by rw [hhd.1, List.length_take]; have := H_hlen.out; omega
            have hsg : ∀ h : k < s.length, isSg s[k] = true := (fun hl => by rw [hcL, h46]; decide)
            have hex : S.extract 0 k = bs (headW s) := by rw [ext_list S 0 k (Nat.zero_le _), H_hSs.out, hhd.1]; rfl
            have H_hhd := Lib.hid hhd
            clear hhd
            have H_hsg := Lib.hid hsg
            clear hsg
            have H_hex := Lib.hid hex
            clear hex
            go_wp2_with fail
            go_meet
            rw [hkl2]
            exact ⟨rfl, H_hsg, Lib.hid ⟨H_hex.out, hk, H_hhd.out.2⟩, H_W⟩
          · have g46 : ((c.toNat : Int) != 46) = true := by
              rw [bne_iff_ne]; intro h; exact h46 (UInt8.toNat.inj (by show c.toNat = 46; omega))
            by_cases h91 : c = 91
            · have g91 : ((c.toNat : Int) != 91) = false := by rw [h91]; rfl
              have hhd := scan_head H_k.out (by have := H_hlen.out; omega) (fun hl => by rw [hcL, h91]; decide)
              have hkl2 : (headW s).length = k := by rw [hhd.1, List.length_take]; have := H_hlen.out; omega
              have hsg : ∀ h : k < s.length, isSg s[k] = true := (fun hl => by rw [hcL, h91]; decide)
              have hex : S.extract 0 k = bs (headW s) := by rw [ext_list S 0 k (Nat.zero_le _), H_hSs.out, hhd.1]; rfl
              have H_hhd := Lib.hid hhd
              clear hhd
              have H_hsg := Lib.hid hsg
              clear hsg
              have H_hex := Lib.hid hex
              clear hex
              go_wp2_with fail
              go_meet
              rw [hkl2]
              exact ⟨rfl, H_hsg, Lib.hid ⟨H_hex.out, hk, H_hhd.out.2⟩, H_W⟩
            · have g91 : ((c.toNat : Int) != 91) = true := by
                rw [bne_iff_ne]; intro h; exact h91 (UInt8.toNat.inj (by show c.toNat = 91; omega))
              have hn := H_k.out.next hkl hcL (by simp [isSg, h35, h46, h91])
              have H_hn := Lib.hid hn
              clear hn
              go_wp2_with fail
              go_roundw
              case rel => exact ⟨k + 1, by omega, by go_num, H_hn, H_W⟩
              case measure => simp [intOf]; omega
      · have hhd := scan_head H_k.out (by have := H_hlen.out; omega) (fun hl => by have := H_hlen.out; omega)
        have hkl2 : (headW s).length = k := by rw [hhd.1, List.length_take]; have := H_hlen.out; omega
        have hsg : ∀ h : k < s.length, isSg s[k] = true := (fun hl => by have := H_hlen.out; omega)
        have hex : S.extract 0 k = bs (headW s) := by rw [ext_list S 0 k (Nat.zero_le _), H_hSs.out, hhd.1]; rfl
        have H_hhd := Lib.hid hhd
        clear hhd
        have H_hsg := Lib.hid hsg
        clear hsg
        have H_hex := Lib.hid hex
        clear hex
        go_wp2_with fail
        go_meet
        rw [hkl2]
        exact ⟨rfl, H_hsg, Lib.hid ⟨H_hex.out, hk, H_hhd.out.2⟩, H_W⟩
  case rest =>
    obtain ⟨rfl, H_sg, H_ex, H_W⟩ := hcut
    obtain ⟨wA, rfl⟩ : ∃ u, u = wc := ⟨_, rfl⟩
    obtain ⟨b5, hb5⟩ : ∃ u, w.heap.size + 1 = u := ⟨_, rfl⟩
    rw [hb5] at H_W ⊢
    obtain ⟨hex, hle, htl⟩ := H_ex.out
    obtain ⟨k, hk⟩ : ∃ u, (headW s).length = u := ⟨_, rfl⟩
    rw [hk] at hex hle htl H_sg ⊢
    have gk0 : (k : Int) ≤ (S.size : Int) := by omega
    obtain ⟨d0, d1, d2, a0, a1, a2, bf, af⟩ := H_W.out.f
    have hW2 := H_W.out.name (headW s)
    have hWf := hW2.f
    have cM := fun W => risname_any (bs (headW s)) W (by rw [show (bs (headW s)).size = (headW s).length from rfl, hk]; omega)
    rw [nmOk_bs, ← hex] at cM
    rw [← hex] at hWf hW2
    obtain ⟨e0, e1, e2, b0, b1, b2, ef, bf2⟩ := hWf
    obtain ⟨nb, hnb⟩ : ∃ u, nmL (headW s) = u := ⟨_, rfl⟩
    rw [hnb] at cM
    obtain ⟨A, hA⟩ : ∃ u, S.extract 0 k = u := ⟨_, rfl⟩
    rw [hA] at cM hW2 hex e0 e1 e2 b0 b1 b2
    clear H_ex
    have H_cM := Lib.hid cM
    clear cM
    have H_hex := Lib.hid hex
    clear hex
    have H_hW2 := Lib.hid hW2
    clear hW2
    have H_hnb := Lib.hid hnb
    clear hnb
    have H_hle := Lib.hid hle
    clear hle
    have H_htl := Lib.hid htl
    clear htl
    have H_hk := Lib.hid hk
    clear hk
    have H_hb5 := Lib.hid hb5
    clear hb5
    clear a0 a1 a2
    go_wp2_with fail
    try rw [hA]
    refine (H_cM.out _).mono ?_
    rintro _ w2 ⟨rfl, hb2⟩
    have hW3 := H_hW2.out.step hb2
    have hf3 := hW3.f
    rw [← H_hex.out] at hf3
    obtain ⟨d0, d1, d2, a0, a1, a2, bf3, af3⟩ := hf3
    clear hb2 e0 e1 e2 b0 b1 b2 ef bf2 d1 d2
    have H_hW3 := Lib.hid hW3
    clear hW3
    have hS0 : (S.toList == []) = decide (s = []) := by rw [ByteArray.toList_eq, H_hSs.out, Bool.eq_iff_iff]; simp
    have hA0 : (A.toList == []) = decide (headW s = []) := by rw [ByteArray.toList_eq, H_hex.out, bs_list, Bool.eq_iff_iff]; simp
    have hA42 : (A.toList == [42]) = decide (headW s = [42]) := by rw [ByteArray.toList_eq, H_hex.out, bs_list, Bool.eq_iff_iff]; simp
    have hs0 : s ≠ [] := fun h => H_hgood.out (.inl h)
    rw [decide_eq_false hs0] at hS0
    go_upto_region 7 with fail
    go_cut [58] from 43 to 58 (fun s58 wx => s58 = .bool false ∧ wx = w2)
    case first =>
      by_cases hn0 : headW s = []
      · rw [decide_eq_true hn0] at hA0
        clear hA42
        have H_hn0 := Lib.hid hn0
        clear hn0
        have H_hs0 := Lib.hid hs0
        clear hs0
        go_wp2_with fail
        go_meet
        exact ⟨rfl, rfl⟩
      · rw [decide_eq_false hn0] at hA0
        by_cases hn42 : headW s = [42]
        · rw [decide_eq_true hn42] at hA42
          have H_hn0 := Lib.hid hn0
          clear hn0
          have H_hs0 := Lib.hid hs0
          clear hs0
          have H_hn42 := Lib.hid hn42
          clear hn42
          go_wp2_with fail
          go_meet
          exact ⟨rfl, rfl⟩
        · rw [decide_eq_false hn42] at hA42
          have hn : nb = true := by
            rw [← H_hnb.out]
            cases h : nmL (headW s) with
            | true => rfl
            | false => exact absurd (.inr ⟨hn0, hn42, h⟩) H_hgood.out
          subst hn
          have H_hn0 := Lib.hid hn0
          clear hn0
          have H_hs0 := Lib.hid hs0
          clear hs0
          have H_hn42 := Lib.hid hn42
          clear hn42
          go_wp2_with fail
          go_meet
          exact ⟨rfl, rfl⟩
    case rest =>
      obtain ⟨rfl, hwx⟩ := hcut
      obtain rfl : wc = w2 := hwx
      obtain ⟨wB, rfl⟩ : ∃ u, u = wc := ⟨_, rfl⟩
      clear hS0 hA0 hA42 H_hW2 H_W H_cM H_hnb bf af gk0 d0 d1 d2
      obtain ⟨H, hH⟩ : ∃ u, headW s = u := ⟨_, rfl⟩
      rw [hH] at H_hW3
      have H_hs0 := Lib.hid hs0
      clear hs0
      have H_hH := Lib.hid hH
      clear hH
      go_wp2_with fail
      go_loopw [5, 7, 8, 9, 10] (fun t5 _ _ _ _ wr => ∃ (at' : Nat) (v : Value) (acc : List Wn), t5 = .int .i64 at' ∧ at' ≤ S.size ∧ acc.length ≤ 8 ∧ RowKit.Hid (WTo s acc (s.drop at')) ∧ RowKit.Hid (∀ h : at' < s.length, isSg s[at'] = true) ∧ RowKit.Hid (StpR 213 9 w wr b5 H v acc)) (fun t5 _ _ _ _ _ => S.size - (intOf t5).toNat)
      case atStart => exact ⟨k, _, [], rfl, H_hle.out, by simp, Lib.hid (by have h := WTo.start s; rw [H_htl.out] at h; exact h), H_sg, H_hW3⟩
      case round =>
        obtain ⟨i, v, acc, rfl, hi8, hacc, H_wt, H_si, H_W⟩ := hrel
        obtain ⟨ov, cv, rfl⟩ := Pk.ow_form H_W.out.own
        clear H_hle H_htl H_sg H_hk
        by_cases hlt : i < S.size
        · have hil : i < s.length := by have := H_hlen.out; omega
          have gi : IntKind.i64.wrap ((i : Int) + 1) = ((i + 1 : Nat) : Int) := IntWalk.i64_in _ (by omega)
          obtain ⟨c, hc⟩ : ∃ c : UInt8, S[i] = c := ⟨_, rfl⟩
          have hcL : s[i] = c := by
            have h : S.data.toList[i] = c := hc
            simpa only [H_hSs.out] using h
          have hdr : s.drop i = c :: s.drop (i + 1) := by rw [List.drop_eq_getElem_cons hil, hcL]
          have hcs : isSg c = true := by rw [← hcL]; exact H_si.out hil
          have hwt := H_wt.out
          rw [hdr] at hwt
          clear H_wt H_si
          have H_hwt := Lib.hid hwt
          clear hwt
          have H_hdr := Lib.hid hdr
          clear hdr
          have H_hcs := Lib.hid hcs
          clear hcs
          have H_hcL := Lib.hid hcL
          clear hcL
          go_upto_block 4 with fail
          go_cut [7] from 60 to 164 (fun s7 wx => ∃ k : Nat, s7 = .int .i64 k ∧ i + 1 ≤ k ∧ k ≤ S.size ∧ RowKit.Hid (headT (s.drop (i + 1)) = (s.take k).drop (i + 1) ∧ tailT (s.drop (i + 1)) = s.drop k) ∧ RowKit.Hid (StpR 213 9 w wx b5 H (.slice ov acc.length cv) acc))
          case first =>
            go_wp2_with fail
            go_loopw [7] (fun t7 wr => ∃ k : Nat, i + 1 ≤ k ∧ k ≤ S.size ∧ t7 = .int .i64 k ∧ RowKit.Hid (ScanTo (fun c => !isTr c) s (i + 1) k) ∧ RowKit.Hid (StpR 213 9 w wr b5 H (.slice ov acc.length cv) acc)) (fun t7 _ => S.size - (intOf t7).toNat)
            case atStart => exact ⟨i + 1, Nat.le_refl _, by omega, by go_num, Lib.hid (ScanTo.start _ _ _), H_W⟩
            case round =>
              obtain ⟨k, hk1, hk, rfl, H_k, H_W⟩ := hrel
              by_cases hlk : k < S.size
              · have hkl : k < s.length := by have := H_hlen.out; omega
                obtain ⟨e, he⟩ : ∃ e : UInt8, S[k] = e := ⟨_, rfl⟩
                have heL : s[k] = e := by
                  have h : S.data.toList[k] = e := he
                  simpa only [H_hSs.out] using h
                have gk : IntKind.i64.wrap ((k : Int) + 1) = ((k + 1 : Nat) : Int) := IntWalk.i64_in _ (by omega)
                by_cases h35 : e = 35
                · have g35 : ((e.toNat : Int) != 35) = false := by rw [h35]; rfl
                  have hwt := scan_want H_k.out hk1 (by have := H_hlen.out; omega) (fun hl => by rw [heL, h35]; decide)
                  have H_wt := Lib.hid hwt
                  clear hwt
                  go_wp2_with fail
                  go_meet
                  exact ⟨k, rfl, hk1, hk, H_wt, H_W⟩
                · have g35 : ((e.toNat : Int) != 35) = true := by
                    rw [bne_iff_ne]; intro h; exact h35 (UInt8.toNat.inj (by show e.toNat = 35; omega))
                  by_cases h46 : e = 46
                  · have g46 : ((e.toNat : Int) != 46) = false := by rw [h46]; rfl
                    have hwt := scan_want H_k.out hk1 (by have := H_hlen.out; omega) (fun hl => by rw [heL, h46]; decide)
                    have H_wt := Lib.hid hwt
                    clear hwt
                    go_wp2_with fail
                    go_meet
                    exact ⟨k, rfl, hk1, hk, H_wt, H_W⟩
                  · have g46 : ((e.toNat : Int) != 46) = true := by
                      rw [bne_iff_ne]; intro h; exact h46 (UInt8.toNat.inj (by show e.toNat = 46; omega))
                    by_cases h91 : e = 91
                    · have g91 : ((e.toNat : Int) != 91) = false := by rw [h91]; rfl
                      have hwt := scan_want H_k.out hk1 (by have := H_hlen.out; omega) (fun hl => by rw [heL, h91]; decide)
                      have H_wt := Lib.hid hwt
                      clear hwt
                      go_wp2_with fail
                      go_meet
                      exact ⟨k, rfl, hk1, hk, H_wt, H_W⟩
                    · have g91 : ((e.toNat : Int) != 91) = true := by
                        rw [bne_iff_ne]; intro h; exact h91 (UInt8.toNat.inj (by show e.toNat = 91; omega))
                      by_cases h93 : e = 93
                      · have g93 : ((e.toNat : Int) != 93) = false := by rw [h93]; rfl
                        have hwt := scan_want H_k.out hk1 (by have := H_hlen.out; omega) (fun hl => by rw [heL, h93]; decide)
                        have H_wt := Lib.hid hwt
                        clear hwt
                        go_wp2_with fail
                        go_meet
                        exact ⟨k, rfl, hk1, hk, H_wt, H_W⟩
                      · have g93 : ((e.toNat : Int) != 93) = true := by
                          rw [bne_iff_ne]; intro h; exact h93 (UInt8.toNat.inj (by show e.toNat = 93; omega))
                        have hn := H_k.out.next hkl heL (by simp [isTr, isSg, h35, h46, h91, h93])
                        have H_hn := Lib.hid hn
                        clear hn
                        go_wp2_with fail
                        go_roundw
                        case rel => exact ⟨k + 1, by omega, by omega, by go_num, H_hn, H_W⟩
                        case measure => simp [intOf]; omega
              · have hwt := scan_want H_k.out hk1 (by have := H_hlen.out; omega) (fun hl => by have := H_hlen.out; omega)
                have H_wt := Lib.hid hwt
                clear hwt
                go_wp2_with fail
                go_meet
                exact ⟨k, rfl, hk1, hk, H_wt, H_W⟩
          case rest =>
            obtain ⟨k, rfl, hk1, hk, H_ht, H_W⟩ := hcut
            obtain ⟨wE, rfl⟩ : ∃ u, u = wc := ⟨_, rfl⟩
            have hcl := scan_clos H_ht.out.2
            have hex : S.extract (i + 1) k = bs (headT (s.drop (i + 1))) := by rw [ext_list S (i + 1) k hk1, H_hSs.out, H_ht.out.1]; rfl
            have hez : S.extract i k = bs (c :: headT (s.drop (i + 1))) := by rw [ext_list S i k (by omega), H_hSs.out, H_ht.out.1, scan_text hil H_hcL.out hk1]; rfl
            have cM := fun W => risname_any (S.extract (i + 1) k) W (by rw [ByteArray.size_extract]; omega)
            rw [show nmOk (S.extract (i + 1) k) = nmL (headT (s.drop (i + 1))) by rw [hex, nmOk_bs]] at cM
            obtain ⟨r, hr⟩ : ∃ u, s.drop (i + 1) = u := ⟨_, rfl⟩
            rw [hr] at cM hez hcl
            rw [hr] at H_hwt H_hdr
            clear hex H_ht
            obtain ⟨nb2, hnb2⟩ : ∃ u, nmL (headT r) = u := ⟨_, rfl⟩
            rw [hnb2] at cM
            have g0 : (0 : Int) ≤ (i : Int) + 1 := by omega
            have g1 : (i : Int) + 1 ≤ (k : Int) := by omega
            have g2 : (k : Int) ≤ (S.size : Int) := by omega
            have g3 : (i : Int) ≤ (k : Int) := by omega
            have H_cM := Lib.hid cM
            clear cM
            have H_hez := Lib.hid hez
            clear hez
            have H_hcl := Lib.hid hcl
            clear hcl
            have H_hnb2 := Lib.hid hnb2
            clear hnb2
            have H_hr := Lib.hid hr
            clear hr
            go_wp2_with fail
            refine (H_cM.out _).mono ?_
            rintro _ w2 ⟨rfl, hb2⟩
            have hW2 := H_W.out.step hb2
            clear hb2 H_W
            have H_W := Lib.hid hW2
            clear hW2 H_cM
            obtain ⟨d0, d1, d2, a0, a1, a2, bf3, af3⟩ := H_W.out.f
            cases nb2 with
            | false =>
              have hP := H_hwt.out.stop (oneR_name H_hnb2.out)
              have H_hP := Lib.hid hP
              clear hP
              ((try go_simp); (repeat go_step))
              with_reducible refine bodyPost_ret (rres_step _ _ w.heap.size _ _ _ (.bool false) ?h2 ?h3 (three_set H_W.out.res _ _ _)) rfl ?_
              case h2 => simp
              case h3 => simp
              refine ⟨three_bel H_W.out.bel _ _ _, ?_⟩
              rw [H_hP.out]
            | true =>
              by_cases h8 : 8 ≤ acc.length
              · have g8 : (8 : Int) ≤ (acc.length : Int) := by omega
                have hP := H_hwt.out.full h8
                have H_hP := Lib.hid hP
                clear hP
                ((try go_simp); (repeat go_step))
                with_reducible refine bodyPost_ret (rres_step _ _ w.heap.size _ _ _ (.bool false) ?h2 ?h3 (three_set H_W.out.res _ _ _)) rfl ?_
                case h2 => simp
                case h3 => simp
                refine ⟨three_bel H_W.out.bel _ _ _, ?_⟩
                rw [H_hP.out]
              · have g8 : ¬ (8 : Int) ≤ (acc.length : Int) := by omega
                have hlt5 := H_W.out.lt
                go_upto_region 16 with fail
                go_cut [9] from 60 to 164 (fun s9 wx => ∃ (o7 : Option Addr) (c7 : Nat), s9 = .slice o7 (acc.length + 1) c7 ∧ RowKit.Hid (StpR 213 9 w (wx.setCell ⟨b5, 1, none⟩ (.slice o7 (acc.length + 1) c7)) b5 H (.slice o7 (acc.length + 1) c7) (acc ++ [⟨c, headT r⟩])) ∧ wx.cell? ⟨b5, 1, none⟩ = some (.slice ov acc.length cv) ∧ ∀ j, wx.frozen? ⟨b5, j, none⟩ = false)
                case first =>
                  go_wp2_with fail
                  go_region_law (((refine step_append_told rfl (.tmp 112) (.tmp 117) 134 rfl EWs (b5 + 1) 9 i0 _ 16 Tryz.underlying134 H_hi.out H_hz0.out H_hz1.out H_hz2.out rfl (by decide) (.slice ov acc.length cv) acc rfl _ 0 1 1 [⟨c, headT r⟩] rfl rfl ?a2 ?a3 ?a4 ?a5 ?_); (case a2 => show acc.length + 1 ≤ 1000000; omega); (case a3 => first | exact H_W.out.own.alloc _ | exact (H_W.out.own.keep (Below.refl _ _).drew).alloc _ | exact (H_W.out.own.alloc _).keep (Below.refl _ _).drew); (case a4 => first | exact row_one (vs := #[.string (S.extract i k)]) (by show [Value.string (S.extract i k)] = [Value.string (bs (c :: headT r))]; rw [H_hez.out]) (fun j => World.cell?_alloc_new _ _ _ _) | exact row_one (vs := #[.string (S.extract i k)]) (by show [Value.string (S.extract i k)] = [Value.string (bs (c :: headT r))]; rw [H_hez.out]) (fun j => by rw [World.cell?_drew]; exact World.cell?_alloc_new _ _ _ _)); (case a5 => simp; omega); intro v7 w7 hv7 hA7 hg7 ho7; have hend := StpR.after H_W.out (by repeat' (first | (with_reducible first | exact bwR _ _ | assumption | refine bdn ?_ | refine bwA ?_ ?_ _ | refine bwD ?_ | refine bwS ?_ ?_ _) | omega | (simp <;> omega))) hv7 hg7; obtain ⟨o7, c7, h7⟩ := Pk.ow_form hv7; rw [List.length_append, show ([_] : List Wn).length = 1 from rfl] at h7; subst h7; obtain ⟨hst, e7, f7⟩ := hend; have H_st := Lib.hid hst; clear hst hv7 hA7 hg7 ho7))
                  all_goals
                    go_wp2_with fail
                    go_meet
                    exact ⟨o7, c7, rfl, H_st, e7, f7⟩
                case rest =>
                  obtain ⟨o7, c7, rfl, H_st, e7, f7⟩ := hcut
                  obtain ⟨w7, rfl⟩ : ∃ u, u = wc := ⟨_, rfl⟩
                  clear d0 d1 d2 a0 a1 a2 bf3 af3 H_W
                  obtain ⟨cl, hce⟩ : ∃ u, closT r = u := ⟨_, rfl⟩
                  go_upto_region 18 with fail
                  go_cut [10] from 60 to 164 (fun s10 wx => s10 = .bool cl ∧ RowKit.Hid (StpR 213 9 w wx b5 H (.slice o7 (acc.length + 1) c7) (acc ++ [⟨c, headT r⟩])))
                  case first =>
                    have hcl1 := H_hcl.out.1
                    by_cases hlk : k < S.size
                    · have hkl : k < s.length := by have := H_hlen.out; omega
                      obtain ⟨e, he⟩ : ∃ e : UInt8, S[k] = e := ⟨_, rfl⟩
                      have heL : s[k] = e := by
                        have h : S.data.toList[k] = e := he
                        simpa only [H_hSs.out] using h
                      rw [List.getElem?_eq_getElem hkl, heL] at hcl1
                      by_cases h93 : e = 93
                      · have g93 : ((e.toNat : Int) == 93) = true := by rw [h93]; rfl
                        rw [decide_eq_true (by rw [h93])] at hcl1
                        obtain rfl : _ = cl := hcl1.symm.trans hce
                        have H_hcl1 := Lib.hid hcl1
                        clear hcl1
                        have H_heL := Lib.hid heL
                        clear heL
                        have H_hce := Lib.hid hce
                        clear hce
                        go_wp2_with fail
                        go_meet
                        exact ⟨rfl, H_st⟩
                      · have g93 : ((e.toNat : Int) == 93) = false := by
                          rw [beq_eq_false_iff_ne]; intro h; exact h93 (UInt8.toNat.inj (by show e.toNat = 93; omega))
                        rw [decide_eq_false (fun h => h93 (Option.some.inj h))] at hcl1
                        obtain rfl : _ = cl := hcl1.symm.trans hce
                        have H_hcl1 := Lib.hid hcl1
                        clear hcl1
                        have H_heL := Lib.hid heL
                        clear heL
                        have H_hce := Lib.hid hce
                        clear hce
                        go_wp2_with fail
                        go_meet
                        exact ⟨rfl, H_st⟩
                    · have hkl : s.length ≤ k := by have := H_hlen.out; omega
                      rw [List.getElem?_eq_none hkl] at hcl1
                      have hcl1 : closT r = false := by rw [hcl1]; rfl
                      obtain rfl : _ = cl := hcl1.symm.trans hce
                      have H_hcl1 := Lib.hid hcl1
                      clear hcl1
                      have H_hce := Lib.hid hce
                      clear hce
                      go_wp2_with fail
                      go_meet
                      exact ⟨rfl, H_st⟩
                  case rest =>
                    obtain ⟨rfl, H_W⟩ := hcut
                    obtain ⟨wF, rfl⟩ : ∃ u, u = wc := ⟨_, rfl⟩
                    obtain ⟨d0, d1, d2, a0, a1, a2, bf3, af3⟩ := H_W.out.f
                    obtain ⟨hcl1, hcl2⟩ := H_hcl.out
                    have hclk : closT r = true → k < S.size := fun h => by
                      rw [h] at hcl1
                      have h1 := (of_decide_eq_true hcl1.symm)
                      have := (List.getElem?_eq_some_iff.1 h1).1
                      have := H_hlen.out
                      omega
                    have hres : restT r = if closT r = true then s.drop (k + 1) else s.drop k := by
                      rw [hcl2, hcl1]
                      by_cases h : s[k]? = some 93
                      · rw [if_pos h, if_pos (decide_eq_true h)]
                      · rw [if_neg h, if_neg (by rw [decide_eq_false h]; decide)]
                    clear hcl1 hcl2 H_hcl H_hez
                    rw [hce] at hclk hres
                    obtain ⟨dd, hdd⟩ : ∃ u, decide (c = 91) = u := ⟨_, rfl⟩
                    have g91 : ((c.toNat : Int) == 91) = dd := by
                      rw [← hdd, Bool.eq_iff_iff, beq_iff_eq, decide_eq_true_eq]
                      exact ⟨fun h => UInt8.toNat.inj (by show c.toNat = 91; omega), fun h => by rw [h]; rfl⟩
                    by_cases hm : cl = dd
                    case neg =>
                      have hP := H_hwt.out.stop (oneR_clos (by rw [hce, hdd]; cases cl <;> cases dd <;> first | rfl | exact absurd rfl hm))
                      have H_hP := Lib.hid hP
                      clear hP
                      have H_hce := Lib.hid hce
                      clear hce
                      have H_hres := Lib.hid hres
                      clear hres
                      have H_hclk := Lib.hid hclk
                      clear hclk
                      have H_hdd := Lib.hid hdd
                      clear hdd
                      cases cl with
                      | false =>
                        cases dd with
                        | false => exact absurd rfl hm
                        | true =>
                          clear hm
                          ((try go_simp); (repeat go_step))
                          with_reducible refine bodyPost_ret (rres_step _ _ w.heap.size _ _ _ (.bool false) ?h2 ?h3 (three_set H_W.out.res _ _ _)) rfl ?_
                          case h2 => simp
                          case h3 => simp
                          refine ⟨three_bel H_W.out.bel _ _ _, ?_⟩
                          rw [H_hP.out]
                      | true =>
                        cases dd with
                        | true => exact absurd rfl hm
                        | false =>
                          clear hm
                          ((try go_simp); (repeat go_step))
                          with_reducible refine bodyPost_ret (rres_step _ _ w.heap.size _ _ _ (.bool false) ?h2 ?h3 (three_set H_W.out.res _ _ _)) rfl ?_
                          case h2 => simp
                          case h3 => simp
                          refine ⟨three_bel H_W.out.bel _ _ _, ?_⟩
                          rw [H_hP.out]
                    have hce' : closT r = decide (c = 91) := by rw [hce, hm, hdd]
                    obtain rfl : cl = dd := hm
                    have gne : (cl != cl) = false := bne_self_eq_false _
                    have H_hce := Lib.hid hce
                    clear hce
                    have H_hres := Lib.hid hres
                    clear hres
                    have H_hclk := Lib.hid hclk
                    clear hclk
                    have H_hdd := Lib.hid hdd
                    clear hdd
                    have H_hce' := Lib.hid hce'
                    clear hce'
                    go_upto_if 138 with fail
                    clear g91 gne
                    go_cut [7] from 60 to 164 (fun s7 wx => ∃ k' : Nat, s7 = .int .i64 k' ∧ i + 1 ≤ k' ∧ k' ≤ S.size ∧ RowKit.Hid (restT r = s.drop k') ∧ wx = wF)
                    case first =>
                      cases cl with
                      | true =>
                        have hk' := H_hclk.out rfl
                        have hres' := H_hres.out
                        rw [if_pos rfl] at hres'
                        have gk : IntKind.i64.wrap ((k : Int) + 1) = ((k + 1 : Nat) : Int) := IntWalk.i64_in _ (by omega)
                        have H_hres' := Lib.hid hres'
                        clear hres'
                        ((try go_simp); (repeat go_step))
                        go_meet
                        exact ⟨k + 1, by go_num, by omega, by omega, H_hres', rfl⟩
                      | false =>
                        have hres' := H_hres.out
                        rw [if_neg (by decide)] at hres'
                        have H_hres' := Lib.hid hres'
                        clear hres'
                        ((try go_simp); (repeat go_step))
                        go_meet
                        exact ⟨k, rfl, hk1, hk, H_hres', rfl⟩
                    case rest =>
                      obtain ⟨k', rfl, hk1', hk', H_re, hwx⟩ := hcut
                      obtain rfl : wc = wF := hwx
                      obtain ⟨wG, rfl⟩ : ∃ u, u = wc := ⟨_, rfl⟩
                      obtain ⟨hb, hhb⟩ : ∃ u, hdOk (restT r) = u := ⟨_, rfl⟩
                      go_upto_region 23 with fail
                      go_cut [162] from 60 to 164 (fun s162 wx => s162 = .bool (!hb) ∧ wx = wG)
                      case first =>
                        by_cases hlk : k' < S.size
                        · have hkl : k' < s.length := by have := H_hlen.out; omega
                          obtain ⟨e, he⟩ : ∃ e : UInt8, S[k'] = e := ⟨_, rfl⟩
                          have heL : s[k'] = e := by
                            have h : S.data.toList[k'] = e := he
                            simpa only [H_hSs.out] using h
                          have hhd : isSg e = hb := by rw [← hhb, H_re.out, hdOk_drop hkl, heL]
                          by_cases h35 : e = 35
                          · have g35 : ((e.toNat : Int) != 35) = false := by rw [h35]; rfl
                            obtain rfl : true = hb := by rw [← hhd, h35]; decide
                            have H_heL := Lib.hid heL
                            clear heL
                            have H_hhd := Lib.hid hhd
                            clear hhd
                            have H_hhb := Lib.hid hhb
                            clear hhb
                            have H_h35 := Lib.hid h35
                            clear h35
                            ((try go_simp); (repeat go_step))
                            go_meet
                            exact ⟨rfl, rfl⟩
                          · have g35 : ((e.toNat : Int) != 35) = true := by
                              rw [bne_iff_ne]; intro h; exact h35 (UInt8.toNat.inj (by show e.toNat = 35; omega))
                            by_cases h46 : e = 46
                            · have g46 : ((e.toNat : Int) != 46) = false := by rw [h46]; rfl
                              obtain rfl : true = hb := by rw [← hhd, h46]; decide
                              have H_heL := Lib.hid heL
                              clear heL
                              have H_hhd := Lib.hid hhd
                              clear hhd
                              have H_hhb := Lib.hid hhb
                              clear hhb
                              have H_h35 := Lib.hid h35
                              clear h35
                              have H_h46 := Lib.hid h46
                              clear h46
                              ((try go_simp); (repeat go_step))
                              go_meet
                              exact ⟨rfl, rfl⟩
                            · have g46 : ((e.toNat : Int) != 46) = true := by
                                rw [bne_iff_ne]; intro h; exact h46 (UInt8.toNat.inj (by show e.toNat = 46; omega))
                              by_cases h91' : e = 91
                              · have g91' : ((e.toNat : Int) != 91) = false := by rw [h91']; rfl
                                obtain rfl : true = hb := by rw [← hhd, h91']; decide
                                have H_heL := Lib.hid heL
                                clear heL
                                have H_hhd := Lib.hid hhd
                                clear hhd
                                have H_hhb := Lib.hid hhb
                                clear hhb
                                have H_h35 := Lib.hid h35
                                clear h35
                                have H_h46 := Lib.hid h46
                                clear h46
                                have H_h91' := Lib.hid h91'
                                clear h91'
                                ((try go_simp); (repeat go_step))
                                go_meet
                                exact ⟨rfl, rfl⟩
                              · have g91' : ((e.toNat : Int) != 91) = true := by
                                  rw [bne_iff_ne]; intro h; exact h91' (UInt8.toNat.inj (by show e.toNat = 91; omega))
                                obtain rfl : false = hb := by rw [← hhd]; simp [isSg, h35, h46, h91']
                                have H_heL := Lib.hid heL
                                clear heL
                                have H_hhd := Lib.hid hhd
                                clear hhd
                                have H_hhb := Lib.hid hhb
                                clear hhb
                                have H_h35 := Lib.hid h35
                                clear h35
                                have H_h46 := Lib.hid h46
                                clear h46
                                have H_h91' := Lib.hid h91'
                                clear h91'
                                ((try go_simp); (repeat go_step))
                                go_meet
                                exact ⟨rfl, rfl⟩
                        · have hkl : s.length ≤ k' := by have := H_hlen.out; omega
                          obtain rfl : true = hb := by rw [← hhb, H_re.out, hdOk_end hkl]
                          have H_hhb := Lib.hid hhb
                          clear hhb
                          ((try go_simp); (repeat go_step))
                          go_meet
                          exact ⟨rfl, rfl⟩
                      case rest =>
                        obtain ⟨rfl, hwx⟩ := hcut
                        obtain rfl : wc = wG := hwx
                        obtain ⟨wH, rfl⟩ : ∃ u, u = wc := ⟨_, rfl⟩
                        obtain ⟨d0, d1, d2, a0, a1, a2, bf3, af3⟩ := H_W.out.f
                        cases hb with
                        | false =>
                          have hP := H_hwt.out.stop (oneR_rest (c := c) hhb)
                          have H_hP := Lib.hid hP
                          clear hP
                          have H_hhb := Lib.hid hhb
                          clear hhb
                          ((try go_simp); (repeat go_step))
                          with_reducible refine bodyPost_ret (rres_step _ _ w.heap.size _ _ _ (.bool false) ?h2 ?h3 (three_set H_W.out.res _ _ _)) rfl ?_
                          case h2 => simp
                          case h3 => simp
                          refine ⟨three_bel H_W.out.bel _ _ _, ?_⟩
                          rw [H_hP.out]
                        | true =>
                          have hn := H_hwt.out.next (oneR_some H_hnb2.out H_hce'.out hhb)
                          rw [H_re.out] at hn
                          have hsg : ∀ h : k' < s.length, isSg s[k'] = true := fun h => by rw [← hdOk_drop h, ← H_re.out]; exact hhb
                          have H_hn := Lib.hid hn
                          clear hn
                          have H_hhb := Lib.hid hhb
                          clear hhb
                          have H_hsg := Lib.hid hsg
                          clear hsg
                          ((try go_simp); (repeat go_step))
                          go_roundw
                          case rel => exact ⟨k', _, acc ++ [⟨c, headT r⟩], rfl, hk', by simp; omega, H_hn, H_hsg, H_W⟩
                          case measure => simp [intOf]; omega
        · obtain rfl : i = S.size := by omega
          have hwt := H_wt.out
          rw [List.drop_eq_nil_of_le (by have := H_hlen.out; omega)] at hwt
          have hP := hwt.done hacc H_hgood.out
          rw [H_hH.out] at hP
          obtain ⟨d0, d1, d2, a0, a1, a2, bf3, af3⟩ := H_W.out.f
          clear H_wt H_si hwt
          have H_hP := Lib.hid hP
          clear hP
          ((try go_simp); (repeat go_step))
          with_reducible refine bodyPost_ret (rres_step _ _ w.heap.size _ _ _ (.bool true) ?h2 ?h3 (three_set H_W.out.res _ _ _)) rfl ?_
          case h2 => simp
          case h3 => simp
          refine ⟨three_bel H_W.out.bel _ _ _, ?_⟩
          rw [H_hP.out]
          exact ⟨_, rfl, H_W.out.done _ _ _⟩
end Go.Proofs.YteaipondofbecaaGreatDoor
