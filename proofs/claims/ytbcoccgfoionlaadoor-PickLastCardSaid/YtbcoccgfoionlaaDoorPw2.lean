/-
  Walks over package pick: All, where all fit.
-/
import Derived.Test.YtbcoccgfoionlaaDoorPw1
import Derived.Test.YtbcoccgfoionlaaDoorPkh
namespace Go.Proofs.YtbcoccgfoionlaaDoor
open Go.RowKit Go.WideMaps Go.Maps Lead Lead.Dc Lead.Pk
set_option maxHeartbeats 1000000 in
theorem allc_any (m : Int) (bd next : Nat) (F : Nat → Prop) (E : Els) (d : Nat → Nat) (TS TW : TypeId) (base B1 B2 : Nat) (o : Option Addr) (q c : Nat) (S : ByteArray) (l : List St) (n : Nat) (e : El) (w : World) (hD : DokG Tryd.prog TT w bd F E next d) (hat : ∀ n e, elAt E n = some e → ∀ a ∈ e.attrs, a.2.size ≤ 100000) (hm : w.cell? ⟨12, 0, none⟩ = some (.int .i64 m))
    (hv : SelOk TS TW base w (.slice o q c) l) (hl : l ≠ []) (he : elAt E n = some e) (hn : e.name ≠ ⟨#[]⟩)
    (h1 : w.cell? ⟨B1, 0, none⟩ = some (.slice o q c)) (h2 : w.cell? ⟨B1, 1, none⟩ = some (.string S)) (h3 : w.cell? ⟨B2, 0, none⟩ = some (.pointer (some ⟨bd, 0, none⟩))) :
    Calls Tryd.prog 36 #[.int .i64 (n : Int), .pointer (some ⟨B1, 0, none⟩), .pointer (some ⟨B2, 0, none⟩)] w fun en w' => en = .returned (.bool (!fitsL E l n)) ∧ Below w.heap.size w w' := by
  have cF := selfits_any m bd next F E d TS TW base (.slice o q c) S l n e w hD hat hm hv hl he hn
  obtain ⟨r, hr⟩ : ∃ u, fitsL E l n = u := ⟨_, rfl⟩
  rw [hr] at cF ⊢
  clear hD hm hv hat
  have H_cF := Lib.hid cF
  clear cF
  have H_hr := Lib.hid hr
  clear hr
  have H_hl := Lib.hid hl
  clear hl
  have H_he := Lib.hid he
  clear he
  have H_hn := Lib.hid hn
  clear hn
  go_enter Tryd.func36, Tryd.ntmps36
  go_wp2_with fail
  refine (H_cF.out).mono ?_
  rintro _ w1 ⟨rfl, hb1⟩
  go_wp2_with fail
  go_returns
  exact ⟨rfl, hb1⟩
set_option maxHeartbeats 1000000 in
theorem ixf_none (B1 B2 : Nat) (o : Option Addr) (n c : Nat) (L : List Nat) (w : World) (hS : SlA EIn w o n c L)
    (hp : ∀ W, Below w.heap.size w W → ∀ x ∈ L, Calls Tryd.prog 36 #[.int .i64 (x : Int), .pointer (some ⟨B1, 0, none⟩), .pointer (some ⟨B2, 0, none⟩)] W fun en w' => en = .returned (.bool false) ∧ Below W.heap.size W w') :
    Calls Tryd.prog 50 #[.slice o n c, .func (.func 36) #[] #[.pointer (some ⟨B1, 0, none⟩), .pointer (some ⟨B2, 0, none⟩)]] w fun en w' => en = .returned (.int .i64 (-1)) ∧ Below w.heap.size w w' := by
  have hmx : n ≤ 9223372036854775807 := by have h := hS.2.2.1; have h' := hS.2.1; unfold maxLen at h; omega
  have H_hS := Lib.hid hS
  clear hS
  have H_hp := Lib.hid hp
  clear hp
  go_enter Tryd.func50, Tryd.ntmps50
  go_wp2_with fail
  go_loopw [8] (fun t8 wr => ∃ k : Nat, k ≤ n ∧ t8 = .int .i64 k ∧ Below w.heap.size w wr) (fun t8 _ => n - (intOf t8).toNat)
  case atStart => exact ⟨0, Nat.zero_le _, rfl, Below.refl _ _⟩
  case round =>
    obtain ⟨k, hk, rfl, hB⟩ := hrel
    by_cases hlt : k < n
    · have hk' : k < L.length := by rw [← H_hS.out.1]; exact hlt
      obtain ⟨g, off, rfl, hgx, hrow⟩ := H_hS.out.2.2.2.resolve_left (by intro h; rw [h] at hk'; simp at hk')
      have q0 : wr.cell? ⟨g, off + k, none⟩ = some (.int .i64 (L[k] : Int)) := by
        have h := (hrow.keep hB hgx) k hk' 0 _ rfl
        simpa [EIn] using h
      have cP := H_hp.out wr hB _ (List.getElem_mem hk')
      obtain ⟨x, hx⟩ : ∃ u, L[k] = u := ⟨_, rfl⟩
      rw [hx] at q0 cP
      have gk : IntKind.i64.wrap ((k : Int) + 1) = ((k + 1 : Nat) : Int) := IntWalk.i64_in _ (by omega)
      clear hrow
      have H_cP := Lib.hid cP
      clear cP
      have H_hx := Lib.hid hx
      clear hx
      go_wp2_with fail
      refine (H_cP.out).mono ?_
      rintro _ w1 ⟨rfl, hb1⟩
      have hB1 : Below w.heap.size w w1 := below_via hB hb1
      clear hb1
      go_wp2_with fail
      go_roundw
      case rel => exact ⟨k + 1, by omega, by go_num, hB1⟩
      case measure => simp [intOf]; omega
    · obtain rfl : n = k := by omega
      go_wp2_with fail
      go_returns
      exact ⟨rfl, hB⟩
set_option maxHeartbeats 1000000 in
theorem dlf_none (B1 B2 : Nat) (o : Option Addr) (n c : Nat) (L : List Nat) (w : World) (hS : SlA EIn w o n c L)
    (hp : ∀ W, Below w.heap.size w W → ∀ x ∈ L, Calls Tryd.prog 36 #[.int .i64 (x : Int), .pointer (some ⟨B1, 0, none⟩), .pointer (some ⟨B2, 0, none⟩)] W fun en w' => en = .returned (.bool false) ∧ Below W.heap.size W w') :
    Calls Tryd.prog 35 #[.slice o n c, .func (.func 36) #[] #[.pointer (some ⟨B1, 0, none⟩), .pointer (some ⟨B2, 0, none⟩)]] w fun en w' => en = .returned (.slice o n c) ∧ Below w.heap.size w w' := by
  have cI := ixf_none B1 B2 o n c L w hS hp
  have H_cI := Lib.hid cI
  clear cI
  have H_hS := Lib.hid hS
  clear hS
  have H_hp := Lib.hid hp
  clear hp
  go_enter Tryd.func35, Tryd.ntmps35
  go_wp2_with fail
  refine (H_cI.out).mono ?_
  rintro _ w1 ⟨rfl, hb1⟩
  go_wp2_with fail
  go_returns
  exact ⟨rfl, hb1⟩
set_option maxHeartbeats 1000000 in
/-- All, where each element fits. -/
theorem pall_all (m : Int) (bd next : Nat) (F : Nat → Prop) (E : Els) (d : Nat → Nat) (TS TW : TypeId) (base : Nat) (o : Option Addr) (q c : Nat) (S : ByteArray) (l : List St) (w : World) (hD : DokG Tryd.prog TT w bd F E next d) (hat : ∀ n e, elAt E n = some e → ∀ a ∈ e.attrs, a.2.size ≤ 100000) (hm : w.cell? ⟨12, 0, none⟩ = some (.int .i64 m))
    (hv : SelOk TS TW base w (.slice o q c) l) (hl : l ≠ []) (hn : ∀ n e, elAt E n = some e → e.name ≠ ⟨#[]⟩) (hf : ∀ n e, elAt E n = some e → fitsL E l n = true) :
    Calls Tryd.prog 20 #[.pointer (some ⟨bd, 0, none⟩), .agg #[.slice o q c, .string S]] w fun en w' => (∃ o' c', en = .returned (.slice o' E.length c')) ∧ Below w.heap.size w w' := by
  have cA := fun (W : World) (hb : Below w.heap.size w W) => all_any bd next F E d W (hD.keep hb)
  have hel : ∀ x ∈ below E 10 0, ∃ e, elAt E x = some e := fun x hx => (hD.good.all_mem x).2 hx
  have hlen := hD.good.all_len
  have cP := fun (x : Nat) (hx : x ∈ below E 10 0) (B1 B2 : Nat) (W : World) (hb : Below w.heap.size w W) h1 h2 h3 => (hel x hx).elim fun e he => by
    have h := allc_any m bd next F E d TS TW base B1 B2 o q c S l x e W (hD.keep hb) hat (gkeep hb hm rfl) (hv.keep hb) hl he (hn x e he) h1 h2 h3
    rw [hf x e he] at h
    exact h
  have H_cA := Lib.hid cA
  clear cA
  have H_cP := Lib.hid cP
  clear cP
  have H_hel := Lib.hid hel
  clear hel
  have H_hlen := Lib.hid hlen
  clear hlen
  have H_hD := Lib.hid hD
  clear hD
  have H_hat := Lib.hid hat
  clear hat
  have H_hm := Lib.hid hm
  clear hm
  have H_hv := Lib.hid hv
  clear hv
  have H_hl := Lib.hid hl
  clear hl
  have H_hn := Lib.hid hn
  clear hn
  have H_hf := Lib.hid hf
  clear hf
  go_enter Tryd.func20, Tryd.ntmps20
  go_wp2_with fail
  refine (H_cA.out _ (by repeat' (first | (with_reducible first | exact bwR _ _ | assumption | refine bdn ?_ | refine bwA ?_ ?_ _ | refine bwD ?_ | refine bwS ?_ ?_ _) | omega | (simp <;> omega)))).mono ?_
  rintro _ w1 ⟨v, rfl, hv1, hb1⟩
  have hB1 : Below w.heap.size w w1 := below_via (by repeat' (first | (with_reducible first | exact bwR _ _ | assumption | refine bdn ?_ | refine bwA ?_ ?_ _ | refine bwD ?_ | refine bwS ?_ ?_ _) | omega | (simp <;> omega))) hb1
  have z1 : w.heap.size + 1 < w1.heap.size := Nat.lt_of_lt_of_le (by simp) hb1.size
  have b1 : w1.cell? ⟨w.heap.size + 1, 0, none⟩ = some (.slice o q c) := by
    have h := World.cell?_alloc_new (w.alloc (.cells #[.pointer (some ⟨bd, 0, none⟩)] 29)) #[.slice o q c, .string S] 46 0
    rw [World.size_alloc] at h
    exact gkeep hb1 h (by simp)
  have b2 : w1.cell? ⟨w.heap.size + 1, 1, none⟩ = some (.string S) := by
    have h := World.cell?_alloc_new (w.alloc (.cells #[.pointer (some ⟨bd, 0, none⟩)] 29)) #[.slice o q c, .string S] 46 1
    rw [World.size_alloc] at h
    exact gkeep hb1 h (by simp)
  have b3 : w1.cell? ⟨w.heap.size, 0, none⟩ = some (.pointer (some ⟨bd, 0, none⟩)) := by
    refine gkeep hb1 ?_ (by simp)
    exact (((Below.refl (w.heap.size + 1) (w.alloc (.cells #[.pointer (some ⟨bd, 0, none⟩)] 29))).alloc (by simp) _).cell (p := ⟨w.heap.size, 0, none⟩) (by simp)).trans (World.cell?_alloc_new _ _ _ _)
  obtain ⟨o', c', rfl⟩ := ow_form hv1
  have hS1 := sla_of hv1
  obtain ⟨L, hL⟩ : ∃ u, below E 10 0 = u := ⟨_, rfl⟩
  have hlen' := H_hlen.out
  have cP' := H_cP.out
  rw [hL] at hS1 hlen' cP' ⊢
  rw [hlen'] at hS1 ⊢
  have cD := dlf_none (w.heap.size + 1) w.heap.size o' E.length c' L w1 hS1 (fun W hb x hx => cP' x hx _ _ W (below_via hB1 hb) (gkeep hb b1 rfl) (gkeep hb b2 rfl) (gkeep hb b3 rfl))
  clear hb1 hv1 cP' hlen' b1 b2 H_cP H_cA
  have H_cD := Lib.hid cD
  clear cD
  have H_hS1 := Lib.hid hS1
  clear hS1
  have H_hL := Lib.hid hL
  clear hL
  go_wp2_with fail
  refine (H_cD.out).mono ?_
  rintro _ w2 ⟨rfl, hb2⟩
  have hB2 : Below w.heap.size w w2 := below_via hB1 hb2
  clear hb2
  go_wp2_with fail
  go_returns
  exact ⟨⟨_, _, rfl⟩, hB2⟩
end Go.Proofs.YtbcoccgfoionlaaDoor
