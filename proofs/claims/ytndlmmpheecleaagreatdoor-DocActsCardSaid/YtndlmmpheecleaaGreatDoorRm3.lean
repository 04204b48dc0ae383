/-
  Walks over the reference's document: Move.
-/
import Derived.Test.YtndlmmpheecleaaGreatDoorRm1
import Derived.Test.YtndlmmpheecleaaGreatDoorRm2
import Derived.Test.YtndlmmpheecleaaGreatDoorRk2
import Derived.Test.YtndlmmpheecleaaGreatDoorDz
namespace Lead.Rc
open Go Go.RowKit Lead Lead.Dc Lead.Pk
theorem movC_el {E : Els} {d : Nat → Nat} {a m : Nat} {i : Int} {e me : El} (ha : elAt E a = some e) (hm : elAt E m = some me) :
    movC E d (a : Int) (m : Int) i = if a = 0 then 3 else if m ∈ below E 10 a then 9 else if i < 0 ∨ ((if e.parent = (m : Int) then me.kids.length - 1 else me.kids.length : Nat) : Int) < i then 2 else if 10 < d m + high E 10 a then 8 else 0 := by
  unfold movC
  rw [if_pos (Int.natCast_nonneg a), if_pos (Int.natCast_nonneg m), Int.toNat_natCast, Int.toNat_natCast, ha, hm]
  dsimp only
  by_cases h0 : a = 0
  · rw [if_pos h0, if_pos (by omega)]
  · rw [if_neg h0, if_neg (by omega)]
/-- The children of the new parent, where an element is taken out. -/
theorem kids_off {E : Els} {next : Nat} {d : Nat → Nat} (g : Good E next d) {a m p : Nat} {e me pe : El} (ha : elAt E a = some e) (h0 : a ≠ 0) (hm : elAt E m = some me) (hp : e.parent = (p : Int)) (hpe : elAt E p = some pe) :
    (if e.parent = (m : Int) then me.kids.length - 1 else me.kids.length) = (if m = p then offK me.kids a else me.kids).length := by
  obtain ⟨q, qe, hq, hqe, hk⟩ := g.up a e ha h0
  obtain rfl : q = p := by rw [hp] at hq; omega
  rw [hqe] at hpe
  cases hpe
  rw [hp]
  by_cases hmp : m = q
  · subst hmp
    rw [if_pos rfl, if_pos rfl]
    rw [hqe] at hm
    cases hm
    have := offK_len (g.nd m _ hqe) hk
    omega
  · rw [if_neg (by omega), if_neg hmp]
end Lead.Rc
namespace Go.Proofs.YtndlmmpheecleaaGreatDoor
open Go.RowKit Lead Lead.Dc Lead.Pk Lead.Rc
set_option maxHeartbeats 4000000 in
set_option maxRecDepth 100000 in
theorem rmov_pre (base b : Nat) (v : Value) (l : List ReX) (E : Els) (next : Nat) (d : Nat → Nat) (z y i : Int) (w : World) (h : RDoc RT_ base w b v l) (hR : RelD l E next) (hnx : next ≤ 900000) (g : Lead.Dc.Good E next d) (hc : movC E d z y i = 5 ∨ movC E d z y i = 3 ∨ movC E d z y i = 9) :
    Calls Tryz.prog 17 #[.pointer (some ⟨b, 0, none⟩), .int .i64 z, .int .i64 y, .int .i64 i] w fun en w' => en = .returned (.int .i64 (movC E d z y i : Nat)) ∧ Below w.heap.size w w' := by
  have hlm : l.length ≤ 1000000 := by rw [hR.len]; omega
  have cH1 := rhas_any base b v l z w h hlm
  have cH2 := fun (W : World) (hW : Below w.heap.size w W) => rhas_any base b v l y W (h.keep hW) hlm
  rw [hR.has] at cH1
  cases hz : atZ E z with
  | none =>
    have hz' : (if 0 ≤ z then elAt E z.toNat else none) = none := hz
    have hC : movC E d z y i = 5 := by unfold movC; rw [hz']
    rw [hC]
    rw [hz'] at cH1
    obtain ⟨q, hq⟩ : ∃ q, hasR (l.map ReX.re) y = q := ⟨_, rfl⟩
    simp only [hq] at cH2
    have H_cH1 := Lib.hid cH1
    clear cH1
    have H_cH2 := Lib.hid cH2
    clear cH2
    have H_h := Lib.hid h
    clear h
    have H_hR := Lib.hid hR
    clear hR
    have H_hz := Lib.hid hz
    clear hz
    have H_hz' := Lib.hid hz'
    clear hz'
    have H_hC := Lib.hid hC
    clear hC
    have H_hc := Lib.hid hc
    clear hc
    have H_g := Lib.hid g
    clear g
    have H_hq := Lib.hid hq
    clear hq
    go_enter Tryz.func17, Tryz.ntmps17
    go_wp2_with fail
    refine (H_cH1.out).mono ?_
    rintro _ w1 ⟨rfl, hb1⟩
    have hB1 : Below w.heap.size w w1 := hb1
    clear hb1
    go_wp2_with fail
    refine (H_cH2.out _ hB1).mono ?_
    rintro _ w2 ⟨rfl, hb2⟩
    have hB2 : Below w.heap.size w w2 := below_via hB1 hb2
    clear hb2
    go_wp2_with fail
    go_returns
    exact ⟨rfl, by repeat' (first | (with_reducible first | exact bwR _ _ | assumption | refine bdn ?_ | refine bwA ?_ ?_ _ | refine bwD ?_ | refine bwS ?_ ?_ _) | omega | (simp <;> omega))⟩
  | some e =>
    obtain ⟨a, rfl, ha⟩ := atZ_some hz
    have hz' : (if (0 : Int) ≤ (a : Int) then elAt E (a : Int).toNat else none) = some e := hz
    rw [hz'] at cH1
    cases hy : atZ E y with
    | none =>
      have hy' : (if 0 ≤ y then elAt E y.toNat else none) = none := hy
      have hC : movC E d (a : Int) y i = 5 := by unfold movC; rw [hz', hy']
      rw [hC]
      have hq := hR.has y
      rw [hy'] at hq
      simp only [hq] at cH2
      have H_cH1 := Lib.hid cH1
      clear cH1
      have H_cH2 := Lib.hid cH2
      clear cH2
      have H_h := Lib.hid h
      clear h
      have H_hR := Lib.hid hR
      clear hR
      have H_hz := Lib.hid hz
      clear hz
      have H_hz' := Lib.hid hz'
      clear hz'
      have H_hC := Lib.hid hC
      clear hC
      have H_hc := Lib.hid hc
      clear hc
      have H_g := Lib.hid g
      clear g
      have H_hy := Lib.hid hy
      clear hy
      have H_hy' := Lib.hid hy'
      clear hy'
      have H_ha := Lib.hid ha
      clear ha
      have H_hq := Lib.hid hq
      clear hq
      go_enter Tryz.func17, Tryz.ntmps17
      go_wp2_with fail
      refine (H_cH1.out).mono ?_
      rintro _ w1 ⟨rfl, hb1⟩
      have hB1 : Below w.heap.size w w1 := hb1
      clear hb1
      go_wp2_with fail
      refine (H_cH2.out _ hB1).mono ?_
      rintro _ w2 ⟨rfl, hb2⟩
      have hB2 : Below w.heap.size w w2 := below_via hB1 hb2
      clear hb2
      go_wp2_with fail
      go_returns
      exact ⟨rfl, by repeat' (first | (with_reducible first | exact bwR _ _ | assumption | refine bdn ?_ | refine bwA ?_ ?_ _ | refine bwD ?_ | refine bwS ?_ ?_ _) | omega | (simp <;> omega))⟩
    | some me =>
      obtain ⟨m, rfl, hm⟩ := atZ_some hy
      have hy' : (if (0 : Int) ≤ (m : Int) then elAt E (m : Int).toNat else none) = some me := hy
      have hq := hR.has (m : Int)
      rw [hy'] at hq
      simp only [hq] at cH2
      have hel := movC_el (d := d) (i := i) ha hm
      by_cases h0 : a = 0
      · have g0 : ((a : Int) == 0) = true := by rw [h0]; rfl
        rw [if_pos h0] at hel
        rw [hel]
        have H_cH1 := Lib.hid cH1
        clear cH1
        have H_cH2 := Lib.hid cH2
        clear cH2
        have H_h := Lib.hid h
        clear h
        have H_hR := Lib.hid hR
        clear hR
        have H_hz := Lib.hid hz
        clear hz
        have H_hz' := Lib.hid hz'
        clear hz'
        have H_hel := Lib.hid hel
        clear hel
        have H_hc := Lib.hid hc
        clear hc
        have H_g := Lib.hid g
        clear g
        have H_hy := Lib.hid hy
        clear hy
        have H_hy' := Lib.hid hy'
        clear hy'
        have H_ha := Lib.hid ha
        clear ha
        have H_hm := Lib.hid hm
        clear hm
        have H_h0 := Lib.hid h0
        clear h0
        have H_hq := Lib.hid hq
        clear hq
        go_enter Tryz.func17, Tryz.ntmps17
        go_wp2_with fail
        refine (H_cH1.out).mono ?_
        rintro _ w1 ⟨rfl, hb1⟩
        have hB1 : Below w.heap.size w w1 := hb1
        clear hb1
        go_wp2_with fail
        refine (H_cH2.out _ hB1).mono ?_
        rintro _ w2 ⟨rfl, hb2⟩
        have hB2 : Below w.heap.size w w2 := below_via hB1 hb2
        clear hb2
        go_wp2_with fail
        go_returns
        exact ⟨rfl, by repeat' (first | (with_reducible first | exact bwR _ _ | assumption | refine bdn ?_ | refine bwA ?_ ?_ _ | refine bwD ?_ | refine bwS ?_ ?_ _) | omega | (simp <;> omega))⟩
      · have g0 : ((a : Int) == 0) = false := by rw [beq_eq_false_iff_ne]; omega
        rw [if_neg h0] at hel
        by_cases hb : m ∈ below E 10 a
        · rw [if_pos hb] at hel
          rw [hel]
          have cU := fun (W : World) (hW : Below w.heap.size w W) => runder_any base b v l E next d m a me e W (h.keep hW) g hR.par hm ha
          rw [decide_eq_true hb] at cU
          have H_cH1 := Lib.hid cH1
          clear cH1
          have H_cH2 := Lib.hid cH2
          clear cH2
          have H_h := Lib.hid h
          clear h
          have H_hR := Lib.hid hR
          clear hR
          have H_hz := Lib.hid hz
          clear hz
          have H_hz' := Lib.hid hz'
          clear hz'
          have H_hel := Lib.hid hel
          clear hel
          have H_hc := Lib.hid hc
          clear hc
          have H_g := Lib.hid g
          clear g
          have H_hy := Lib.hid hy
          clear hy
          have H_hy' := Lib.hid hy'
          clear hy'
          have H_ha := Lib.hid ha
          clear ha
          have H_hm := Lib.hid hm
          clear hm
          have H_h0 := Lib.hid h0
          clear h0
          have H_cU := Lib.hid cU
          clear cU
          have H_hb := Lib.hid hb
          clear hb
          have H_hq := Lib.hid hq
          clear hq
          go_enter Tryz.func17, Tryz.ntmps17
          go_wp2_with fail
          refine (H_cH1.out).mono ?_
          rintro _ w1 ⟨rfl, hb1⟩
          have hB1 : Below w.heap.size w w1 := hb1
          clear hb1
          go_wp2_with fail
          refine (H_cH2.out _ hB1).mono ?_
          rintro _ w2 ⟨rfl, hb2⟩
          have hB2 : Below w.heap.size w w2 := below_via hB1 hb2
          clear hb2
          go_wp2_with fail
          refine (H_cU.out _ hB2).mono ?_
          rintro _ w3 ⟨rfl, hb3⟩
          have hB3 : Below w.heap.size w w3 := below_via hB2 hb3
          clear hb3
          go_wp2_with fail
          go_returns
          exact ⟨rfl, by repeat' (first | (with_reducible first | exact bwR _ _ | assumption | refine bdn ?_ | refine bwA ?_ ?_ _ | refine bwD ?_ | refine bwS ?_ ?_ _) | omega | (simp <;> omega))⟩
        · rw [if_neg hb] at hel
          exfalso
          rw [hel] at hc
          have key : ∀ (P Q : Prop) [Decidable P] [Decidable Q], ((if P then 2 else if Q then 8 else 0 : Nat) = 5 ∨ (if P then 2 else if Q then 8 else 0 : Nat) = 3 ∨ (if P then 2 else if Q then 8 else 0 : Nat) = 9) → False := by
            intro P Q _ _ h
            by_cases hP : P <;> by_cases hQ : Q <;> simp [hP, hQ] at h
          exact key _ _ hc
end Go.Proofs.YtndlmmpheecleaaGreatDoor
