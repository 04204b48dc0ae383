/-
  Walks over package shape: Wind, Cross.
-/
import Derived.Test.YtpdaenldmgpkjaaGreatDoorShape6
import Derived.Test.YtpdaenldmgpkjaaGreatDoorPa
namespace Go.Proofs.YtpdaenldmgpkjaaGreatDoor
open Go.RowKit Lead

set_option maxHeartbeats 1000000 in
theorem shcross_any' (ea : Nat → Addr) (ps : List Pt) (oa : Option Addr) (len cap : Nat) (p : Pt) (w : World) (hs : SlP w oa len cap ps) (hpI : p.I) (hShape : w.cell? ⟨2, 0, none⟩ = some (.iface 308 (.pointer (some (ea 3))))) (hBound : w.cell? ⟨0, 0, none⟩ = some (.iface 308 (.pointer (some (ea 2))))) :
    Calls Tryz.prog 75 #[.agg #[.slice oa len cap], .agg #[.int .i64 p.xn, .int .i64 p.xd, .int .i64 p.yn, .int .i64 p.yd]] w (RetNE 308 119 ea (crC ps p) (crL ps p).length w) := by
  have zhShape := zlt hShape
  have xhShape := zlts hShape
  have yhShape := zne hShape
  have zhBound := zlt hBound
  have xhBound := zlts hBound
  have yhBound := zne hBound
  have hlb := (crL_bound ps p).2
  have H_hs := Lib.hid hs
  clear hs
  go_enter Tryz.func75, Tryz.ntmps75
  go_wp2_with fail
  refine call_le (w := w) (by repeat' (first | (with_reducible first | exact bwR _ _ | assumption | refine bdn ?_ | refine bwA ?_ ?_ _ | refine bwD ?_ | refine bwS ?_ ?_ _) | omega | (simp <;> omega))) (fun HB => shcrossings_any ea ps oa len cap p _ (H_hs.out.keep HB rfl) hpI (gkeep HB hShape rfl) (gkeep HB hBound rfl)) ?_
  intro v x w1 hx ho hb1 hz1 _
  simp only [World.size_alloc] at hx ho hz1
  rcases ho with ⟨ho1, ⟨rfl, ho2⟩ | ⟨g, cp, cur, rfl, ho2⟩⟩
  · have H_ho := Lib.hid ho2
    have H_hx := Lib.hid hx
    clear ho1 ho2 hx
    go_wp2_with fail
    go_returns
    exact ⟨_, by rw [H_ho.out]; rfl, H_hx.out.keep (Below.refl _ _) rfl (by omega), hb1⟩
  · have H_hx := Lib.hid hx
    clear ho1 ho2 hx
    go_wp2_with fail
    go_returns
    exact ⟨_, rfl, H_hx.out.keep (Below.refl _ _) rfl (by omega), hb1⟩

set_option maxHeartbeats 1000000 in
theorem shwind_any (ea : Nat → Addr) (ps : List Pt) (oa : Option Addr) (len cap : Nat) (p : Pt) (w : World) (hs : SlP w oa len cap ps) (hpI : p.I) (hShape : w.cell? ⟨2, 0, none⟩ = some (.iface 308 (.pointer (some (ea 3))))) (hBound : w.cell? ⟨0, 0, none⟩ = some (.iface 308 (.pointer (some (ea 2))))) :
    Calls Tryz.prog 46 #[.agg #[.slice oa len cap], .agg #[.int .i64 p.xn, .int .i64 p.xd, .int .i64 p.yn, .int .i64 p.yd]] w (RetNE 308 119 ea (crC ps p) (crL ps p).sum w) := by
  have zhShape := zlt hShape
  have xhShape := zlts hShape
  have yhShape := zne hShape
  have zhBound := zlt hBound
  have xhBound := zlts hBound
  have yhBound := zne hBound
  obtain ⟨hcb, hlb⟩ := crL_bound ps p
  obtain ⟨l, hl⟩ : ∃ l, crL ps p = l := ⟨_, rfl⟩
  rw [hl] at hcb hlb ⊢
  have H_hs := Lib.hid hs
  clear hs
  have H_hl := Lib.hid hl
  clear hl
  have H_hcb := Lib.hid hcb
  clear hcb
  go_enter Tryz.func46, Tryz.ntmps46
  go_wp2_with fail
  refine call_le (w := w) (by repeat' (first | (with_reducible first | exact bwR _ _ | assumption | refine bdn ?_ | refine bwA ?_ ?_ _ | refine bwD ?_ | refine bwS ?_ ?_ _) | omega | (simp <;> omega))) (fun HB => shcrossings_any ea ps oa len cap p _ (H_hs.out.keep HB rfl) hpI (gkeep HB hShape rfl) (gkeep HB hBound rfl)) ?_
  intro v x w1 hx ho hb1 hz1 _
  rw [H_hl.out] at ho
  simp only [World.size_alloc] at hx ho hz1
  have H_hx := Lib.hid hx
  clear hx
  rcases ho with ⟨ho1, ⟨rfl, ho2⟩ | ⟨g, cp, cur, rfl, ho2⟩⟩
  · have hl0 : l = [] := List.length_eq_zero_iff.1 ho2
    subst hl0
    clear ho1 ho2
    go_wp2_with fail
    refine wp_loop_rounds 1 ?_
    rw [rounds_succ]
    go_wp2_with fail
    go_returns
    exact ⟨_, rfl, H_hx.out.keep (Below.refl _ _) rfl (by omega), hb1⟩
  · have ho : w1.ownsRow (w.heap.size + 1 + 1) 3 1 (.slice (some ⟨g, 0, none⟩) l.length cp) l.length (l.map (Value.int .i64)) := ⟨ho1, .inr ⟨g, cp, cur, rfl, ho2⟩⟩
    have H_ho := Lib.hid ho
    clear ho ho1 ho2
    go_wp2_with fail
    go_loop [8, 19] (fun s i => ∃ k : Nat, k ≤ l.length ∧ i = .int .i64 k ∧ s = .int .i64 (l.take k).sum) (fun _ i => l.length - (intOf i).toNat)
    case atStart => exact ⟨0, Nat.zero_le _, rfl, rfl⟩
    case round =>
      obtain ⟨k, hk, rfl, rfl⟩ := hrel
      by_cases hlt : k < l.length
      · have hc : w1.cell? ⟨g, k, none⟩ = some (.int .i64 l[k]) := by
          rw [H_ho.out.cellAt k (by omega)]; simp [hlt]
        have hck := H_hcb.out _ (List.getElem_mem hlt)
        have hsb := sum_bound (l := l.take k) (fun c hc => H_hcb.out c (List.mem_of_mem_take hc))
        have hsl : (l.take k).length ≤ 30 := by rw [List.length_take]; omega
        have hss := sum_take_succ hlt
        generalize (l.take k).sum = s at *
        generalize l[k] = c at *
        have H_hss := Lib.hid hss
        clear hss
        have b1 : -30 ≤ s := by omega
        have b2 : s ≤ 30 := by omega
        clear hsb hsl
        go_wp2_with fail
        go_round
        case rel => exact ⟨k + 1, by omega, by go_num, by rw [H_hss.out]⟩
        case measure => simp [intOf]; omega
      · have hkl : k = l.length := by omega
        subst hkl
        go_wp2_with fail
        go_returns
        exact ⟨_, rfl, H_hx.out.keep (Below.refl _ _) rfl (by omega), hb1⟩
end Go.Proofs.YtpdaenldmgpkjaaGreatDoor
