/-
  Walks over the document's answer to chapter 9: CellsText, ReachesOf.
-/
import Derived.Test.YtaidgecpglikpaaDoorPn2
import Derived.Test.YtaidgecpglikpaaDoorPnT
import Derived.Test.YtaidgecpglikpaaDoorRef5
import Derived.Test.YtaidgecpglikpaaDoorPn10
namespace Lead
open Go Go.RowKit
theorem ba_app (a b : ByteArray) : (a ++ b).data.toList = a.data.toList ++ b.data.toList := by simp
theorem ba_len (s : ByteArray) : s.size = s.data.toList.length := by rw [Array.length_toList]; rfl
theorem ba_eq {s : ByteArray} {l : List UInt8} (h : s.data.toList = l) : s = ⟨l.toArray⟩ := by
  cases s; rename_i a; cases a; simp at h; subst h; rfl
end Lead
namespace Go.Proofs.YtaidgecpglikpaaDoor
open Go.RowKit Lead
set_option maxHeartbeats 2000000 in
set_option maxRecDepth 100000 in
theorem cellstext_any (cs : List ByteArray) (v : Value) (n : Nat) (base : Nat) (w : World) (h1 : 1 ≤ n) (h40 : n ≤ 40) (hown : OwnR ESt w base 9 v cs) (hlen : cs.length ≤ 100000) (hall : ∀ s ∈ cs, s.size ≤ 1000) :
    Calls Tryd.prog 15 #[v, .int .i64 n] w fun e w' => e = .returned (.string ⟨(textT n cs cs.length).toArray⟩) ∧ Below w.heap.size w w' := by
  obtain ⟨oa, cap, rfl, hrow⟩ : ∃ oa cap, v = .slice oa cs.length cap ∧ (cs = [] ∨ ∃ g, oa = some ⟨g, 0, none⟩ ∧ g < w.heap.size ∧ RowIn ESt w g 0 cs) := by
    rcases hown.form with ⟨rfl, rfl⟩ | ⟨g, cap, rfl, _, hg, _, _, hr⟩
    · exact ⟨none, 0, rfl, .inl rfl⟩
    · exact ⟨_, cap, rfl, .inr ⟨g, rfl, hg, hr⟩⟩
  have hn0 : ((n : Int) == 0) = false := by rw [beq_eq_false_iff_ne]; omega
  have hnp : decide (0 < (n : Int)) = true := by simp; omega
  clear hown
  have H_hrow := Lib.hid hrow
  clear hrow
  have H_hall := Lib.hid hall
  clear hall
  go_enter Tryd.func15, Tryd.ntmps15
  go_wp2_with fail
  go_loopw [5, 6] (fun t5 t6 wr => ∃ (k : Nat) (o : ByteArray), k ≤ cs.length ∧ t5 = .string o ∧ t6 = .int .i64 k ∧ o.data.toList = textT n cs k ∧ Below w.heap.size w wr) (fun _ t6 _ => cs.length - (intOf t6).toNat)
  case atStart => exact ⟨0, _, Nat.zero_le _, rfl, rfl, rfl, by repeat' (first | (with_reducible first | exact bwR _ _ | assumption | refine bdn ?_ | refine bwA ?_ ?_ _ | refine bwD ?_ | refine bwS ?_ ?_ _) | omega | (simp <;> omega))⟩
  case round =>
    obtain ⟨k, o, hk, rfl, rfl, ho, hB⟩ := hrel
    have hzr := hB.size
    have htl := textT_len n cs k
    have hos : o.size ≤ 200000 := by rw [ba_len, ho]; omega
    by_cases hlt : k < cs.length
    · obtain ⟨g, rfl, hg, hr⟩ : ∃ g, oa = some ⟨g, 0, none⟩ ∧ g < w.heap.size ∧ RowIn ESt w g 0 cs := by
        rcases H_hrow.out with h | h
        · rw [h] at hlt; exact absurd hlt (by simp)
        · exact h
      have q0 : wr.cell? ⟨g, k, none⟩ = some (.string cs[k]) := by
        have h := (hr.keep hB hg) k hlt 0 _ rfl
        simpa [ESt] using h
      have hss := H_hall.out _ (List.getElem_mem hlt)
      have hgd : cs.getD k ⟨#[]⟩ = cs[k] := by rw [List.getD_eq_getElem?_getD, List.getElem?_eq_getElem hlt]; rfl
      obtain ⟨s, hs⟩ : ∃ s, cs[k] = s := ⟨_, rfl⟩
      rw [hs] at q0 hss hgd
      have hk1 : IntKind.i64.wrap ((k : Int) + 1) = ((k + 1 : Nat) : Int) := IntWalk.i64_in _ (by omega)
      obtain ⟨e, he⟩ : ∃ e, (s.toList == ([] : List UInt8)) = e := ⟨_, rfl⟩
      obtain ⟨nl, hnl⟩ : ∃ e, (((k : Int) + 1) % (n : Int) == 0) = e := ⟨_, rfl⟩
      have hov1 : ¬ 9223372036854775807 < o.size + 1 := by omega
      clear hr hs
      have H_ho := Lib.hid ho
      clear ho
      have H_hgd := Lib.hid hgd
      clear hgd
      have hst : ∀ (c : List UInt8), c = (if (k + 1) % n = 0 then [10] else []) → textT n cs (k + 1) = textT n cs k ++ (headB s :: c) := fun c hc => by
        show textT n cs k ++ (headB (cs.getD k ⟨#[]⟩) :: if (k + 1) % n = 0 then [10] else []) = _
        rw [H_hgd.out, hc]
      have hnl1 : nl = true → (k + 1) % n = 0 := fun h => by
        rw [← hnl, beq_iff_eq] at h; exact_mod_cast h
      have hnl2 : nl = false → ¬ (k + 1) % n = 0 := fun h => by
        rw [← hnl, beq_eq_false_iff_ne] at h; exact_mod_cast h
      cases e with
      | true =>
        have hs0 : s.data.toList = [] := by
          have h := eq_of_beq he
          rwa [ByteArray.toList_eq] at h
        have hh : headB s = 63 := by unfold headB; rw [hs0]; rfl
        have hov2 : ¬ 9223372036854775807 < o.size + 1 + 1 := by omega
        cases nl with
        | true =>
          have hd := hst [10] (if_pos (hnl1 rfl)).symm
          rw [hh] at hd
          clear hst
          have H_hd := Lib.hid hd
          clear hd
          go_wp2_with fail
          go_roundw
          case rel => exact ⟨k + 1, _, by omega, rfl, by go_num, by rw [ba_app, ba_app, H_ho.out, H_hd.out]; simp, hB⟩
          case measure => simp [intOf]; omega
        | false =>
          have hd := hst [] (if_neg (hnl2 rfl)).symm
          rw [hh] at hd
          clear hst
          have H_hd := Lib.hid hd
          clear hd
          go_wp2_with fail
          go_roundw
          case rel => exact ⟨k + 1, _, by omega, rfl, by go_num, by rw [ba_app, H_ho.out, H_hd.out], hB⟩
          case measure => simp [intOf]; omega
      | false =>
        have hne : s.data.toList ≠ [] := fun h0 => by
          have h := he
          rw [ByteArray.toList_eq, h0] at h; exact absurd h (by decide)
        have hpos : 1 ≤ s.size := by
          rw [ba_len]
          cases h : s.data.toList with
          | nil => exact absurd h hne
          | cons a r => simp
        have hx : (s.extract 0 1).data.toList = [headB s] := by
          have e : (s.extract 0 1).data.toList = s.data.toList.take 1 := by simp [ByteArray.extract, ByteArray.copySlice]
          rw [e]
          unfold headB
          cases h : s.data.toList with
          | nil => exact absurd h hne
          | cons a r => rfl
        have hxs : (s.extract 0 1).size = 1 := by rw [ba_len, hx]; rfl
        have hov2 : ¬ 9223372036854775807 < o.size + 1 + 1 := by omega
        have hov3 : ¬ 9223372036854775807 < o.size + (s.extract 0 1).size := by omega
        have hov4 : ¬ 9223372036854775807 < o.size + (s.extract 0 1).size + 1 := by omega
        have H_hx := Lib.hid hx
        clear hx
        cases nl with
        | true =>
          have hd := hst [10] (if_pos (hnl1 rfl)).symm
          clear hst
          have H_hd := Lib.hid hd
          clear hd
          go_wp2_with fail
          go_roundw
          case rel => exact ⟨k + 1, _, by omega, rfl, by go_num, by rw [ba_app, ba_app, H_ho.out, H_hd.out, H_hx.out]; simp, hB⟩
          case measure => simp [intOf]; omega
        | false =>
          have hd := hst [] (if_neg (hnl2 rfl)).symm
          clear hst
          have H_hd := Lib.hid hd
          clear hd
          go_wp2_with fail
          go_roundw
          case rel => exact ⟨k + 1, _, by omega, rfl, by go_num, by rw [ba_app, H_ho.out, H_hd.out, H_hx.out], hB⟩
          case measure => simp [intOf]; omega
    · obtain rfl : k = cs.length := by omega
      have e := ba_eq ho
      subst e
      clear ho
      go_wp2_with fail
      go_returns
      exact ⟨rfl, hB⟩
set_option maxHeartbeats 2000000 in
set_option maxRecDepth 100000 in
theorem rreaches_any (ps : List Pt) (oa : Option Addr) (len cap : Nat) (y : Nat) (b : Bool) (w : World) (hs : SlQ w oa len cap ps) (hlen : len ≤ 1000) (hR : ∀ q ∈ ps, Right q.yn q.yd) (hy : y < 40) (hb : rcB ps (mid y) = b) :
    Calls Tryd.prog 19 #[.slice oa len cap, .int .i64 y] w fun e w' => e = .returned (.bool b) ∧ Below w.heap.size w w' := by
  have hl : len = ps.length := hs.len
  have hcase : ps = [] ∨ ∃ b off, oa = some ⟨b, off, none⟩ ∧ b < w.heap.size ∧ PtsIn w b off ps := by
    rcases hs with ⟨h1, _, _, _, h5⟩ | ⟨_, h⟩
    · rcases h5 with ⟨_, h, _⟩ | h
      · exact .inl (List.length_eq_zero_iff.1 (h1.symm.trans h))
      · exact .inr h
    · exact .inl h
  have hmid : Right (2 * (y : Int) + 1) 2 := chk_0 (mk_mid y hy).2.2.2
  have i1 : IntKind.i64.wrap (2 * (y : Int)) = 2 * (y : Int) := IntWalk.i64_in _ (by omega)
  have i2 : IntKind.i64.wrap (2 * (y : Int) + 1) = 2 * (y : Int) + 1 := IntWalk.i64_in _ (by omega)
  clear hs
  have H_hl := Lib.hid hl
  clear hl
  have H_hR := Lib.hid hR
  clear hR
  have H_hb := Lib.hid hb
  clear hb
  have H_hcase := Lib.hid hcase
  clear hcase
  have H_hmid := Lib.hid hmid
  clear hmid
  go_enter Tryd.func19, Tryd.ntmps19
  go_wp2_with fail
  go_loopw [5, 6, 7] (fun t5 t6 t7 wr => ∃ (k : Nat) (u o : Bool), k ≤ len ∧ t5 = .bool u ∧ t6 = .bool o ∧ t7 = .int .i64 k ∧ u = (ps.take k).any (fun q => decide (q.yn * (mid y).d ≤ (mid y).n * q.yd)) ∧ o = (ps.take k).any (fun q => decide ((mid y).n * q.yd ≤ q.yn * (mid y).d)) ∧ Below w.heap.size w wr) (fun _ _ t7 _ => len - (intOf t7).toNat)
  case atStart => exact ⟨0, false, false, Nat.zero_le _, rfl, rfl, rfl, by simp, by simp, Below.refl _ _⟩
  case round =>
    obtain ⟨k, u, o, hk, rfl, rfl, rfl, hu, ho, hB⟩ := hrel
    have hzr := hB.size
    by_cases hlt : k < len
    · have hk' : k < ps.length := by have := H_hl.out; omega
      obtain ⟨b', off, rfl, hbl, hp⟩ : ∃ b off, oa = some ⟨b, off, none⟩ ∧ b < w.heap.size ∧ PtsIn w b off ps := by
        rcases H_hcase.out with h | h
        · rw [h] at hk'; exact absurd hk' (by simp)
        · exact h
      have q2 := gkeep hB (hp.c2 k hk') rfl
      have q3 := gkeep hB (hp.c3 k hk') rfl
      have hRk := H_hR.out _ (List.getElem_mem hk')
      have hu' := any_take (fun q : Pt => decide (q.yn * (mid y).d ≤ (mid y).n * q.yd)) hk'
      have ho' := any_take (fun q : Pt => decide ((mid y).n * q.yd ≤ q.yn * (mid y).d)) hk'
      rw [← hu] at hu'
      rw [← ho] at ho'
      obtain ⟨q, hq⟩ : ∃ q, ps[k] = q := ⟨_, rfl⟩
      rw [hq] at q2 q3 hRk hu' ho'
      obtain ⟨xn, xd, yn, yd⟩ := q
      simp only [mid] at q2 q3 hRk hu' ho'
      obtain ⟨c, hc⟩ : ∃ c, cmpI (yn * 2) ((2 * (y : Int) + 1) * yd) = c := ⟨_, rfl⟩
      have hcc := cmpI_cases (yn * 2) ((2 * (y : Int) + 1) * yd)
      rw [hc] at hcc
      clear hu ho hp hq
      have H_hc := Lib.hid hc
      clear hc
      have H_hRk := Lib.hid hRk
      clear hRk
      have H_hu' := Lib.hid hu'
      clear hu'
      have H_ho' := Lib.hid ho'
      clear ho'
      have H_hcc := Lib.hid hcc
      clear hcc
      go_wp2_with fail
      refine call_bel (w := w) (by repeat' (first | (with_reducible first | exact bwR _ _ | assumption | refine bdn ?_ | refine bwA ?_ ?_ _ | refine bwD ?_ | refine bwS ?_ ?_ _) | omega | (simp <;> omega))) (fun HB => rfraccmp_c yn yd (2 * (y : Int) + 1) 2 c _ H_hRk.out H_hmid.out H_hc.out) ?_
      intro w2 hb2 hz2 c2 d2 hW2
      have t2 := hb2.size
      have e2_r : Below wr.heap.size wr w2 := below_via (by repeat' (first | (with_reducible first | exact bwR _ _ | assumption | refine bdn ?_ | refine bwA ?_ ?_ _ | refine bwD ?_ | refine bwS ?_ ?_ _) | omega | (simp <;> omega))) hW2
      have te2_r := e2_r.size
      clear c2 d2 hz2 hW2
      have hB2 : Below w.heap.size w w2 := hb2
      have hu2 : ∀ v : Bool, (decide (c ≤ 0) = v) → (ps.take (k + 1)).any (fun q : Pt => decide (q.yn * 2 ≤ (2 * (y : Int) + 1) * q.yd)) = (u || v) := fun v hv => by
        subst hv
        refine Eq.trans H_hu'.out ?_
        congr 1
        rcases H_hcc.out with ⟨h1, h2⟩ | ⟨h1, h2⟩ | ⟨h1, h2⟩ <;> rw [h2] <;> exact decide_eq_decide.2 (by constructor <;> intro _ <;> omega)
      have ho2 : ∀ v : Bool, (decide (0 ≤ c) = v) → (ps.take (k + 1)).any (fun q : Pt => decide ((2 * (y : Int) + 1) * q.yd ≤ q.yn * 2)) = (o || v) := fun v hv => by
        subst hv
        refine Eq.trans H_ho'.out ?_
        congr 1
        rcases H_hcc.out with ⟨h1, h2⟩ | ⟨h1, h2⟩ | ⟨h1, h2⟩ <;> rw [h2] <;> exact decide_eq_decide.2 (by constructor <;> intro _ <;> omega)
      obtain ⟨cu, hcu⟩ : ∃ v, decide (c ≤ 0) = v := ⟨_, rfl⟩
      obtain ⟨co, hco⟩ : ∃ v, decide (0 ≤ c) = v := ⟨_, rfl⟩
      have hu3 := hu2 cu hcu
      have ho3 := ho2 co hco
      clear hu2 ho2
      have H_hu3 := Lib.hid hu3
      clear hu3
      have H_ho3 := Lib.hid ho3
      clear ho3
      cases cu <;> cases co
      all_goals
        go_wp2_with fail
        go_roundw
        case rel => exact ⟨k + 1, _, _, by omega, rfl, rfl, by go_num, by rw [show (mid y).d = 2 from rfl, show (mid y).n = 2 * (y : Int) + 1 from rfl, H_hu3.out]; simp, by rw [show (mid y).d = 2 from rfl, show (mid y).n = 2 * (y : Int) + 1 from rfl, H_ho3.out]; simp, by repeat' (first | (with_reducible first | exact bwR _ _ | assumption | refine bdn ?_ | refine bwA ?_ ?_ _ | refine bwD ?_ | refine bwS ?_ ?_ _) | omega | (simp <;> omega))⟩
        case measure => simp [intOf]; omega
    · have e : ps.take k = ps := List.take_of_length_le (by have := H_hl.out; omega)
      rw [e] at hu ho
      have hb := H_hb.out
      unfold rcB at hb
      rw [← hu, ← ho] at hb
      clear hu ho e
      have H_hb := Lib.hid hb
      clear hb
      cases u <;> cases o
      all_goals
        go_wp2_with fail
        go_returns
        exact ⟨by rw [← H_hb.out]; rfl, by repeat' (first | (with_reducible first | exact bwR _ _ | assumption | refine bdn ?_ | refine bwA ?_ ?_ _ | refine bwD ?_ | refine bwS ?_ ?_ _) | omega | (simp <;> omega))⟩
end Go.Proofs.YtaidgecpglikpaaDoor
