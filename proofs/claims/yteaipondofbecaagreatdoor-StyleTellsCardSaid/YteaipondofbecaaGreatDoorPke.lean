/-
  Walks over package pick: do steps fit an element; Fits.
-/
import Derived.Test.YteaipondofbecaaGreatDoorPkd
import Derived.Test.YteaipondofbecaaGreatDoorPk9
namespace Lead.Pk
open Go Go.RowKit Lead Lead.Dc
theorem ups_fuel {E : Els} {next : Nat} {d : Nat → Nat} (g : Good E next d) : ∀ (f f' n : Nat), d n ≤ f → d n ≤ f' → ups E f n = ups E f' n
  | 0, 0, _, _, _ => rfl
  | 0, f' + 1, n, h, _ => by
    rw [ups, ups]
    cases he : elAt E n with
    | none => rfl
    | some e => have := g.d1 he; omega
  | f + 1, 0, n, _, h => by
    rw [ups, ups]
    cases he : elAt E n with
    | none => rfl
    | some e => have := g.d1 he; omega
  | f + 1, f' + 1, n, h1, h2 => by
    rw [ups, ups]
    cases he : elAt E n with
    | none => rfl
    | some e =>
      dsimp only
      by_cases h0 : n = 0
      · obtain ⟨e0, hr, hp⟩ := g.root
        subst h0
        rw [hr] at he
        injection he with he
        rw [← he, hp]; rfl
      · obtain ⟨p, pe, hp, hpe, hd, _⟩ := g.par he h0
        rw [hp, if_pos (by omega), if_pos (by omega), Int.toNat_natCast, ups_fuel g f f' p (by omega) (by omega)]
def upZ (E : Els) (z : Int) : List Nat := if 0 ≤ z then z.toNat :: ups E 10 z.toNat else []
theorem ups_eq {E : Els} {next : Nat} {d : Nat → Nat} (g : Good E next d) {n : Nat} {e : El} (h : elAt E n = some e) : ups E 10 n = upZ E e.parent := by
  rw [ups_fuel g 10 11 n (g.dm n e h) (Nat.le_succ_of_le (g.dm n e h)), ups, h]; rfl
def upF (r : Bool) (l : List Nat) (G : Nat → Bool) : Bool := (if r then l.take 1 else l).any G
theorem upF_nil (r : Bool) (G : Nat → Bool) : upF r [] G = false := by cases r <;> rfl
theorem upF_yes {r : Bool} {p : Nat} {l : List Nat} {G : Nat → Bool} (h : G p = true) : upF r (p :: l) G = true := by cases r <;> simp [upF, h]
theorem upF_one {p : Nat} {l : List Nat} {G : Nat → Bool} (h : G p = false) : upF true (p :: l) G = false := by simp [upF, h]
theorem upF_on {p : Nat} {l : List Nat} {G : Nat → Bool} (h : G p = false) : upF false (p :: l) G = upF false l G := by simp [upF, h]
theorem upZ_nat (E : Els) (p : Nat) : upZ E (p : Int) = p :: ups E 10 p := by unfold upZ; rw [if_pos (by omega), Int.toNat_natCast]
theorem upZ_neg {E : Els} : upZ E (-1) = [] := by unfold upZ; rw [if_neg (by omega)]
theorem fitsR_eq {E : Els} {next : Nat} {d : Nat → Nat} (g : Good E next d) {n : Nat} {e : El} (h : elAt E n = some e) (x : St) (R : List St) : fitsR E (x :: R) n = (stF e x && (R.isEmpty || upF x.right (upZ E e.parent) (fitsR E R))) := by
  rw [fitsR, h, ← ups_eq g h]; rfl
def parOk (E : Els) (z : Int) : Prop := z = -1 ∨ ∃ (p : Nat) (e : El), z = (p : Int) ∧ elAt E p = some e
theorem par_ok {E : Els} {next : Nat} {d : Nat → Nat} (g : Good E next d) {n : Nat} {e : El} (h : elAt E n = some e) : parOk E e.parent ∧ (if 0 ≤ e.parent then d e.parent.toNat else 0) < d n := by
  by_cases h0 : n = 0
  · obtain ⟨e0, hr, hp⟩ := g.root
    subst h0
    rw [hr] at h
    injection h with h
    rw [← h, hp]
    exact ⟨.inl rfl, by rw [if_neg (by omega), g.d0]; omega⟩
  · obtain ⟨p, pe, hp, hpe, hd, _⟩ := g.par h h0
    rw [hp]
    exact ⟨.inr ⟨p, pe, rfl, hpe⟩, by rw [if_pos (by omega), Int.toNat_natCast]; omega⟩
theorem take_rev {α : Type} (l : List α) {k : Nat} (h : k < l.length) : (l.take (k + 1)).reverse = l[k] :: (l.take k).reverse := by
  rw [List.take_succ_eq_append_getElem h, List.reverse_append]; rfl
end Lead.Pk
namespace Go.Proofs.YteaipondofbecaaGreatDoor
open Go.RowKit Go.WideMaps Go.Maps Lead Lead.Dc Lead.Pk
set_option maxHeartbeats 4000000 in
set_option maxRecDepth 100000 in
theorem pfits_any (m : Int) (bd next : Nat) (F : Nat → Prop) (E : Els) (d : Nat → Nat) (base : Nat) (TW : TypeId) (g cap : Nat) (xs : List StX) (w0 : World) (hD : DokG Tryz.prog TT w0 bd F E next d) (hat : ∀ n e, elAt E n = some e → ∀ a ∈ e.attrs, a.2.size ≤ 100000) (hm : w0.cell? ⟨12, 0, none⟩ = some (.int .i64 m))
    (hr : RowIn ESt w0 g 0 xs) (hg : g < w0.heap.size) (hx : ∀ x ∈ xs, OwnR EWa w0 base TW x.sl x.ws) (hc : xs.length ≤ cap) (hcm : cap ≤ maxLen) :
    ∀ (k : Nat) (_ : k < xs.length) (n : Nat) (e : El) (w : World) (_ : Below w0.heap.size w0 w) (_ : elAt E n = some e),
    Calls Tryz.prog 167 #[.slice (some ⟨g, 0, none⟩) (k + 1) cap, .pointer (some ⟨bd, 0, none⟩), .int .i64 (n : Int)] w fun en w' => en = .returned (.bool (fitsR E ((xs.take (k + 1)).map StX.st).reverse n)) ∧ Below w.heap.size w w' := by
  intro k
  induction k using Nat.strongRecOn with
  | _ k ih =>
    intro hk n e w hw he
    have hT : ((xs.take (k + 1)).map StX.st).reverse = xs[k].st :: ((xs.take k).map StX.st).reverse := by
      rw [← List.map_reverse, take_rev xs hk, List.map_cons, List.map_reverse]
    rw [hT, fitsR_eq hD.good he]
    have hcell := fun (q : Nat) (v : Value) (hq : (ESt.enc xs[k])[q]? = some v) => (hr.keep hw hg) k hk q v hq
    have hxk := hx _ (List.getElem_mem hk)
    obtain ⟨x, hxe⟩ : ∃ x, xs[k] = x := ⟨_, rfl⟩
    rw [hxe] at hcell hxk ⊢
    have hgw : g < w.heap.size := Nat.lt_of_lt_of_le hg hw.size
    have cF := fun (W : World) (hb : Below w.heap.size w W) => stepfits_any m bd next n F E d e base TW x.sl x.st W (hD.keep (below_via hw hb)) he (hat n e he) (gkeep (below_via hw hb) hm rfl) (hxk.keep (below_via hw hb))
    have cP := fun (z : Int) (hz : I64 z) (W : World) (hb : Below w.heap.size w W) => parent_any bd next z F E d W (hD.keep (below_via hw hb)) hz
    have cL := fun (j : Nat) (hj : j < k) (q : Nat) (f : El) (W : World) (hb : Below w.heap.size w W) (hf : elAt E q = some f) => ih j hj (Nat.lt_trans hj hk) q f W (below_via hw hb) hf
    have hq := par_ok hD.good he
    obtain ⟨nm, wo, wl, wc, ws, rt⟩ := x
    have q0 : w.cell? ⟨g, k * 3, none⟩ = some (.string (bs nm)) := (congrArg (fun z => w.cell? ⟨g, z, none⟩) (Nat.zero_add (k * 3)).symm).trans (hcell 0 _ rfl)
    have q1 : w.cell? ⟨g, k * 3 + 1, none⟩ = some (.slice wo wl wc) := (congrArg (fun z => w.cell? ⟨g, z + 1, none⟩) (Nat.zero_add (k * 3)).symm).trans (hcell 1 _ rfl)
    have q2 : w.cell? ⟨g, k * 3 + 2, none⟩ = some (.bool rt) := (congrArg (fun z => w.cell? ⟨g, z + 2, none⟩) (Nat.zero_add (k * 3)).symm).trans (hcell 2 _ rfl)
    obtain ⟨sf, hsf⟩ : ∃ u, stF e (StX.st ⟨nm, wo, wl, wc, ws, rt⟩) = u := ⟨_, rfl⟩
    obtain ⟨N, hN⟩ : ∃ u, bs nm = u := ⟨_, rfl⟩
    rw [hsf] at cF ⊢
    have cF' := fun (W : World) (hb : Below w.heap.size w W) => (show Calls Tryz.prog 188 #[.agg #[.string (bs nm), .slice wo wl wc, .bool rt], .pointer (some ⟨bd, 0, none⟩), .int .i64 (n : Int)] W fun en w' => en = .returned (.bool sf) ∧ Below W.heap.size W w' from cF W hb)
    clear cF
    rw [hN] at q0 cF'
    obtain ⟨R, hR⟩ : ∃ u, ((xs.take k).map StX.st).reverse = u := ⟨_, rfl⟩
    rw [hR]
    obtain ⟨ans, hans⟩ : ∃ u, (sf && (R.isEmpty || upF (StX.st ⟨nm, wo, wl, wc, ws, rt⟩).right (upZ E e.parent) (fitsR E R))) = u := ⟨_, rfl⟩
    rw [hans]
    have gk : IntKind.i64.wrap (((k + 1 : Nat) : Int) - 1) = (k : Int) := (IntWalk.i64_in _ (by unfold maxLen at hcm; omega)).trans (by omega)
    have gk2 : (k : Int) < ((k + 1 : Nat) : Int) := by omega
    have gc : (k : Int) ≤ (cap : Int) := by omega
    have hlm : k + 1 ≤ 9223372036854775807 := by unfold maxLen at hcm; omega
    have hcc : k + 1 ≤ cap := by omega
    have H_hR := Lib.hid hR
    clear hR
    have H_hans := Lib.hid hans
    clear hans
    have H_cF' := Lib.hid cF'
    clear cF'
    have H_cP := Lib.hid cP
    clear cP
    have H_cL := Lib.hid cL
    clear cL
    have H_hq := Lib.hid hq
    clear hq
    have H_hsf := Lib.hid hsf
    clear hsf
    have H_hN := Lib.hid hN
    clear hN
    have H_hT := Lib.hid hT
    clear hT
    have H_hxe := Lib.hid hxe
    clear hxe
    have H_hxk := Lib.hid hxk
    clear hxk
    have H_hD := Lib.hid hD
    clear hD
    have H_hat := Lib.hid hat
    clear hat
    have H_hm := Lib.hid hm
    clear hm
    have H_hr := Lib.hid hr
    clear hr
    have H_hx := Lib.hid hx
    clear hx
    have H_hw := Lib.hid hw
    clear hw
    have H_he := Lib.hid he
    clear he
    have H_ih := Lib.hid ih
    clear ih
    have H_hcell := Lib.hid hcell
    clear hcell
    have H_hc := Lib.hid hc
    clear hc
    have H_hcm := Lib.hid hcm
    clear hcm
    go_enter Tryz.func167, Tryz.ntmps167
    go_wp2_with fail
    refine (H_cF'.out _ (by repeat' (first | (with_reducible first | exact bwR _ _ | assumption | refine bdn ?_ | refine bwA ?_ ?_ _ | refine bwD ?_ | refine bwS ?_ ?_ _) | omega | (simp <;> omega)))).mono ?_
    rintro _ w1 ⟨rfl, hb1⟩
    have hB1 : Below w.heap.size w w1 := below_via (by repeat' (first | (with_reducible first | exact bwR _ _ | assumption | refine bdn ?_ | refine bwA ?_ ?_ _ | refine bwD ?_ | refine bwS ?_ ?_ _) | omega | (simp <;> omega))) hb1
    have z1 : w.heap.size < w1.heap.size := Nat.lt_of_lt_of_le (by simp) hb1.size
    have b2 : w1.cell? ⟨w.heap.size, 2, none⟩ = some (.bool rt) := gkeep hb1 (World.cell?_alloc_new _ _ _ _) (by simp)
    clear hb1 q0 q1 q2
    cases sf with
    | false =>
      go_wp2_with fail
      go_returns
      exact ⟨by rw [← H_hans.out]; rfl, hB1⟩
    | true =>
      by_cases h0 : k = 0
      · have g0 : ((k : Int) == 0) = true := by rw [h0]; rfl
        have H_h0 := Lib.hid h0
        clear h0
        go_wp2_with fail
        go_returns
        refine ⟨?_, hB1⟩
        have hR' := H_hR.out
        rw [H_h0.out] at hR'
        rw [← H_hans.out, ← hR']; rfl
      · have g0 : ((k : Int) == 0) = false := by rw [beq_eq_false_iff_ne]; omega
        have hR := H_hR.out
        have hRe : R.isEmpty = false := by
          rw [← hR, List.isEmpty_reverse, List.isEmpty_eq_false_iff]
          intro h
          have := congrArg List.length h
          rw [List.length_map, List.length_take, List.length_nil] at this
          omega
        have cR := H_cL.out (k - 1) (by omega)
        rw [show k - 1 + 1 = k by omega, hR] at cR
        have hZ : upF rt (upZ E e.parent) (fitsR E R) = ans := by rw [← H_hans.out, hRe]; rfl
        clear hR
        have hz := H_hq.out
        have hD' := H_hD.out
        have he' := H_he.out
        have hn64 : I64 (n : Int) := i64_nat (by have := hD'.good.lt n e he'; have := hD'.big; omega)
        have cPn := H_cP.out (n : Int) hn64
        rw [parZ_nat he'] at cPn
        obtain ⟨z, hze⟩ : ∃ u, e.parent = u := ⟨_, rfl⟩
        rw [hze] at cPn hz hZ
        have hpos : ¬ 0 = k := fun h => h0 h.symm
        have H_cR := Lib.hid cR
        clear cR
        have H_hRe := Lib.hid hRe
        clear hRe
        have H_hz := Lib.hid hz
        clear hz
        have H_hD' := Lib.hid hD'
        clear hD'
        have H_he' := Lib.hid he'
        clear he'
        have H_hn64 := Lib.hid hn64
        clear hn64
        have H_cPn := Lib.hid cPn
        clear cPn
        have H_hze := Lib.hid hze
        clear hze
        have H_hZ := Lib.hid hZ
        clear hZ
        have H_h0 := Lib.hid h0
        clear h0
        go_wp2_with fail
        refine (H_cPn.out _ (by repeat' (first | (with_reducible first | exact bwR _ _ | assumption | refine bdn ?_ | refine bwA ?_ ?_ _ | refine bwD ?_ | refine bwS ?_ ?_ _) | omega | (simp <;> omega)))).mono ?_
        rintro _ w2 ⟨rfl, hb2⟩
        have hB2 : Below w.heap.size w w2 := below_via (by repeat' (first | (with_reducible first | exact bwR _ _ | assumption | refine bdn ?_ | refine bwA ?_ ?_ _ | refine bwD ?_ | refine bwS ?_ ?_ _) | omega | (simp <;> omega))) hb2
        have b3 : w2.cell? ⟨w.heap.size, 2, none⟩ = some (.bool rt) := gkeep hb2 b2 rfl
        have z2 : w.heap.size < w2.heap.size := Nat.lt_of_lt_of_le z1 hb2.size
        clear hb2
        go_wp2_with fail
        go_loopw [8] (fun t8 wr => ∃ y : Int, t8 = .int .i64 y ∧ RowKit.Hid (parOk E y ∧ ans = upF rt (upZ E y) (fitsR E R)) ∧ Below w2.heap.size w2 wr) (fun t8 _ => if 0 ≤ intOf t8 then d (intOf t8).toNat else 0)
        case atStart => exact ⟨z, rfl, Lib.hid ⟨H_hz.out.1, H_hZ.out.symm⟩, by repeat' (first | (with_reducible first | exact bwR _ _ | assumption | refine bdn ?_ | refine bwA ?_ ?_ _ | refine bwD ?_ | refine bwS ?_ ?_ _) | omega | (simp <;> omega))⟩
        case round =>
          obtain ⟨y, rfl, H_y, hB⟩ := hrel
          have hzr := hB.size
          have b4 : wr.cell? ⟨w.heap.size, 2, none⟩ = some (.bool rt) := gkeep hB b3 rfl
          have hBr : Below w.heap.size w wr := below_via hB2 hB
          rcases H_y.out.1 with rfl | ⟨p, f, rfl, hf⟩
          · have hA : ans = false := by rw [H_y.out.2, upZ_neg, upF_nil]
            have H_hA := Lib.hid hA
            clear hA
            go_wp2_with fail
            go_returns
            exact ⟨by rw [H_hA.out]; rfl, hBr⟩
          · have hp0 : (0 : Int) ≤ (p : Int) := by omega
            have hA := H_y.out.2
            rw [upZ_nat, ups_eq H_hD'.out.good hf] at hA
            have hpq := par_ok H_hD'.out.good hf
            have hp64 : I64 (p : Int) := i64_nat (by have := H_hD'.out.good.lt p f hf; have := H_hD'.out.big; omega)
            have cPp := H_cP.out (p : Int) hp64
            rw [parZ_nat hf] at cPp
            have cRp := fun (W : World) (hb : Below w.heap.size w W) => H_cR.out p f W hb hf
            obtain ⟨gp, hgp⟩ : ∃ u, fitsR E R p = u := ⟨_, rfl⟩
            rw [hgp] at cRp
            obtain ⟨z', hz'⟩ : ∃ u, f.parent = u := ⟨_, rfl⟩
            rw [hz'] at cPp hpq hA
            have H_hA := Lib.hid hA
            clear hA
            have H_hpq := Lib.hid hpq
            clear hpq
            have H_hp64 := Lib.hid hp64
            clear hp64
            have H_cPp := Lib.hid cPp
            clear cPp
            have H_cRp := Lib.hid cRp
            clear cRp
            have H_hgp := Lib.hid hgp
            clear hgp
            have H_hz' := Lib.hid hz'
            clear hz'
            have H_hf := Lib.hid hf
            clear hf
            go_wp2_with fail
            refine (H_cRp.out _ hBr).mono ?_
            rintro _ w3 ⟨rfl, hb3⟩
            have b5 : w3.cell? ⟨w.heap.size, 2, none⟩ = some (.bool rt) := gkeep hb3 b4 rfl
            have hB3 : Below w.heap.size w w3 := below_via hBr hb3
            have hB3' : Below w2.heap.size w2 w3 := below_via hB hb3
            have hz3 := hb3.size
            clear hb3
            cases gp with
            | true =>
              have hA' : ans = true := by rw [H_hA.out]; exact upF_yes H_hgp.out
              have H_hA' := Lib.hid hA'
              clear hA'
              go_wp2_with fail
              go_returns
              exact ⟨by rw [H_hA'.out]; rfl, hB3⟩
            | false =>
              cases rt with
              | true =>
                have hA' : ans = false := by rw [H_hA.out]; exact upF_one H_hgp.out
                have H_hA' := Lib.hid hA'
                clear hA'
                go_wp2_with fail
                go_returns
                exact ⟨by rw [H_hA'.out]; rfl, hB3⟩
              | false =>
                have hA' : ans = upF false (upZ E z') (fitsR E R) := by rw [H_hA.out]; exact upF_on H_hgp.out
                have H_hA' := Lib.hid hA'
                clear hA'
                go_wp2_with fail
                refine (H_cPp.out _ hB3).mono ?_
                rintro _ w4 ⟨rfl, hb4⟩
                have hB4 : Below w2.heap.size w2 w4 := below_via hB3' hb4
                clear hb4
                go_wp2_with fail
                go_roundw
                case rel => exact ⟨z', rfl, Lib.hid ⟨H_hpq.out.1, H_hA'.out⟩, hB4⟩
                case measure =>
                  have h := H_hpq.out.2
                  by_cases h0 : 0 ≤ z'
                  · simp only [h0, if_true] at h; simpa [intOf, h0] using h
                  · simp only [h0, if_false] at h; simpa [intOf, h0] using h
end Go.Proofs.YteaipondofbecaaGreatDoor
