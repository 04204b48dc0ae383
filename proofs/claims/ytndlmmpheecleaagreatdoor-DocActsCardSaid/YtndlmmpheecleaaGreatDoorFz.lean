/-
  Several texts as one: Fl1, Fl2.
-/
import Derived.Test.YtndlmmpheecleaaGreatDoorDq
/-
  Walks over the statements' helpers: flats.
-/
namespace Lead.Dc
open Go Go.RowKit Go.Maps Lead
/-- A flat: a node's name, its attributes, its parent's place, how deep. -/
structure FlX where
  nm : ByteArray
  ao : Option Addr
  al : Nat
  ac : Nat
  ats : List (ByteArray × ByteArray)
  par : Int
  dp : Int
def EFl : Enc FlX := ⟨fun x => [.string x.nm, .slice x.ao x.al x.ac, .int .i64 x.par, .int .i64 x.dp], 4, fun _ => rfl, fun x u h => by simp at h; rcases h with rfl | rfl | rfl | rfl <;> rfl, by decide⟩
/-- A flat, without its address. -/
def fv (x : FlX) : FlatV := ⟨x.nm, x.ats, x.par, x.dp⟩
/-- The flats ahead, the node's own, and those of its first k children. -/
def flLK (xs : List FlX) (me : FlatV) (deep : Nat) (ks : List NT) (k : Nat) : List FlatV := xs.map fv ++ me :: allFs (NT.rtL (ks.take k)) xs.length (deep + 1) (xs.length + 1)
theorem allFs_app : ∀ (a b : List RT) (p deep k : Nat), allFs (a ++ b) p deep k = allFs a p deep k ++ allFs b p deep (k + RT.cntL a)
  | [], b, p, deep, k => by simp [allFs, RT.cntL]
  | x :: r, b, p, deep, k => by rw [List.cons_append, allFs, allFs, allFs_app r, RT.cntL, List.append_assoc, Nat.add_assoc]
theorem flLK_start (xs : List FlX) (x : FlX) (deep : Nat) (ks : List NT) : (xs ++ [x]).map fv = flLK xs (fv x) deep ks 0 := by
  unfold flLK
  rw [List.take_zero, List.map_append]
  rfl
theorem flLK_next {xs zs : List FlX} {me : FlatV} {deep : Nat} {ks : List NT} {k : Nat} (h : zs.map fv = flLK xs me deep ks k) (hk : k < ks.length) :
    zs.map fv ++ allF ks[k].rt (xs.length : Int) (deep + 1) zs.length = flLK xs me deep ks (k + 1) := by
  have hl : zs.length = xs.length + 1 + RT.cntL (NT.rtL (ks.take k)) := by
    have h1 := congrArg List.length h
    unfold flLK at h1
    rw [List.length_map, List.length_append, List.length_cons, List.length_map, allFs_len] at h1
    omega
  rw [hl, h]
  unfold flLK
  rw [List.take_succ_eq_append_getElem hk, rtL_map, rtL_map, List.map_append, allFs_app, List.append_assoc, List.cons_append]
  simp only [List.map_cons, List.map_nil, allFs, List.append_nil]
/-- What flats hands back: too many, or a row of its own. -/
def FlOut (T : TypeId) (wB : World) (v : Value) (L : List FlatV) (w w' : World) (en : Ending) : Prop :=
  ∃ oa l ca, en = .returned (.slice oa l ca) ∧ l ≤ 151 ∧ (150 < l ∨ ∃ xs, OwnR EFl w' 0 T (.slice oa l ca) xs ∧ xs.length = l ∧ (∀ x ∈ xs, SlA EAt wB x.ao x.al x.ac x.ats) ∧ (∀ b, (Value.slice oa l ca).ownBlock = some b → v.ownBlock = some b ∨ w.heap.size ≤ b) ∧ xs.map fv = L) ∧ Turn (fun b => v.ownBlock = some b) w w'
/-- While the children are flattened. -/
structure FlInv (T : TypeId) (wB w1 : World) (v : Value) (L : List FlatV) (wr : World) (v' : Value) (xs : List FlX) : Prop where
  own : OwnR EFl wr 0 T v' xs
  sl : ∀ x ∈ xs, SlA EAt wB x.ao x.al x.ac x.ats
  nw : ∀ b, v'.ownBlock = some b → v.ownBlock = some b ∨ w1.heap.size ≤ b
  tn : Turn (fun b => v.ownBlock = some b) w1 wr
  vals : xs.map fv = L
theorem FlInv.start {T : TypeId} {wB w1 wa w3 : World} {v v3 : Value} {xs : List FlX} {x : FlX} (hba : Below w1.heap.size w1 wa) (hv : OwnR EFl w3 0 T v3 (xs ++ [x])) (hsl : ∀ x ∈ xs, SlA EAt wB x.ao x.al x.ac x.ats) (hx : SlA EAt wB x.ao x.al x.ac x.ats) (hg : wa.grownBy w3 v.ownBlock) (hob : v3.ownBlock = v.ownBlock ∨ v3.ownBlock = some wa.heap.size) {L : List FlatV} (hL : (xs ++ [x]).map fv = L) :
    FlInv T wB w1 v L w3 v3 (xs ++ [x]) := by
  refine ⟨hv, fun y hy => ?_, fun b hb => ?_, ⟨hg.os.trans hba.os, hg.tape.trans hba.tape, hg.output.trans hba.output, Nat.le_trans hba.size hg.size, fun k hk hn => ?_⟩, hL⟩
  · rcases List.mem_append.1 hy with hy | hy
    · exact hsl y hy
    · rw [List.mem_singleton.1 hy]; exact hx
  · rcases hob with ho | ho
    · left; rw [← ho]; exact hb
    · right
      rw [ho] at hb
      injection hb with hb
      have := hba.size; omega
  · exact (hg.block k (Nat.lt_of_lt_of_le hk hba.size) (fun e => hn e.symm)).trans (hba.block k hk)
theorem FlInv.more {T : TypeId} {wB w1 wr w2 : World} {v v' : Value} {xs xs2 : List FlX} {oa : Option Addr} {l ca : Nat} {L L' : List FlatV} (h : FlInv T wB w1 v L wr v' xs) (h1 : OwnR EFl w2 0 T (.slice oa l ca) xs2) (h2 : ∀ x ∈ xs2, SlA EAt wB x.ao x.al x.ac x.ats) (h3 : ∀ b, (Value.slice oa l ca).ownBlock = some b → v'.ownBlock = some b ∨ wr.heap.size ≤ b) (hT : Turn (fun b => v'.ownBlock = some b) wr w2) (hL : xs2.map fv = L') :
    FlInv T wB w1 v L' w2 (.slice oa l ca) xs2 := by
  refine ⟨h1, h2, fun b hb => ?_, h.tn.goOn hT (fun j hj => h.nw j hj), hL⟩
  rcases h3 b hb with h' | h'
  · exact h.nw b h'
  · right; have := h.tn.size; omega
theorem FlInv.stop {T : TypeId} {wB w w1 wr w2 : World} {v v' : Value} {xs : List FlX} {oa : Option Addr} {l ca : Nat} {L L' : List FlatV} (h : FlInv T wB w1 v L wr v' xs) (hw : Below w.heap.size w w1) (hl : l ≤ 151) (h1 : 150 < l) (hT : Turn (fun b => v'.ownBlock = some b) wr w2) :
    FlOut T wB v L' w w2 (.returned (.slice oa l ca)) :=
  ⟨oa, l, ca, rfl, hl, .inl h1, (Turn.of_below hw).goOn (h.tn.goOn hT (fun j hj => h.nw j hj)) (fun _ hj => .inl hj)⟩
theorem FlInv.done {T : TypeId} {wB w w1 wr : World} {v : Value} {xs : List FlX} {oa : Option Addr} {l ca : Nat} {L : List FlatV} (h : FlInv T wB w1 v L wr (.slice oa l ca) xs) (hw : Below w.heap.size w w1) (hl : xs.length ≤ 151) (hle : l = xs.length) :
    FlOut T wB v L w wr (.returned (.slice oa l ca)) := by
  refine ⟨oa, l, ca, rfl, by omega, .inr ⟨xs, h.own, hle.symm, h.sl, fun b hb => ?_, h.vals⟩, (Turn.of_below hw).goOn h.tn (fun j hj => .inl hj)⟩
  rcases h.nw b hb with h' | h'
  · exact .inl h'
  · right; have := hw.size; omega
theorem fl_form {T : TypeId} {w : World} {base : Nat} {v : Value} {xs : List FlX} (h : OwnR EFl w base T v xs) : ∃ o c, v = .slice o xs.length c := by
  rcases h.form with ⟨h, h'⟩ | ⟨g, cap, h, _⟩
  · exact ⟨_, _, by rw [h, h']; rfl⟩
  · exact ⟨_, _, h⟩
theorem own_sla {α : Type} {En : Enc α} {w : World} {base : Nat} {e : TypeId} {o : Option Addr} {l c : Nat} {xs : List α} (h : OwnR En w base e (.slice o l c) xs) : SlA En w o l c xs := by
  obtain ⟨o', l', c', he, hs⟩ := OwnQ.sl (.inl h)
  injection he with h1 h2 h3
  subst h1 h2 h3
  exact hs
end Lead.Dc
namespace Go.Proofs.YtndlmmpheecleaaGreatDoor
open Go.RowKit Go.WideMaps Go.Maps Lead Lead.Dc
theorem infoFl : (Tryz.prog.info? 95).map (fun i => (i.zero, i.size, i.bytes)) = some (some (.agg #[.string ⟨#[]⟩, .slice none 0 0, .int .i64 0, .int .i64 0]), 4, 56) := by kernel_rfl
set_option maxHeartbeats 2000000 in
set_option maxRecDepth 100000 in
theorem flats_step (v : Value) (xs : List FlX) (par : Int) (deep : Nat) (nm : ByteArray) (ao : Option Addr) (al ac : Nat) (ats : List (ByteArray × ByteArray)) (ko : Option Addr) (kl kc : Nat) (ks : List NT) (wB w : World)
    (hown : OwnR EFl w 0 95 v xs) (hl : xs.length ≤ 151) (hsl : ∀ x ∈ xs, SlA EAt wB x.ao x.al x.ac x.ats) (hvb : ∀ b, v.ownBlock = some b → wB.heap.size ≤ b) (hd : deep ≤ 16) (hB : Below wB.heap.size wB w)
    (h1 : SlA EAt wB ao al ac ats) (h2 : SlA ENd wB ko kl kc ks) (h3 : ∀ k ∈ ks, NodeOk wB k)
    (ih : ∀ k ∈ ks, ∀ (v' : Value) (xs' : List FlX) (par' : Int) (w' : World), OwnR EFl w' 0 95 v' xs' → xs'.length ≤ 151 → (∀ x ∈ xs', SlA EAt wB x.ao x.al x.ac x.ats) → (∀ b, v'.ownBlock = some b → wB.heap.size ≤ b) → deep ≤ 15 → Below wB.heap.size wB w' →
      Calls Tryz.prog 40 #[v', .agg k.vals.toArray, .int .i64 par', .int .i64 ((deep + 1 : Nat) : Int)] w' fun en w1 => FlOut 95 wB v' (xs'.map fv ++ allF k.rt par' (deep + 1) xs'.length) w' w1 en) :
    Calls Tryz.prog 40 #[v, .agg #[.string nm, .slice ao al ac, .slice ko kl kc], .int .i64 par, .int .i64 (deep : Int)] w fun en w1 => FlOut 95 wB v (flLK xs ⟨nm, ats, par, deep⟩ deep ks ks.length) w w1 en := by
  obtain ⟨i0, hi, hz0, hz1, hz2⟩ := info_parts infoFl
  obtain ⟨oV, lV, cV, rfl, hlV⟩ : ∃ o l c, v = .slice o l c ∧ l = xs.length := by
    rcases hown.form with ⟨h, h'⟩ | ⟨g, cap, h, _⟩
    · exact ⟨_, _, _, h, by rw [h']; rfl⟩
    · exact ⟨_, _, _, h, rfl⟩
  subst hlV
  have hkm : kl ≤ 9223372036854775807 := by have h := h2.2.2.1; have h' := h2.2.1; unfold maxLen at h; omega
  have zB := hB.size
  by_cases hbad : 150 < xs.length ∨ 15 < deep
  · obtain ⟨wm, hrun, _, hgr⟩ := run_make_full (P := Tryz.prog) (w.alloc (.cells #[.string nm, .slice ao al ac, .slice ko kl kc] 25)) (w.heap.size + 1) 28 95 i0 _ 4 Tryz.underlying28 hi hz0 hz1 .i64 .i64 151 (by rw [hz2]; decide) (by decide) (by simp)
    have hmk : Sem.run Tryz.prog (Instr.makeSlice 28 (.int .i64 151) (.int .i64 151)) (w.alloc (.cells #[.string nm, .slice ao al ac, .slice ko kl kc] 25)) = _ := hrun
    have hBm := (Below.refl (w.alloc (.cells #[.string nm, .slice ao al ac, .slice ko kl kc] 25)).heap.size (w.alloc (.cells #[.string nm, .slice ao al ac, .slice ko kl kc] 25))).grown hgr (Nat.le_refl _) (fun q hq => by cases hq)
    have hBw : Below w.heap.size w wm := below_via ((Below.refl _ _).alloc (Nat.le_refl _) _) hBm
    clear hrun hgr hBm
    by_cases hb1 : 150 < xs.length
    · have g1 : (150 : Int) < (xs.length : Int) := by omega
      have H_hown := Lib.hid hown
      clear hown
      have H_hsl := Lib.hid hsl
      clear hsl
      have H_hvb := Lib.hid hvb
      clear hvb
      have H_hB := Lib.hid hB
      clear hB
      have H_h1 := Lib.hid h1
      clear h1
      have H_h2 := Lib.hid h2
      clear h2
      have H_h3 := Lib.hid h3
      clear h3
      have H_ih := Lib.hid ih
      clear ih
      have H_hi := Lib.hid hi
      clear hi
      have H_hz0 := Lib.hid hz0
      clear hz0
      have H_hz1 := Lib.hid hz1
      clear hz1
      have H_hz2 := Lib.hid hz2
      clear hz2
      have H_hbad := Lib.hid hbad
      clear hbad
      go_enter Tryz.func40, Tryz.ntmps40
      go_wp2_with fail
      go_returns
      exact ⟨_, _, _, rfl, by decide, .inl (by decide), Turn.of_below (by repeat' (first | (with_reducible first | exact bwR _ _ | assumption | refine bdn ?_ | refine bwA ?_ ?_ _ | refine bwD ?_ | refine bwS ?_ ?_ _) | omega | (simp <;> omega)))⟩
    · have g1 : ¬ (150 : Int) < (xs.length : Int) := by omega
      have g2 : (15 : Int) < (deep : Int) := by omega
      have H_hown := Lib.hid hown
      clear hown
      have H_hsl := Lib.hid hsl
      clear hsl
      have H_hvb := Lib.hid hvb
      clear hvb
      have H_hB := Lib.hid hB
      clear hB
      have H_h1 := Lib.hid h1
      clear h1
      have H_h2 := Lib.hid h2
      clear h2
      have H_h3 := Lib.hid h3
      clear h3
      have H_ih := Lib.hid ih
      clear ih
      have H_hi := Lib.hid hi
      clear hi
      have H_hz0 := Lib.hid hz0
      clear hz0
      have H_hz1 := Lib.hid hz1
      clear hz1
      have H_hz2 := Lib.hid hz2
      clear hz2
      have H_hbad := Lib.hid hbad
      clear hbad
      go_enter Tryz.func40, Tryz.ntmps40
      go_wp2_with fail
      go_returns
      exact ⟨_, _, _, rfl, by decide, .inl (by decide), Turn.of_below (by repeat' (first | (with_reducible first | exact bwR _ _ | assumption | refine bdn ?_ | refine bwA ?_ ?_ _ | refine bwD ?_ | refine bwS ?_ ?_ _) | omega | (simp <;> omega)))⟩
  · have g1 : ¬ (150 : Int) < (xs.length : Int) := by omega
    have g2 : ¬ (15 : Int) < (deep : Int) := by omega
    have hd15 : deep ≤ 15 := by omega
    have hd1 : IntKind.i64.wrap ((deep : Int) + 1) = ((deep + 1 : Nat) : Int) := IntWalk.i64_in _ (by omega)
    have H_hown := Lib.hid hown
    clear hown
    have H_hsl := Lib.hid hsl
    clear hsl
    have H_hvb := Lib.hid hvb
    clear hvb
    have H_hB := Lib.hid hB
    clear hB
    have H_h1 := Lib.hid h1
    clear h1
    have H_h2 := Lib.hid h2
    clear h2
    have H_h3 := Lib.hid h3
    clear h3
    have H_ih := Lib.hid ih
    clear ih
    have H_hi := Lib.hid hi
    clear hi
    have H_hz0 := Lib.hid hz0
    clear hz0
    have H_hz1 := Lib.hid hz1
    clear hz1
    have H_hz2 := Lib.hid hz2
    clear hz2
    have H_hbad := Lib.hid hbad
    clear hbad
    go_enter Tryz.func40, Tryz.ntmps40
    have hBw1 : Below w.heap.size w (w.alloc (.cells #[.string nm, .slice ao al ac, .slice ko kl kc] 25)) := (Below.refl _ _).alloc (Nat.le_refl _) _
    have hown1 : OwnR EFl (w.alloc (.cells #[.string nm, .slice ao al ac, .slice ko kl kc] 25)) 0 95 (.slice oV xs.length cV) xs := H_hown.out.alloc _
    have H_hBw1 := Lib.hid hBw1
    clear hBw1
    have H_hown1 := Lib.hid hown1
    clear hown1
    go_wp2_with (at_builtin; refine wp_append_told rfl (.tmp 21) (.tmp 29) 28 rfl EFl 0 95 i0 _ 56 Tryz.underlying28 H_hi.out H_hz0.out H_hz1.out H_hz2.out rfl (by decide) _ xs rfl _ _ 1 1 [⟨nm, ao, al, ac, ats, par, deep⟩] rfl rfl ?a1 ?a2 ?a3 ?a4 ?_)
    case a1 => omega
    case a2 => exact H_hown1.out.alloc _
    case a3 => exact row_one (vs := #[.string nm, .slice ao al ac, .int .i64 par, .int .i64 deep]) rfl (fun j => by have h := World.cell?_alloc_new (w.alloc (.cells #[.string nm, .slice ao al ac, .slice ko kl kc] 25)) #[.string nm, .slice ao al ac, .int .i64 par, .int .i64 deep] 95 j; rw [World.size_alloc] at h; exact h)
    intro v3 w3 hv3 hA3 hg3 ho3
    obtain ⟨o3, c3, rfl⟩ := fl_form hv3
    have hI0 := FlInv.start ((Below.refl _ _).alloc (Nat.le_refl _) _) hv3 H_hsl.out (show SlA EAt wB ao al ac ats from H_h1.out) hg3 (ho3.imp id (fun h => h.trans (by rw [World.size_alloc, World.size_alloc]))) (flLK_start xs ⟨nm, ao, al, ac, ats, par, deep⟩ deep ks)
    have hl0 : (xs ++ [(⟨nm, ao, al, ac, ats, par, deep⟩ : FlX)]).length ≤ 151 := by rw [List.length_append]; show xs.length + 1 ≤ 151; omega
    have hme : fv ⟨nm, ao, al, ac, ats, par, deep⟩ = ⟨nm, ats, par, deep⟩ := rfl
    rw [hme] at hI0
    clear hme
    generalize xs ++ [(⟨nm, ao, al, ac, ats, par, deep⟩ : FlX)] = ys at hI0 hl0 ⊢
    have hbox : (w.alloc (.cells #[.string nm, .slice ao al ac, .slice ko kl kc] 25)).heap[w.heap.size]? = some (.cells #[.string nm, .slice ao al ac, .slice ko kl kc] 25 (0, 0)) := heap_alloc_new _ _
    have hnb : ¬ (Value.slice oV xs.length cV).ownBlock = some w.heap.size := fun h => by have := (H_hown.out.lt _ h).2; omega
    have z1 : w.heap.size < (w.alloc (.cells #[.string nm, .slice ao al ac, .slice ko kl kc] 25)).heap.size := by simp
    have hvb1 : ∀ b, (Value.slice oV xs.length cV).ownBlock = some b → wB.heap.size ≤ b := H_hvb.out
    generalize w.alloc (.cells #[.string nm, .slice ao al ac, .slice ko kl kc] 25) = w1 at hI0 hbox z1 H_hBw1
    have hB1 : Below wB.heap.size wB w1 := H_hB.out.trans (H_hBw1.out.mono zB)
    clear hv3 hA3 hg3 ho3 H_hown1
    have H_hI0 := Lib.hid hI0
    clear hI0
    have H_hbox := Lib.hid hbox
    clear hbox
    have H_hnb := Lib.hid hnb
    clear hnb
    have H_hB1 := Lib.hid hB1
    clear hB1
    go_wp2_with fail
    go_loopw [10, 11] (fun t10 t11 wr => ∃ (k : Nat) (o : Option Addr) (c : Nat) (ys : List FlX), k ≤ kl ∧ t11 = .int .i64 k ∧ ys.length ≤ 151 ∧ t10 = .slice o ys.length c ∧ RowKit.Hid (FlInv 95 wB w1 (.slice oV xs.length cV) (flLK xs ⟨nm, ats, par, deep⟩ deep ks k) wr (.slice o ys.length c) ys)) (fun _ t11 _ => kl - (intOf t11).toNat)
    case atStart => exact ⟨0, _, _, ys, Nat.zero_le _, rfl, hl0, rfl, H_hI0⟩
    case round =>
      obtain ⟨k, o, c, zs, hk, rfl, hlz, rfl, H_I⟩ := hrel
      have b2 : wr.cell? ⟨w.heap.size, 2, none⟩ = some (.slice ko kl kc) := (H_I.out.tn.cell (p := ⟨w.heap.size, 2, none⟩) z1 H_hnb.out).trans (hcell_of H_hbox.out rfl)
      by_cases hlt : k < kl
      · have hk' : k < ks.length := by have := H_h2.out.1; omega
        obtain ⟨b, off, rfl, hbw, hr⟩ : ∃ b off, ko = some ⟨b, off, none⟩ ∧ b < wB.heap.size ∧ RowIn ENd wB b off ks := by
          refine H_h2.out.2.2.2.resolve_left ?_
          intro h; rw [h] at hk'; simp at hk'
        have zB1 := H_hB1.out.size
        have hBr : Below wB.heap.size wB wr := H_hB1.out.trans (H_I.out.tn.below zB1 hvb1)
        have hkid := H_h3.out _ (List.getElem_mem hk')
        obtain ⟨ao', al', ac', ko', kl', kc', hv, _⟩ := hkid.attrsAt
        have hcell := fun (q : Nat) (v : Value) (hq : ks[k].vals[q]? = some v) => (hr.keep hBr hbw) k hk' q v hq
        rw [hv] at hcell
        have q0 : wr.cell? ⟨b, off + k * 3, none⟩ = some (.string ks[k].name) := hcell 0 _ rfl
        have q1 : wr.cell? ⟨b, off + k * 3 + 1, none⟩ = some (.slice ao' al' ac') := hcell 1 _ rfl
        have q2 : wr.cell? ⟨b, off + k * 3 + 2, none⟩ = some (.slice ko' kl' kc') := hcell 2 _ rfl
        have hcall := H_ih.out _ (List.getElem_mem hk') (.slice o zs.length c) zs (xs.length : Int) wr H_I.out.own hlz H_I.out.sl (fun j hj => by rcases H_I.out.nw j hj with h | h; (· exact hvb1 j h); (· omega)) hd15 hBr
        rw [hv] at hcall
        obtain ⟨nk, hnk⟩ : ∃ u, ks[k].name = u := ⟨_, rfl⟩
        rw [hnk] at q0 hcall
        clear hr hkid hv hcell hnk
        have H_hcall := Lib.hid hcall
        clear hcall
        go_wp2_with fail
        refine H_hcall.out.mono ?_
        rintro en w2 ⟨o2, l2, c2, rfl, hl2, hcase, hT2⟩
        have H_T2 := Lib.hid hT2
        clear hT2
        by_cases h150 : 150 < l2
        · have g3 : (150 : Int) < (l2 : Int) := by omega
          clear hcase
          go_wp2_with fail
          go_returns
          exact H_I.out.stop H_hBw1.out hl2 h150 H_T2.out
        · have g3 : ¬ (150 : Int) < (l2 : Int) := by omega
          obtain ⟨us, hu1, hu2, hu3, hu4, hu5⟩ := hcase.resolve_left h150
          have hI2 := H_I.out.more hu1 hu3 hu4 H_T2.out (hu5.trans (flLK_next H_I.out.vals hk'))
          clear hcase hu1 hu3 hu4 hu5
          subst hu2
          have H_hI2 := Lib.hid hI2
          clear hI2
          go_wp2_with fail
          go_roundw
          case rel => exact ⟨k + 1, o2, c2, us, by omega, by go_num, hl2, rfl, H_hI2⟩
          case measure => simp [intOf]; omega
      · obtain rfl : k = kl := by omega
        go_wp2_with fail
        go_returns
        have hkl := H_h2.out.1
        rw [hkl] at H_I
        exact H_I.out.done H_hBw1.out hlz rfl
theorem flats_any (wB : World) : ∀ (z : Nat) (n : NT) (v : Value) (xs : List FlX) (par : Int) (deep : Nat) (w : World), SizeOf.sizeOf n < z → OwnR EFl w 0 95 v xs → xs.length ≤ 151 → (∀ x ∈ xs, SlA EAt wB x.ao x.al x.ac x.ats) → (∀ b, v.ownBlock = some b → wB.heap.size ≤ b) → deep ≤ 16 → Below wB.heap.size wB w → NodeOk wB n →
    Calls Tryz.prog 40 #[v, .agg n.vals.toArray, .int .i64 par, .int .i64 (deep : Int)] w fun en w1 => FlOut 95 wB v (xs.map fv ++ allF n.rt par deep xs.length) w w1 en := by
  intro z
  induction z with
  | zero => intro n v xs par deep w h; omega
  | succ z ih =>
    intro n v xs par deep w hs h1 h2 h3 h4 h5 h6 hn
    cases hn with
    | mk a1 a2 a3 =>
      rename_i nm ao al ac ats ko kl kc ks
      have hL : xs.map fv ++ allF (NT.mk nm ao al ac ats ko kl kc ks).rt par deep xs.length = flLK xs ⟨nm, ats, par, deep⟩ deep ks ks.length := by
        unfold flLK
        rw [List.take_length]
        simp only [NT.rt, allF]
      rw [hL]
      exact flats_step v xs par deep nm ao al ac ats ko kl kc ks wB w h1 h2 h3 h4 h5 h6 a1 a2 a3 fun k hk v' xs' par' w' b1 b2 b3 b4 b5 b6 =>
        ih k v' xs' par' (deep + 1) w' (by have := kid_less (n := .mk nm ao al ac ats ko kl kc ks) hk; omega) b1 b2 b3 b4 (by omega) b6 (a3 k hk)
end Go.Proofs.YtndlmmpheecleaaGreatDoor

/-
  Walks over the statements' helpers: FlatsOf.
-/
namespace Go.Proofs.YtndlmmpheecleaaGreatDoor
open Go.RowKit Go.WideMaps Go.Maps Lead Lead.Dc
theorem fl_cell {w1 wo wr : World} {g i : Nat} {v : Value} (h1 : Below w1.heap.size w1 wo) (h2 : Below w1.heap.size w1 wr) (hg : g < w1.heap.size) (h : wo.cell? ⟨g, i, none⟩ = some v) : wr.cell? ⟨g, i, none⟩ = some v := by
  rw [h2.cell (p := ⟨g, i, none⟩) hg, ← h1.cell (p := ⟨g, i, none⟩) hg]; exact h
end Go.Proofs.YtndlmmpheecleaaGreatDoor
