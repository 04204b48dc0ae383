/-
  Walks over the reference's document: Add, where it adds.
-/
import Derived.Test.YtndlmmpheecleaaGreatDoorUe
namespace Lead.Rc
open Go Go.RowKit Lead Lead.Dc Lead.Pk
variable {T : RTys} {base b : Nat} {W W1 w3 : World} {v v' : Value} {l : List ReX}
/-- Where one element more was laid and then its parent's children set: its own blocks. -/
theorem acts_add {x y : ReX} {q : Nat} {w w8 : World} (hq : q < (l ++ [x]).length) (hx : x.av.ownBlock = none ∧ x.kv.ownBlock = none) (hya : y.av = ((l ++ [x])[q]).av) (hyk : ∀ k, y.kv.ownBlock = some k → w.heap.size ≤ k)
    (hv : v'.ownBlock = v.ownBlock ∨ ∃ k, v'.ownBlock = some k ∧ w.heap.size ≤ k) (hD : RDoc T base w8 b v' ((l ++ [x]).set q y)) (hT : Turn (RG b v l) w w8) (hxs : x.ats = [] ∧ x.kids = []) (hys : ∀ K, Sz K l → y.ats.length ≤ K + 1 ∧ y.kids.length ≤ K + 1) :
    RDoc T base w8 b v' ((l ++ [x]).set q y) ∧ Turn (RG b v l) w w8 ∧ (∀ k, RG b v' ((l ++ [x]).set q y) k → RG b v l k ∨ w.heap.size ≤ k) ∧ (RDis l → RDis ((l ++ [x]).set q y)) ∧ ∀ K, Sz K l → Sz (K + 1) ((l ++ [x]).set q y) := by
  have hold : ∀ z ∈ l ++ [x], ∀ k, (z.av.ownBlock = some k ∨ z.kv.ownBlock = some k) → RG b v l k := fun z hz k hk => by
    rcases List.mem_append.1 hz with hz | hz
    · exact .inr (.inr ⟨z, hz, hk⟩)
    · rw [List.mem_singleton.1 hz, hx.1, hx.2] at hk
      rcases hk with hk | hk <;> cases hk
  refine ⟨hD, hT, fun k hk => ?_, fun hd => ?_, fun K hK => Sz.set (K := K) (fun z hz => ?_) (Nat.le_succ K) (hys K hK)⟩
  · rcases hk with rfl | hk | ⟨z, hz, hk⟩
    · exact .inl (.inl rfl)
    · rcases hv with hv | ⟨k', hv, hle⟩
      · rw [hv] at hk; exact .inl (.inr (.inl hk))
      · rw [hv] at hk; injection hk with hk; subst hk; exact .inr hle
    · rcases List.mem_or_eq_of_mem_set hz with hz | rfl
      · exact .inl (hold z hz k hk)
      · rcases hk with hk | hk
        · rw [hya] at hk; exact .inl (hold _ (List.getElem_mem hq) k (.inl hk))
        · exact .inr (hyk k hk)
  · have h1 : RDis (l ++ [x]) := fun i j hi hj hne k h1 h2 => by
      by_cases hil : i < l.length
      · by_cases hjl : j < l.length
        · rw [List.getElem_append_left hil] at h1
          rw [List.getElem_append_left hjl] at h2
          exact hd i j hil hjl hne k h1 h2
        · rw [List.getElem_append_right (by omega)] at h2
          rw [List.length_append, List.length_singleton] at hj
          simp only [show j - l.length = 0 by omega, List.getElem_cons_zero, hx.1] at h2
          cases h2
      · rw [List.getElem_append_right (by omega)] at h1
        rw [List.length_append, List.length_singleton] at hi
        simp only [show i - l.length = 0 by omega, List.getElem_cons_zero, hx.1] at h1
        cases h1
    exact h1.set_av hq (fun k hk => .inl (by rw [← hya]; exact hk))
  · rcases List.mem_append.1 hz with hz | hz
    · exact hK z hz
    · rw [List.mem_singleton.1 hz, hxs.1, hxs.2]; exact ⟨Nat.zero_le _, Nat.zero_le _⟩
end Lead.Rc
namespace Go.Proofs.YtndlmmpheecleaaGreatDoor
open Go.RowKit Go.WideMaps Go.Maps Lead Lead.Dc Lead.Pk Lead.Rc
set_option maxHeartbeats 4000000 in
set_option maxRecDepth 100000 in
theorem radd_ok (base b : Nat) (v : Value) (l : List ReX) (E : Els) (next : Nat) (d : Nat → Nat) (q k : Nat) (nm : ByteArray) (pe : El) (w : World) (h : RDoc RT_ base w b v l) (hbw : base ≤ w.heap.size) (hR : RelD l E next) (hnx : next + 1 ≤ 900000) (g : Lead.Dc.Good E next d) (hlen : E.length < 100) (hnm : nm.size ≤ 1000000) (hat' : elAt E q = some pe) (hk : k ≤ pe.kids.length) (hkb : pe.kids.length ≤ 900000) (hok : nmOk nm = true) (hdp : d q < 10) :
    Calls Tryz.prog 12 #[.pointer (some ⟨b, 0, none⟩), .int .i64 (q : Int), .int .i64 (k : Int), .string nm] w fun en w' => en = .returned (.tuple #[.int .i64 (next : Int), .int .i64 0]) ∧ ∃ l' v', RelD l' (addE E next q k nm) (next + 1) ∧ RActs base b v l l' v' w w' := by
  have hlm : l.length ≤ 1000000 := by rw [hR.len]; omega
  have cH := rhas_any base b v l (q : Int) w h hlm
  rw [hR.has, if_pos (by omega), Int.toNat_natCast, hat'] at cH
  obtain ⟨hql, _, _, _, hqk, _⟩ := hR.el q pe hat'
  obtain ⟨gd, cap, hv, hgd, hbg, hgb, _, _, _, hfz⟩ := h.v_form hql
  have hvo : v.ownBlock = some gd := by rw [hv]; rfl
  have hcell := fun (W : World) (hW : Below w.heap.size w W) => (h.keep hW).cells (g := gd) (cap := cap) (p := q) hv hql
  have hc0 := fun (W : World) (hW : Below w.heap.size w W) => (h.keep hW).c0
  have hown := fun (W : World) (hW : Below w.heap.size w W) => (h.keep hW).own
  simp only [hv] at hc0 hown
  have hkl : l[q].kl = pe.kids.length := by
    have hs := (h.sub _ (List.getElem_mem hql)).kids
    have := (Rc.sla_of (show OwnR EIn w base 3 (.slice l[q].ko l[q].kl l[q].kc) l[q].kids from hs)).1
    rw [this, hqk]
  have gql : (q : Int) < (l.length : Int) := by omega
  have hNn := hR.len
  obtain ⟨ko, hko⟩ : ∃ u, l[q].ko = u := ⟨_, rfl⟩
  obtain ⟨kc, hkc⟩ : ∃ u, l[q].kc = u := ⟨_, rfl⟩
  simp only [hkl, hko, hkc] at hcell
  rw [hNn] at hc0 gql hlm
  have cN := fun (W : World) => risname_any nm W hnm
  rw [hok] at cN
  have cD := fun (W : World) (hW : Below w.heap.size w W) => rdeep_any base b v l E next d q pe W (h.keep hW) g hR.par hat'
  have cA := fun (W : World) (hW : Below w.heap.size w W) => rall2_any base b v l E next d W (h.keep hW) g (by omega) (fun n e he => by obtain ⟨h1, _, _, _, h2, _⟩ := hR.el n e he; exact ⟨h1, h2⟩)
  have hall := g.all_len
  obtain ⟨K, hK⟩ : ∃ u, pe.kids.length = u := ⟨_, rfl⟩
  rw [hK] at hcell hk hkb
  obtain ⟨D, hD⟩ : ∃ u, d q = u := ⟨_, rfl⟩
  rw [hD] at cD hdp
  have hi0 : ¬ (k : Int) < 0 := by omega
  have hi1 : ¬ (K : Int) < (k : Int) := by omega
  obtain ⟨iR, hiR, hzR0, hzR1, hzR2⟩ := info_parts infoRe
  have hbl := h.lt
  have H_cH := Lib.hid cH
  clear cH
  have H_h := Lib.hid h
  clear h
  have H_hR := Lib.hid hR
  clear hR
  have H_g := Lib.hid g
  clear g
  have H_hat' := Lib.hid hat'
  clear hat'
  have H_cN := Lib.hid cN
  clear cN
  have H_cD := Lib.hid cD
  clear cD
  have H_cA := Lib.hid cA
  clear cA
  have H_hall := Lib.hid hall
  clear hall
  have H_hcell := Lib.hid hcell
  clear hcell
  have H_hc0 := Lib.hid hc0
  clear hc0
  have H_hown := Lib.hid hown
  clear hown
  have H_hqk := Lib.hid hqk
  clear hqk
  have H_hkl := Lib.hid hkl
  clear hkl
  have H_hko := Lib.hid hko
  clear hko
  have H_hkc := Lib.hid hkc
  clear hkc
  have H_hiR := Lib.hid hiR
  clear hiR
  have H_hzR0 := Lib.hid hzR0
  clear hzR0
  have H_hzR1 := Lib.hid hzR1
  clear hzR1
  have H_hzR2 := Lib.hid hzR2
  clear hzR2
  have H_hNn := Lib.hid hNn
  clear hNn
  have H_hK := Lib.hid hK
  clear hK
  have H_hok := Lib.hid hok
  clear hok
  have H_hfz := Lib.hid hfz
  clear hfz
  go_enter Tryz.func12, Tryz.ntmps12
  go_wp2_with fail
  refine (H_cH.out).mono ?_
  rintro _ w1 ⟨rfl, hb1⟩
  have hB1 : Below w.heap.size w w1 := hb1
  have c0 := H_hc0.out w1 hB1
  obtain ⟨_, _, _, q3, _⟩ := H_hcell.out w1 hB1
  clear hb1
  go_wp2_with fail
  refine (H_cN.out _).mono ?_
  rintro _ w2 ⟨rfl, hb2⟩
  have hB2 : Below w.heap.size w w2 := below_via hB1 hb2
  clear hb2 c0 q3
  go_wp2_with fail
  refine (H_cD.out _ hB2).mono ?_
  rintro _ w3 ⟨rfl, hb3⟩
  have hB3 : Below w.heap.size w w3 := below_via hB2 hb3
  have gD : IntKind.i64.wrap ((D : Int) + 1) = ((D + 1 : Nat) : Int) := IntWalk.i64_in _ (by omega)
  have gd1 : ¬ (10 : Int) < ((D + 1 : Nat) : Int) := by omega
  clear hb3
  go_wp2_with fail
  refine (H_cA.out _ hB3).mono ?_
  rintro _ w4 ⟨v4, rfl, hv4, hb4⟩
  obtain ⟨o4, c4, rfl⟩ := Rc.ow_form hv4
  have hB4 : Below w.heap.size w w4 := below_via hB3 hb4
  have hal := H_hall.out
  obtain ⟨M, hM⟩ : ∃ u, (below E 10 0).length = u := ⟨_, rfl⟩
  rw [hM] at hal ⊢
  have gM : ¬ (100 : Int) ≤ (M : Int) := by omega
  have c0 := H_hc0.out w4 hB4
  have hs4 := hB4.size
  clear hb4 hv4
  have H_hM := Lib.hid hM
  clear hM
  have H_hal := Lib.hid hal
  clear hal
  go_wp2_with (at_builtin; refine wp_append_told rfl (.tmp 55) (.tmp 59) 63 rfl ERe base 62 iR _ 80 Tryz.underlying63 H_hiR.out H_hzR0.out H_hzR1.out H_hzR2.out rfl (by decide) _ l rfl _ 0 1 1 [newX nm q] rfl rfl ?a2 ?a3 ?a4 ?a5 ?_)
  case a2 => have := H_hNn.out; show l.length + 1 ≤ 1000000; omega
  case a3 => have h := H_hown.out w4 hB4; first | exact h.alloc _ | (rw [H_hNn.out] at h; exact h.alloc _)
  case a4 => exact row_one (vs := #[.string nm, .slice none 0 0, .int .i64 (q : Int), .slice none 0 0, .bool true]) rfl (fun j => World.cell?_alloc_new _ _ _ _)
  case a5 => simp; omega
  intro v7 w7 hv7 hA7 hg7 ho7
  have h4 := H_h.out.keep hB4
  have hbA : Below w4.heap.size w4 (w4.alloc (.cells #[.string nm, .slice none 0 0, .int .i64 (q : Int), .slice none 0 0, .bool true] 62)) := (Below.refl _ _).alloc (Nat.le_refl _) _
  have hg7' : (w4.alloc (.cells #[.string nm, .slice none 0 0, .int .i64 (q : Int), .slice none 0 0, .bool true] 62)).grownBy w7 v.ownBlock := by rw [hvo]; exact hg7
  have ho7' : v7.ownBlock = v.ownBlock ∨ v7.ownBlock = some (w4.alloc (.cells #[.string nm, .slice none 0 0, .int .i64 (q : Int), .slice none 0 0, .bool true] 62)).heap.size := by rw [hvo, World.size_alloc]; exact ho7
  have hm := h4.more hbA (x := newX nm q) ⟨OwnR.nil _ _ _ _, OwnR.nil _ _ _ _, (fun k hk => by cases hk), fun k hk => by cases hk⟩ hv7 hg7' ho7'
  have hgd : RG b v l gd := .inr (.inl hvo)
  have hT7 : Turn (RG b v l) w (w7.setCell ⟨b, 0, none⟩ v7) :=
    (((Turn.of_below hB4).trans (F' := RG b v l) (Turn.of_below hbA) (fun _ _ h => h)).trans (F' := RG b v l) (Turn.grown (b := gd) hg7 hgd) (fun _ _ h => h)).trans (F' := RG b v l) (Turn.set (a := ⟨b, 0, none⟩) (.inl rfl)) (fun _ _ h => h)
  have hv7o : v7.ownBlock = v.ownBlock ∨ ∃ k, v7.ownBlock = some k ∧ w.heap.size ≤ k := ho7'.imp id (fun h => ⟨_, h, by rw [World.size_alloc]; omega⟩)
  have hc7 : w7.cell? ⟨b, 0, none⟩ = some (.slice (some ⟨gd, 0, none⟩) next cap) := by
    have hlt1 : b < (w4.alloc (.cells #[.string nm, .slice none 0 0, .int .i64 (q : Int), .slice none 0 0, .bool true] 62)).heap.size := by rw [World.size_alloc]; have := h4.lt; omega
    have hne : b ≠ gd := fun e => hgb e.symm
    rw [World.cell?_of_block (w := w4.alloc (.cells #[.string nm, .slice none 0 0, .int .i64 (q : Int), .slice none 0 0, .bool true] 62)) (a := ⟨b, 0, none⟩) (hg7.block b hlt1 (fun e => hne (Option.some.inj e))), World.cell?_alloc_lt _ _ _ h4.lt]
    exact c0
  have hf7 : w7.frozen? ⟨b, 0, none⟩ = false := by
    have h1 := hm.fr 0
    rw [World.frozen?_setCell] at h1; exact h1
  obtain ⟨o7, c7, h7⟩ := Rc.ow_form hv7
  rw [List.length_append, show ([newX nm q] : List ReX).length = 1 from rfl] at h7
  subst h7
  have hlx : (l ++ [newX nm q]).length = next + 1 := by rw [List.length_append, H_hNn.out]; rfl
  have hqx : q < (l ++ [newX nm q]).length := by rw [List.length_append]; omega
  have hxq : (l ++ [newX nm q])[q] = l[q] := List.getElem_append_left hql
  have cK := kid2_any base b _ (l ++ [newX nm q]) q k next _ hm (by have h1 := hT7.size; exact Nat.le_trans hbw h1) hqx (by rw [hxq, H_hqk.out, H_hK.out]; exact hk) (by rw [hlx]; omega) (by rw [hxq, H_hqk.out, H_hK.out]; exact hkb) (by omega)
  have hrel := fun (o : Option Addr) (L c : Nat) => H_hR.out.add H_g.out (q := q) (k := k) (nm := nm) (ko := o) (kl := L) (kc := c) hqx hql
  clear hv7 hA7 hg7 ho7 hg7' ho7' hbA h4 c0
  have H_hm := Lib.hid hm
  clear hm
  have H_hT7 := Lib.hid hT7
  clear hT7
  have H_hv7o := Lib.hid hv7o
  clear hv7o
  have H_cK := Lib.hid cK
  clear cK
  have H_hrel := Lib.hid hrel
  clear hrel
  have H_hlx := Lib.hid hlx
  clear hlx
  have H_hxq := Lib.hid hxq
  clear hxq
  go_wp2_with fail
  refine (H_cK.out).mono ?_
  rintro _ w9 ⟨rfl, ⟨ko', kl', kc', hfr, hR9⟩, hT9⟩
  have hsz8 : w.heap.size ≤ (w7.setCell ⟨b, 0, none⟩ (.slice o7 (l.length + 1) c7)).heap.size := H_hT7.out.size
  have hT : Turn (RG b v l) w w9 := H_hT7.out.trans hT9 (fun i hi hv' => by
    rcases H_hv7o.out with h1 | ⟨k', h1, h2⟩
    · rw [h1] at hv'; exact .inr (.inl hv')
    · rw [h1] at hv'; injection hv' with hv'; omega)
  have hys : ∀ K, Sz K l → ((l ++ [newX nm q])[q]).ats.length ≤ K + 1 ∧ ((l ++ [newX nm q])[q].kids.take k ++ next :: (l ++ [newX nm q])[q].kids.drop k).length ≤ K + 1 := fun K hK => by
    rw [H_hxq.out]
    have := hK.get hql
    rw [List.length_append, List.length_cons, List.length_take, List.length_drop]
    omega
  have hact := acts_add hqx (newX_none nm q) (y := { (l ++ [newX nm q])[q] with ko := ko', kl := kl', kc := kc', kids := (l ++ [newX nm q])[q].kids.take k ++ next :: (l ++ [newX nm q])[q].kids.drop k }) rfl (fun k' hk' => Nat.le_trans hsz8 (hfr k' hk')) H_hv7o.out hR9 hT ⟨rfl, rfl⟩ hys
  have hrel' := H_hrel.out ko' kl' kc'
  clear hR9 hT9 hT hfr H_cK H_hm
  have H_hact := Lib.hid hact
  clear hact
  have H_hrel' := Lib.hid hrel'
  clear hrel'
  go_wp2_with fail
  go_returns
  exact ⟨rfl, _, _, H_hrel'.out, H_hact.out⟩
end Go.Proofs.YtndlmmpheecleaaGreatDoor
