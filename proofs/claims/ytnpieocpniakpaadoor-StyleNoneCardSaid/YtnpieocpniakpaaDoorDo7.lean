/-
  Walks over package doc: New.
-/
import Derived.Test.YtnpieocpniakpaaDoorDo3
import Derived.Test.YtnpieocpniakpaaDoorKm3
namespace Lead.Dc
open Go Go.RowKit Go.Maps Lead
theorem treeE_len (n : RT) : (treeE n (-1) 0).length = n.cnt := by
  obtain ⟨dep, t⟩ := treeE_ok n (-1) 0 1
  have h := congrArg List.length t.keys
  rw [List.length_map, List.length_range'] at h
  exact h
theorem mapD_nil (pl : Nat → Plc) : MapD (.map []) [] pl := ⟨⟨[], rfl, List.Pairwise.nil⟩, (fun n e h => by cases h), (fun z _ => rfl), rfl⟩
theorem doc_made {P : Program} {T : Tys} {w : World} {bd bm : Nat} (h1 : w.heap[bd]? = some (.cells #[.map (some bm), .int .i64 (0 : Int)] T.D (0, 0))) (h2 : w.ownsMap P T.I pElem bm 0 (.map [])) : DAt P T w bd [] 0 (fun _ => ⟨0, .nilIface, .nilIface⟩) bm 0 (.map []) :=
  ⟨Nat.zero_le _, Nat.zero_le _, h1, h2, mapD_nil _, (fun n e h => by cases h), (fun n m e f _ h => by cases h)⟩
theorem foot_made {w : World} {bd bm : Nat} (h1 : bd < w.heap.size) (h2 : bm < w.heap.size) : Foot w (fun k => k = bd ∨ k = bm) bd bm [] (fun _ => ⟨0, .nilIface, .nilIface⟩) :=
  ⟨.inl rfl, .inr rfl, (fun n e h => by cases h), (fun n e h => by cases h), (fun n e h => by cases h), (fun k hk => by rcases hk with rfl | rfl <;> assumption)⟩
end Lead.Dc
namespace Go.Proofs.YtnpieocpniakpaaDoor
open Go.RowKit Go.WideMaps Go.Maps Lead Lead.Dc
/-- A new document, or an error. -/
def NewIs (ea : Nat → Addr) (n : RT) (w : World) (en : Ending) (w' : World) : Prop :=
  Below w.heap.size w w' ∧ if (chkN n 0 1).2 = 0 then ∃ bd F d, en = .returned (.tuple #[.pointer (some ⟨bd, 0, none⟩), .nilIface]) ∧ (∀ k, F k → w.heap.size ≤ k) ∧ DokG Tryd.prog TT w' bd F (treeE n (-1) 0) n.cnt d ∧ n.cnt ≤ 100
  else ∃ t a, en = .returned (.tuple #[.pointer none, .iface t (.pointer (some a))]) ∧ ErrAt 132 63 ea w.heap.size w' (.iface t (.pointer (some a))) (chkE (chkN n 0 1))
set_option maxHeartbeats 1000000 in
theorem new_any (ea : Nat → Addr) (n : NT) (w : World) (hn : NodeOk w n) (hG : CGs ea w) :
    Calls Tryd.prog 7 #[.agg n.vals.toArray] w (NewIs ea n.rt w) := by
  obtain ⟨ao, al, ac, ko, kl, kc, hv, _⟩ := hn.attrsAt
  have hcon := fun (W : World) (hb : Below w.heap.size w W) => mcheck_any ea n W (hn.keep hb rfl) (hG.keep hb rfl)
  have hlay := fun (bd bm : Nat) (wB W : World) (hb0 : Below w.heap.size w wB) => lay_any bd bm wB (SizeOf.sizeOf n + 1) n 0 0 (-1) (fun k => k = bd ∨ k = bm) [] (fun _ => ⟨0, .nilIface, .nilIface⟩) (.map []) W (Nat.lt_succ_self _)
  have hnk := fun (W : World) (hb : Below w.heap.size w W) => hn.keep hb rfl
  have hfin := fine_of (SizeOf.sizeOf n + 1) n 0 1 (Nat.lt_succ_self _)
  have hok := chkN_ok n.rt 0 1
  have hmm := @run_makeMap Tryd.prog
  obtain ⟨nn, hnn⟩ : ∃ u, n.rt = u := ⟨_, rfl⟩
  obtain ⟨nk, hnke⟩ : ∃ u, n.name = u := ⟨_, rfl⟩
  rw [hv, hnn, hnke] at hcon
  rw [hnn] at hfin hok
  simp only [hv, hnn, hnke] at hlay
  rw [hv, hnn, hnke]
  clear hv hnke hn hG
  have H_hcon := Lib.hid hcon
  clear hcon
  have H_hlay := Lib.hid hlay
  clear hlay
  have H_hnk := Lib.hid hnk
  clear hnk
  have H_hfin := Lib.hid hfin
  clear hfin
  have H_hok := Lib.hid hok
  clear hok
  have H_hnn := Lib.hid hnn
  clear hnn
  go_enter Tryd.func7, Tryd.ntmps7
  go_wp2_with fail
  refine (H_hcon.out _ (by repeat' (first | (with_reducible first | exact bwR _ _ | assumption | refine bdn ?_ | refine bwA ?_ ?_ _ | refine bwD ?_ | refine bwS ?_ ?_ _) | omega | (simp <;> omega)))).mono ?_
  rintro _ w1 ⟨x1, rfl, hx1, hb1⟩
  have hB1 : Below w.heap.size w w1 := below_via (by repeat' (first | (with_reducible first | exact bwR _ _ | assumption | refine bdn ?_ | refine bwA ?_ ?_ _ | refine bwD ?_ | refine bwS ?_ ?_ _) | omega | (simp <;> omega))) hb1
  have t1 := hB1.size
  have z0 : w.heap.size < w1.heap.size := Nat.lt_of_lt_of_le (by simp) hb1.size
  have k0 : w1.cell? ⟨w.heap.size, 0, none⟩ = some (.string nk) := gkeep hb1 (World.cell?_alloc_new _ _ _ _) (by simp)
  have k1 : w1.cell? ⟨w.heap.size, 1, none⟩ = some (.slice ao al ac) := gkeep hb1 (World.cell?_alloc_new _ _ _ _) (by simp)
  have k2 : w1.cell? ⟨w.heap.size, 2, none⟩ = some (.slice ko kl kc) := gkeep hb1 (World.cell?_alloc_new _ _ _ _) (by simp)
  by_cases hc0 : (chkN nn 0 1).2 = 0
  · obtain rfl : x1 = .nilIface := hx1.nil (chkE_0 hc0)
    clear hx1 hb1
    have H_hc0 := Lib.hid hc0
    clear hc0
    go_wp2_with fail
    obtain ⟨W2, hW2⟩ : ∃ u, (w1.alloc (.map #[] 0)).alloc (.cells #[.map (some w1.heap.size), .int .i64 0] 58) = u := ⟨_, rfl⟩
    have hB2 : Below w1.heap.size w1 W2 := by rw [← hW2]; exact ((Below.refl _ _).alloc (Nat.le_refl _) _).alloc (by simp) _
    have z2 : W2.heap.size = w1.heap.size + 2 := by rw [← hW2]; simp
    have hd2 : W2.heap[w1.heap.size + 1]? = some (.cells #[.map (some w1.heap.size), .int .i64 0] 58 (0, 0)) := by
      rw [← hW2]
      have h := heap_alloc_new (w1.alloc (.map #[] 0)) (.cells #[.map (some w1.heap.size), .int .i64 0] 58)
      rw [show (w1.alloc (.map #[] 0)).heap.size = w1.heap.size + 1 by simp] at h
      exact h
    have hm2 : W2.ownsMap Tryd.prog TT.I pElem w1.heap.size 0 (.map []) := by
      refine map_below (World.ownsMap_made w1 Tryd.prog TT.I pElem) ?_
      rw [← hW2]
      exact (Below.alloc (Below.refl (w1.alloc (.map #[] 0)).heap.size (w1.alloc (.map #[] 0))) (Nat.le_refl _) _).block _ (by simp)
    rw [hW2]
    have hokk := H_hok.out H_hc0.out
    have hcl := H_hlay.out (w1.heap.size + 1) w1.heap.size w1 W2 hB1 (doc_made hd2 hm2) (Nat.le_refl _) (foot_made (by omega) (by omega)) ⟨fun x hx => by simp at hx, by simp⟩ hB2 (fun k hk => by rcases hk with rfl | rfl <;> omega) (H_hnk.out w1 hB1) (H_hfin.out H_hc0.out) (by omega)
    clear hW2 hd2 hm2
    refine hcl.mono ?_
    clear hcl
    rintro en w3 ⟨rfl, hL⟩
    rw [layN_eq nn (-1) [] 0 (fun x hx => by simp at hx)] at hL
    obtain ⟨pl', cnt', D', F', hA, hc, hF, hFF, hT, _⟩ := hL
    have hB3 : Below w.heap.size w w3 := (hB1.trans (hB2.mono t1)).trans (hT.below (by omega) (fun k hk => by rcases hk with rfl | rfl <;> omega))
    have hF' : ∀ k, F' k → w.heap.size ≤ k := fun k hk => by
      rcases hFF k hk with (h | h) | h <;> omega
    obtain ⟨dd, hgood⟩ := good_tree nn (by omega)
    have hlen := treeE_len nn
    have hA' : DAt Tryd.prog TT w3 (w1.heap.size + 1) (treeE nn (-1) 0) nn.cnt pl' w1.heap.size cnt' D' := by
      have h : DAt Tryd.prog TT w3 (w1.heap.size + 1) (treeE nn (-1) 0) (0 + nn.cnt) pl' w1.heap.size cnt' D' := hA
      rwa [Nat.zero_add] at h
    have hDok : DokG Tryd.prog TT w3 (w1.heap.size + 1) F' (treeE nn (-1) 0) nn.cnt dd := ⟨⟨pl', w1.heap.size, cnt', D', hA', (by have h : cnt' ≤ 0 + nn.cnt := hc; omega), hF⟩, hgood, by omega, by omega⟩
    have hcn : nn.cnt ≤ 100 := by omega
    clear hA hA' hc hF hFF hT hgood hlen hokk
    have H_hDok := Lib.hid hDok
    clear hDok
    have H_hF' := Lib.hid hF'
    clear hF'
    have H_hcn := Lib.hid hcn
    clear hcn
    go_wp2_with fail
    go_returns
    refine ⟨hB3, ?_⟩
    rw [if_pos H_hc0.out]
    exact ⟨_, F', dd, rfl, H_hF'.out, H_hDok.out, H_hcn.out⟩
  · obtain ⟨t', a', hxe⟩ := hx1.some (by rw [chkE_n hc0]; exact hc0)
    subst hxe
    have hx2 : ErrAt 132 63 ea w.heap.size w1 (.iface t' (.pointer (some a'))) (chkE (chkN nn 0 1)) := hx1.keep (Below.refl _ _) rfl (by simp)
    clear hx1 hb1
    have H_hx2 := Lib.hid hx2
    clear hx2
    have H_hc0 := Lib.hid hc0
    clear hc0
    go_wp2_with fail
    go_returns
    refine ⟨by repeat' (first | (with_reducible first | exact bwR _ _ | assumption | refine bdn ?_ | refine bwA ?_ ?_ _ | refine bwD ?_ | refine bwS ?_ ?_ _) | omega | (simp <;> omega)), ?_⟩
    rw [if_neg H_hc0.out]
    exact ⟨_, _, rfl, H_hx2.out⟩
end Go.Proofs.YtnpieocpniakpaaDoor
