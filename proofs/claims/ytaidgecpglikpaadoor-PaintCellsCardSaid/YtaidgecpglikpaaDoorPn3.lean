/-
  A walk over slices.Repeat of one text.
-/
import Derived.Test.YtaidgecpglikpaaDoorPn2
import Derived.Test.YtaidgecpglikpaaDoorShelf
import Derived.Laws.CopyOwn
import Derived.OwnWalk
namespace Lead
open Go Go.RowKit
theorem splice_dots (n k : Nat) (d e : Value) (h : k ≤ n) :
    splice (List.replicate k d ++ List.replicate (n - k) e) k (List.replicate (Nat.min k (n - k)) d) = List.replicate (k + Nat.min k (n - k)) d ++ List.replicate (n - (k + Nat.min k (n - k))) e := by
  have hm : Nat.min k (n - k) ≤ n - k := Nat.min_le_right _ _
  have hk : (List.replicate k d).length = k := List.length_replicate
  unfold splice
  rw [List.length_replicate, List.take_append_of_le_length (by omega), List.take_of_length_le (by omega), List.drop_append, List.drop_of_length_le (by omega), List.length_replicate, List.nil_append, List.drop_replicate, ← List.append_assoc, List.replicate_append_replicate]
  congr 2
  omega
theorem splice_one (n : Nat) (d e : Value) (h : 1 ≤ n) : splice (List.replicate n e) 0 [d] = List.replicate 1 d ++ List.replicate (n - 1) e := by
  unfold splice
  simp [List.drop_replicate]
theorem made_heap {w : World} {base n : Nat} {e : TypeId} {g : Nat} {xs : List Value} (h : w.ownsRow base e 1 (.slice (some ⟨g, 0, none⟩) n n) n xs) (hn : 0 < n) : base ≤ g ∧ w.heap[g]? = some (.cells xs.toArray e (0, 0)) := by
  obtain ⟨h1, h2⟩ := h
  rcases h2 with ⟨h2, h3⟩ | ⟨g', cap, cur, h3, h4, h5, h6, h7, h8, h9⟩
  · omega
  · injection h3 with a1 a2 a3
    injection a1 with a1
    injection a1 with a1
    subst a1 a3
    refine ⟨h4, ?_⟩
    rw [List.take_of_length_le (by rw [Array.length_toList]; omega)] at h9
    rw [h5, ← h9]
theorem dots_at (n : Nat) (d : Value) (j : Nat) (v : Value) (h : (List.replicate n d)[j]? = some v) : v = d ∧ j < n := by
  rw [List.getElem?_replicate] at h
  split at h
  · exact ⟨(Option.some.inj h).symm, by assumption⟩
  · cases h
theorem heap_cell {w : World} {g j : Nat} {vs : Array Value} {t : TypeId} {v : Value} (h : w.heap[g]? = some (.cells vs t (0, 0))) (hj : vs[j]? = some v) : w.cell? ⟨g, j, none⟩ = some v := by
  simp [World.cell?, h, hj]
theorem infoStr_made (n : Nat) : (madeCells (Value.string ⟨#[]⟩).cells (n * 1)).toList = List.replicate n (Value.string ⟨#[]⟩) := by
  rw [Nat.mul_one]
  unfold madeCells
  apply List.ext_getElem
  · simp [Value.cells]
  · intro i h1 h2
    simp [Value.cells, Nat.mod_one]
end Lead
namespace Go.Proofs.YtaidgecpglikpaaDoor
open Go.RowKit Lead
theorem infoStr : (Tryd.prog.info? 9).map (fun i => (i.zero, i.size, i.bytes)) = some (some (.string ⟨#[]⟩), 1, 16) := by kernel_rfl
set_option maxHeartbeats 2000000 in
set_option maxRecDepth 100000 in
theorem repeat_any (n b : Nat) (w : World) (h1 : 1 ≤ n) (h40 : n ≤ 40) (hb : b < w.heap.size) (hc : w.cell? ⟨b, 0, none⟩ = some (.string ⟨#[46]⟩)) :
    Calls Tryd.prog 43 #[.slice (some ⟨b, 0, none⟩) 1 1, .int .i64 n] w fun e w' => ∃ g, e = .returned (.slice (some ⟨g, 0, none⟩) n n) ∧ w.heap.size ≤ g ∧ w'.heap[g]? = some (.cells (List.replicate n (Value.string ⟨#[46]⟩)).toArray 9 (0, 0)) ∧ Below w.heap.size w w' := by
  obtain ⟨i0, hi, hz0, hz1, hz2⟩ := info_parts infoStr
  have u0 : IntKind.u64.wrap (n : Int) = (n : Int) := IntWalk.u64_in _ ⟨by omega, by omega⟩
  have u1 : IntKind.i64.wrap (n : Int) = (n : Int) := IntWalk.i64_in _ (by omega)
  have e1 : ((1 * n / 18446744073709551616 : Nat) : Int) = 0 := by have : 1 * n / 18446744073709551616 = 0 := Nat.div_eq_of_lt (by omega); omega
  have e2 : ((1 * n % 18446744073709551616 : Nat) : Int) = n := by rw [Nat.one_mul, Nat.mod_eq_of_lt (by omega)]
  have g1 : ¬ (9223372036854775807 : Int) < (n : Int) := by omega
  have g2 : ¬ (n : Int) < 0 := by omega
  have H_hi := Lib.hid hi
  clear hi
  have H_hz0 := Lib.hid hz0
  clear hz0
  have H_hz1 := Lib.hid hz1
  clear hz1
  have H_hz2 := Lib.hid hz2
  clear hz2
  go_enter Tryd.func43, Tryd.ntmps43
  go_wp2_with fail
  refine (Tryd.bits_Mul 1 n (by omega) (by omega) _).mono ?_
  rintro _ wm ⟨rfl, hwm⟩
  rw [e1, e2, hwm]
  clear hwm
  clear wm
  go_wp2_with (refine wpList_make_full _ rfl (.tmp 29) (.tmp 29) 25 rfl _ 9 i0 _ 1 Tryd.underlying25 H_hi.out H_hz0.out H_hz1.out .i64 .i64 _ _ n rfl rfl rfl rfl ?a2 ?a3 (Nat.le_refl _) ?_)
  · rw [H_hz2.out]; omega
  · unfold maxLen; omega
  intro w1 hown hgr
  have hBm : Below w.heap.size w w1 := (Below.refl _ _).grown hgr (Nat.le_refl _) (fun q hq => by cases hq)
  obtain ⟨g, hg⟩ : ∃ u, w.heap.size = u := ⟨_, rfl⟩
  have hcur : w1.heap[g]? = some (.cells (List.replicate n (Value.string ⟨#[]⟩)).toArray 9 (0, 0)) := by
    have h := (made_heap hown (by omega)).2
    rw [hg] at h
    rw [h]
    have e := infoStr_made n
    rw [Nat.mul_one] at e
    rw [← e]; rfl
  have hc1 : w1.cell? ⟨b, 0, none⟩ = some (.string ⟨#[46]⟩) := by rw [hBm.cell (p := ⟨b, 0, none⟩) hb]; exact hc
  rw [hg]
  have hgb : b < g := by omega
  have hBm' : Below g w w1 := by rw [← hg]; exact hBm
  clear hown hgr hBm
  go_wp2_with (refine wpList_copy_splice rfl (.tmp 31) (.tmp 32) 25 25 rfl 9 Tryd.underlying25 ?b1 _ _ _ _ _ _ rfl rfl g 0 (List.replicate n (Value.string ⟨#[]⟩)) 9 hcur [Value.string ⟨#[46]⟩] ?b2 ?b3 ?b4 ?b5 g w hBm' (Nat.le_refl _) ?_)
  case b1 => rw [H_hi.out]; simp [H_hz1.out]
  case b2 => show 1 = min 1 n; omega
  case b3 =>
    first
      | (intro j v hj; match j, hj with | 0, h => simp at h; subst h; exact hc1)
      | (intro _; exact ⟨rfl, _, rfl, fun j v hj => by match j, hj with | 0, h => simp at h; subst h; exact hc1⟩)
  case b4 => simp; omega
  case b5 => intro v hv; simp at hv; subst hv; rfl
  intro w2 hH hB2
  have hcur2 : w2.heap[g]? = some (.cells (List.replicate 1 (Value.string ⟨#[46]⟩) ++ List.replicate (n - 1) (Value.string ⟨#[]⟩)).toArray 9 (0, 0)) := by
    have h := hH.out
    rw [splice_one n _ _ h1] at h
    exact h
  clear hH hcur hc1 hBm'
  clear w1
  have H_hcur2 := Lib.hid hcur2
  clear hcur2
  go_wp2_with fail
  go_loopw [8] (fun t8 wr => ∃ k : Nat, 1 ≤ k ∧ k ≤ n ∧ t8 = .int .i64 k ∧ wr.heap[g]? = some (.cells (List.replicate k (Value.string ⟨#[46]⟩) ++ List.replicate (n - k) (Value.string ⟨#[]⟩)).toArray 9 (0, 0)) ∧ Below g w wr) (fun t8 _ => n - (intOf t8).toNat)
  case atStart => exact ⟨1, Nat.le_refl _, h1, rfl, H_hcur2.out, hB2⟩
  case round =>
    obtain ⟨k, hk1, hkn, rfl, hcur, hB⟩ := hrel
    by_cases hlt : k < n
    · obtain ⟨m, hm⟩ : ∃ m, Nat.min k (n - k) = m := ⟨_, rfl⟩
      have hml : m = k ∨ m = n - k := by rw [← hm]; show min k (n - k) = k ∨ min k (n - k) = n - k; omega
      have hm1 : 1 ≤ m := by rw [← hm]; show 1 ≤ min k (n - k); omega
      have hmk : m ≤ k := by rw [← hm]; exact Nat.min_le_left _ _
      have hmn : m ≤ n - k := by rw [← hm]; exact Nat.min_le_right _ _
      have hsp := splice_dots n k (Value.string ⟨#[46]⟩) (Value.string ⟨#[]⟩) hkn
      rw [hm] at hsp
      have hcl : ∀ j v, (List.replicate m (Value.string ⟨#[46]⟩))[j]? = some v → wr.cell? ⟨g, j, none⟩ = some v := fun j v hj => by
        obtain ⟨rfl, hjm⟩ := dots_at _ _ _ _ hj
        refine heap_cell hcur ?_
        rw [List.getElem?_toArray, List.getElem?_append_left (by rw [List.length_replicate]; omega), List.getElem?_replicate, if_pos (by omega)]
      have i1 : IntKind.i64.wrap ((k : Int) + (m : Int)) = (k : Int) + (m : Int) := IntWalk.i64_in _ (by omega)
      have hne : (n = k) = False := eq_false (by omega)
      have hif : (Tryd.prog.info? 9).map (·.size) = some 1 := by rw [H_hi.out]; simp [H_hz1.out]
      have hlen : (List.replicate m (Value.string ⟨#[46]⟩)).length = Nat.min k (n - k) := by rw [List.length_replicate, hm]
      have hcl2 : ∀ j v, (List.replicate m (Value.string ⟨#[46]⟩))[j]? = some v → wr.cell? ((⟨g, 0, none⟩ : Addr).add j) = some v := fun j v hj => by rw [add_cell, Nat.zero_add]; exact hcl j v hj
      have hfit : k + (List.replicate m (Value.string ⟨#[46]⟩)).length ≤ (List.replicate k (Value.string ⟨#[46]⟩) ++ List.replicate (n - k) (Value.string ⟨#[]⟩)).length := by simp; omega
      have hone : ∀ v ∈ List.replicate m (Value.string ⟨#[46]⟩), v.oneCell' = true := by intro v hv; rw [List.mem_replicate] at hv; obtain ⟨_, rfl⟩ := hv; rfl
      obtain ⟨cs, hcs⟩ : ∃ cs, List.replicate m (Value.string ⟨#[46]⟩) = cs := ⟨_, rfl⟩
      obtain ⟨cu, hcu⟩ : ∃ cu, List.replicate k (Value.string ⟨#[46]⟩) ++ List.replicate (n - k) (Value.string ⟨#[]⟩) = cu := ⟨_, rfl⟩
      have hcsl : (cs.length : Int) = (m : Int) := by rw [← hcs, List.length_replicate]
      rw [hcs] at hlen hcl2 hfit hone hsp
      rw [hcu] at hfit hcur hsp
      have j1 : (0 : Int) ≤ (k : Int) := by omega
      have j2 : (k : Int) ≤ (n : Int) := by omega
      clear hcl
      have H_hsp := Lib.hid hsp
      clear hsp
      have H_hcur := Lib.hid hcur
      clear hcur
      have H_hm := Lib.hid hm
      clear hm
      have H_hif := Lib.hid hif
      clear hif
      have H_hlen := Lib.hid hlen
      clear hlen
      have H_hcl2 := Lib.hid hcl2
      clear hcl2
      have H_hfit := Lib.hid hfit
      clear hfit
      have H_hone := Lib.hid hone
      clear hone
      have H_hcs := Lib.hid hcs
      clear hcs
      have H_hcu := Lib.hid hcu
      clear hcu
      have H_hcsl := Lib.hid hcsl
      clear hcsl
      go_wp2_with fail
      go_region_held3 (fun W => Below g w W) (first | with_reducible exact hB | with_reducible exact hb4 | exact by repeat' (first | (with_reducible first | exact bwR _ _ | assumption | refine bdn ?_ | refine bwA ?_ ?_ _ | refine bwD ?_ | refine bwS ?_ ?_ _) | omega | (simp <;> omega)))
        (first | ((refine step_copy_splice rfl (.tmp 41) (.tmp 44) 25 25 rfl 9 Tryd.underlying25 H_hif.out (some ⟨g, k, none⟩) (some ⟨g, 0, none⟩) (n - k) (n - k) k n rfl rfl g k cu 9 H_hcur.out cs H_hlen.out (fun _ => ⟨rfl, _, rfl, H_hcl2.out⟩) H_hfit.out H_hone.out g w ?_ (Nat.le_refl _) ?_); (exact by repeat' (first | (with_reducible first | exact bwR _ _ | assumption | refine bdn ?_ | refine bwA ?_ ?_ _ | refine bwD ?_ | refine bwS ?_ ?_ _) | omega | (simp <;> omega))); (intro w4 hg4 hb4)))
      go_wp2_with fail
      go_roundw
      case rel =>
        have h4 := hg4.out
        rw [H_hsp.out] at h4
        refine ⟨k + m, by omega, by omega, ?_, h4, hb4⟩
        have e := H_hcsl.out
        have e2 : IntKind.i64.wrap ((k : Int) + (cs.length : Int)) = (k : Int) + (m : Int) := by rw [e]; exact i1
        exact congrArg (Value.int .i64) (e2.trans (by omega))
      case measure =>
        have e := H_hcsl.out
        have e2 : IntKind.i64.wrap ((k : Int) + (cs.length : Int)) = (k : Int) + (m : Int) := by rw [e]; exact i1
        simp [intOf]; omega
    · obtain rfl : k = n := by omega
      have H_hcur := Lib.hid hcur
      clear hcur
      go_wp2_with fail
      go_returns
      refine ⟨g, rfl, by omega, ?_, ?_⟩
      · have h := H_hcur.out
        rw [Nat.sub_self] at h
        simpa using h
      · have h := hB; rw [← hg] at h; exact h
end Go.Proofs.YtaidgecpglikpaaDoor
