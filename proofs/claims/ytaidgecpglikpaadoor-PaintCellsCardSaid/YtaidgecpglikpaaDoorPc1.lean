/-
  Plain: a row of a picture cell by cell, as the document's answer has it.
-/
import Derived.Test.YtaidgecpglikpaaDoorPn1
import Derived.Test.YtaidgecpglikpaaDoorRef5
namespace Lead
open Go Go.RowKit
def cellR (l : List Pk) (x y : Nat) : ByteArray := l.foldl (fun s p => if hitB p (cen x y) = true then p.fill else s) ⟨#[46]⟩
def refRow (l : List Pk) (n y : Nat) : List ByteArray := (List.range n).map fun x => cellR l x y
theorem onC_get (x : Pk) (y : Nat) (out : List ByteArray) : ∀ k i, (onC x y k out)[i]? = out[i]?.map fun s => if hitB x (cen (k + i) y) = true then x.fill else s := by
  induction out with
  | nil => intro k i; simp [onC]
  | cons s r ih =>
    intro k i
    cases i with
    | zero => simp [onC]
    | succ i =>
      show (onC x y (k + 1) r)[i]? = _
      rw [ih]
      have e : k + 1 + i = k + (i + 1) := by omega
      rw [e]; rfl
end Lead
namespace Go.Proofs.YtaidgecpglikpaaDoor
open Go.RowKit Lead
theorem crs_edge {ps : List Pt} {p : Pt} (h : crsTo ps p ps.length ≠ []) : ∃ a ∈ ps, ∃ b ∈ ps, crossPt a b p ≠ 0 := by
  have key : ∀ k, k ≤ ps.length → crsTo ps p k ≠ [] → ∃ a ∈ ps, ∃ b ∈ ps, crossPt a b p ≠ 0 := by
    intro k
    induction k with
    | zero => intro _ h; exact absurd (by simp [crsTo]) h
    | succ k ih =>
      intro hk h
      by_cases h0 : crsTo ps p k = []
      · rw [crsTo_succ, h0, List.nil_append] at h
        have hk' : k < ps.length := by omega
        have hm : (k + 1) % ps.length < ps.length := Nat.mod_lt _ (by omega)
        refine ⟨ps.getD k zpt, ?_, ps.getD ((k + 1) % ps.length) zpt, ?_, fun h1 => h (if_pos h1)⟩
        · rw [List.getD_eq_getElem?_getD, List.getElem?_eq_getElem hk']; exact List.getElem_mem hk'
        · rw [List.getD_eq_getElem?_getD, List.getElem?_eq_getElem hm]; exact List.getElem_mem hm
      · exact ih (by omega) h0
  exact key _ (Nat.le_refl _) h
theorem hit_rc {x : Pk} {i y : Nat} (h : hitB x (cen i y) = true) : rcB x.ps (mid y) = true := by
  have hne : crL x.ps (cen i y) ≠ [] := by
    intro e
    unfold hitB at h
    rw [e] at h
    split at h <;> simp at h
  have hne2 : crsTo x.ps (cen i y) x.ps.length ≠ [] := by
    intro e
    apply hne
    unfold crL
    split
    · exact e
    · rfl
  obtain ⟨a, ha, b, hb, hc⟩ := crs_edge hne2
  have up : ∀ q ∈ x.ps, ¬ ((cen i y).yn * q.yd < q.yn * (cen i y).yd) → (x.ps.any fun p => decide (p.yn * (mid y).d ≤ (mid y).n * p.yd)) = true := fun q hq hh =>
    List.any_eq_true.2 ⟨q, hq, decide_eq_true (show q.yn * 2 ≤ (2 * (y : Int) + 1) * q.yd from by have hh' : ¬ ((2 * (y : Int) + 1) * q.yd < q.yn * 2) := hh; omega)⟩
  have dn : ∀ q ∈ x.ps, (cen i y).yn * q.yd < q.yn * (cen i y).yd → (x.ps.any fun p => decide ((mid y).n * p.yd ≤ p.yn * (mid y).d)) = true := fun q hq hh =>
    List.any_eq_true.2 ⟨q, hq, decide_eq_true (show (2 * (y : Int) + 1) * q.yd ≤ q.yn * 2 from by have hh' : (2 * (y : Int) + 1) * q.yd < q.yn * 2 := hh; omega)⟩
  unfold rcB
  rw [Bool.and_eq_true]
  rcases edge_cases a b (cen i y) with ⟨_, h0⟩ | ⟨h1, h2, _⟩ | ⟨h1, h2, _⟩
  · exact absurd h0 hc
  · exact ⟨up a ha h1, dn b hb h2⟩
  · exact ⟨up b hb h2, dn a ha h1⟩
theorem onRow_get (x : Pk) (y : Nat) (out : List ByteArray) (i : Nat) : (onRow x y out)[i]? = out[i]?.map fun s => if hitB x (cen i y) = true then x.fill else s := by
  unfold onRow
  by_cases h : rcB x.ps (mid y) = true
  · rw [if_pos h, onC_get, Nat.zero_add]
  · rw [if_neg h]
    have hn : ¬ hitB x (cen i y) = true := fun hh => h (hit_rc hh)
    cases out[i]? with
    | none => rfl
    | some s => simp [hn]
theorem rowP_get (l : List Pk) (y : Nat) : ∀ (out : List ByteArray) (i : Nat), (rowP l y out)[i]? = out[i]?.map fun s => l.foldl (fun s p => if hitB p (cen i y) = true then p.fill else s) s := by
  induction l with
  | nil => intro out i; show out[i]? = _; simp
  | cons x r ih =>
    intro out i
    show (rowP r y (onRow x y out))[i]? = _
    rw [ih, onRow_get, Option.map_map]; rfl
theorem rowP_ref (l : List Pk) (n y : Nat) : rowP l y (dots n) = refRow l n y := by
  apply List.ext_getElem?
  intro i
  rw [rowP_get]
  unfold refRow dots
  rw [List.getElem?_map]
  by_cases h : i < n
  · rw [List.getElem?_replicate_of_lt h, List.getElem?_range h]; rfl
  · rw [List.getElem?_eq_none (by simp; omega), List.getElem?_eq_none (by simp; omega)]; rfl
theorem refRow_succ (l : List Pk) (n y : Nat) : refRow l (n + 1) y = refRow l n y ++ [cellR l n y] := by
  unfold refRow; rw [List.range_succ, List.map_append]; rfl
theorem refRow_len (l : List Pk) (n y : Nat) : (refRow l n y).length = n := by unfold refRow; simp
theorem cellR_at (l : List Pk) (x y : Nat) {k : Nat} (h : k < l.length) : cellR (l.take (k + 1)) x y = if hitB l[k] (cen x y) = true then l[k].fill else cellR (l.take k) x y := by
  unfold cellR
  rw [List.take_succ_eq_append_getElem h, List.foldl_append]; rfl
end Go.Proofs.YtaidgecpglikpaaDoor
