/-
  Plain: the names of a histogram, sorted: each of the list's texts once, ascending; how often they stand there adds up to the list's length.
-/
import Derived.Test.YtaidgecpglikpaaDoorPq3
import Derived.Test.YtaidgecpglikpaaDoorRow
namespace Lead
open Go Go.RowKit Go.Maps
def nmB (x : List UInt8) : ByteArray := ⟨x.toArray⟩
theorem nmB_inj {x y : List UInt8} (h : nmB x = nmB y) : x = y := by
  have := congrArg (fun b => b.data.toList) h
  simpa [nmB] using this
theorem Hist.keys {D : DataW Unit} {l : List ByteArray} (h : Hist D l) (hk : ∀ es, D = .map es → ∀ p ∈ es, ∃ x, p.1 = Lit.string x) {ss : List (List UInt8)} (hp : ss.Perm (Go.strKeys D)) :
    (ss.map nmB).Nodup ∧ ∀ s, s ∈ ss.map nmB ↔ s ∈ l := by
  obtain ⟨es, rfl, hpw⟩ := h.tidy
  have hk := hk es rfl
  have hmem : ∀ x, x ∈ Go.strKeys (.map es : DataW Unit) ↔ Go.Maps.has (.map es) (.string x) = true := fun x => by
    rw [has_eq, List.any_eq_true]
    show x ∈ es.map (fun p => Go.strOf p.1) ↔ _
    rw [List.mem_map]
    constructor
    · rintro ⟨p, hp, rfl⟩
      obtain ⟨y, hy⟩ := hk p hp
      exact ⟨p, hp, by rw [hy]; simp [Go.strOf, Lit.sameKey]⟩
    · rintro ⟨p, hp, he⟩
      obtain ⟨y, hy⟩ := hk p hp
      rw [hy] at he
      exact ⟨p, hp, by rw [hy]; simpa [Go.strOf, Lit.sameKey] using he⟩
  have hnd : (Go.strKeys (.map es : DataW Unit)).Nodup := by
    show (es.map fun p => Go.strOf p.1).Nodup
    refine List.pairwise_map.2 (hpw.imp_of_mem fun {p q} hp' hq' hne e => hne ?_)
    obtain ⟨a, ha⟩ := hk p hp'
    obtain ⟨b, hb⟩ := hk q hq'
    rw [ha, hb] at e ⊢
    exact congrArg _ e
  refine ⟨List.pairwise_map.2 ((hp.nodup_iff.2 hnd).imp fun hne e => hne (nmB_inj e)), fun s => ?_⟩
  rw [← h.has s, ← hmem, List.mem_map]
  constructor
  · rintro ⟨x, hx, rfl⟩
    have : (nmB x).data.toList = x := by simp [nmB]
    rw [this]; exact hp.mem_iff.1 hx
  · intro hs
    exact ⟨s.data.toList, hp.mem_iff.2 hs, by cases s; simp [nmB]⟩
/-- Sorted, and no two alike: ascending. -/
theorem asc_of {ss : List (List UInt8)} (hn : ss.Nodup) : (ss.mergeSort (fun x y => decide (x ≤ y))).Pairwise (fun a b => ¬ b ≤ a) := by
  have tr : ∀ a b c : List UInt8, decide (a ≤ b) = true → decide (b ≤ c) = true → decide (a ≤ c) = true := fun a b c h1 h2 => by simp only [decide_eq_true_eq] at *; exact List.le_trans h1 h2
  have to : ∀ a b : List UInt8, (decide (a ≤ b) || decide (b ≤ a)) = true := fun a b => by simp only [Bool.or_eq_true, decide_eq_true_eq]; exact List.le_total a b
  have h1 := List.pairwise_mergeSort tr to ss
  have h2 : (ss.mergeSort (fun x y => decide (x ≤ y))).Nodup := (List.mergeSort_perm ss _).nodup_iff.2 hn
  refine (h1.and h2).imp fun h hba => ?_
  have h3 := of_decide_eq_true h.1
  exact h.2 (List.le_antisymm h3 hba)
theorem flat_names (l : List (List UInt8)) : ESt.flat (l.map nmB) = l.map Go.Proofs.encStr := by
  induction l with
  | nil => rfl
  | cons x r ih =>
    rw [List.map_cons, List.map_cons, ← ih]
    rfl
/-- A map of the call's own, where its block has not turned. -/
theorem map_kept {P : Program} {k : TypeId} {R : Value → Option (DataW Unit × List MemPlace)} {w w' : World} {b n : Nat} {D : DataW Unit} (h : w.ownsMap P k R b n D) (hb : w'.heap[b]? = w.heap[b]?) : w'.ownsMap P k R b n D := by
  obtain ⟨es, clock, h1, F, hs, hD⟩ := h
  exact ⟨es, clock, hb.trans h1, F, hs, hD⟩
end Lead
