/-
  Plain: the state of the law DocOne's loop; moved and moved back.
-/
import Derived.Test.YtbcoccgfoionlaaDoorFl2
namespace Lead.Dc
open Go Go.RowKit Go.Maps Lead
/-- An act, as the statements' helpers write it. -/
structure AcX where
  nm : ByteArray
  id : Int
  dst : Int
  at' : Int
  s4 : ByteArray
  s5 : ByteArray
def EAc : Enc AcX := ⟨fun x => [.string x.nm, .int .i64 x.id, .int .i64 x.dst, .int .i64 x.at', .string x.s4, .string x.s5], 6, fun _ => rfl, fun x u h => by simp at h; rcases h with rfl | rfl | rfl | rfl | rfl | rfl <;> rfl, by decide⟩
/-- The document while the acts are done: its blocks lie behind B. -/
structure LoSt (P : Program) (T : Tys) (B bd : Nat) (wB wr : World) (E : Els) (next k : Nat) (d : Nat → Nat) (F : Nat → Prop) : Prop where
  dok : DokG P T wr bd F E next d
  far : ∀ j, F j → B ≤ j
  few : next ≤ 100 + k
  bel : Below B wB wr
  hB : B = wB.heap.size
theorem LoSt.next {P : Program} {T : Tys} {B bd : Nat} {wB wr w1 w2 : World} {E E' : Els} {next next' k : Nat} {d d' : Nat → Nat} {F : Nat → Prop} (h : LoSt P T B bd wB wr E next k d F) (h1 : Below wr.heap.size wr w1) (h2 : Step P T F bd w1 w2 E' next' d') (hn : next' ≤ next + 1) : ∃ F', LoSt P T B bd wB w2 E' next' (k + 1) d' F' := by
  obtain ⟨F', f1, f2, f3⟩ := h2
  have hsz := h.bel.size
  have hB := h.hB
  have z1 := h1.size
  refine ⟨F', f2, fun j hj => ?_, by have := h.few; omega, (h.bel.trans (h1.mono (by omega))).trans (f3.below (by omega) h.far), h.hB⟩
  rcases f1 j hj with h' | h'
  · exact h.far j h'
  · omega
theorem LoSt.turn {P : Program} {T : Tys} {B bd : Nat} {wB wr w1 w2 : World} {E E' : Els} {next k : Nat} {d d' : Nat → Nat} {F : Nat → Prop} (h : LoSt P T B bd wB wr E next k d F) (h1 : Below wr.heap.size wr w1) (h2 : Step P T F bd w1 w2 E' next d') : ∃ F', LoSt P T B bd wB w2 E' next k d' F' ∧ (∀ j, F' j → F j ∨ w1.heap.size ≤ j) ∧ Turn F w1 w2 := by
  obtain ⟨F', f1, f2, f3⟩ := h2
  have hsz := h.bel.size
  have hB := h.hB
  have z1 := h1.size
  refine ⟨F', ⟨f2, fun j hj => ?_, h.few, (h.bel.trans (h1.mono (by omega))).trans (f3.below (by omega) h.far), h.hB⟩, f1, f3⟩
  rcases f1 j hj with h' | h'
  · exact h.far j h'
  · omega
theorem LoSt.keep {P : Program} {T : Tys} {B bd : Nat} {wB wr w1 : World} {E : Els} {next k : Nat} {d : Nat → Nat} {F : Nat → Prop} (h : LoSt P T B bd wB wr E next k d F) (h1 : Below wr.heap.size wr w1) : LoSt P T B bd wB w1 E next (k + 1) d F := by
  have hsz := h.bel.size
  have hB := h.hB
  exact ⟨h.dok.keep h1, h.far, by have := h.few; omega, h.bel.trans (h1.mono (by omega)), h.hB⟩
theorem DokG.lt {P : Program} {T : Tys} {w : World} {bd next : Nat} {F : Nat → Prop} {E : Els} {d : Nat → Nat} (h : DokG P T w bd F E next d) {j : Nat} (hj : F j) : j < w.heap.size := by
  obtain ⟨⟨pl, bm, cnt, D, h1, h2, h3⟩, _⟩ := h
  exact h3.lt j hj
theorem cnt_one {x : Nat} : ∀ {l : List Nat}, l.Nodup → x ∈ l → l.count x = 1
  | y :: r, hn, hx => by
    rw [List.nodup_cons] at hn
    rw [List.count_cons]
    rcases List.mem_cons.1 hx with rfl | hx
    · rw [List.count_eq_zero.2 hn.1]; simp
    · rw [cnt_one hn.2 hx, if_neg (by simp; rintro rfl; exact hn.1 hx)]
theorem cnt_takeN {x : Nat} {l : List Nat} {j : Nat} (h : j < l.length) : (l.take (j + 1)).count x = (l.take j).count x + if l[j] = x then 1 else 0 := by
  rw [List.take_succ_eq_append_getElem h, List.count_append, List.count_singleton]
  by_cases hx : l[j] = x
  · simp [hx]
  · simp [hx]
theorem up_step {E : Els} {next : Nat} {d : Nat → Nat} (g : Good E next d) {y : Nat} {ey : El} (hy : elAt E y = some ey) (h0 : y ≠ 0) : ∃ (p : Nat) (pe : El), parZ E (y : Int) = (p : Int) ∧ elAt E p = some pe ∧ d y = d p + 1 := by
  obtain ⟨p, pe, hp, hpe, hk⟩ := g.up y ey hy h0
  exact ⟨p, pe, (parZ_nat hy).trans hp, hpe, g.dk p pe y hpe hk⟩
theorem idx_le {a : Nat} : ∀ (ks : List Nat) (j : Nat), ks[j]? = some a → ks.idxOf a ≤ j
  | [], j, h => by simp at h
  | x :: r, 0, h => by
    have : x = a := by simpa using h
    subst this
    rw [List.idxOf_cons_self]; exact Nat.le_refl _
  | x :: r, j + 1, h => by
    rw [List.idxOf_cons]
    have := idx_le r j (by simpa using h)
    cases hxa : x == a
    · simp; exact this
    · simp
theorem scan_idx {ks : List Nat} {a j : Nat} (h1 : ∀ i, i < j → ∀ h : i < ks.length, (ks[i] : Int) ≠ (a : Int)) (hj : j ≤ ks.length) (h2 : ∀ h : j < ks.length, (ks[j] : Int) = (a : Int)) (ha : a ∈ ks) : j = ks.idxOf a := by
  have hi := List.idxOf_lt_length_of_mem ha
  have hg : ks[ks.idxOf a] = a := List.getElem_idxOf hi
  rcases Nat.lt_trichotomy j (ks.idxOf a) with h | h | h
  · have hjl : j < ks.length := by omega
    have h3 := h2 hjl
    have h4 : ks[j] = a := by omega
    have h5 : ks.idxOf a ≤ j := by
      rw [← h4]
      exact idx_le ks j (List.getElem?_eq_getElem hjl)
    omega
  · exact h
  · exact absurd (by rw [hg]) (h1 _ h hi)
theorem mov_home {E : Els} {next : Nat} {d : Nat → Nat} (g : Good E next d) {id dst at' : Int} (h : movC E d id dst at' = 0) {j : Nat} (hj : ∀ a : Nat, id = (a : Int) → a ∈ kidsZ E (parZ E id) → j = (kidsZ E (parZ E id)).idxOf a) :
    movC (moveE E id.toNat dst.toNat at'.toNat (parZ E id).toNat) (fun x => if x ∈ below E 10 id.toNat then d x - d id.toNat + d dst.toNat + 1 else d x) id (parZ E id) (j : Int) = 0 ∧
    moveE (moveE E id.toNat dst.toNat at'.toNat (parZ E id).toNat) id.toNat (parZ E id).toNat (j : Int).toNat (parZ (moveE E id.toNat dst.toNat at'.toNat (parZ E id).toNat) id).toNat = E := by
  obtain ⟨a, b, j0, e, me, rfl, rfl, rfl, he, hb, h0, hmb, _, _⟩ := movC_ok h
  obtain ⟨p, pe, hp, hpe, hk⟩ := g.up a e he h0
  have hpar : parZ E (a : Int) = (p : Int) := (parZ_nat he).trans hp
  have hkz : kidsZ E (p : Int) = pe.kids := kidsZ_nat hpe
  rw [hpar] at hj ⊢
  rw [hkz] at hj
  have hje := hj a rfl hk
  have hmv := g.mov_back (j := j0) he hb h0 hp hmb hpe hk
  simp only [Int.toNat_natCast]
  have ha' : elAt (moveE E a b j0 p) a = some (mvEl a b j0 p a e) := by rw [moveE_at, he]; rfl
  have hpb : parZ (moveE E a b j0 p) (a : Int) = (b : Int) := by
    rw [parZ_nat ha']
    unfold mvEl; rw [if_pos rfl]
  rw [hpb, Int.toNat_natCast, hje]
  exact hmv
theorem parZ_i64 {E : Els} {next : Nat} {d : Nat → Nat} (g : Good E next d) (hn : next ≤ 1000000) (z : Int) : I64 (parZ E z) ∧ -1 ≤ parZ E z := by
  rcases atZ_cases E z with h | ⟨q, e, rfl, he⟩
  · have hp : parZ E z = -1 := by unfold parZ; rw [h]
    rw [hp]; exact ⟨by unfold I64; omega, by omega⟩
  · rw [parZ_nat he]
    by_cases h0 : q = 0
    · subst h0
      obtain ⟨e0, he0, hp⟩ := g.root
      rw [he0] at he
      injection he with he
      rw [← he, hp]; exact ⟨by unfold I64; omega, by omega⟩
    · obtain ⟨p, pe, hp, hpe, _⟩ := g.up q e he h0
      have := g.lt p pe hpe
      rw [hp]; exact ⟨by unfold I64; omega, by omega⟩
end Lead.Dc
