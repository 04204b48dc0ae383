/-
  Plain: what a right document says of each element's parent, and of how its list begins; what Add, Remove and Move answer.
-/
import Derived.Test.YtbcoccgfoionlaaDoorDm5
namespace Lead.Dc
theorem count_one {l : List Nat} {x : Nat} (h : l.Nodup) (hx : x ∈ l) : l.count x = 1 := by
  have h1 := (List.nodup_iff_count.1 h) x
  have h2 := List.count_pos_iff.2 hx
  omega
variable {E : Els} {next : Nat} {d : Nat → Nat}
/-- An element but the root is the child of one parent, once. -/
theorem Good.par (g : Good E next d) {x : Nat} {e : El} (h : elAt E x = some e) (h0 : x ≠ 0) : ∃ (p : Nat) (pe : El), e.parent = (p : Int) ∧ elAt E p = some pe ∧ d x = d p + 1 ∧ x ∈ pe.kids ∧ pe.kids.count x = 1 := by
  obtain ⟨p, pe, h1, h2, h3⟩ := g.up x e h h0
  exact ⟨p, pe, h1, h2, g.dk p pe x h2 h3, h3, count_one (g.nd p pe h2) h3⟩
theorem below_head (f n : Nat) : ∃ r, below E f n = n :: r := by cases f <;> exact ⟨_, rfl⟩
/-- The list of all: the root, then others. -/
theorem Good.all_list (g : Good E next d) : ∃ r, below E 10 0 = 0 :: r ∧ r.length + 1 = E.length ∧ ∀ x ∈ r, x ≠ 0 ∧ ∃ e, elAt E x = some e := by
  obtain ⟨r, hr⟩ := below_head (E := E) 10 0
  have hl := g.all_len
  have hn := g.below_nodup 10 0
  rw [hr] at hl hn
  refine ⟨r, hr, by simpa using hl, fun x hx => ⟨fun h => ?_, ?_⟩⟩
  · rw [List.nodup_cons] at hn; exact hn.1 (h ▸ hx)
  · exact (g.all_mem x).2 (by rw [hr]; exact List.mem_cons_of_mem _ hx)
/-- What Add answers: 0, or the error. -/
def addC (E : Els) (d : Nat → Nat) (p : Int) (i : Int) (nm : ByteArray) : Nat := match (if 0 ≤ p then elAt E p.toNat else none) with
  | none => 5
  | some pe => if i < 0 ∨ (pe.kids.length : Int) < i then 2 else if nmOk nm = false then 4 else if 10 ≤ d p.toNat then 8 else if 100 ≤ E.length then 7 else 0
def remC (E : Els) (n : Int) : Nat := match (if 0 ≤ n then elAt E n.toNat else none) with
  | none => 5
  | some _ => if n = 0 then 3 else 0
def movC (E : Els) (d : Nat → Nat) (n m : Int) (i : Int) : Nat :=
  match (if 0 ≤ n then elAt E n.toNat else none), (if 0 ≤ m then elAt E m.toNat else none) with
  | some e, some me => if n = 0 then 3 else if m.toNat ∈ below E 10 n.toNat then 9 else
      if i < 0 ∨ ((if e.parent = m then me.kids.length - 1 else me.kids.length : Nat) : Int) < i then 2 else if 10 < d m.toNat + high E 10 n.toNat then 8 else 0
  | _, _ => 5
theorem addC_ok {p i : Int} {nm : ByteArray} (h : addC E d p i nm = 0) : ∃ (q k : Nat) (pe : El), p = (q : Int) ∧ i = (k : Int) ∧ elAt E q = some pe ∧ k ≤ pe.kids.length ∧ nmOk nm = true ∧ d q < 10 ∧ E.length < 100 := by
  unfold addC at h
  by_cases hp : 0 ≤ p
  · rw [if_pos hp] at h
    obtain ⟨q, rfl⟩ := Int.eq_ofNat_of_zero_le hp
    rw [Int.toNat_natCast] at h
    cases he : elAt E q with
    | none => rw [he] at h; cases h
    | some pe =>
      rw [he] at h
      dsimp only at h
      split at h
      · exact absurd h (by decide)
      · split at h
        · exact absurd h (by decide)
        · split at h
          · exact absurd h (by decide)
          · split at h
            · exact absurd h (by decide)
            · next h1 h2 h3 h4 =>
              obtain ⟨k, rfl⟩ := Int.eq_ofNat_of_zero_le (show 0 ≤ i by omega)
              exact ⟨q, k, pe, rfl, rfl, he, by omega, by simpa using h2, by omega, by omega⟩
  · rw [if_neg hp] at h; cases h
theorem remC_ok {n : Int} (h : remC E n = 0) : ∃ (k : Nat) (e : El), n = (k : Int) ∧ elAt E k = some e ∧ k ≠ 0 := by
  unfold remC at h
  by_cases hp : 0 ≤ n
  · rw [if_pos hp] at h
    obtain ⟨q, rfl⟩ := Int.eq_ofNat_of_zero_le hp
    rw [Int.toNat_natCast] at h
    cases he : elAt E q with
    | none => rw [he] at h; cases h
    | some pe =>
      rw [he] at h
      dsimp only at h
      split at h
      · exact absurd h (by decide)
      · next h1 => exact ⟨q, pe, rfl, he, by omega⟩
  · rw [if_neg hp] at h; cases h
theorem movC_at {a b : Nat} {i : Int} {e me : El} (he : elAt E a = some e) (hm : elAt E b = some me) : movC E d (a : Int) (b : Int) i = (if a = 0 then 3 else if b ∈ below E 10 a then 9 else
      if i < 0 ∨ ((if e.parent = (b : Int) then me.kids.length - 1 else me.kids.length : Nat) : Int) < i then 2 else if 10 < d b + high E 10 a then 8 else 0) := by
  unfold movC
  rw [if_pos (Int.natCast_nonneg a), if_pos (Int.natCast_nonneg b), Int.toNat_natCast, Int.toNat_natCast, he, hm]
  dsimp only
  by_cases h0 : a = 0
  · rw [if_pos (by omega), if_pos h0]
  · rw [if_neg (by omega), if_neg h0]
theorem movC_ok {n m i : Int} (h : movC E d n m i = 0) : ∃ (a b j : Nat) (e me : El), n = (a : Int) ∧ m = (b : Int) ∧ i = (j : Int) ∧ elAt E a = some e ∧ elAt E b = some me ∧ a ≠ 0 ∧ b ∉ below E 10 a ∧
    j ≤ (if e.parent = (b : Int) then me.kids.length - 1 else me.kids.length) ∧ d b + high E 10 a ≤ 10 := by
  by_cases hn : 0 ≤ n
  · by_cases hm : 0 ≤ m
    · obtain ⟨a, rfl⟩ := Int.eq_ofNat_of_zero_le hn
      obtain ⟨b, rfl⟩ := Int.eq_ofNat_of_zero_le hm
      cases he : elAt E a with
      | none => unfold movC at h; rw [if_pos hn, Int.toNat_natCast, he] at h; cases h
      | some e =>
        cases hb : elAt E b with
        | none => unfold movC at h; rw [if_pos hn, if_pos hm, Int.toNat_natCast, Int.toNat_natCast, he, hb] at h; cases h
        | some me =>
          rw [movC_at he hb] at h
          by_cases h1 : a = 0
          · rw [if_pos h1] at h; cases h
          · by_cases h2 : b ∈ below E 10 a
            · rw [if_neg h1, if_pos h2] at h; cases h
            · rw [if_neg h1, if_neg h2] at h
              generalize hN : (if e.parent = (b : Int) then me.kids.length - 1 else me.kids.length) = N at h
              by_cases h3 : i < 0 ∨ (N : Int) < i
              · rw [if_pos h3] at h; cases h
              · by_cases h4 : 10 < d b + high E 10 a
                · rw [if_neg h3, if_pos h4] at h; cases h
                · obtain ⟨j, rfl⟩ := Int.eq_ofNat_of_zero_le (show 0 ≤ i by omega)
                  exact ⟨a, b, j, e, me, rfl, rfl, rfl, he, hb, h1, h2, by rw [hN]; omega, by omega⟩
    · unfold movC at h; rw [if_neg hm] at h; exact absurd h (by split <;> simp_all)
  · unfold movC at h; rw [if_neg hn] at h; cases h
/-- What was moved goes back, and all is as it was. -/
theorem Good.mov_back (g : Good E next d) {a b j p : Nat} {e me pe : El} (he : elAt E a = some e) (_hb : elAt E b = some me) (h0 : a ≠ 0) (hp : e.parent = (p : Int)) (hmb : b ∉ below E 10 a) (hpe : elAt E p = some pe) (hk : a ∈ pe.kids) :
    movC (moveE E a b j p) (fun x => if x ∈ below E 10 a then d x - d a + d b + 1 else d x) (a : Int) (p : Int) (pe.kids.idxOf a : Nat) = 0 ∧ moveE (moveE E a b j p) a p (pe.kids.idxOf a) b = E := by
  obtain ⟨h1, h2, h3, h4, h5, h6⟩ := g.move_back (i := j) he h0 hp hmb hpe hk
  refine ⟨?_, h1⟩
  have ha' : elAt (moveE E a b j p) a = some (mvEl a b j p a e) := by rw [moveE_at, he]; rfl
  have hp' : elAt (moveE E a b j p) p = some (mvEl a b j p p pe) := by rw [moveE_at, hpe]; rfl
  have h7 := h6 _ hp'
  have hpar : (mvEl a b j p a e).parent = (b : Int) := by unfold mvEl; rw [if_pos rfl]
  rw [movC_at ha' hp', if_neg h0, if_neg h2, if_neg, if_neg]
  · rw [if_neg h4, h3]; omega
  · rw [hpar]
    by_cases hbp : b = p
    · subst hbp; rw [if_pos rfl] at h7 ⊢; omega
    · rw [if_neg hbp] at h7; rw [if_neg (by omega)]; omega
end Lead.Dc
