/-
  Walks over package doc: Add, Remove, Move, each in one contract.
-/
import Derived.Test.YtbcoccgfoionlaaDoorDo7
import Derived.Test.YtbcoccgfoionlaaDoorDo4
import Derived.Test.YtbcoccgfoionlaaDoorDo5
namespace Lead.Dc
open Go Go.RowKit Go.Maps Lead
/-- Behind a call: the document is right; its blocks are those that it had, or new ones; no others have turned. -/
def Step (P : Program) (T : Tys) (F : Nat → Prop) (bd : Nat) (w w' : World) (E : Els) (next : Nat) (d : Nat → Nat) : Prop := ∃ F', (∀ k, F' k → F k ∨ w.heap.size ≤ k) ∧ DokG P T w' bd F' E next d ∧ Turn F w w'
variable {P : Program} {T : Tys} {w w' : World} {bd next next' : Nat} {E E' : Els} {d d' : Nat → Nat} {F : Nat → Prop}
theorem Step.of_became (h : Became P T w w' bd F E' next') (hg : Good E' next' d') (hb : next' ≤ 1000000) (hl : E'.length ≤ 1000000) : Step P T F bd w w' E' next' d' := by
  obtain ⟨F', h1, h2, h3⟩ := h
  exact ⟨F', h1, ⟨h2, hg, hb, hl⟩, h3⟩
theorem Step.same (h : DokG P T w bd F E next d) (hb : Below w.heap.size w w') : Step P T F bd w w' E next d := ⟨F, fun _ hk => .inl hk, h.keep hb, Turn.of_below hb⟩
theorem atZ_cases (E : Els) (z : Int) : atZ E z = none ∨ ∃ (q : Nat) (e : El), z = (q : Int) ∧ elAt E q = some e := by
  cases h : atZ E z with
  | none => exact .inl rfl
  | some e => obtain ⟨n, h1, h2⟩ := atZ_some h; exact .inr ⟨n, e, h1, h2⟩
theorem remC_no {n : Int} (h : atZ E n = none) : remC E n = 5 := by
  unfold remC
  have : (if 0 ≤ n then elAt E n.toNat else none) = none := h
  rw [this]
theorem remC_el {q : Nat} {e : El} (h : elAt E q = some e) : remC E (q : Int) = if q = 0 then 3 else 0 := by
  unfold remC
  rw [if_pos (Int.natCast_nonneg q), Int.toNat_natCast, h]
  dsimp only
  by_cases h0 : q = 0
  · rw [if_pos h0, if_pos (by omega)]
  · rw [if_neg h0, if_neg (by omega)]
theorem movC_no1 {n m i : Int} (h : atZ E n = none) : movC E d n m i = 5 := by
  unfold movC
  have : (if 0 ≤ n then elAt E n.toNat else none) = none := h
  rw [this]
theorem movC_no2 {n m i : Int} (h : atZ E m = none) : movC E d n m i = 5 := by
  unfold movC
  have : (if 0 ≤ m then elAt E m.toNat else none) = none := h
  rw [this]
  split <;> simp_all
theorem addE_len (p at' : Nat) (nm : ByteArray) : (addE E next p at' nm).length = E.length + 1 := by simp [addE, upd]
theorem removeE_len (n p : Nat) : (removeE E n p).length ≤ E.length := by
  unfold removeE upd
  refine Nat.le_trans (List.length_filter_le _ _) ?_
  rw [List.length_map]
  exact Nat.le_refl _
theorem moveE_len (n m i p : Nat) : (moveE E n m i p).length = E.length := by simp [moveE]
end Lead.Dc
namespace Go.Proofs.YtbcoccgfoionlaaDoor
open Go.RowKit Go.WideMaps Go.Maps Lead Lead.Dc
def AddIs (ea : Nat → Addr) (F : Nat → Prop) (bd : Nat) (E : Els) (next : Nat) (d : Nat → Nat) (p i : Int) (nm : ByteArray) (w : World) (en : Ending) (w' : World) : Prop :=
  if addC E d p i nm = 0 then en = .returned (.tuple #[.int .i64 (next : Int), .nilIface]) ∧ Step Tryd.prog TT F bd w w' (addE E next p.toNat i.toNat nm) (next + 1) (fun x => if x = next then d p.toNat + 1 else d x)
  else en = .returned (.tuple #[.int .i64 0, .iface 168 (.pointer (some (ea (addC E d p i nm))))]) ∧ Step Tryd.prog TT F bd w w' E next d
theorem add_any (ea : Nat → Addr) (bd next : Nat) (p i : Int) (nm : ByteArray) (F : Nat → Prop) (E : Els) (d : Nat → Nat) (w : World) (hD : DokG Tryd.prog TT w bd F E next d) (hG : DGs ea w) (hn : next < 1000000) (hp : I64 p) (hi : I64 i) :
    Calls Tryd.prog 13 #[.pointer (some ⟨bd, 0, none⟩), .int .i64 p, .int .i64 i, .string nm] w (AddIs ea F bd E next d p i nm w) := by
  have no : ∀ c, c ≠ 0 → addC E d p i nm = c → ∀ en w', AddNo ea c w en w' → AddIs ea F bd E next d p i nm w en w' := by
    rintro c hc0 hc en w' ⟨rfl, hb⟩
    unfold AddIs
    rw [hc, if_neg hc0]
    exact ⟨rfl, Step.same hD hb⟩
  rcases atZ_cases E p with h | ⟨q, pe, rfl, he⟩
  · exact (add_none ea bd next p i nm F E d w hD hG hp h).mono (no 5 (by decide) (addC_no h))
  · have hc := addC_el (d := d) (i := i) (nm := nm) he
    by_cases h1 : i < 0 ∨ (pe.kids.length : Int) < i
    · rw [if_pos h1] at hc
      exact (add_bad ea bd next q i nm F E d pe w hD hG hi he h1).mono (no 2 (by decide) hc)
    · rw [if_neg h1] at hc
      obtain ⟨k, rfl⟩ := Int.eq_ofNat_of_zero_le (show 0 ≤ i by omega)
      have hk : k ≤ pe.kids.length := by omega
      by_cases h2 : nmOk nm = false
      · rw [if_pos h2] at hc
        exact (add_name ea bd next q k nm F E d pe w hD hG he hk h2).mono (no 4 (by decide) hc)
      · rw [if_neg h2] at hc
        have h2' : nmOk nm = true := by simpa using h2
        by_cases h3 : 10 ≤ d q
        · rw [if_pos h3] at hc
          exact (add_deep ea bd next q k nm F E d pe w hD hG he hk h2' h3).mono (no 8 (by decide) hc)
        · rw [if_neg h3] at hc
          by_cases h4 : 100 ≤ E.length
          · rw [if_pos h4] at hc
            exact (add_full ea bd next q k nm F E d pe w hD hG he hk h2' (Nat.lt_of_not_le h3) h4).mono (no 7 (by decide) hc)
          · rw [if_neg h4] at hc
            refine (add_ok ea bd next q k nm F E d pe w hD hG he hk h2' (Nat.lt_of_not_le h3) (Nat.lt_of_not_le h4)).mono ?_
            rintro en w' ⟨rfl, hb⟩
            unfold AddIs
            rw [if_pos hc]
            exact ⟨rfl, Step.of_became hb (hD.good.add nm he (Nat.lt_of_not_le h3)) (by omega) (by show (addE E next q k nm).length ≤ _; rw [addE_len]; have h5 : List.length E < 100 := Nat.lt_of_not_le h4; omega)⟩
def RemIs (ea : Nat → Addr) (F : Nat → Prop) (bd : Nat) (E : Els) (next : Nat) (d : Nat → Nat) (n : Int) (w : World) (en : Ending) (w' : World) : Prop :=
  if remC E n = 0 then en = .returned .nilIface ∧ Step Tryd.prog TT F bd w w' (removeE E n.toNat (parZ E n).toNat) next d
  else en = .returned (.iface 168 (.pointer (some (ea (remC E n))))) ∧ Step Tryd.prog TT F bd w w' E next d
theorem rem_any (ea : Nat → Addr) (bd next : Nat) (n : Int) (F : Nat → Prop) (E : Els) (d : Nat → Nat) (w : World) (hD : DokG Tryd.prog TT w bd F E next d) (hG : DGs ea w) (hn : I64 n) :
    Calls Tryd.prog 9 #[.pointer (some ⟨bd, 0, none⟩), .int .i64 n] w (RemIs ea F bd E next d n w) := by
  have no : ∀ c, c ≠ 0 → remC E n = c → ∀ en w', ErrIs 168 ea c w en w' → RemIs ea F bd E next d n w en w' := by
    rintro c hc0 hc en w' ⟨rfl, hb⟩
    unfold RemIs
    rw [hc, if_neg hc0]
    exact ⟨rfl, Step.same hD hb⟩
  rcases atZ_cases E n with h | ⟨q, e, rfl, he⟩
  · exact (rem_none ea bd next n F E d w hD hG hn h).mono (no 5 (by decide) (remC_no h))
  · have hc := remC_el he
    by_cases h0 : q = 0
    · subst h0
      rw [if_pos rfl] at hc
      exact (rem_root ea bd next F E d w hD hG).mono (no 3 (by decide) hc)
    · rw [if_neg h0] at hc
      obtain ⟨p, pe, hp, _, _⟩ := hD.good.up q e he h0
      refine (rem_ok ea bd next q p F E d e w hD he h0 hp).mono ?_
      rintro en w' ⟨rfl, hb⟩
      unfold RemIs
      rw [if_pos hc, parZ_nat he, hp, Int.toNat_natCast, Int.toNat_natCast]
      exact ⟨rfl, Step.of_became hb (hD.good.remove he h0 hp) hD.big (Nat.le_trans (removeE_len q p) hD.len)⟩
theorem AddIs.any {ea : Nat → Addr} {F : Nat → Prop} {bd next : Nat} {E : Els} {d : Nat → Nat} {p i : Int} {nm : ByteArray} {w w' : World} {en : Ending} (h : AddIs ea F bd E next d p i nm w en w') : ∃ x y E' next' d', en = .returned (.tuple #[x, y]) ∧ next' ≤ next + 1 ∧ Step Tryd.prog TT F bd w w' E' next' d' := by
  unfold AddIs at h
  split at h
  · exact ⟨_, _, _, _, _, h.1, Nat.le_refl _, h.2⟩
  · exact ⟨_, _, _, _, _, h.1, Nat.le_succ _, h.2⟩
theorem RemIs.any {ea : Nat → Addr} {F : Nat → Prop} {bd next : Nat} {E : Els} {d : Nat → Nat} {n : Int} {w w' : World} {en : Ending} (h : RemIs ea F bd E next d n w en w') : ∃ x E' d', en = .returned x ∧ Step Tryd.prog TT F bd w w' E' next d' := by
  unfold RemIs at h
  split at h
  · exact ⟨_, _, _, h.1, h.2⟩
  · exact ⟨_, _, _, h.1, h.2⟩
end Go.Proofs.YtbcoccgfoionlaaDoor
