/-
  The law StyleHeirs, walked.
-/
import Derived.Test.YtnpieocpniakpaaDoorSy7
import Derived.Test.YtnpieocpniakpaaDoorFl2
import Derived.Test.YtnpieocpniakpaaDoorPkg
namespace Lead.Sy
open Go Go.RowKit Lead Lead.Dc Lead.Pk
def nmK (k : Nat) : By := [nFill, nRule, nShow, nLevel].getD k []
theorem nmK_first {k : Nat} (h : k < 4) : ∃ v, firstP (nmK k) = some (v, decide (k < 2)) := by
  match k, h with
  | 0, _ => exact ⟨_, rfl⟩
  | 1, _ => exact ⟨_, rfl⟩
  | 2, _ => exact ⟨_, rfl⟩
  | 3, _ => exact ⟨_, rfl⟩
/-- Does a rule tell it? -/
def ruB (E : Els) (us : List Ru) (nm : By) (n : Nat) : Bool := us.any fun u => decide (u.nm = nm) && fitsL E u.st n
theorem ruB_take {E : Els} {us : List Ru} {nm : By} {n k : Nat} (h : k < us.length) : ruB E (us.take (k + 1)) nm n = (ruB E (us.take k) nm n || (decide (us[k].nm = nm) && fitsL E us[k].st n)) := by
  unfold ruB
  rw [List.take_succ_eq_append_getElem h, List.any_append]; simp
theorem ruledP_none {E : Els} {us : List Ru} {nm : By} {n : Nat} (h : ruB E us nm n = false) : ruledP E us n nm = ([], -1) := by
  unfold ruledP
  have : ∀ (us : List Ru) (st : By × Int), ruB E us nm n = false → us.foldl (rulS E n nm) st = st := by
    intro us
    induction us with
    | nil => intro st _; rfl
    | cons u r ih =>
      intro st h
      unfold ruB at h
      rw [List.any_cons, Bool.or_eq_false_iff] at h
      rw [List.foldl_cons]
      have hu : rulS E n nm st u = st := by
        unfold rulS
        rw [if_neg]
        intro ⟨h1, h2⟩
        rw [decide_eq_true h1, h2] at h
        exact absurd h.1 (by decide)
      rw [hu]
      exact ih st h.2
  exact this us _ h
theorem tell_none {E : Els} {us : List Ru} {nm : By} {n : Nat} {e : El} (he : elAt E n = some e) (hA : attrV (bs nm) e.attrs = none) (hr : ruB E us nm n = false) : tellP E us n nm = none := by
  unfold tellP
  rw [he]
  show (match attrV (bs nm) e.attrs with | some v => some v | none => _) = none
  rw [hA, ruledP_none hr]; rfl
theorem ofZ_nat {E : Els} {us : List Ru} {n : Nat} {nm : By} {e : El} (he : elAt E n = some e) {v : By} {h : Bool} (hf : firstP nm = some (v, h)) : ofZ E us (n : Int) nm = ofL E us nm v h (n :: ups E 10 n) := by
  have hz : atZ E (n : Int) = some e := by unfold atZ; simp [he]
  unfold ofZ ofP
  rw [hz, Int.toNat_natCast, hf, upZ_nat]
theorem of_own {E : Els} {us : List Ru} {n : Nat} {nm : By} {e : El} {a : ByteArray} (he : elAt E n = some e) {v : By} {h : Bool} (hf : firstP nm = some (v, h)) (hA : attrV (bs nm) e.attrs = some a) : ofZ E us (n : Int) nm = a := by
  rw [ofZ_nat he hf, ofL_cons]
  have : tellP E us n nm = some a := by
    unfold tellP
    rw [he]
    show (match attrV (bs nm) e.attrs with | some v => some v | none => _) = some a
    rw [hA]
  rw [this]
theorem of_heir {E : Els} {next : Nat} {d : Nat → Nat} (g : Good E next d) {us : List Ru} {n p : Nat} {nm : By} {e pe : El} (he : elAt E n = some e) {v : By} (hf : firstP nm = some (v, true)) (hA : attrV (bs nm) e.attrs = none) (hr : ruB E us nm n = false) (hp : e.parent = (p : Int)) (hpe : elAt E p = some pe) : ofZ E us (n : Int) nm = ofZ E us (p : Int) nm := by
  rw [ofZ_nat he hf, ofZ_nat hpe hf, ofL_cons, tell_none he hA hr]
  dsimp only
  rw [if_pos rfl, ups_eq g he, hp, upZ_nat]
theorem of_first {E : Els} {us : List Ru} {n : Nat} {nm : By} {e : El} (he : elAt E n = some e) {v : By} (hf : firstP nm = some (v, false)) (hA : attrV (bs nm) e.attrs = none) (hr : ruB E us nm n = false) : ofZ E us (n : Int) nm = bs v := by
  rw [ofZ_nat he hf, ofL_cons, tell_none he hA hr]; rfl
theorem shC_zero {s : By} (h : (shC s).1 = 0) : shC s = (0, none) := by
  unfold shC at h ⊢
  split at h
  · exact absurd (show (2 : Nat) = 0 from h) (by decide)
  · next h0 =>
    rw [if_neg h0]
    split at h
    · exact absurd (show (1 : Nat) = 0 from h) (by decide)
    · next h1 =>
      rw [if_neg h1]
      split at h
      · exact absurd (show (7 : Nat) = 0 from h) (by decide)
      · next h2 => rw [if_neg h2]
/-- style.Read's answer, its error aside. -/
theorem readsh_form {TS TW TR T F : TypeId} {ea : Nat → Addr} {s : By} {w w' : World} {en : Ending} (h : ReadSh TS TW TR T F ea s w en w') :
    Below w.heap.size w w' ∧ ∃ o l c x, en = .returned (.tuple #[.slice o l c, x]) ∧ ((∃ t a, x = .iface t (.pointer (some a))) ∨ (x = .nilIface ∧ (shC s).1 = 0 ∧ ShOk TS TW TR w.heap.size w' (.slice o l c) (shU s) ∧ l = (shU s).length)) := by
  obtain ⟨v, x, h1, h2, h3, h4, h5⟩ := h
  refine ⟨h5, ?_⟩
  by_cases h0 : (shC s).1 = 0
  · have hv := h3 h0
    have hx := h2.nil (shC_zero h0)
    obtain ⟨xs, q1, q2, q3⟩ := hv
    obtain ⟨o, c, rfl⟩ := ow_form q1
    exact ⟨o, _, c, x, h1, .inr ⟨hx, h0, ⟨xs, q1, q2, q3⟩, by rw [← q3, List.length_map]⟩⟩
  · have hv := h4 h0
    subst hv
    refine ⟨none, 0, 0, x, h1, .inl ?_⟩
    obtain ⟨⟨c1, c2⟩, hc⟩ : ∃ u, shC s = u := ⟨_, rfl⟩
    rw [hc] at h2 h0
    cases c2 with
    | none => exact ⟨T, ea c1, h2.trans (evl_n h0)⟩
    | some i =>
      obtain ⟨_, b, _, hx, _⟩ := h2
      exact ⟨F, _, hx⟩
/-- The four names, where they lie. -/
def NmC (b : Nat) (W : World) : Prop := b < W.heap.size ∧ ∀ k, k < 4 → W.cell? ⟨b, k, none⟩ = some (.string (bs (nmK k)))
theorem NmC.keep {b : Nat} {W W' : World} (h : NmC b W) (hb : Below W.heap.size W W') : NmC b W' := ⟨Nat.lt_of_lt_of_le h.1 hb.size, fun k hk => (hb.cell (p := ⟨b, k, none⟩) h.1).trans (h.2 k hk)⟩
theorem NmC.new (w : World) (t : TypeId) : NmC w.heap.size (w.alloc (.cells #[.string ⟨#[102, 105, 108, 108]⟩, .string ⟨#[114, 117, 108, 101]⟩, .string ⟨#[115, 104, 111, 119]⟩, .string ⟨#[108, 101, 118, 101, 108]⟩] t)) := by
  refine ⟨by simp, fun k hk => ?_⟩
  rw [World.cell?_alloc_new]
  match k, hk with
  | 0, _ => rfl
  | 1, _ => rfl
  | 2, _ => rfl
  | 3, _ => rfl
end Lead.Sy
