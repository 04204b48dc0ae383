/-
  Several texts as one: Row, Apn.
-/
import Derived.Test.YtpdaenldmgpkjaaGreatDoorPa
import Derived.Deep.DeepAppendRoom
import Derived.Deep.RegionLaw
/-
  Plain: rows of values of any type of k cells: where they lie, a row that the call owns, append onto it.
-/
namespace Lead
open Go Go.RowKit

/-- How a type's values are written as cells: k cells each. -/
structure Enc (α : Type) where
  enc : α → List Value
  k : Nat
  len : ∀ x, (enc x).length = k
  one : ∀ x, ∀ u ∈ enc x, u.oneCell' = true
  pos : 0 < k
variable {α : Type}
def Enc.flat (E : Enc α) (xs : List α) : List Value := xs.flatMap E.enc
theorem Enc.flat_len (E : Enc α) (xs : List α) : (E.flat xs).length = xs.length * E.k := by
  induction xs with
  | nil => simp [Enc.flat]
  | cons x xs ih =>
    have : E.flat (x :: xs) = E.enc x ++ E.flat xs := by simp [Enc.flat]
    rw [this, List.length_append, ih, E.len, List.length_cons, Nat.add_mul, Nat.one_mul, Nat.add_comm]
theorem Enc.flat_append (E : Enc α) (xs ys : List α) : E.flat (xs ++ ys) = E.flat xs ++ E.flat ys := by simp [Enc.flat]
theorem Enc.flat_one (E : Enc α) (xs : List α) : ∀ u ∈ E.flat xs, u.oneCell' = true := by
  intro u hu
  obtain ⟨p, _, hp⟩ := List.mem_flatMap.1 hu
  exact E.one p u hp
theorem Enc.flat_at (E : Enc α) (xs : List α) : ∀ (i j : Nat) (h : i < xs.length), j < E.k → (E.flat xs)[i * E.k + j]? = (E.enc xs[i])[j]? := by
  induction xs with
  | nil => intro i j h; exact absurd h (by simp)
  | cons x xs ih =>
    intro i j h hj
    have e : E.flat (x :: xs) = E.enc x ++ E.flat xs := by simp [Enc.flat]
    rw [e]
    cases i with
    | zero => rw [Nat.zero_mul, Nat.zero_add, List.getElem?_append_left (by rw [E.len]; exact hj)]; rfl
    | succ i =>
      have hi : (i + 1) * E.k + j = E.k + (i * E.k + j) := by rw [Nat.add_mul, Nat.one_mul]; omega
      rw [hi, List.getElem?_append_right (by rw [E.len]; omega), E.len, Nat.add_sub_cancel_left, ih i j (by simpa using h) hj]
      rfl
/-- Values that lie from a place on. -/
def RowIn (E : Enc α) (w : World) (b off : Nat) (xs : List α) : Prop :=
  ∀ i (h : i < xs.length) j v, (E.enc xs[i])[j]? = some v → w.cell? ⟨b, off + i * E.k + j, none⟩ = some v
theorem RowIn.keep {E : Enc α} {w w1 : World} {b off : Nat} {xs : List α} {B : Nat} (h : RowIn E w b off xs) (hb : Below B w w1) (hB : b < B) : RowIn E w1 b off xs :=
  fun i hi j v hv => by rw [hb.cell hB]; exact h i hi j v hv
theorem RowIn.of {E : Enc α} {w w1 : World} {b off : Nat} {xs : List α} (h : RowIn E w b off xs) (hc : ∀ o, w1.cell? ⟨b, o, none⟩ = w.cell? ⟨b, o, none⟩) : RowIn E w1 b off xs :=
  fun i hi j v hv => by rw [hc]; exact h i hi j v hv
theorem RowIn.cells {E : Enc α} {w : World} {b off : Nat} {xs : List α} (h : RowIn E w b off xs) : ∀ j u, (E.flat xs)[j]? = some u → w.cell? ((⟨b, off, none⟩ : Addr).add j) = some u := by
  intro j u hu
  rw [add_cell]
  have hj : j < xs.length * E.k := by rw [← E.flat_len]; exact (List.getElem?_eq_some_iff.1 hu).1
  have hi : j / E.k < xs.length := Nat.div_lt_of_lt_mul (by rw [Nat.mul_comm]; exact hj)
  have hm : j % E.k < E.k := Nat.mod_lt _ E.pos
  have he : j = (j / E.k) * E.k + j % E.k := by rw [Nat.mul_comm]; exact (Nat.div_add_mod j E.k).symm
  rw [he, E.flat_at xs _ _ hi hm] at hu
  have := h _ hi _ _ hu
  rw [Nat.add_assoc, ← he] at this
  exact this
theorem rowIn_of_cells {E : Enc α} {w : World} {b off : Nat} {xs : List α} (h : ∀ j u, (E.flat xs)[j]? = some u → w.cell? ⟨b, off + j, none⟩ = some u) : RowIn E w b off xs := by
  intro i hi j v hv
  have hj : j < E.k := by rw [← E.len xs[i]]; exact (List.getElem?_eq_some_iff.1 hv).1
  rw [Nat.add_assoc]
  exact h _ _ (by rw [E.flat_at xs i j hi hj]; exact hv)
theorem RowIn.drop {E : Enc α} {w : World} {b off : Nat} {xs : List α} (h : RowIn E w b off xs) (k : Nat) : RowIn E w b (off + k * E.k) (xs.drop k) := by
  intro i hi j v hv
  rw [List.length_drop] at hi
  rw [List.getElem_drop] at hv
  have := h (k + i) (by omega) j v hv
  have e : off + k * E.k + i * E.k + j = off + (k + i) * E.k + j := by rw [Nat.add_mul]; omega
  rw [e]; exact this
theorem RowIn.take {E : Enc α} {w : World} {b off : Nat} {xs : List α} (h : RowIn E w b off xs) (k : Nat) : RowIn E w b off (xs.take k) := by
  intro i hi j v hv
  rw [List.length_take] at hi
  rw [List.getElem_take] at hv
  exact h i (by omega) j v hv
/-- One value in a block of its own. -/
theorem row_one {E : Enc α} {w : World} {b : Nat} {x : α} {vs : Array Value} (hv : vs.toList = E.enc x) (h : ∀ j, w.cell? ⟨b, j, none⟩ = vs[j]?) : RowIn E w b 0 [x] := by
  intro i hi j v hj
  obtain rfl : i = 0 := by simpa using hi
  simp only [Nat.zero_mul, Nat.zero_add]
  rw [h, ← Array.getElem?_toList, hv]
  exact hj
theorem row_cells {E : Enc α} {w : World} {b : Nat} {xs : List α} {vs : Array Value} (hv : vs.toList = E.flat xs) (h : ∀ j, w.cell? ⟨b, j, none⟩ = vs[j]?) : RowIn E w b 0 xs :=
  rowIn_of_cells fun j u hu => by rw [Nat.zero_add, h, ← Array.getElem?_toList, hv]; exact hu
theorem row_nil (E : Enc α) (w : World) (b off : Nat) : RowIn E w b off [] := fun i hi => absurd hi (by simp)

/-- A row that the call owns. -/
def OwnR (E : Enc α) (w : World) (base : Nat) (e : TypeId) (v : Value) (xs : List α) : Prop := w.ownsRow base e E.k v xs.length (E.flat xs)
theorem OwnR.nil (E : Enc α) (w : World) (base : Nat) (e : TypeId) : OwnR E w base e (.slice none 0 0) [] := World.ownsRow_nil _ _ _ _
theorem OwnR.keep {E : Enc α} {w w' : World} {base : Nat} {e : TypeId} {v : Value} {xs : List α} (h : OwnR E w base e v xs) (hb : Below w.heap.size w w') : OwnR E w' base e v xs := own_below h hb
theorem OwnR.alloc {E : Enc α} {w : World} {base : Nat} {e : TypeId} {v : Value} {xs : List α} (h : OwnR E w base e v xs) (o : Obj) : OwnR E (w.alloc o) base e v xs := World.ownsRow.alloc h o
theorem OwnR.base {E : Enc α} {w : World} {base base' : Nat} {e : TypeId} {v : Value} {xs : List α} (h : OwnR E w base e v xs) (hb : base' ≤ base) : OwnR E w base' e v xs := own_base h hb
theorem OwnR.lt {E : Enc α} {w : World} {base : Nat} {e : TypeId} {v : Value} {xs : List α} (h : OwnR E w base e v xs) : ∀ k, v.ownBlock = some k → base ≤ k ∧ k < w.heap.size := World.ownsRow.lt h
theorem OwnR.form {E : Enc α} {w : World} {base : Nat} {e : TypeId} {v : Value} {xs : List α} (h : OwnR E w base e v xs) :
    (v = .slice none 0 0 ∧ xs = []) ∨ ∃ g cap, v = .slice (some ⟨g, 0, none⟩) xs.length cap ∧ base ≤ g ∧ g < w.heap.size ∧ xs.length ≤ cap ∧ xs.length ≤ maxLen ∧ RowIn E w g 0 xs := by
  obtain ⟨h1, h2⟩ := h
  rcases h2 with ⟨h2, h3⟩ | ⟨g, cap, cur, h3, h4, h5, h6, h7, h8, h9⟩
  · exact .inl ⟨h2, List.length_eq_zero_iff.1 h3⟩
  · have hown : w.ownsRow base e E.k (.slice (some ⟨g, 0, none⟩) xs.length cap) xs.length (E.flat xs) := ⟨h1, .inr ⟨g, cap, cur, rfl, h4, h5, h6, h7, h8, h9⟩⟩
    have hg : g < w.heap.size := by
      rcases Nat.lt_or_ge g w.heap.size with h | h
      · exact h
      · rw [Array.getElem?_eq_none h] at h5; exact absurd h5 (by simp)
    refine .inr ⟨g, cap, h3, h4, hg, h6, by omega, rowIn_of_cells fun j u hu => ?_⟩
    have hj : j < xs.length * E.k := by rw [← E.flat_len]; exact (List.getElem?_eq_some_iff.1 hu).1
    rw [Nat.zero_add, hown.cellAt j hj]; exact hu

/-- append onto a row that the call owns. -/
theorem wp_append_row {P : Program} {ops : Array Oper} {rest : List Oper} {o : Oper} {a : Act} {Q : Exit → Act → World → Prop} {w0 w : World} (hgd : o.guard = none) (s x : Operand) (t : TypeId)
    (ho : o.op = .call { callee := .builtin .append, args := #[s, x], argTypes := #[t, t] }) (E : Enc α)
    (base : Nat) (e : TypeId) (i : TypeInfo) (z : Value) (nb : Nat) (ht : P.underlying t = some (.slice e)) (hi : P.info? e = some i) (hz : i.zero = some z)
    (hsize : i.size = E.k) (hby : i.bytes = nb) (hzs : z.cells.size = E.k) (hnb : nb ≤ 1000) (v : Value) (qs : List α) (hs : a.eval s = v) (hown : OwnR E w base e v qs)
    (b off m c : Nat) (ps : List α) (hx : a.eval x = .slice (some ⟨b, off, none⟩) m c) (hm : m = ps.length) (hp : RowIn E w b off ps) (hlen : qs.length + ps.length ≤ 1000000)
    (hbase : base ≤ w.heap.size) (hB : Below w0.heap.size w0 w) (h0 : w0.heap.size ≤ base)
    (h : ∀ v' w', OwnR E w' base e v' (qs ++ ps) → Below w0.heap.size w0 w' → w.heap.size ≤ w'.heap.size → (∀ b o, b < base → w'.cell? ⟨b, o, none⟩ = w.cell? ⟨b, o, none⟩) →
      (∀ b o, b < base → w'.frozen? ⟨b, o, none⟩ = w.frozen? ⟨b, o, none⟩) → Below base w w' → wpList P ops Q rest (a.put o.dst v') w') : wpList P ops Q (o :: rest) a w := by
  have hbytes : (qs.length + m) * nb ≤ 140737488355328 := Nat.le_trans (Nat.mul_le_mul (show qs.length + m ≤ 1000000 by omega) hnb) (by decide)
  refine wpList_append_own w hgd s x t ho base e i z E.k nb ht hi hz hsize hby hzs E.pos v qs.length (E.flat qs) hs hown ⟨b, off, none⟩ m c (E.flat ps) hx (by rw [E.flat_len, hm]) hp.cells (E.flat_one ps)
    (by unfold maxLen; omega) hbytes hbase ?_
  intro v' w' hown' hgrow _
  have hA : Below base w w' := (Below.refl base w).grown hgrow hbase (fun q hq => (World.ownsRow.lt hown q hq).1)
  refine h v' w' ?_ (hB.trans (hA.mono h0)) hA.size (fun b o h => hA.cell (p := ⟨b, o, none⟩) h) (fun b o h => hA.frozen (p := ⟨b, o, none⟩) h) hA
  unfold OwnR
  rw [List.length_append, E.flat_append, ← hm]
  exact hown'

/-- .. at a step of a region that draws its order. -/
theorem step_append_row {P : Program} {ops : Array Oper} {o : Oper} {a : Act} {w : World} {K : Act → World → Prop} {Q : Exit → Act → World → Prop} {X : Prop} (hgd : o.guard = none) (s x : Operand) (t : TypeId)
    (ho : o.op = .call { callee := .builtin .append, args := #[s, x], argTypes := #[t, t] }) (E : Enc α)
    (base : Nat) (e : TypeId) (i : TypeInfo) (z : Value) (nb : Nat) (ht : P.underlying t = some (.slice e)) (hi : P.info? e = some i) (hz : i.zero = some z)
    (hsize : i.size = E.k) (hby : i.bytes = nb) (hzs : z.cells.size = E.k) (hnb : nb ≤ 1000) (v : Value) (qs : List α) (hs : a.eval s = v)
    (b off m c : Nat) (ps : List α) (hx : a.eval x = .slice (some ⟨b, off, none⟩) m c) (hm : m = ps.length) (hlen : qs.length + ps.length ≤ 1000000) (hown : OwnR E w base e v qs) (hp : RowIn E w b off ps)
    (hbase : base ≤ w.heap.size)
    (h : ∀ v' w', OwnR E w' base e v' (qs ++ ps) → Below base w w' → K (a.put o.dst v') w') : if Region.wanted o (yielded ops a.tmps) = true then Oper.wp P o a w K Q else X := by
  have hw : Region.wanted o (yielded ops a.tmps) = true := by simp [Region.wanted, hgd]
  rw [if_pos hw]
  have hbytes : (qs.length + m) * nb ≤ 140737488355328 := Nat.le_trans (Nat.mul_le_mul (show qs.length + m ≤ 1000000 by omega) hnb) (by decide)
  refine wp_append_own w s x t ho base e i z E.k nb ht hi hz hsize hby hzs E.pos v qs.length (E.flat qs) hs hown ⟨b, off, none⟩ m c (E.flat ps) hx (by rw [E.flat_len, hm]) hp.cells (E.flat_one ps)
    (by unfold maxLen; omega) hbytes hbase ?_
  intro v' w' hown' hgrow _
  refine h v' w' ?_ ((Below.refl base w).grown hgrow hbase (fun q hq => (World.ownsRow.lt hown q hq).1))
  unfold OwnR
  rw [List.length_append, E.flat_append, ← hm]
  exact hown'
end Lead

/-
  Plain: append onto a row that the call owns, where the new row's block is told: the old one's, or a new one.
-/
namespace Lead
open Go Go.RowKit
theorem run_append_told {P : Program} (w : World) (base : Nat) (t ty e : TypeId) (i : TypeInfo) (z : Value) (size bytes : Nat) (ht : P.underlying t = some (.slice e)) (hi : P.info? e = some i) (hz : i.zero = some z)
    (hsize : i.size = size) (hby : i.bytes = bytes) (hzs : z.cells.size = size) (hsz : 0 < size)
    (v : Value) (n : Nat) (xs : List Value) (hown : w.ownsRow base e size v n xs)
    (a : Addr) (m c : Nat) (news : List Value) (hl : news.length = m * size) (hnews : ∀ j u, news[j]? = some u → w.cell? (a.add j) = some u) (h1 : ∀ u ∈ news, u.oneCell' = true)
    (h63 : n + m ≤ maxLen) (hbytes : (n + m) * bytes ≤ 140737488355328) (hbase : base ≤ w.heap.size) :
    ∃ v' w', (Builtin.append_ #[t, t] ty #[v, .slice (some a) m c]).run P w = .ok v' w' ∧ w'.ownsRow base e size v' (n + m) (xs ++ news) ∧ w.grownBy w' v.ownBlock ∧
      (v'.ownBlock = v.ownBlock ∨ v'.ownBlock = some w.heap.size) := by
  obtain ⟨v', w', hr, h2, h3, _⟩ := run_append_own w base t ty e i z size bytes ht hi hz hsize hby hzs hsz v n xs hown a m c news hl hnews h1 h63 hbytes hbase
  refine ⟨v', w', hr, h2, h3, ?_⟩
  have hsmall : n + m ≤ 9223372036854775807 := by simp only [maxLen] at h63; omega
  rcases hown.2 with ⟨rfl, rfl⟩ | ⟨g, cap, cur, rfl, hbg, hg, hnc, hcm, hcs, htake⟩
  · by_cases hm : m = 0
    · subst hm
      rcases h2.2 with ⟨rfl, _⟩ | ⟨g, cap, cur, rfl, hg0, hg, _⟩
      · exact .inl rfl
      · have hn : news = [] := List.eq_nil_of_length_eq_zero (by simpa using hl)
        have hr2 : (Builtin.append_ #[t, t] ty #[.slice none 0 0, .slice (some a) 0 c]).run P w = .ok (.slice none 0 0) w := by
          simp [Builtin.append_, run_underlying ht, Go.sizeOf, typeInfo, hi, Builtin.lenOf, Builtin.firstCells, loadCells, loadCellsFrom, go_sem]
        rw [hr] at hr2
        cases hr2
    · have hr2 := run_append_nil (P := P) w t ty e i z ht hi hz a m c news (by rw [hsize]; exact hl) hnews (by omega) (by omega) (by have hb := hbytes; rw [hby]; simp only [Nat.zero_add] at hb; omega)
      rw [hr] at hr2
      cases hr2
      exact .inr rfl
  · by_cases hroom : n + m ≤ cap
    · obtain ⟨w2, hr2, _⟩ := run_append_own_spare (P := P) w base t ty e i size ht hi hsize g n cap xs hown a m c news hl hnews h1 hroom
      rw [hr] at hr2
      cases hr2
      exact .inl rfl
    · have holds : ∀ j u, xs[j]? = some u → w.cell? ((⟨g, 0, none⟩ : Addr).add j) = some u := hown.cells (g := g) rfl
      have hr2 := run_append_grow (P := P) w t ty e i z ht hi hz ⟨g, 0, none⟩ n cap xs (by rw [hsize]; exact hown.1) holds a m c news (by rw [hsize]; exact hl) hnews (by omega) (by omega) (by rw [hby]; exact growslice_fits (by omega) hbytes)
      rw [hr] at hr2
      cases hr2
      exact .inr rfl
/-- append, at the operation in a list. -/
theorem wp_append_told {P : Program} {ops : Array Oper} {rest : List Oper} {o : Oper} {a : Act} {Q : Exit → Act → World → Prop} {w : World} (hgd : o.guard = none) (s x : Operand) (t : TypeId)
    (ho : o.op = .call { callee := .builtin .append, args := #[s, x], argTypes := #[t, t] }) {α : Type} (E : Enc α)
    (base : Nat) (e : TypeId) (i : TypeInfo) (z : Value) (nb : Nat) (ht : P.underlying t = some (.slice e)) (hi : P.info? e = some i) (hz : i.zero = some z)
    (hsize : i.size = E.k) (hby : i.bytes = nb) (hzs : z.cells.size = E.k) (hnb : nb ≤ 1000) (v : Value) (qs : List α) (hs : a.eval s = v)
    (b off m c : Nat) (ps : List α) (hx : a.eval x = .slice (some ⟨b, off, none⟩) m c) (hm : m = ps.length) (hlen : qs.length + ps.length ≤ 1000000) (hown : OwnR E w base e v qs) (hp : RowIn E w b off ps)
    (hbase : base ≤ w.heap.size)
    (h : ∀ v' w', OwnR E w' base e v' (qs ++ ps) → Below base w w' → w.grownBy w' v.ownBlock → (v'.ownBlock = v.ownBlock ∨ v'.ownBlock = some w.heap.size) → wpList P ops Q rest (a.put o.dst v') w') : wpList P ops Q (o :: rest) a w := by
  refine wpList_plain hgd fun K hK => ?_
  have hbytes : (qs.length + m) * nb ≤ 140737488355328 := Nat.le_trans (Nat.mul_le_mul (show qs.length + m ≤ 1000000 by omega) hnb) (by decide)
  obtain ⟨v', w', hr, h2, h3, h4⟩ := run_append_told (P := P) w base t o.type e i z E.k nb ht hi hz hsize hby hzs E.pos v qs.length (E.flat qs) hown ⟨b, off, none⟩ m c (E.flat ps) (by rw [E.flat_len, hm]) hp.cells (E.flat_one ps)
    (by unfold maxLen; omega) hbytes hbase
  unfold Oper.wp execOp
  simp only [ho, resolve, invoke, builtin, Sem.run_bind, Sem.run_pure, Result.andThen_ok, List.map_toArray, List.map_cons, List.map_nil, hs, hx, hr]
  refine hK _ _ (h v' w' ?_ ((Below.refl base w).grown h3 hbase (fun q hq => (World.ownsRow.lt hown q hq).1)) h3 h4)
  unfold OwnR
  rw [List.length_append, E.flat_append, ← hm]
  exact h2
/-- .. at a step of a region that draws its order. -/
theorem step_append_told {P : Program} {ops : Array Oper} {o : Oper} {a : Act} {w : World} {K : Act → World → Prop} {Q : Exit → Act → World → Prop} {X : Prop} (hgd : o.guard = none) (s x : Operand) (t : TypeId)
    (ho : o.op = .call { callee := .builtin .append, args := #[s, x], argTypes := #[t, t] }) {α : Type} (E : Enc α)
    (base : Nat) (e : TypeId) (i : TypeInfo) (z : Value) (nb : Nat) (ht : P.underlying t = some (.slice e)) (hi : P.info? e = some i) (hz : i.zero = some z)
    (hsize : i.size = E.k) (hby : i.bytes = nb) (hzs : z.cells.size = E.k) (hnb : nb ≤ 1000) (v : Value) (qs : List α) (hs : a.eval s = v)
    (b off m c : Nat) (ps : List α) (hx : a.eval x = .slice (some ⟨b, off, none⟩) m c) (hm : m = ps.length) (hlen : qs.length + ps.length ≤ 1000000) (hown : OwnR E w base e v qs) (hp : RowIn E w b off ps)
    (hbase : base ≤ w.heap.size)
    (h : ∀ v' w', OwnR E w' base e v' (qs ++ ps) → Below base w w' → w.grownBy w' v.ownBlock → (v'.ownBlock = v.ownBlock ∨ v'.ownBlock = some w.heap.size) → K (a.put o.dst v') w') : if Region.wanted o (yielded ops a.tmps) = true then Oper.wp P o a w K Q else X := by
  have hw : Region.wanted o (yielded ops a.tmps) = true := by simp [Region.wanted, hgd]
  rw [if_pos hw]
  have hbytes : (qs.length + m) * nb ≤ 140737488355328 := Nat.le_trans (Nat.mul_le_mul (show qs.length + m ≤ 1000000 by omega) hnb) (by decide)
  obtain ⟨v', w', hr, h2, h3, h4⟩ := run_append_told (P := P) w base t o.type e i z E.k nb ht hi hz hsize hby hzs E.pos v qs.length (E.flat qs) hown ⟨b, off, none⟩ m c (E.flat ps) (by rw [E.flat_len, hm]) hp.cells (E.flat_one ps)
    (by unfold maxLen; omega) hbytes hbase
  unfold Oper.wp execOp
  simp only [ho, resolve, invoke, builtin, Sem.run_bind, Sem.run_pure, Result.andThen_ok, List.map_toArray, List.map_cons, List.map_nil, hs, hx, hr]
  refine h v' w' ?_ ((Below.refl base w).grown h3 hbase (fun q hq => (World.ownsRow.lt hown q hq).1)) h3 h4
  unfold OwnR
  rw [List.length_append, E.flat_append, ← hm]
  exact h2
end Lead
