/-
  Plain: append onto a row that the call owns, where the new row's block is told: the old one's, or a new one.
-/
import Derived.Test.YtbcoccgfoionlaaDoorRow
import Derived.Deep.DeepAppendRoom
import Derived.Deep.RegionLaw
namespace Lead
open Go Go.RowKit
theorem run_append_told {P : Program} (w : World) (base : Nat) (t ty e : TypeId) (i : TypeInfo) (z : Value) (size bytes : Nat) (ht : P.underlying t = some (.slice e)) (hi : P.info? e = some i) (hz : i.zero = some z)
    (hsize : i.size = size) (hby : i.bytes = bytes) (hzs : z.cells.size = size) (hsz : 0 < size)
    (v : Value) (n : Nat) (xs : List Value) (hown : w.ownsRow base e size v n xs)
    (a : Addr) (m c : Nat) (news : List Value) (hl : news.length = m * size) (hnews : ∀ j u, news[j]? = some u → w.cell? (a.add j) = some u) (h1 : ∀ u ∈ news, u.oneCell' = true)
    (h63 : n + m ≤ maxLen) (hbytes : (n + m) * bytes ≤ 140737488355328) (hbase : base ≤ w.heap.size) :
    ∃ v' w', (Builtin.append_ #[t, t] ty #[v, .slice (some a) m c]).run P w = .ok v' w' ∧ w'.ownsRow base e size v' (n + m) (xs ++ news) ∧ w.grownBy w' v.ownBlock ∧
      (v'.ownBlock = v.ownBlock ∨ v'.ownBlock = some w.heap.size) := by
  obtain ⟨v', w', hr, h2, h3, _⟩ := run_append_own w base t ty e i z size bytes ht hi hz hsize hby hzs hsz v n xs hown a m c news hl hnews h1 h63 hbytes hbase
  refine ⟨v', w', hr, h2, h3, ?_⟩
  have hsmall : n + m ≤ 9223372036854775807 := by simp only [maxLen] at h63; omega
  rcases hown.2 with ⟨rfl, rfl⟩ | ⟨g, cap, cur, rfl, hbg, hg, hnc, hcm, hcs, htake⟩
  · by_cases hm : m = 0
    · subst hm
      rcases h2.2 with ⟨rfl, _⟩ | ⟨g, cap, cur, rfl, hg0, hg, _⟩
      · exact .inl rfl
      · have hn : news = [] := List.eq_nil_of_length_eq_zero (by simpa using hl)
        have hr2 : (Builtin.append_ #[t, t] ty #[.slice none 0 0, .slice (some a) 0 c]).run P w = .ok (.slice none 0 0) w := by
          simp [Builtin.append_, run_underlying ht, Go.sizeOf, typeInfo, hi, Builtin.lenOf, Builtin.firstCells, loadCells, loadCellsFrom, go_sem]
        rw [hr] at hr2
        cases hr2
    · have hr2 := run_append_nil (P := P) w t ty e i z ht hi hz a m c news (by rw [hsize]; exact hl) hnews (by omega) (by omega) (by have hb := hbytes; rw [hby]; simp only [Nat.zero_add] at hb; omega)
      rw [hr] at hr2
      cases hr2
      exact .inr rfl
  · by_cases hroom : n + m ≤ cap
    · obtain ⟨w2, hr2, _⟩ := run_append_own_spare (P := P) w base t ty e i size ht hi hsize g n cap xs hown a m c news hl hnews h1 hroom
      rw [hr] at hr2
      cases hr2
      exact .inl rfl
    · have holds : ∀ j u, xs[j]? = some u → w.cell? ((⟨g, 0, none⟩ : Addr).add j) = some u := hown.cells (g := g) rfl
      have hr2 := run_append_grow (P := P) w t ty e i z ht hi hz ⟨g, 0, none⟩ n cap xs (by rw [hsize]; exact hown.1) holds a m c news (by rw [hsize]; exact hl) hnews (by omega) (by omega) (by rw [hby]; exact growslice_fits (by omega) hbytes)
      rw [hr] at hr2
      cases hr2
      exact .inr rfl
/-- append, at the operation in a list. -/
theorem wp_append_told {P : Program} {ops : Array Oper} {rest : List Oper} {o : Oper} {a : Act} {Q : Exit → Act → World → Prop} {w : World} (hgd : o.guard = none) (s x : Operand) (t : TypeId)
    (ho : o.op = .call { callee := .builtin .append, args := #[s, x], argTypes := #[t, t] }) {α : Type} (E : Enc α)
    (base : Nat) (e : TypeId) (i : TypeInfo) (z : Value) (nb : Nat) (ht : P.underlying t = some (.slice e)) (hi : P.info? e = some i) (hz : i.zero = some z)
    (hsize : i.size = E.k) (hby : i.bytes = nb) (hzs : z.cells.size = E.k) (hnb : nb ≤ 1000) (v : Value) (qs : List α) (hs : a.eval s = v)
    (b off m c : Nat) (ps : List α) (hx : a.eval x = .slice (some ⟨b, off, none⟩) m c) (hm : m = ps.length) (hlen : qs.length + ps.length ≤ 1000000) (hown : OwnR E w base e v qs) (hp : RowIn E w b off ps)
    (hbase : base ≤ w.heap.size)
    (h : ∀ v' w', OwnR E w' base e v' (qs ++ ps) → Below base w w' → w.grownBy w' v.ownBlock → (v'.ownBlock = v.ownBlock ∨ v'.ownBlock = some w.heap.size) → wpList P ops Q rest (a.put o.dst v') w') : wpList P ops Q (o :: rest) a w := by
  refine wpList_plain hgd fun K hK => ?_
  have hbytes : (qs.length + m) * nb ≤ 140737488355328 := Nat.le_trans (Nat.mul_le_mul (show qs.length + m ≤ 1000000 by omega) hnb) (by decide)
  obtain ⟨v', w', hr, h2, h3, h4⟩ := run_append_told (P := P) w base t o.type e i z E.k nb ht hi hz hsize hby hzs E.pos v qs.length (E.flat qs) hown ⟨b, off, none⟩ m c (E.flat ps) (by rw [E.flat_len, hm]) hp.cells (E.flat_one ps)
    (by unfold maxLen; omega) hbytes hbase
  unfold Oper.wp execOp
  simp only [ho, resolve, invoke, builtin, Sem.run_bind, Sem.run_pure, Result.andThen_ok, List.map_toArray, List.map_cons, List.map_nil, hs, hx, hr]
  refine hK _ _ (h v' w' ?_ ((Below.refl base w).grown h3 hbase (fun q hq => (World.ownsRow.lt hown q hq).1)) h3 h4)
  unfold OwnR
  rw [List.length_append, E.flat_append, ← hm]
  exact h2
/-- .. at a step of a region that draws its order. -/
theorem step_append_told {P : Program} {ops : Array Oper} {o : Oper} {a : Act} {w : World} {K : Act → World → Prop} {Q : Exit → Act → World → Prop} {X : Prop} (hgd : o.guard = none) (s x : Operand) (t : TypeId)
    (ho : o.op = .call { callee := .builtin .append, args := #[s, x], argTypes := #[t, t] }) {α : Type} (E : Enc α)
    (base : Nat) (e : TypeId) (i : TypeInfo) (z : Value) (nb : Nat) (ht : P.underlying t = some (.slice e)) (hi : P.info? e = some i) (hz : i.zero = some z)
    (hsize : i.size = E.k) (hby : i.bytes = nb) (hzs : z.cells.size = E.k) (hnb : nb ≤ 1000) (v : Value) (qs : List α) (hs : a.eval s = v)
    (b off m c : Nat) (ps : List α) (hx : a.eval x = .slice (some ⟨b, off, none⟩) m c) (hm : m = ps.length) (hlen : qs.length + ps.length ≤ 1000000) (hown : OwnR E w base e v qs) (hp : RowIn E w b off ps)
    (hbase : base ≤ w.heap.size)
    (h : ∀ v' w', OwnR E w' base e v' (qs ++ ps) → Below base w w' → w.grownBy w' v.ownBlock → (v'.ownBlock = v.ownBlock ∨ v'.ownBlock = some w.heap.size) → K (a.put o.dst v') w') : if Region.wanted o (yielded ops a.tmps) = true then Oper.wp P o a w K Q else X := by
  have hw : Region.wanted o (yielded ops a.tmps) = true := by simp [Region.wanted, hgd]
  rw [if_pos hw]
  have hbytes : (qs.length + m) * nb ≤ 140737488355328 := Nat.le_trans (Nat.mul_le_mul (show qs.length + m ≤ 1000000 by omega) hnb) (by decide)
  obtain ⟨v', w', hr, h2, h3, h4⟩ := run_append_told (P := P) w base t o.type e i z E.k nb ht hi hz hsize hby hzs E.pos v qs.length (E.flat qs) hown ⟨b, off, none⟩ m c (E.flat ps) (by rw [E.flat_len, hm]) hp.cells (E.flat_one ps)
    (by unfold maxLen; omega) hbytes hbase
  unfold Oper.wp execOp
  simp only [ho, resolve, invoke, builtin, Sem.run_bind, Sem.run_pure, Result.andThen_ok, List.map_toArray, List.map_cons, List.map_nil, hs, hx, hr]
  refine h v' w' ?_ ((Below.refl base w).grown h3 hbase (fun q hq => (World.ownsRow.lt hown q hq).1)) h3 h4
  unfold OwnR
  rw [List.length_append, E.flat_append, ← hm]
  exact h2
end Lead
