/-
  Plain: points as a row of cells; rows of points that a call owns.
-/
import Derived.Test.YthijgncjaophjaaDoorPl4
namespace Lead
open Go Go.RowKit

def Pt.vals (p : Pt) : List Value := [.int .i64 p.xn, .int .i64 p.xd, .int .i64 p.yn, .int .i64 p.yd]
def flat (ps : List Pt) : List Value := ps.flatMap Pt.vals
theorem flat_nil : flat [] = [] := rfl
theorem flat_cons (p : Pt) (ps : List Pt) : flat (p :: ps) = p.vals ++ flat ps := by simp [flat]
theorem flat_append (a b : List Pt) : flat (a ++ b) = flat a ++ flat b := by simp [flat]
theorem flat_len (ps : List Pt) : (flat ps).length = ps.length * 4 := by
  induction ps with
  | nil => rfl
  | cons p ps ih => rw [flat_cons, List.length_append, ih]; simp [Pt.vals]; omega
theorem flat_at (ps : List Pt) : ∀ (i j : Nat) (h : i < ps.length), j < 4 → (flat ps)[i * 4 + j]? = ps[i].vals[j]? := by
  induction ps with
  | nil => intro i j h; exact absurd h (by simp)
  | cons p ps ih =>
    intro i j h hj
    rw [flat_cons]
    cases i with
    | zero => rw [List.getElem?_append_left (by simp [Pt.vals]; omega)]; simp
    | succ i =>
      rw [List.getElem?_append_right (by simp [Pt.vals]; omega)]
      have : (i + 1) * 4 + j - p.vals.length = i * 4 + j := by simp [Pt.vals]; omega
      rw [this, ih i j (by simpa using h) hj]
      simp
theorem flat_one (ps : List Pt) : ∀ u ∈ flat ps, u.oneCell' = true := by
  intro u hu
  obtain ⟨p, _, hp⟩ := List.mem_flatMap.1 hu
  simp [Pt.vals] at hp
  rcases hp with rfl | rfl | rfl | rfl <;> rfl

theorem add_cell (b off j : Nat) : (⟨b, off, none⟩ : Addr).add j = ⟨b, off + j, none⟩ := by
  unfold Addr.add; split
  · rename_i h; subst h; rfl
  · rfl

theorem PtsIn.cells {w : World} {b off : Nat} {ps : List Pt} (h : PtsIn w b off ps) : ∀ j u, (flat ps)[j]? = some u → w.cell? ((⟨b, off, none⟩ : Addr).add j) = some u := by
  intro j u hu
  rw [add_cell]
  have hj : j < ps.length * 4 := by
    rw [← flat_len]; exact (List.getElem?_eq_some_iff.1 hu).1
  have hi : j / 4 < ps.length := by omega
  have he : j = (j / 4) * 4 + j % 4 := by omega
  rw [he, flat_at ps _ _ hi (by omega)] at hu
  rw [he]
  have h4 : j % 4 = 0 ∨ j % 4 = 1 ∨ j % 4 = 2 ∨ j % 4 = 3 := by omega
  rcases h4 with h4 | h4 | h4 | h4 <;> rw [h4] at hu ⊢ <;> simp [Pt.vals] at hu <;> subst hu
  · exact h.c0 _ hi
  · rw [← Nat.add_assoc]; exact h.c1 _ hi
  · rw [← Nat.add_assoc]; exact h.c2 _ hi
  · rw [← Nat.add_assoc]; exact h.c3 _ hi
theorem ptsIn_of_cells {w : World} {b off : Nat} {ps : List Pt} (h : ∀ j u, (flat ps)[j]? = some u → w.cell? ⟨b, off + j, none⟩ = some u) : PtsIn w b off ps := by
  refine ⟨fun i hi => ?_, fun i hi => ?_, fun i hi => ?_, fun i hi => ?_⟩
  · exact h (i * 4) _ (by rw [← Nat.add_zero (i * 4), flat_at ps i 0 hi (by omega)]; rfl)
  · rw [Nat.add_assoc]; exact h _ _ (by rw [flat_at ps i 1 hi (by omega)]; rfl)
  · rw [Nat.add_assoc]; exact h _ _ (by rw [flat_at ps i 2 hi (by omega)]; rfl)
  · rw [Nat.add_assoc]; exact h _ _ (by rw [flat_at ps i 3 hi (by omega)]; rfl)
theorem PtsIn.drop {w : World} {b off : Nat} {ps : List Pt} (h : PtsIn w b off ps) (k : Nat) : PtsIn w b (off + k * 4) (ps.drop k) := by
  have e : ∀ i, off + k * 4 + i * 4 = off + (k + i) * 4 := fun i => by omega
  refine ⟨fun i hi => ?_, fun i hi => ?_, fun i hi => ?_, fun i hi => ?_⟩ <;> rw [e] <;> rw [List.length_drop] at hi <;> rw [List.getElem_drop]
  · exact h.c0 _ (by omega)
  · exact h.c1 _ (by omega)
  · exact h.c2 _ (by omega)
  · exact h.c3 _ (by omega)
theorem PtsIn.take {w : World} {b off : Nat} {ps : List Pt} (h : PtsIn w b off ps) (k : Nat) : PtsIn w b off (ps.take k) := by
  refine ⟨fun i hi => ?_, fun i hi => ?_, fun i hi => ?_, fun i hi => ?_⟩ <;> rw [List.length_take] at hi <;> rw [List.getElem_take]
  · exact h.c0 _ (by omega)
  · exact h.c1 _ (by omega)
  · exact h.c2 _ (by omega)
  · exact h.c3 _ (by omega)

/-- A row of points that the call owns. -/
def OwnP (w : World) (base : Nat) (e : TypeId) (v : Value) (ps : List Pt) : Prop := w.ownsRow base e 4 v ps.length (flat ps)
theorem OwnP.nil (w : World) (base : Nat) (e : TypeId) : OwnP w base e (.slice none 0 0) [] := World.ownsRow_nil _ _ _ _
theorem OwnP.keep {w w' : World} {base : Nat} {e : TypeId} {v : Value} {ps : List Pt} (h : OwnP w base e v ps) (hb : Below w.heap.size w w') : OwnP w' base e v ps := own_below h hb
theorem OwnP.alloc {w : World} {base : Nat} {e : TypeId} {v : Value} {ps : List Pt} (h : OwnP w base e v ps) (o : Obj) : OwnP (w.alloc o) base e v ps := World.ownsRow.alloc h o
theorem OwnP.base {w : World} {base base' : Nat} {e : TypeId} {v : Value} {ps : List Pt} (h : OwnP w base e v ps) (hb : base' ≤ base) : OwnP w base' e v ps := own_base h hb
/-- .. its value: nil, or a slice from the head of a block on; and the points that lie there. -/
theorem OwnP.form {w : World} {base : Nat} {e : TypeId} {v : Value} {ps : List Pt} (h : OwnP w base e v ps) :
    (v = .slice none 0 0 ∧ ps = []) ∨ ∃ g cap, v = .slice (some ⟨g, 0, none⟩) ps.length cap ∧ base ≤ g ∧ g < w.heap.size ∧ ps.length ≤ cap ∧ ps.length ≤ maxLen ∧ PtsIn w g 0 ps := by
  obtain ⟨h1, h2⟩ := h
  rcases h2 with ⟨h2, h3⟩ | ⟨g, cap, cur, h3, h4, h5, h6, h7, h8, h9⟩
  · exact .inl ⟨h2, List.length_eq_zero_iff.1 h3⟩
  · have hown : w.ownsRow base e 4 (.slice (some ⟨g, 0, none⟩) ps.length cap) ps.length (flat ps) := ⟨h1, .inr ⟨g, cap, cur, rfl, h4, h5, h6, h7, h8, h9⟩⟩
    have hg : g < w.heap.size := by
      rcases Nat.lt_or_ge g w.heap.size with h | h
      · exact h
      · rw [Array.getElem?_eq_none h] at h5; exact absurd h5 (by simp)
    refine .inr ⟨g, cap, h3, h4, hg, h6, by omega, ptsIn_of_cells fun j u hu => ?_⟩
    have hj : j < ps.length * 4 := by rw [← flat_len]; exact (List.getElem?_eq_some_iff.1 hu).1
    rw [Nat.zero_add, hown.cellAt j hj]; exact hu
/-- .. as an argument. -/
theorem OwnP.slp {w : World} {base : Nat} {e : TypeId} {v : Value} {ps : List Pt} (h : OwnP w base e v ps) (hI : ∀ p ∈ ps, p.I) : ∃ oa cap, v = .slice oa ps.length cap ∧ SlP w oa ps.length cap ps := by
  rcases h.form with ⟨rfl, rfl⟩ | ⟨g, cap, rfl, h4, hg, h6, h7, h8⟩
  · exact ⟨none, 0, rfl, rfl, Nat.le_refl _, Nat.zero_le _, hI, .inl ⟨rfl, rfl, rfl⟩⟩
  · exact ⟨_, cap, rfl, rfl, h6, h7, hI, .inr ⟨g, 0, rfl, hg, h8⟩⟩
theorem OwnP.lt {w : World} {base : Nat} {e : TypeId} {v : Value} {ps : List Pt} (h : OwnP w base e v ps) : ∀ k, v.ownBlock = some k → base ≤ k ∧ k < w.heap.size := World.ownsRow.lt h

/-- A call that answers a bool and an error. -/
def RetBE (T F : Nat) (ea : Nat → Addr) (c : Nat × Option Nat) (b : Bool) (w : World) (en : Ending) (w' : World) : Prop :=
  ∃ x, en = .returned (.tuple #[.bool b, x]) ∧ ErrAt T F ea w.heap.size w' x c ∧ Below w.heap.size w w'
theorem call_be {P : Program} {f : FuncId} {args : Array Value} {w W : World} {R : Ending → World → Prop} {T F : Nat} {ea : Nat → Addr} {c : Nat × Option Nat} {n : Bool} (hB : Below w.heap.size w W)
    (h : Below w.heap.size w W → Calls P f args W (RetBE T F ea c n W))
    (k : ∀ x w1, ErrAt T F ea W.heap.size w1 x c → Below w.heap.size w w1 → W.heap.size ≤ w1.heap.size → (∀ b o, b < W.heap.size → w1.cell? ⟨b, o, none⟩ = W.cell? ⟨b, o, none⟩) →
      (∀ b o, b < W.heap.size → w1.frozen? ⟨b, o, none⟩ = W.frozen? ⟨b, o, none⟩) → Below W.heap.size W w1 → R (.returned (.tuple #[.bool n, x])) w1) : Calls P f args W R :=
  (h hB).mono fun en w1 ⟨x, he, hx, hb⟩ => by
    subst he
    exact k x w1 hx (hB.trans (hb.mono hB.size)) hb.size (bcell hb).1 (bcell hb).2 hb

/-- A call that answers own points. -/
def RetP (e : TypeId) (ps : List Pt) (w : World) (en : Ending) (w' : World) : Prop :=
  ∃ v, en = .returned v ∧ OwnP w' w.heap.size e v ps ∧ Below w.heap.size w w'
theorem call_p {P : Program} {f : FuncId} {args : Array Value} {w W : World} {R : Ending → World → Prop} {e : TypeId} {ps : List Pt} (hB : Below w.heap.size w W)
    (h : Below w.heap.size w W → Calls P f args W (RetP e ps W))
    (k : ∀ v w1, OwnP w1 W.heap.size e v ps → Below w.heap.size w w1 → W.heap.size ≤ w1.heap.size → (∀ b o, b < W.heap.size → w1.cell? ⟨b, o, none⟩ = W.cell? ⟨b, o, none⟩) →
      (∀ b o, b < W.heap.size → w1.frozen? ⟨b, o, none⟩ = W.frozen? ⟨b, o, none⟩) → Below W.heap.size W w1 → R (.returned v) w1) : Calls P f args W R :=
  (h hB).mono fun en w1 ⟨v, he, hv, hb⟩ => by
    subst he
    exact k v w1 hv (hB.trans (hb.mono hB.size)) hb.size (bcell hb).1 (bcell hb).2 hb

theorem own_lit2 (w : World) (o1 o2 : Obj) (e : TypeId) (ps : List Pt) (hp : ps.length ≤ maxLen) :
    OwnP (((w.alloc o1).alloc o2).alloc (.cells (flat ps).toArray e)) w.heap.size e (.slice (some ⟨w.heap.size + 1 + 1, 0, none⟩) ps.length ps.length) ps := by
  have h := World.ownsRow_lit (base := w.heap.size) (e := e) (size := 4) ((w.alloc o1).alloc o2) (flat ps).toArray ps.length (by simp; omega) hp (by simp [flat_len])
  rw [World.size_alloc, World.size_alloc] at h
  simpa [OwnP] using h
theorem own_lit1 (w : World) (o1 : Obj) (e : TypeId) (ps : List Pt) (hp : ps.length ≤ maxLen) :
    OwnP ((w.alloc o1).alloc (.cells (flat ps).toArray e)) w.heap.size e (.slice (some ⟨w.heap.size + 1, 0, none⟩) ps.length ps.length) ps := by
  have h := World.ownsRow_lit (base := w.heap.size) (e := e) (size := 4) (w.alloc o1) (flat ps).toArray ps.length (by simp) hp (by simp [flat_len])
  rw [World.size_alloc] at h
  simpa [OwnP] using h

theorem below_via {w2 W w3 : World} (h : Below w2.heap.size w2 W) (hW : Below W.heap.size W w3) : Below w2.heap.size w2 w3 := h.trans (hW.mono h.size)
theorem call_bel {P : Program} {f : FuncId} {args : Array Value} {w W : World} {v : Value} {R : Ending → World → Prop} (hB : Below w.heap.size w W)
    (h : Below w.heap.size w W → Calls P f args W fun e w' => e = .returned v ∧ Below W.heap.size W w')
    (k : ∀ w1, Below w.heap.size w w1 → W.heap.size ≤ w1.heap.size → (∀ b o, b < W.heap.size → w1.cell? ⟨b, o, none⟩ = W.cell? ⟨b, o, none⟩) →
      (∀ b o, b < W.heap.size → w1.frozen? ⟨b, o, none⟩ = W.frozen? ⟨b, o, none⟩) → Below W.heap.size W w1 → R (.returned v) w1) : Calls P f args W R :=
  (h hB).mono fun e w1 ⟨he, hb⟩ => by
    subst he
    exact k w1 (hB.trans (hb.mono hB.size)) hb.size (bcell hb).1 (bcell hb).2 hb

/-- append onto a row of points that the call owns. -/
theorem wp_append_pts {P : Program} {ops : Array Oper} {rest : List Oper} {o : Oper} {a : Act} {Q : Exit → Act → World → Prop} {w0 w : World} (hgd : o.guard = none) (s x : Operand) (t : TypeId)
    (ho : o.op = .call { callee := .builtin .append, args := #[s, x], argTypes := #[t, t] })
    (base : Nat) (e : TypeId) (i : TypeInfo) (z : Value) (ht : P.underlying t = some (.slice e)) (hi : P.info? e = some i) (hz : i.zero = some z)
    (hsize : i.size = 4) (hby : i.bytes = 32) (hzs : z.cells.size = 4) (v : Value) (qs : List Pt) (hs : a.eval s = v) (hown : OwnP w base e v qs)
    (b off m c : Nat) (ps : List Pt) (hx : a.eval x = .slice (some ⟨b, off, none⟩) m c) (hm : m = ps.length) (hp : PtsIn w b off ps) (hlen : qs.length + ps.length ≤ 1000)
    (hbase : base ≤ w.heap.size) (hB : Below w0.heap.size w0 w) (h0 : w0.heap.size ≤ base)
    (h : ∀ v' w', OwnP w' base e v' (qs ++ ps) → Below w0.heap.size w0 w' → w.heap.size ≤ w'.heap.size → (∀ b o, b < base → w'.cell? ⟨b, o, none⟩ = w.cell? ⟨b, o, none⟩) →
      (∀ b o, b < base → w'.frozen? ⟨b, o, none⟩ = w.frozen? ⟨b, o, none⟩) → Below base w w' → wpList P ops Q rest (a.put o.dst v') w') : wpList P ops Q (o :: rest) a w := by
  refine wpList_append_own w hgd s x t ho base e i z 4 32 ht hi hz hsize hby hzs (by decide) v qs.length (flat qs) hs hown ⟨b, off, none⟩ m c (flat ps) hx (by rw [flat_len, hm]) hp.cells (flat_one ps)
    (by unfold maxLen; omega) (by omega) hbase ?_
  intro v' w' hown' hgrow _
  have hA : Below base w w' := (Below.refl base w).grown hgrow hbase (fun q hq => (hown.lt q hq).1)
  refine h v' w' ?_ (hB.trans (hA.mono h0)) hA.size (fun b o h => hA.cell (p := ⟨b, o, none⟩) h) (fun b o h => hA.frozen (p := ⟨b, o, none⟩) h) hA
  unfold OwnP
  rw [List.length_append, flat_append, ← hm]
  exact hown'
theorem below_via' {w2 W w3 : World} {base : Nat} (h : Below w2.heap.size w2 W) (hA : Below base W w3) (hb : w2.heap.size ≤ base) : Below w2.heap.size w2 w3 := h.trans (hA.mono hb)
theorem pts_new (w : World) (e : TypeId) (p : Pt) : PtsIn (w.alloc (.cells #[.int .i64 p.xn, .int .i64 p.xd, .int .i64 p.yn, .int .i64 p.yd] e)) w.heap.size 0 [p] := by
  refine ⟨fun i hi => ?_, fun i hi => ?_, fun i hi => ?_, fun i hi => ?_⟩ <;> (have h0 : i = 0 := by simpa using hi) <;> subst h0 <;> simp

/-- .. at a step of a region that draws its order. -/
theorem step_append_pts {P : Program} {ops : Array Oper} {o : Oper} {a : Act} {w : World} {K : Act → World → Prop} {Q : Exit → Act → World → Prop} {E : Prop} (hgd : o.guard = none) (s x : Operand) (t : TypeId)
    (ho : o.op = .call { callee := .builtin .append, args := #[s, x], argTypes := #[t, t] })
    (base : Nat) (e : TypeId) (i : TypeInfo) (z : Value) (ht : P.underlying t = some (.slice e)) (hi : P.info? e = some i) (hz : i.zero = some z)
    (hsize : i.size = 4) (hby : i.bytes = 32) (hzs : z.cells.size = 4) (v : Value) (qs : List Pt) (hs : a.eval s = v)
    (b off m c : Nat) (ps : List Pt) (hx : a.eval x = .slice (some ⟨b, off, none⟩) m c) (hm : m = ps.length) (hlen : qs.length + ps.length ≤ 1000) (hown : OwnP w base e v qs) (hp : PtsIn w b off ps)
    (hbase : base ≤ w.heap.size)
    (h : ∀ v' w', OwnP w' base e v' (qs ++ ps) → Below base w w' → K (a.put o.dst v') w') : if Region.wanted o (yielded ops a.tmps) = true then Oper.wp P o a w K Q else E := by
  have hw : Region.wanted o (yielded ops a.tmps) = true := by simp [Region.wanted, hgd]
  rw [if_pos hw]
  refine wp_append_own w s x t ho base e i z 4 32 ht hi hz hsize hby hzs (by decide) v qs.length (flat qs) hs hown ⟨b, off, none⟩ m c (flat ps) hx (by rw [flat_len, hm]) hp.cells (flat_one ps)
    (by unfold maxLen; omega) (by omega) hbase ?_
  intro v' w' hown' hgrow _
  refine h v' w' ?_ ((Below.refl base w).grown hgrow hbase (fun q hq => (hown.lt q hq).1))
  unfold OwnP
  rw [List.length_append, flat_append, ← hm]
  exact hown'
theorem held_alloc {N : Nat} {Wa W : World} {X : Prop} (hN : N ≤ Wa.heap.size) (h : Below N Wa W ∧ X) (o : Obj) : Below N Wa (W.alloc o) :=
  h.1.alloc (Nat.le_trans hN h.1.size) o
theorem held_app {N : Nat} {Wa W W' : World} {X : Prop} (hb : Below N W W') (h : Below N Wa W ∧ X) : Below N Wa W' := h.1.trans hb
theorem held_b {N : Nat} {Wa W : World} {X : Prop} (h : Below N Wa W ∧ X) : Below N Wa W := h.1
theorem pts_new' (w : World) (e : TypeId) (p : Pt) : PtsIn (w.alloc (.cells #[.int .i64 p.xn, .int .i64 p.xd, .int .i64 p.yn, .int .i64 p.yd] e)).drew w.heap.size 0 [p] :=
  ⟨(pts_new w e p).c0, (pts_new w e p).c1, (pts_new w e p).c2, (pts_new w e p).c3⟩
end Lead
