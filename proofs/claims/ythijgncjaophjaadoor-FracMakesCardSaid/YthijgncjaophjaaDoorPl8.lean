/-
  Plain: boxes: their points, their errors; calls that answer own points and an error.
-/
import Derived.Test.YthijgncjaophjaaDoorPl5
import Derived.Test.YthijgncjaophjaaDoorPl7
namespace Lead
open Go Go.RowKit

def boxP (x y w h : Fr) : List Pt :=
  [⟨x.n, x.d, y.n, y.d⟩, ⟨(x.add w).n, (x.add w).d, y.n, y.d⟩, ⟨(x.add w).n, (x.add w).d, (y.add h).n, (y.add h).d⟩, ⟨x.n, x.d, (y.add h).n, (y.add h).d⟩]
def boxC (x y w h : Fr) : Nat × Option Nat :=
  if x.c ≠ 0 then (x.c, some 0) else if y.c ≠ 0 then (y.c, some 1) else if w.c ≠ 0 then (w.c, some 2) else if h.c ≠ 0 then (h.c, some 3)
  else if x.addC w ≠ 0 ∨ y.addC h ≠ 0 then (2, none) else shC (boxP x y w h)
theorem boxC_cases (x y w h : Fr) : (x.c ≠ 0 ∧ boxC x y w h = (x.c, some 0)) ∨ (x.c = 0 ∧ y.c ≠ 0 ∧ boxC x y w h = (y.c, some 1)) ∨ (x.c = 0 ∧ y.c = 0 ∧ w.c ≠ 0 ∧ boxC x y w h = (w.c, some 2)) ∨
    (x.c = 0 ∧ y.c = 0 ∧ w.c = 0 ∧ h.c ≠ 0 ∧ boxC x y w h = (h.c, some 3)) ∨ (x.c = 0 ∧ y.c = 0 ∧ w.c = 0 ∧ h.c = 0 ∧ x.addC w ≠ 0 ∧ boxC x y w h = (2, none)) ∨
    (x.c = 0 ∧ y.c = 0 ∧ w.c = 0 ∧ h.c = 0 ∧ x.addC w = 0 ∧ y.addC h ≠ 0 ∧ boxC x y w h = (2, none)) ∨ (x.c = 0 ∧ y.c = 0 ∧ w.c = 0 ∧ h.c = 0 ∧ x.addC w = 0 ∧ y.addC h = 0 ∧ boxC x y w h = shC (boxP x y w h)) := by
  unfold boxC
  by_cases h1 : x.c = 0 <;> by_cases h2 : y.c = 0 <;> by_cases h3 : w.c = 0 <;> by_cases h4 : h.c = 0 <;> by_cases h5 : x.addC w = 0 <;> by_cases h6 : y.addC h = 0 <;> simp [h1, h2, h3, h4, h5, h6]
def boxL (x y w h : Fr) : List Pt := if boxC x y w h = (0, none) then boxP x y w h else []
structure Fr.I (a : Fr) : Prop where
  n : I64 a.n
  d : I64 a.d

theorem cell_new {w : World} {vs : Array Value} {t : TypeId} {b j : Nat} (hb : b = w.heap.size) : (w.alloc (.cells vs t)).cell? ⟨b, j, none⟩ = vs[j]? := by subst hb; simp

/-- A call that answers a struct of own points, and an error. -/
def RetPE (T F : Nat) (ea : Nat → Addr) (e : TypeId) (c : Nat × Option Nat) (ps : List Pt) (w : World) (en : Ending) (w' : World) : Prop :=
  ∃ v x, en = .returned (.tuple #[.agg #[v], x]) ∧ ErrAt T F ea w.heap.size w' x c ∧ OwnP w' w.heap.size e v ps ∧ Below w.heap.size w w'
theorem call_pe {P : Program} {f : FuncId} {args : Array Value} {w W : World} {R : Ending → World → Prop} {T F : Nat} {ea : Nat → Addr} {e : TypeId} {c : Nat × Option Nat} {ps : List Pt} (hB : Below w.heap.size w W)
    (h : Below w.heap.size w W → Calls P f args W (RetPE T F ea e c ps W))
    (k : ∀ v x w1, ErrAt T F ea W.heap.size w1 x c ∧ OwnP w1 W.heap.size e v ps → Below w.heap.size w w1 → W.heap.size ≤ w1.heap.size → (∀ b o, b < W.heap.size → w1.cell? ⟨b, o, none⟩ = W.cell? ⟨b, o, none⟩) →
      (∀ b o, b < W.heap.size → w1.frozen? ⟨b, o, none⟩ = W.frozen? ⟨b, o, none⟩) → Below W.heap.size W w1 → R (.returned (.tuple #[.agg #[v], x])) w1) : Calls P f args W R :=
  (h hB).mono fun en w1 ⟨v, x, he, hx, hv, hb⟩ => by
    subst he
    exact k v x w1 ⟨hx, hv⟩ (hB.trans (hb.mono hB.size)) hb.size (bcell hb).1 (bcell hb).2 hb
/-- A call that answers one error: as call_e, and the call's own frame. -/
theorem call_ew {P : Program} {f : FuncId} {args : Array Value} {w W : World} {R : Ending → World → Prop} {T F : Nat} {ea : Nat → Addr} {c : Nat × Option Nat} (hB : Below w.heap.size w W)
    (h : Below w.heap.size w W → Calls P f args W (RetE T F ea c W))
    (k : ∀ v w1, ErrAt T F ea W.heap.size w1 v c → Below w.heap.size w w1 → W.heap.size ≤ w1.heap.size → (∀ b o, b < W.heap.size → w1.cell? ⟨b, o, none⟩ = W.cell? ⟨b, o, none⟩) →
      (∀ b o, b < W.heap.size → w1.frozen? ⟨b, o, none⟩ = W.frozen? ⟨b, o, none⟩) → Below W.heap.size W w1 → R (.returned v) w1) : Calls P f args W R :=
  (h hB).mono fun e w1 ⟨v, he, hv, hb⟩ => by
    subst he
    exact k v w1 hv (hB.trans (hb.mono hB.size)) hb.size (bcell hb).1 (bcell hb).2 hb
theorem slp_lit (w : World) (o1 o2 : Obj) (e : TypeId) (ps : List Pt) (hp : ps.length ≤ maxLen) (hI : ∀ p ∈ ps, p.I) :
    SlP (((w.alloc o1).alloc (.cells (flat ps).toArray e)).alloc o2) (some ⟨w.heap.size + 1, 0, none⟩) ps.length ps.length ps := by
  obtain ⟨oa, cap, hv, hs⟩ := ((own_lit1 w o1 e ps hp).alloc o2).slp hI
  cases hv
  exact hs
theorem low_i64 {n d : Int} (h : lowC n d = 0) : I64 (lowN n d) ∧ I64 (lowD n d) := by
  rcases lowC_cases n d with ⟨_, h1⟩ | ⟨_, _, h1⟩ | ⟨h1, h2, _⟩
  · omega
  · omega
  · have h1 := sml_true.1 h1; have h2 := sml_true.1 h2
    unfold I64; omega
theorem boxP_I {x y w h : Fr} (hx : x.I) (hy : y.I) (h1 : x.addC w = 0) (h2 : y.addC h = 0) : ∀ p ∈ boxP x y w h, p.I := by
  intro p hp
  obtain ⟨a1, a2⟩ := low_i64 h1
  obtain ⟨b1, b2⟩ := low_i64 h2
  simp only [boxP, List.mem_cons, List.not_mem_nil, or_false] at hp
  rcases hp with rfl | rfl | rfl | rfl
  · exact ⟨hx.n, hx.d, hy.n, hy.d⟩
  · exact ⟨a1, a2, hy.n, hy.d⟩
  · exact ⟨a1, a2, b1, b2⟩
  · exact ⟨hx.n, hx.d, b1, b2⟩
theorem own_set {w : World} {base : Nat} {e : TypeId} {size : Nat} {v : Value} {n : Nat} {xs : List Value} (h : w.ownsRow base e size v n xs) (a : Addr) (x : Value) (ha : a.block < base) : (w.setCell a x).ownsRow base e size v n xs := by
  obtain ⟨h1, h2⟩ := h
  refine ⟨h1, ?_⟩
  rcases h2 with h2 | ⟨g, cap, cur, h3, h4, h5, h6⟩
  · exact .inl h2
  · refine .inr ⟨g, cap, cur, h3, h4, ?_, h6⟩
    rw [Below.heap_setCell _ _ _ _ (by omega)]; exact h5
theorem ErrAt.set {T F : Nat} {ea : Nat → Addr} {lo lo' : Nat} {w : World} {v : Value} {c : Nat × Option Nat} (h : ErrAt T F ea lo w v c) (a : Addr) (x : Value) (ha : a.block < lo) (hl : lo' ≤ lo) : ErrAt T F ea lo' (w.setCell a x) v c := by
  obtain ⟨c1, c2⟩ := c
  cases c2 with
  | none => exact h
  | some i =>
    obtain ⟨h0, b, h1, h2, h3, h4⟩ := h
    have hne : a.block ≠ b := by omega
    exact ⟨h0, b, by omega, h2, by rw [World.cell?_setCell_other (h := fun e => hne (by rw [e]))]; exact h3, by rw [World.cell?_setCell_other (h := fun e => hne (by rw [e]))]; exact h4⟩
/-- A fraction and an error, as two. -/
theorem call_fr0 {P : Program} {f : FuncId} {args : Array Value} {w W : World} {R : Ending → World → Prop} {T : Nat} {ea : Nat → Addr} {c : Nat} {q r : Int} (hB : Below w.heap.size w W)
    (h : Below w.heap.size w W → Calls P f args W fun e w' => e = .returned (frV T ea c q r) ∧ Below W.heap.size W w') (hc : c = 0)
    (k : ∀ w1, Below w.heap.size w w1 → W.heap.size ≤ w1.heap.size → (∀ b o, b < W.heap.size → w1.cell? ⟨b, o, none⟩ = W.cell? ⟨b, o, none⟩) →
      (∀ b o, b < W.heap.size → w1.frozen? ⟨b, o, none⟩ = W.frozen? ⟨b, o, none⟩) → Below W.heap.size W w1 → R (.returned (.tuple #[.agg #[.int .i64 q, .int .i64 r], .nilIface])) w1) : Calls P f args W R :=
  (h hB).mono fun en w1 ⟨he, hb⟩ => by
    subst he
    rw [frV_0 hc]
    exact k w1 (hB.trans (hb.mono hB.size)) hb.size (bcell hb).1 (bcell hb).2 hb
theorem call_frn {P : Program} {f : FuncId} {args : Array Value} {w W : World} {R : Ending → World → Prop} {T : Nat} {ea : Nat → Addr} {c : Nat} {q r : Int} (hB : Below w.heap.size w W)
    (h : Below w.heap.size w W → Calls P f args W fun e w' => e = .returned (frV T ea c q r) ∧ Below W.heap.size W w') (hc : c ≠ 0)
    (k : ∀ w1, Below w.heap.size w w1 → W.heap.size ≤ w1.heap.size → (∀ b o, b < W.heap.size → w1.cell? ⟨b, o, none⟩ = W.cell? ⟨b, o, none⟩) →
      (∀ b o, b < W.heap.size → w1.frozen? ⟨b, o, none⟩ = W.frozen? ⟨b, o, none⟩) → Below W.heap.size W w1 → R (.returned (.tuple #[.agg #[.int .i64 0, .int .i64 0], .iface T (.pointer (some (ea c)))])) w1) : Calls P f args W R :=
  (h hB).mono fun en w1 ⟨he, hb⟩ => by
    subst he
    rw [frV_n hc]
    exact k w1 (hB.trans (hb.mono hB.size)) hb.size (bcell hb).1 (bcell hb).2 hb
end Lead
