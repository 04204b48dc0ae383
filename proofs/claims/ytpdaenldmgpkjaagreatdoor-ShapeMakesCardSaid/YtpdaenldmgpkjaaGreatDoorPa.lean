/-
  Several texts as one: Base, Pl1, Pl7, Pl10, Pl11, Pl2, Pl3, Pl4, Pl5, Pl8, Pl6, Pl12.
-/
import Derived.WalkKit
import Derived.WalkSpells
import Derived.WalkLawsBesides
import Derived.Deep.QuietTactic
import Derived.Deep.Draws
import Derived.BigQuiet
import Derived.BigRegion
import Derived.RegionTactic
import Derived.ChangeAlike
import Derived.Handy
import Derived.Lib.Hide
import Derived.Deep.RegionHeld3
import Derived.Deep.RegionWith
/-
  Small general laws that all walks of this family use. No program in sight.
-/
namespace Lead
open Go Go.RowKit

/-- A 64-bit number. -/
def I64 (x : Int) : Prop := -9223372036854775808 ≤ x ∧ x ≤ 9223372036854775807

theorem I64.wf {x : Int} (h : (Lit.int .i64 x).wf = true) : I64 x := by
  simp [Lit.wf, IntKind.min, IntKind.max, IntKind.signed, IntKind.bits] at h
  unfold I64; omega

/-- A cell is known: so its block is there. -/
theorem zlt {w : World} {g : Nat} {v : Value} (h : w.cell? ⟨g, 0, none⟩ = some v) : g < w.heap.size := World.block_lt_of_cell? w _ h
theorem zlts {w : World} {g : Nat} {v : Value} (h : w.cell? ⟨g, 0, none⟩ = some v) : ∀ j, j ≤ g → j < w.heap.size := fun j hj => by have := zlt h; omega
theorem zne {w : World} {g : Nat} {v : Value} (h : w.cell? ⟨g, 0, none⟩ = some v) : ∀ j, j ≤ g → ¬ w.heap.size = j := fun j hj => by have := zlt h; omega
theorem galloc {w : World} {a : Addr} {v : Value} (h : w.cell? a = some v) (o : Obj) : (w.alloc o).cell? a = some v := by
  rw [World.cell?_alloc_lt _ _ _ (World.block_lt_of_cell? w _ h)]; exact h
theorem gkeep {w w1 : World} {a : Addr} {v : Value} {B : Nat} (hb : Below B w w1) (h : w.cell? a = some v) (hB : B = w.heap.size) : w1.cell? a = some v := by
  rw [hb.cell (by rw [hB]; exact World.block_lt_of_cell? w _ h)]; exact h

/-- Behind a call: what lay before it reads as it did. -/
theorem bcell {W w1 : World} (hb : Below W.heap.size W w1) : (∀ b o, b < W.heap.size → w1.cell? ⟨b, o, none⟩ = W.cell? ⟨b, o, none⟩) ∧ (∀ b o, b < W.heap.size → w1.frozen? ⟨b, o, none⟩ = W.frozen? ⟨b, o, none⟩) :=
  ⟨fun b o h => hb.cell (p := ⟨b, o, none⟩) h, fun b o h => hb.frozen (p := ⟨b, o, none⟩) h⟩

theorem bwR (B : Nat) (w : World) : Below B w w := Below.refl B w
theorem bwA {B : Nat} {a w : World} (h : Below B a w) (hB : B ≤ w.heap.size) (o : Obj) : Below B a (w.alloc o) := h.alloc hB o
theorem bwD {B : Nat} {a w : World} (h : Below B a w) : Below B a w.drew := h.drew
theorem bwS {B : Nat} {a w : World} {p : Addr} (h : Below B a w) (hB : B ≤ p.block) (v : Value) : Below B a (w.setCell p v) := h.setCell hB v
theorem szA (w : World) (o : Obj) : (w.alloc o).heap.size = w.heap.size + 1 := World.size_alloc w o
theorem szD (w : World) : w.drew.heap.size = w.heap.size := World.size_drew w
theorem szS (w : World) (p : Addr) (v : Value) : (w.setCell p v).heap.size = w.heap.size := World.size_setCell _ _ _
theorem bdn {B n : Nat} {a w : World} (h : Below B a w) : Below B a (w.drewN n) := h.trans ⟨rfl, rfl, rfl, Nat.le_refl _, fun _ _ => rfl⟩

/-- A call that only makes memory: behind it, what is known. -/
theorem call_below {P : Program} {f : FuncId} {args : Array Value} {w W : World} {v : Value} {R : Ending → World → Prop} (hB : Below w.heap.size w W)
    (h : Below w.heap.size w W → Calls P f args W fun e w' => e = .returned v ∧ Below W.heap.size W w')
    (k : ∀ w1, Below w.heap.size w w1 → W.heap.size ≤ w1.heap.size → (∀ b o, b < W.heap.size → w1.cell? ⟨b, o, none⟩ = W.cell? ⟨b, o, none⟩) →
      (∀ b o, b < W.heap.size → w1.frozen? ⟨b, o, none⟩ = W.frozen? ⟨b, o, none⟩) → R (.returned v) w1) : Calls P f args W R :=
  (h hB).mono fun e w1 ⟨he, hb⟩ => by
    subst he
    exact k w1 (hB.trans (hb.mono hB.size)) hb.size (bcell hb).1 (bcell hb).2


/-- Three boxes of the call's own, in whatever world it has come to. -/
abbrev Own3 (w : World) (A B C : Array Value) (W : World) : Prop :=
  Below w.heap.size w W ∧ w.heap.size + 1 + 1 < W.heap.size ∧ (∀ j, W.cell? ⟨w.heap.size, j, none⟩ = A[j]?) ∧ (∀ j, W.cell? ⟨w.heap.size + 1, j, none⟩ = B[j]?) ∧ (∀ j, W.cell? ⟨w.heap.size + 1 + 1, j, none⟩ = C[j]?)
theorem own3_start (w : World) (A B C : Array Value) (t : TypeId) : Own3 w A B C (((w.alloc (.cells A t)).alloc (.cells B t)).alloc (.cells C t)).drew := by
  refine ⟨(((((Below.refl _ _).alloc (Nat.le_refl _) _).alloc (by simp) _).alloc (by simp; omega) _).drew), by simp, fun j => ?_, fun j => ?_, fun j => ?_⟩
  · rw [World.cell?_drew, World.cell?_alloc_lt _ _ _ (by simp; omega), World.cell?_alloc_lt _ _ _ (by simp), World.cell?_alloc_new]
  · rw [World.cell?_drew, World.cell?_alloc_lt _ _ _ (by simp)]
    exact World.cell?_alloc_at _ _ _ _ (by simp)
  · rw [World.cell?_drew]
    exact World.cell?_alloc_at _ _ _ _ (by simp)
theorem own3_step {w W W' : World} {A B C : Array Value} (hb : Below W.heap.size W W') (h : Own3 w A B C W) : Own3 w A B C W' := by
  obtain ⟨h1, h2, h3, h4, h5⟩ := h
  refine ⟨h1.trans (hb.mono h1.size), Nat.lt_of_lt_of_le h2 hb.size, fun j => ?_, fun j => ?_, fun j => ?_⟩
  · rw [hb.cell (by simp; omega)]; exact h3 j
  · rw [hb.cell (by simp; omega)]; exact h4 j
  · rw [hb.cell (by simp; omega)]; exact h5 j

/-- In a region that draws its order: from one call to the next. -/
theorem held_step {N : Nat} {Wa W W' : World} {X : Prop} (hN : N = Wa.heap.size) (hb : Below W.heap.size W W') (h : Below N Wa W ∧ X) : Below N Wa W' :=
  h.1.trans (hb.mono (by rw [hN]; exact h.1.size))
end Lead

/-
  Plain laws on numbers: what the walks over package frac come to. No program in sight.
-/
namespace Lead
open Go Go.RowKit

theorem max_neg {x : Int} (hx : I64 x) (h : wrap64 (-x) ≤ x) : wrap64 (Int.gcd x 0) = x := by
  rw [Int.gcd_zero_right]
  unfold wrap64 at *; unfold I64 at hx; omega

theorem max_neg' {x : Int} (hx : I64 x) (h : x < wrap64 (-x)) : wrap64 (Int.gcd x 0) = wrap64 (-x) := by
  rw [Int.gcd_zero_right]
  unfold wrap64 at *; unfold I64 at hx; omega

theorem gcd_step {x y : Int} : Int.gcd y (x.tmod y) = Int.gcd x y := by
  have h : (Int.gcd y (x.tmod y)) = Nat.gcd y.natAbs (x.natAbs % y.natAbs) := by
    unfold Int.gcd; rw [Int.natAbs_tmod]
  rw [h, Nat.gcd_comm y.natAbs, ← Nat.gcd_rec, Nat.gcd_comm]
  rfl
  
theorem tmod_i64 {x y : Int} (hy : I64 y) (h0 : y ≠ 0) : I64 (x.tmod y) := by
  unfold I64 at *
  have h1 := Int.natAbs_tmod x y
  have h2 : x.natAbs % y.natAbs < y.natAbs := Nat.mod_lt _ (by omega)
  omega

theorem tmod_lt {x y : Int} (h0 : y ≠ 0) : (x.tmod y).natAbs < y.natAbs := by
  rw [Int.natAbs_tmod]
  exact Nat.mod_lt _ (by omega)

/-- Is a part of a fraction not too great? -/
def sml (x : Int) : Bool := decide (-1073741824 ≤ x ∧ x ≤ 1073741824)
theorem sml_true {x : Int} : sml x = true ↔ -1073741824 ≤ x ∧ x ≤ 1073741824 := by unfold sml; simp
theorem sml_false {x : Int} : sml x = false ↔ ¬ (-1073741824 ≤ x ∧ x ≤ 1073741824) := by unfold sml; simp

/-- The number of the error of a fraction: 0 none, 2 ErrBound, 3 ErrShape. -/
def chk (n d : Int) : Nat := if d < 1 then 3 else if Int.gcd n d ≠ 1 then 3 else if sml n = true ∧ sml d = true then 0 else 2

theorem chk_cases (n d : Int) : (d < 1 ∧ chk n d = 3) ∨ (1 ≤ d ∧ Int.gcd n d ≠ 1 ∧ chk n d = 3) ∨ (1 ≤ d ∧ Int.gcd n d = 1 ∧ sml n = false ∧ chk n d = 2) ∨
    (1 ≤ d ∧ Int.gcd n d = 1 ∧ sml n = true ∧ sml d = false ∧ chk n d = 2) ∨ (1 ≤ d ∧ Int.gcd n d = 1 ∧ sml n = true ∧ sml d = true ∧ chk n d = 0) := by
  unfold chk
  by_cases h1 : d < 1
  · simp [h1]
  · by_cases h2 : Int.gcd n d = 1
    · cases h3 : sml n <;> cases h4 : sml d <;> simp [h1, h2] <;> omega
    · simp [h1, h2]; omega

theorem gcd_wrap1 {n d : Int} (h : 1 ≤ d) (hd : I64 d) : wrap64 (Int.gcd n d) = Int.gcd n d := by
  apply IntWalk.wrap64_in
  have h1 : Int.gcd n d ≤ d.natAbs := Nat.le_of_dvd (by omega) (Int.gcd_dvd_natAbs_right n d)
  unfold I64 at hd
  omega

/-- An error by its number; where the errors lie: 'ea'. -/
def evl (T : Nat) (ea : Nat → Addr) (c : Nat) : Value := if c = 0 then .nilIface else .iface T (.pointer (some (ea c)))
theorem evl_0 {T : Nat} {ea : Nat → Addr} {c : Nat} (h : c = 0) : evl T ea c = .nilIface := by unfold evl; rw [if_pos h]
theorem evl_n {T : Nat} {ea : Nat → Addr} {c : Nat} (h : c ≠ 0) : evl T ea c = .iface T (.pointer (some (ea c))) := by unfold evl; rw [if_neg h]

/-- What a function of package frac answers: a fraction and an error's number. -/
def frV (T : Nat) (ea : Nat → Addr) (c : Nat) (q r : Int) : Value :=
  if c = 0 then .tuple #[.agg #[.int .i64 q, .int .i64 r], .nilIface] else .tuple #[.agg #[.int .i64 0, .int .i64 0], .iface T (.pointer (some (ea c)))]
theorem frV_0 {T : Nat} {ea : Nat → Addr} {c : Nat} {q r : Int} (h : c = 0) : frV T ea c q r = .tuple #[.agg #[.int .i64 q, .int .i64 r], .nilIface] := by unfold frV; rw [if_pos h]
theorem frV_n {T : Nat} {ea : Nat → Addr} {c : Nat} {q r : Int} (h : c ≠ 0) : frV T ea c q r = .tuple #[.agg #[.int .i64 0, .int .i64 0], .iface T (.pointer (some (ea c)))] := by unfold frV; rw [if_neg h]

/-- Lowest terms: by what both parts are divided; the parts; the error's number. -/
def lowG (n d : Int) : Int := if d < 0 then -(Int.gcd n d : Int) else (Int.gcd n d : Int)
def lowN (n d : Int) : Int := n.tdiv (lowG n d)
def lowD (n d : Int) : Int := d.tdiv (lowG n d)
def lowC (n d : Int) : Nat := if sml (lowN n d) = true ∧ sml (lowD n d) = true then 0 else 2
theorem lowC_cases (n d : Int) : (sml (lowN n d) = false ∧ lowC n d = 2) ∨ (sml (lowN n d) = true ∧ sml (lowD n d) = false ∧ lowC n d = 2) ∨ (sml (lowN n d) = true ∧ sml (lowD n d) = true ∧ lowC n d = 0) := by
  unfold lowC
  cases h1 : sml (lowN n d) <;> cases h2 : sml (lowD n d) <;> simp

/-- A number that can be divided and put together without a wrap. -/
def B62 (x : Int) : Prop := -4611686018427387904 ≤ x ∧ x ≤ 4611686018427387904
theorem B62.i64 {x : Int} (h : B62 x) : I64 x := by unfold B62 at h; unfold I64; omega

theorem tdiv_abs (x g : Int) : (x.tdiv g).natAbs ≤ x.natAbs := by
  rw [Int.natAbs_tdiv]; exact Nat.div_le_self _ _
theorem wrap_tdiv {x g : Int} (h : B62 x) : wrap64 (x.tdiv g) = x.tdiv g := by
  apply IntWalk.wrap64_in
  have := tdiv_abs x g
  unfold B62 at h
  omega
theorem gcd_b62 {n d : Int} (hd : B62 d) (h0 : d ≠ 0) : (1 : Int) ≤ Int.gcd n d ∧ B62 (Int.gcd n d) := by
  have h1 : Int.gcd n d ≤ d.natAbs := Nat.le_of_dvd (by omega) (Int.gcd_dvd_natAbs_right n d)
  have h2 := Int.gcd_pos_of_ne_zero_right n h0
  unfold B62 at *
  omega
theorem gcd_wrapB {n d : Int} (hd : B62 d) (h0 : d ≠ 0) : wrap64 (Int.gcd n d) = Int.gcd n d := by
  have := (gcd_b62 (n := n) hd h0).2
  apply IntWalk.wrap64_in
  unfold B62 at this; omega
theorem neg_wrapB {g : Int} (h : B62 g) : wrap64 (-g) = -g := by
  apply IntWalk.wrap64_in
  unfold B62 at h; omega

/-- The number of the first error of two fractions. -/
def bothC (n d n' d' : Int) : Nat := if chk n d = 0 then chk n' d' else chk n d
/-- .. and of what is reckoned out of them. -/
def opC (n d n' d' x y : Int) : Nat := if bothC n d n' d' = 0 then lowC x y else bothC n d n' d'
theorem opC_cases (n d n' d' x y : Int) : (bothC n d n' d' ≠ 0 ∧ opC n d n' d' x y = bothC n d n' d') ∨ (bothC n d n' d' = 0 ∧ opC n d n' d' x y = lowC x y) := by
  unfold opC; by_cases h : bothC n d n' d' = 0
  · exact .inr ⟨h, if_pos h⟩
  · exact .inl ⟨h, if_neg h⟩

/-- What a right fraction has. -/
structure Right (n d : Int) : Prop where
  n0 : -1073741824 ≤ n
  n1 : n ≤ 1073741824
  d0 : 1 ≤ d
  d1 : d ≤ 1073741824
  gcd : Int.gcd n d = 1
theorem chk_0 {n d : Int} (h : chk n d = 0) : Right n d := by
  rcases chk_cases n d with ⟨_, hc⟩ | ⟨_, _, hc⟩ | ⟨_, _, _, hc⟩ | ⟨_, _, _, _, hc⟩ | ⟨h1, h2, h3, h4, hc⟩
  · omega
  · omega
  · omega
  · omega
  · rw [sml_true] at h3 h4
    exact ⟨h3.1, h3.2, h1, h4.2, h2⟩
theorem chk_right {n d : Int} (h : Right n d) : chk n d = 0 := by
  obtain ⟨h1, h2, h3, h4, h5⟩ := h
  have a : sml n = true := sml_true.2 ⟨h1, h2⟩
  have b : sml d = true := sml_true.2 ⟨by omega, h4⟩
  unfold chk
  rw [if_neg (by omega), if_neg (by omega), if_pos ⟨a, b⟩]
theorem bothC_0 {n d n' d' : Int} (h : bothC n d n' d' = 0) : Right n d ∧ Right n' d' := by
  unfold bothC at h
  by_cases h1 : chk n d = 0
  · rw [if_pos h1] at h; exact ⟨chk_0 h1, chk_0 h⟩
  · rw [if_neg h1] at h; exact absurd h h1

theorem mul_abs {a b A B : Int} (ha : -A ≤ a ∧ a ≤ A) (hb : -B ≤ b ∧ b ≤ B) : -(A * B) ≤ a * b ∧ a * b ≤ A * B := by
  have h1 : a.natAbs ≤ A.toNat := by omega
  have h2 : b.natAbs ≤ B.toNat := by omega
  have h3 : (a * b).natAbs ≤ A.toNat * B.toNat := by rw [Int.natAbs_mul]; exact Nat.mul_le_mul h1 h2
  have h4 : ((A.toNat * B.toNat : Nat) : Int) = A * B := by rw [Int.natCast_mul, Int.toNat_of_nonneg (by omega), Int.toNat_of_nonneg (by omega)]
  omega
theorem mul_30 {a b : Int} (ha : -1073741824 ≤ a ∧ a ≤ 1073741824) (hb : -1073741824 ≤ b ∧ b ≤ 1073741824) : -1152921504606846976 ≤ a * b ∧ a * b ≤ 1152921504606846976 := by
  have := mul_abs ha hb
  omega
theorem mul_pos1 {a b : Int} (ha : 1 ≤ a) (hb : 1 ≤ b) : 1 ≤ a * b := by
  have := Int.mul_pos (show 0 < a by omega) (show 0 < b by omega)
  omega

theorem wrap_60 {x : Int} (h : -2305843009213693952 ≤ x ∧ x ≤ 2305843009213693952) : wrap64 x = x := by
  apply IntWalk.wrap64_in; omega
theorem Right.nb {n d : Int} (h : Right n d) : -1073741824 ≤ n ∧ n ≤ 1073741824 := ⟨h.n0, h.n1⟩
theorem Right.db {n d : Int} (h : Right n d) : -1073741824 ≤ d ∧ d ≤ 1073741824 := ⟨by have := h.d0; omega, h.d1⟩
theorem Right.ni {n d : Int} (h : Right n d) : I64 n := by have := h.nb; unfold I64; omega
theorem Right.di {n d : Int} (h : Right n d) : I64 d := by have := h.db; unfold I64; omega
theorem add_facts {n d n' d' : Int} (h : Right n d) (h' : Right n' d') : ∃ p1 p2, wrap64 (n * d') = p1 ∧ wrap64 (n' * d) = p2 ∧ wrap64 (p1 + p2) = n * d' + n' * d ∧ wrap64 (d * d') = d * d' ∧
    B62 (n * d' + n' * d) ∧ B62 (d * d') ∧ d * d' ≠ 0 := by
  have a := mul_30 h.nb h'.db
  have b := mul_30 h'.nb h.db
  have c := mul_30 h.db h'.db
  have e := mul_pos1 h.d0 h'.d0
  refine ⟨_, _, wrap_60 (by omega), wrap_60 (by omega), wrap_60 (by omega), wrap_60 (by omega), ?_, ?_, by omega⟩ <;> (unfold B62; omega)
theorem sub_facts {n d n' d' : Int} (h : Right n d) (h' : Right n' d') : ∃ p1 p2, wrap64 (n * d') = p1 ∧ wrap64 (n' * d) = p2 ∧ wrap64 (p1 - p2) = n * d' - n' * d ∧ wrap64 (d * d') = d * d' ∧
    B62 (n * d' - n' * d) ∧ B62 (d * d') ∧ d * d' ≠ 0 := by
  have a := mul_30 h.nb h'.db
  have b := mul_30 h'.nb h.db
  have c := mul_30 h.db h'.db
  have e := mul_pos1 h.d0 h'.d0
  refine ⟨_, _, wrap_60 (by omega), wrap_60 (by omega), wrap_60 (by omega), wrap_60 (by omega), ?_, ?_, by omega⟩ <;> (unfold B62; omega)
theorem mul_facts {n d n' d' : Int} (h : Right n d) (h' : Right n' d') : wrap64 (n * n') = n * n' ∧ wrap64 (d * d') = d * d' ∧ B62 (n * n') ∧ B62 (d * d') ∧ d * d' ≠ 0 := by
  have a := mul_30 h.nb h'.nb
  have c := mul_30 h.db h'.db
  have e := mul_pos1 h.d0 h'.d0
  refine ⟨wrap_60 (by omega), wrap_60 (by omega), ?_, ?_, by omega⟩ <;> (unfold B62; omega)
theorem div_facts {n d n' d' : Int} (h : Right n d) (h' : Right n' d') (h0 : n' ≠ 0) : wrap64 (n * d') = n * d' ∧ wrap64 (d * n') = d * n' ∧ B62 (n * d') ∧ B62 (d * n') ∧ d * n' ≠ 0 := by
  have a := mul_30 h.nb h'.db
  have c := mul_30 h.db h'.nb
  have e : d * n' ≠ 0 := Int.mul_ne_zero (by have := h.d0; omega) h0
  refine ⟨wrap_60 (by omega), wrap_60 (by omega), ?_, ?_, e⟩ <;> (unfold B62; omega)
theorem cmp_facts {n d n' d' : Int} (h : Right n d) (h' : Right n' d') : wrap64 (n * d') = n * d' ∧ wrap64 (n' * d) = n' * d := by
  have a := mul_30 h.nb h'.db
  have c := mul_30 h'.nb h.db
  exact ⟨wrap_60 (by omega), wrap_60 (by omega)⟩

/-- Div's number: ErrZero behind the errors of both. -/
def divC (n d n' d' x y : Int) : Nat := if bothC n d n' d' = 0 then (if n' = 0 then 11 else lowC x y) else bothC n d n' d'
theorem divC_cases (n d n' d' x y : Int) : (bothC n d n' d' ≠ 0 ∧ divC n d n' d' x y = bothC n d n' d') ∨ (bothC n d n' d' = 0 ∧ n' = 0 ∧ divC n d n' d' x y = 11) ∨
    (bothC n d n' d' = 0 ∧ n' ≠ 0 ∧ divC n d n' d' x y = lowC x y) := by
  unfold divC; by_cases h : bothC n d n' d' = 0
  · by_cases h0 : n' = 0
    · exact .inr (.inl ⟨h, h0, by rw [if_pos h, if_pos h0]⟩)
    · exact .inr (.inr ⟨h, h0, by rw [if_pos h, if_neg h0]⟩)
  · exact .inl ⟨h, if_neg h⟩
/-- Which is greater: -1, 0, 1. -/
def cmpI (x y : Int) : Int := if x < y then -1 else if y < x then 1 else 0
theorem cmpI_cases (x y : Int) : (x < y ∧ cmpI x y = -1) ∨ (y < x ∧ cmpI x y = 1) ∨ (x = y ∧ cmpI x y = 0) := by
  unfold cmpI
  rcases Int.lt_trichotomy x y with h | h | h
  · exact .inl ⟨h, if_pos h⟩
  · exact .inr (.inr ⟨h, by rw [if_neg (by omega), if_neg (by omega)]⟩)
  · exact .inr (.inl ⟨h, by rw [if_neg (by omega), if_pos h]⟩)
/-- A number and an error. -/
def cmV (T : Nat) (ea : Nat → Addr) (c : Nat) (x : Int) : Value := if c = 0 then .tuple #[.int .i64 x, .nilIface] else .tuple #[.int .i64 0, .iface T (.pointer (some (ea c)))]
theorem cmV_0 {T : Nat} {ea : Nat → Addr} {c : Nat} {x : Int} (h : c = 0) : cmV T ea c x = .tuple #[.int .i64 x, .nilIface] := by unfold cmV; rw [if_pos h]
theorem cmV_n {T : Nat} {ea : Nat → Addr} {c : Nat} {x : Int} (h : c ≠ 0) : cmV T ea c x = .tuple #[.int .i64 0, .iface T (.pointer (some (ea c)))] := by unfold cmV; rw [if_neg h]

/-- What an edge counts: l1: p below its beginning; l2: p below its end; s: on which side. -/
def crossB (l1 l2 : Bool) (s : Int) : Int := if l1 = false ∧ l2 = true ∧ 0 < s then 1 else if l1 = true ∧ l2 = false ∧ s < 0 then -1 else 0

/-- Package shape's small: of a right fraction. -/
def shSml (n d : Int) : Bool := decide (d ≤ 20 ∧ n ≤ 1000 * d ∧ -1000 * d ≤ n)
theorem shSml_cases {n d : Int} {b : Bool} (h : shSml n d = b) : (¬ d ≤ 20 ∧ b = false) ∨ (d ≤ 20 ∧ ¬ n ≤ 1000 * d ∧ b = false) ∨ (d ≤ 20 ∧ n ≤ 1000 * d ∧ ¬ -1000 * d ≤ n ∧ b = false) ∨ (d ≤ 20 ∧ n ≤ 1000 * d ∧ -1000 * d ≤ n ∧ b = true) := by
  subst h; unfold shSml
  by_cases h1 : d ≤ 20 <;> by_cases h2 : n ≤ 1000 * d <;> by_cases h3 : -1000 * d ≤ n <;> simp [*]
/-- The number of a point's error. -/
def ptC (xn xd yn yd : Int) : Nat := if chk xn xd ≠ 0 then chk xn xd else if chk yn yd ≠ 0 then chk yn yd else if shSml xn xd = true ∧ shSml yn yd = true then 0 else 2
theorem ptC_cases (xn xd yn yd : Int) : (chk xn xd ≠ 0 ∧ ptC xn xd yn yd = chk xn xd) ∨ (chk xn xd = 0 ∧ chk yn yd ≠ 0 ∧ ptC xn xd yn yd = chk yn yd) ∨ (chk xn xd = 0 ∧ chk yn yd = 0 ∧ shSml xn xd = false ∧ ptC xn xd yn yd = 2) ∨
    (chk xn xd = 0 ∧ chk yn yd = 0 ∧ shSml xn xd = true ∧ shSml yn yd = false ∧ ptC xn xd yn yd = 2) ∨ (chk xn xd = 0 ∧ chk yn yd = 0 ∧ shSml xn xd = true ∧ shSml yn yd = true ∧ ptC xn xd yn yd = 0) := by
  unfold ptC
  by_cases h1 : chk xn xd = 0 <;> by_cases h2 : chk yn yd = 0 <;> cases h3 : shSml xn xd <;> cases h4 : shSml yn yd <;> simp [h1, h2]
end Lead

/-
  Plain: fractions in lowest terms: what they are, when they are one, their order and their sums.
-/
namespace Lead
open Go Go.RowKit

theorem low_spec {n d : Int} (hd : 1 ≤ d) : ∃ g : Int, 1 ≤ g ∧ n = g * lowN n d ∧ d = g * lowD n d ∧ Int.gcd (lowN n d) (lowD n d) = 1 ∧ 1 ≤ lowD n d := by
  have hg0 : 0 < Int.gcd n d := Int.gcd_pos_iff.2 (.inr (by omega))
  have hG : lowG n d = (Int.gcd n d : Int) := by unfold lowG; rw [if_neg (by omega)]
  have e1 : n = (Int.gcd n d : Int) * lowN n d := by unfold lowN; rw [hG]; exact (Int.mul_tdiv_cancel' (Int.gcd_dvd_left n d)).symm
  have e2 : d = (Int.gcd n d : Int) * lowD n d := by unfold lowD; rw [hG]; exact (Int.mul_tdiv_cancel' (Int.gcd_dvd_right n d)).symm
  refine ⟨(Int.gcd n d : Int), by omega, e1, e2, ?_, ?_⟩
  · unfold lowN lowD
    rw [hG, Int.tdiv_eq_ediv_of_dvd (Int.gcd_dvd_left n d), Int.tdiv_eq_ediv_of_dvd (Int.gcd_dvd_right n d)]
    exact Int.gcd_ediv_gcd_ediv_gcd hg0
  · have h1 : (0 : Int) < (Int.gcd n d : Int) := by omega
    have h2 : 0 < (Int.gcd n d : Int) * lowD n d := by omega
    have := Int.pos_of_mul_pos_right h2 (by omega)
    omega

/-- Lowest terms that are not too great are right. -/
theorem low_right {n d : Int} (hd : 1 ≤ d) (hc : lowC n d = 0) : Right (lowN n d) (lowD n d) := by
  obtain ⟨g, h1, h2, h3, h4, h5⟩ := low_spec (n := n) hd
  rcases lowC_cases n d with ⟨_, h⟩ | ⟨_, _, h⟩ | ⟨h6, h7, _⟩
  · omega
  · omega
  · have h6 := sml_true.1 h6; have h7 := sml_true.1 h7
    exact chk_0 (by
      rcases chk_cases (lowN n d) (lowD n d) with ⟨h, _⟩ | ⟨_, h, _⟩ | ⟨_, _, h, _⟩ | ⟨_, _, _, h, _⟩ | ⟨_, _, _, _, h⟩
      · omega
      · exact absurd h4 h
      · rw [sml_true.2 h6] at h; cases h
      · rw [sml_true.2 h7] at h; cases h
      · exact h)
theorem low_eq {n d : Int} (hd : 1 ≤ d) : lowN n d * d = n * lowD n d := by
  obtain ⟨g, h1, h2, h3, _⟩ := low_spec (n := n) hd
  calc lowN n d * d = lowN n d * (g * lowD n d) := by rw [← h3]
    _ = (g * lowN n d) * lowD n d := by grind
    _ = n * lowD n d := by rw [← h2]
theorem Right.co {n d : Int} (h : Right n d) : Int.gcd n d = 1 := by
  have := chk_right h
  rcases chk_cases n d with ⟨_, h⟩ | ⟨_, _, h⟩ | ⟨_, h, _⟩ | ⟨_, h, _⟩ | ⟨_, h, _⟩
  · omega
  · omega
  · exact h
  · exact h
  · exact h

theorem dvd_co {a b c : Int} (h : Int.gcd a b = 1) (hd : b ∣ a * c) : b ∣ c := by
  rw [← Int.natAbs_dvd_natAbs] at hd ⊢
  rw [Int.natAbs_mul] at hd
  exact Nat.Coprime.dvd_of_dvd_mul_left (by rw [Nat.Coprime, Nat.gcd_comm]; exact h) hd
/-- Two right fractions of one value are one. -/
theorem right_one {a b c d : Int} (h1 : Int.gcd a b = 1) (hb : 1 ≤ b) (h2 : Int.gcd c d = 1) (hd : 1 ≤ d) (h : a * d = c * b) : a = c ∧ b = d := by
  have e1 : b ∣ d := dvd_co h1 ⟨c, by grind⟩
  have e2 : d ∣ b := dvd_co h2 ⟨a, by grind⟩
  have e : b = d := Int.dvd_antisymm (by omega) (by omega) e1 e2
  subst e
  exact ⟨Int.eq_of_mul_eq_mul_right (by omega) h, rfl⟩
theorem cmpI_anti (x y : Int) : cmpI y x = - cmpI x y := by
  rcases cmpI_cases x y with ⟨h, e⟩ | ⟨h, e⟩ | ⟨h, e⟩ <;> rcases cmpI_cases y x with ⟨h', e'⟩ | ⟨h', e'⟩ | ⟨h', e'⟩ <;> first | omega | (rw [e, e']; rfl)
theorem cmpI_pos {x y k : Int} (hk : 0 < k) : cmpI (x * k) (y * k) = cmpI x y := by
  rcases cmpI_cases x y with ⟨h, e⟩ | ⟨h, e⟩ | ⟨h, e⟩
  · have := Int.mul_lt_mul_of_pos_right h hk
    rw [e]; unfold cmpI; rw [if_pos this]
  · have := Int.mul_lt_mul_of_pos_right h hk
    rw [e]; unfold cmpI; rw [if_neg (by omega), if_pos this]
  · subst h; rw [e]; unfold cmpI; rw [if_neg (by omega), if_neg (by omega)]
theorem cmpI_0 {x y : Int} : cmpI x y = 0 ↔ x = y := by
  rcases cmpI_cases x y with ⟨h, e⟩ | ⟨h, e⟩ | ⟨h, e⟩ <;> rw [e]
  · exact ⟨fun h => by omega, fun h => by omega⟩
  · exact ⟨fun h => by omega, fun h => by omega⟩
  · exact ⟨fun _ => h, fun _ => rfl⟩

/-- A fraction. -/
structure Fr where
  n : Int
  d : Int
def Fr.R (a : Fr) : Prop := Right a.n a.d
def Fr.c (a : Fr) : Nat := chk a.n a.d
def Fr.cmp (a b : Fr) : Int := cmpI (a.n * b.d) (b.n * a.d)
def addN (a b : Fr) : Int := a.n * b.d + b.n * a.d
def addD (a b : Fr) : Int := a.d * b.d
def Fr.add (a b : Fr) : Fr := ⟨lowN (addN a b) (addD a b), lowD (addN a b) (addD a b)⟩
def Fr.addC (a b : Fr) : Nat := lowC (addN a b) (addD a b)

theorem addD_pos {a b : Fr} (ha : 1 ≤ a.d) (hb : 1 ≤ b.d) : 1 ≤ addD a b := mul_pos1 ha hb
theorem add_eq {a b : Fr} (ha : 1 ≤ a.d) (hb : 1 ≤ b.d) : (a.add b).n * (a.d * b.d) = (a.n * b.d + b.n * a.d) * (a.add b).d := low_eq (addD_pos ha hb)
theorem add_right {a b : Fr} (ha : 1 ≤ a.d) (hb : 1 ≤ b.d) (hc : a.addC b = 0) : (a.add b).R := low_right (addD_pos ha hb) hc
theorem add_d {a b : Fr} (ha : 1 ≤ a.d) (hb : 1 ≤ b.d) : 1 ≤ (a.add b).d := (low_spec (addD_pos ha hb)).elim fun _ h => h.2.2.2.2
theorem add_co {a b : Fr} (ha : 1 ≤ a.d) (hb : 1 ≤ b.d) : Int.gcd (a.add b).n (a.add b).d = 1 := (low_spec (addD_pos ha hb)).elim fun _ h => h.2.2.2.1

/-- What is added to both makes no difference. -/
theorem add_cmp {a b c : Fr} (ha : 1 ≤ a.d) (hb : 1 ≤ b.d) (hc : 1 ≤ c.d) : (a.add c).cmp (b.add c) = a.cmp b := by
  have e1 := add_eq (a := a) (b := c) ha hc
  have e2 := add_eq (a := b) (b := c) hb hc
  have d1 := add_d (a := a) (b := c) ha hc
  have d2 := add_d (a := b) (b := c) hb hc
  unfold Fr.cmp
  generalize a.add c = x at e1 d1 ⊢
  generalize b.add c = y at e2 d2 ⊢
  obtain ⟨an, ad⟩ := a; obtain ⟨bn, bd⟩ := b; obtain ⟨cn, cd⟩ := c; obtain ⟨xn, xd⟩ := x; obtain ⟨yn, yd⟩ := y
  simp only at *
  have k1 : 0 < ad * bd * (cd * cd) := by
    have := mul_pos1 ha hb; have := mul_pos1 hc hc; have := mul_pos1 (mul_pos1 ha hb) (mul_pos1 hc hc); omega
  have k2 : 0 < xd * yd * (cd * cd) := by
    have := mul_pos1 (mul_pos1 d1 d2) (mul_pos1 hc hc); omega
  have l1 : xn * yd * (ad * bd * (cd * cd)) = (an * bd) * (xd * yd * (cd * cd)) + cn * ad * bd * xd * yd * cd := by
    have : xn * yd * (ad * bd * (cd * cd)) = (xn * (ad * cd)) * (yd * bd * cd) := by grind
    rw [this, e1]; grind
  have l2 : yn * xd * (ad * bd * (cd * cd)) = (bn * ad) * (xd * yd * (cd * cd)) + cn * ad * bd * xd * yd * cd := by
    have : yn * xd * (ad * bd * (cd * cd)) = (yn * (bd * cd)) * (xd * ad * cd) := by grind
    rw [this, e2]; grind
  rw [← cmpI_pos (x := xn * yd) k1, ← cmpI_pos (x := an * bd) k2, l1, l2]
  generalize (an * bd) * (xd * yd * (cd * cd)) = u
  generalize (bn * ad) * (xd * yd * (cd * cd)) = v
  generalize cn * ad * bd * xd * yd * cd = t
  unfold cmpI
  by_cases h1 : u < v
  · rw [if_pos h1, if_pos (by omega)]
  · rw [if_neg h1, if_neg (by omega)]
    by_cases h2 : v < u
    · rw [if_pos h2, if_pos (by omega)]
    · rw [if_neg h2, if_neg (by omega)]
/-- A sum of three may be put together in any way. -/
theorem add_assoc3 {a b c : Fr} (ha : 1 ≤ a.d) (hb : 1 ≤ b.d) (hc : 1 ≤ c.d) : (a.add c).add b = a.add (b.add c) := by
  have e1 := add_eq (a := a) (b := c) ha hc
  have d1 := add_d (a := a) (b := c) ha hc
  have e2 := add_eq (a := b) (b := c) hb hc
  have d2 := add_d (a := b) (b := c) hb hc
  have f1 := add_eq (a := a.add c) (b := b) d1 hb
  have g1 := add_d (a := a.add c) (b := b) d1 hb
  have c1 := add_co (a := a.add c) (b := b) d1 hb
  have f2 := add_eq (a := a) (b := b.add c) ha d2
  have g2 := add_d (a := a) (b := b.add c) ha d2
  have c2 := add_co (a := a) (b := b.add c) ha d2
  generalize (a.add c).add b = p at f1 g1 c1 ⊢
  generalize a.add (b.add c) = q at f2 g2 c2 ⊢
  generalize a.add c = x at *
  generalize b.add c = y at *
  obtain ⟨an, ad⟩ := a; obtain ⟨bn, bd⟩ := b; obtain ⟨cn, cd⟩ := c; obtain ⟨xn, xd⟩ := x; obtain ⟨yn, yd⟩ := y
  obtain ⟨pn, pd⟩ := p; obtain ⟨qn, qd⟩ := q
  simp only at *
  have h : pn * qd = qn * pd := by
    have k : xd * bd * (ad * yd) * (ad * cd) * (bd * cd) ≠ 0 := by
      have := mul_pos1 (mul_pos1 (mul_pos1 (mul_pos1 d1 hb) (mul_pos1 ha d2)) (mul_pos1 ha hc)) (mul_pos1 hb hc); omega
    refine Int.eq_of_mul_eq_mul_right k ?_
    have l1 : pn * qd * (xd * bd * (ad * yd) * (ad * cd) * (bd * cd)) = (pn * (xd * bd)) * (qd * (ad * yd) * (ad * cd) * (bd * cd)) := by grind
    have l2 : qn * pd * (xd * bd * (ad * yd) * (ad * cd) * (bd * cd)) = (qn * (ad * yd)) * (pd * (xd * bd) * (ad * cd) * (bd * cd)) := by grind
    rw [l1, l2, f1, f2]
    have m1 : (xn * bd + bn * xd) * pd * (qd * (ad * yd) * (ad * cd) * (bd * cd)) = ((xn * (ad * cd)) * bd + bn * xd * (ad * cd)) * (pd * qd * (ad * yd) * (bd * cd)) := by grind
    have m2 : (an * yd + yn * ad) * qd * (pd * (xd * bd) * (ad * cd) * (bd * cd)) = (an * yd * (bd * cd) + (yn * (bd * cd)) * ad) * (pd * qd * (xd * bd) * (ad * cd)) := by grind
    rw [m1, m2, e1, e2]
    grind
  obtain ⟨h1, h2⟩ := right_one c1 g1 c2 g2 h
  rw [h1, h2]
theorem fr_eq {a b : Fr} (ha : a.R) (hb : b.R) : a.cmp b = 0 ↔ a.n = b.n ∧ a.d = b.d := by
  unfold Fr.cmp
  rw [cmpI_0]
  exact ⟨fun h => right_one ha.co ha.d0 hb.co hb.d0 h, fun ⟨h1, h2⟩ => by rw [h1, h2]⟩
end Lead

/-
  Plain: what was added is taken off, what was multiplied divided.
-/
namespace Lead
open Go Go.RowKit

/-- Lowest terms, whatever the sign below. -/
theorem low_any {n d : Int} (hd : d ≠ 0) : lowN n d * d = n * lowD n d ∧ Int.gcd (lowN n d) (lowD n d) = 1 ∧ 1 ≤ lowD n d := by
  rcases Int.lt_or_gt_of_ne hd with h | h
  · have hg0 : 0 < Int.gcd n d := Int.gcd_pos_iff.2 (.inr (by omega))
    have hG : lowG n d = -(Int.gcd n d : Int) := by unfold lowG; rw [if_pos h]
    have d1 : -(Int.gcd n d : Int) ∣ n := Int.neg_dvd.2 (Int.gcd_dvd_left n d)
    have d2 : -(Int.gcd n d : Int) ∣ d := Int.neg_dvd.2 (Int.gcd_dvd_right n d)
    have e1 : n = -(Int.gcd n d : Int) * lowN n d := by unfold lowN; rw [hG]; exact (Int.mul_tdiv_cancel' d1).symm
    have e2 : d = -(Int.gcd n d : Int) * lowD n d := by unfold lowD; rw [hG]; exact (Int.mul_tdiv_cancel' d2).symm
    have e3 : Int.gcd n d = Int.gcd n d * Int.gcd (lowN n d) (lowD n d) := by
      have : Int.gcd n d = Int.gcd (-(Int.gcd n d : Int) * lowN n d) (-(Int.gcd n d : Int) * lowD n d) := by rw [← e1, ← e2]
      rw [Int.gcd_mul_left] at this
      simpa using this
    refine ⟨?_, ?_, ?_⟩
    · generalize (Int.gcd n d : Int) = g at e1 e2
      calc lowN n d * d = lowN n d * (-g * lowD n d) := by rw [← e2]
        _ = (-g * lowN n d) * lowD n d := by grind
        _ = n * lowD n d := by rw [← e1]
    · exact Nat.eq_of_mul_eq_mul_left hg0 (by rw [← e3, Nat.mul_one])
    · have h1 : (0 : Int) < (Int.gcd n d : Int) := by omega
      have h2 : 0 < (Int.gcd n d : Int) * lowD n d := by
        have : (Int.gcd n d : Int) * lowD n d = -d := by
          have := e2; rw [Int.neg_mul] at this; omega
        omega
      have := Int.pos_of_mul_pos_right h2 (by omega)
      omega
  · obtain ⟨g, h1, h2, h3, h4, h5⟩ := low_spec (n := n) (d := d) (by omega)
    exact ⟨low_eq (by omega), h4, h5⟩
/-- A fraction that is of a right one's value comes out as that one, without an error. -/
theorem low_same {n d : Int} (hd : d ≠ 0) {a : Fr} (ha : a.R) (h : n * a.d = a.n * d) : lowN n d = a.n ∧ lowD n d = a.d ∧ lowC n d = 0 := by
  obtain ⟨e1, e2, e3⟩ := low_any (n := n) hd
  have e4 : lowN n d * a.d = a.n * lowD n d := by
    refine Int.eq_of_mul_eq_mul_right hd ?_
    have l1 : lowN n d * a.d * d = (lowN n d * d) * a.d := by grind
    have l2 : a.n * lowD n d * d = (a.n * d) * lowD n d := by grind
    rw [l1, l2, e1, ← h]; grind
  obtain ⟨h1, h2⟩ := right_one e2 e3 ha.co ha.d0 e4
  refine ⟨h1, h2, ?_⟩
  unfold lowC
  rw [h1, h2, if_pos ⟨sml_true.2 ha.nb, sml_true.2 ha.db⟩]

theorem add_comm2 (a b : Fr) : a.add b = b.add a := by
  unfold Fr.add addN addD
  rw [Int.add_comm, Int.mul_comm a.d b.d]
theorem addC_comm2 (a b : Fr) : a.addC b = b.addC a := by
  unfold Fr.addC addN addD
  rw [Int.add_comm, Int.mul_comm a.d b.d]
def subN (a b : Fr) : Int := a.n * b.d - b.n * a.d
def Fr.sub (a b : Fr) : Fr := ⟨lowN (subN a b) (addD a b), lowD (subN a b) (addD a b)⟩
/-- What was added is taken off. -/
theorem sub_back {a b : Fr} (ha : a.R) (hb : b.R) (hc : a.addC b = 0) : (a.add b).sub b = a ∧ lowC (subN (a.add b) b) (addD (a.add b) b) = 0 := by
  have e := add_eq (a := a) (b := b) ha.d0 hb.d0
  have hs := add_right ha.d0 hb.d0 hc
  have d0 := hs.d0
  generalize a.add b = s at *
  have hd := addD_pos (a := s) (b := b) d0 hb.d0
  have h : subN s b * a.d = a.n * addD s b := by
    unfold subN addD
    have hb0 := hb.d0
    grind
  obtain ⟨h1, h2, h3⟩ := low_same (by omega) ha h
  refine ⟨?_, h3⟩
  unfold Fr.sub
  rw [h1, h2]
def mulN (a b : Fr) : Int := a.n * b.n
def Fr.mul (a b : Fr) : Fr := ⟨lowN (mulN a b) (addD a b), lowD (mulN a b) (addD a b)⟩
def Fr.mulC (a b : Fr) : Nat := lowC (mulN a b) (addD a b)
theorem mul_comm2 (a b : Fr) : a.mul b = b.mul a := by
  unfold Fr.mul mulN addD
  rw [Int.mul_comm a.n b.n, Int.mul_comm a.d b.d]
theorem mulC_comm2 (a b : Fr) : a.mulC b = b.mulC a := by
  unfold Fr.mulC mulN addD
  rw [Int.mul_comm a.n b.n, Int.mul_comm a.d b.d]
def divN (a b : Fr) : Int := a.n * b.d
def divD (a b : Fr) : Int := a.d * b.n
def Fr.div (a b : Fr) : Fr := ⟨lowN (divN a b) (divD a b), lowD (divN a b) (divD a b)⟩
theorem mul_eq {a b : Fr} (ha : 1 ≤ a.d) (hb : 1 ≤ b.d) : (a.mul b).n * (a.d * b.d) = a.n * b.n * (a.mul b).d := low_eq (addD_pos ha hb)
theorem mul_right {a b : Fr} (ha : 1 ≤ a.d) (hb : 1 ≤ b.d) (hc : a.mulC b = 0) : (a.mul b).R := low_right (addD_pos ha hb) hc
/-- What was multiplied is divided. -/
theorem div_back {a b : Fr} (ha : a.R) (hb : b.R) (hc : a.mulC b = 0) (h0 : b.n ≠ 0) : (a.mul b).div b = a ∧ lowC (divN (a.mul b) b) (divD (a.mul b) b) = 0 := by
  have e := mul_eq (a := a) (b := b) ha.d0 hb.d0
  have hs := mul_right ha.d0 hb.d0 hc
  have d0 := hs.d0
  generalize a.mul b = s at *
  have hd : divD s b ≠ 0 := by unfold divD; exact Int.mul_ne_zero (by omega) h0
  have h : divN s b * a.d = a.n * divD s b := by
    unfold divN divD
    grind
  obtain ⟨h1, h2, h3⟩ := low_same hd ha h
  refine ⟨?_, h3⟩
  unfold Fr.div
  rw [h1, h2]
theorem mul_zero {a b : Fr} (ha : 1 ≤ a.d) (hb : 1 ≤ b.d) (h0 : b.n = 0) : (a.mul b).n = 0 := by
  have e := mul_eq (a := a) (b := b) ha hb
  rw [h0, Int.mul_zero, Int.zero_mul] at e
  have := mul_pos1 ha hb
  rcases Int.mul_eq_zero.1 e with h | h
  · exact h
  · omega
end Lead

/-
  Plain: the reference's lowest terms are package frac's; values with an error's number.
-/
namespace Lead
open Go Go.RowKit

/-- A number where there is no error, else 0. -/
def z0 (c : Nat) (q : Int) : Int := if c = 0 then q else 0
theorem z0_0 {c : Nat} {q : Int} (h : c = 0) : z0 c q = q := by unfold z0; rw [if_pos h]
theorem z0_n {c : Nat} {q : Int} (h : c ≠ 0) : z0 c q = 0 := by unfold z0; rw [if_neg h]
theorem frV_z (T : Nat) (ea : Nat → Addr) (c : Nat) (q r : Int) : frV T ea c q r = .tuple #[.agg #[.int .i64 (z0 c q), .int .i64 (z0 c r)], evl T ea c] := by
  by_cases h : c = 0
  · rw [frV_0 h, z0_0 h, z0_0 h, evl_0 h]
  · rw [frV_n h, z0_n h, z0_n h, evl_n h]
/-- What the reference answers: a fraction and an error's number. -/
def frN (c : Nat) (q r : Int) : Value := .tuple #[.agg #[.int .i64 (z0 c q), .int .i64 (z0 c r)], .int .i64 c]
theorem frN_0 {c : Nat} {q r : Int} (h : c = 0) : frN c q r = .tuple #[.agg #[.int .i64 q, .int .i64 r], .int .i64 0] := by unfold frN; rw [z0_0 h, z0_0 h, h]; rfl
theorem frN_n {c : Nat} {q r : Int} (h : c ≠ 0) : frN c q r = .tuple #[.agg #[.int .i64 0, .int .i64 0], .int .i64 c] := by unfold frN; rw [z0_n h, z0_n h]

theorem both_cases (n d n' d' : Int) : (chk n d ≠ 0 ∧ bothC n d n' d' = chk n d) ∨ (chk n d = 0 ∧ chk n' d' ≠ 0 ∧ bothC n d n' d' = chk n' d') ∨ (chk n d = 0 ∧ chk n' d' = 0 ∧ bothC n d n' d' = 0) := by
  unfold bothC
  by_cases h1 : chk n d = 0
  · by_cases h2 : chk n' d' = 0
    · exact .inr (.inr ⟨h1, h2, by rw [if_pos h1, h2]⟩)
    · exact .inr (.inl ⟨h1, h2, by rw [if_pos h1]⟩)
  · exact .inl ⟨h1, by rw [if_neg h1]⟩
theorem chk_low {n d : Int} (h0 : d ≠ 0) : chk (lowN n d) (lowD n d) = lowC n d := by
  obtain ⟨_, e2, e3⟩ := low_any (n := n) h0
  unfold chk lowC
  rw [if_neg (by omega), if_neg (by omega)]
theorem low_neg {n d : Int} (h : d < 0) : (-n).tdiv (Int.gcd (-n) (-d) : Int) = lowN n d ∧ (-d).tdiv (Int.gcd (-n) (-d) : Int) = lowD n d := by
  unfold lowN lowD lowG
  rw [if_pos h, Int.gcd_neg, Int.neg_gcd, Int.neg_tdiv, Int.neg_tdiv, Int.tdiv_neg, Int.tdiv_neg]
  exact ⟨rfl, rfl⟩
theorem low_pos {n d : Int} (h : ¬ d < 0) : n.tdiv (Int.gcd n d : Int) = lowN n d ∧ d.tdiv (Int.gcd n d : Int) = lowD n d := by
  unfold lowN lowD lowG
  rw [if_neg h]
  exact ⟨rfl, rfl⟩
theorem B62.neg {x : Int} (h : B62 x) : B62 (-x) := by unfold B62 at *; omega
theorem lowN_i64 {n d : Int} (h : B62 n) : I64 (lowN n d) := by
  have := tdiv_abs n (lowG n d)
  unfold B62 at h; unfold I64 lowN; omega
theorem lowD_i64 {n d : Int} (h : B62 d) : I64 (lowD n d) := by
  have := tdiv_abs d (lowG n d)
  unfold B62 at h; unfold I64 lowD; omega
end Lead

/-
  Plain: points, shapes; how they lie in memory; errors with a place.
-/
namespace Lead
open Go Go.RowKit

/-- A point. -/
structure Pt where
  xn : Int
  xd : Int
  yn : Int
  yd : Int

def Pt.c (p : Pt) : Nat := ptC p.xn p.xd p.yn p.yd
structure Pt.I (p : Pt) : Prop where
  xn : I64 p.xn
  xd : I64 p.xd
  yn : I64 p.yn
  yd : I64 p.yd

/-- Points that lie from a place on. -/
structure PtsIn (w : World) (b off : Nat) (ps : List Pt) : Prop where
  c0 : ∀ i (h : i < ps.length), w.cell? ⟨b, off + i * 4, none⟩ = some (.int .i64 ps[i].xn)
  c1 : ∀ i (h : i < ps.length), w.cell? ⟨b, off + i * 4 + 1, none⟩ = some (.int .i64 ps[i].xd)
  c2 : ∀ i (h : i < ps.length), w.cell? ⟨b, off + i * 4 + 2, none⟩ = some (.int .i64 ps[i].yn)
  c3 : ∀ i (h : i < ps.length), w.cell? ⟨b, off + i * 4 + 3, none⟩ = some (.int .i64 ps[i].yd)

theorem PtsIn.keep {w w1 : World} {b off : Nat} {ps : List Pt} {B : Nat} (h : PtsIn w b off ps) (hb : Below B w w1) (hB : b < B) : PtsIn w1 b off ps :=
  ⟨fun i hi => by rw [hb.cell hB]; exact h.c0 i hi, fun i hi => by rw [hb.cell hB]; exact h.c1 i hi, fun i hi => by rw [hb.cell hB]; exact h.c2 i hi, fun i hi => by rw [hb.cell hB]; exact h.c3 i hi⟩
theorem PtsIn.lt {w : World} {b off : Nat} {ps : List Pt} (h : PtsIn w b off ps) (h0 : 0 < ps.length) : b < w.heap.size := by
  have := World.block_lt_of_cell? w _ (h.c0 0 h0); exact this

/-- A slice of points: nil, or points that lie from a place on. -/
def SlP (w : World) (oa : Option Addr) (len cap : Nat) (ps : List Pt) : Prop :=
  len = ps.length ∧ len ≤ cap ∧ len ≤ maxLen ∧ (∀ p ∈ ps, p.I) ∧ ((oa = none ∧ len = 0 ∧ cap = 0) ∨ ∃ b off, oa = some ⟨b, off, none⟩ ∧ b < w.heap.size ∧ PtsIn w b off ps)
theorem SlP.keep {w w1 : World} {oa : Option Addr} {len cap : Nat} {ps : List Pt} {B : Nat} (h : SlP w oa len cap ps) (hb : Below B w w1) (hB : B = w.heap.size) : SlP w1 oa len cap ps := by
  obtain ⟨h1, h2, h3, h4, h5⟩ := h
  refine ⟨h1, h2, h3, h4, ?_⟩
  rcases h5 with h5 | ⟨b, off, h6, h7, h8⟩
  · exact .inl h5
  · exact .inr ⟨b, off, h6, Nat.lt_of_lt_of_le h7 hb.size, h8.keep hb (by omega)⟩

/-- The first point that is not right: the error's number, and the place. -/
def firstBad : List Pt → Nat → Nat × Option Nat
  | [], _ => (0, none)
  | p :: ps, i => if p.c = 0 then firstBad ps (i + 1) else (p.c, some i)
theorem firstBad_step {ps : List Pt} {k : Nat} (h : k < ps.length) (h0 : ps[k].c = 0) : firstBad (ps.drop k) k = firstBad (ps.drop (k + 1)) (k + 1) := by
  rw [List.drop_eq_getElem_cons h, firstBad, if_pos h0]
theorem firstBad_hit {ps : List Pt} {k : Nat} (h : k < ps.length) (h0 : ps[k].c ≠ 0) : firstBad (ps.drop k) k = (ps[k].c, some k) := by
  rw [List.drop_eq_getElem_cons h, firstBad, if_neg h0]
theorem firstBad_end {ps : List Pt} {k : Nat} (h : ps.length ≤ k) : firstBad (ps.drop k) k = (0, none) := by
  rw [List.drop_eq_nil_of_le h, firstBad]
/-- Shape.Check's error: its number, and its place. -/
def shC (ps : List Pt) : Nat × Option Nat := if 30 < ps.length then (2, none) else firstBad ps 0

/-- An error: a bare one of package api, or one with a place (in new memory). -/
def ErrAt (T F : Nat) (ea : Nat → Addr) (lo : Nat) (w : World) (v : Value) (c : Nat × Option Nat) : Prop :=
  match c.2 with
  | none => v = evl T ea c.1
  | some i => c.1 ≠ 0 ∧ ∃ b, lo ≤ b ∧ v = .iface F (.pointer (some ⟨b, 0, none⟩)) ∧ w.cell? ⟨b, 0, none⟩ = some (.int .i64 i) ∧ w.cell? ⟨b, 1, none⟩ = some (.iface T (.pointer (some (ea c.1))))
theorem ErrAt.keep {T F : Nat} {ea : Nat → Addr} {lo lo' B : Nat} {w w' : World} {v : Value} {c : Nat × Option Nat} (h : ErrAt T F ea lo w v c) (hb : Below B w w') (hB : B = w.heap.size) (hl : lo' ≤ lo) : ErrAt T F ea lo' w' v c := by
  obtain ⟨c1, c2⟩ := c
  cases c2 with
  | none => exact h
  | some i =>
    obtain ⟨h0, b, h1, h2, h3, h4⟩ := h
    exact ⟨h0, b, by omega, h2, gkeep hb h3 hB, gkeep hb h4 hB⟩
theorem ErrAt.nil {T F : Nat} {ea : Nat → Addr} {lo : Nat} {w : World} {v : Value} {c : Nat × Option Nat} (h : ErrAt T F ea lo w v c) (h0 : c = (0, none)) : v = .nilIface := by
  subst h0; exact h.trans (evl_0 rfl)

/-- A call that answers one error. -/
def RetE (T F : Nat) (ea : Nat → Addr) (c : Nat × Option Nat) (w : World) (e : Ending) (w' : World) : Prop :=
  ∃ v, e = .returned v ∧ ErrAt T F ea w.heap.size w' v c ∧ Below w.heap.size w w'

/-- A call that answers one error: behind it, what is known. -/
theorem call_e {P : Program} {f : FuncId} {args : Array Value} {w W : World} {R : Ending → World → Prop} {T F : Nat} {ea : Nat → Addr} {c : Nat × Option Nat} (hB : Below w.heap.size w W)
    (h : Below w.heap.size w W → Calls P f args W (RetE T F ea c W))
    (k : ∀ v w1, ErrAt T F ea W.heap.size w1 v c → Below w.heap.size w w1 → W.heap.size ≤ w1.heap.size → (∀ b o, b < W.heap.size → w1.cell? ⟨b, o, none⟩ = W.cell? ⟨b, o, none⟩) →
      (∀ b o, b < W.heap.size → w1.frozen? ⟨b, o, none⟩ = W.frozen? ⟨b, o, none⟩) → R (.returned v) w1) : Calls P f args W R :=
  (h hB).mono fun e w1 ⟨v, he, hv, hb⟩ => by
    subst he
    exact k v w1 hv (hB.trans (hb.mono hB.size)) hb.size (bcell hb).1 (bcell hb).2
/-- .. which answers none. -/
theorem call_e0 {P : Program} {f : FuncId} {args : Array Value} {w W : World} {R : Ending → World → Prop} {T F : Nat} {ea : Nat → Addr} {c : Nat × Option Nat} (hB : Below w.heap.size w W)
    (h : Below w.heap.size w W → Calls P f args W (RetE T F ea c W)) (h0 : c = (0, none))
    (k : ∀ w1, Below w.heap.size w w1 → W.heap.size ≤ w1.heap.size → (∀ b o, b < W.heap.size → w1.cell? ⟨b, o, none⟩ = W.cell? ⟨b, o, none⟩) →
      (∀ b o, b < W.heap.size → w1.frozen? ⟨b, o, none⟩ = W.frozen? ⟨b, o, none⟩) → R (.returned .nilIface) w1) : Calls P f args W R :=
  call_e hB h fun v w1 hv hb hz c d => by rw [hv.nil h0]; exact k w1 hb hz c d

end Lead

/-
  Plain: which edges are crossed.
-/
namespace Lead
open Go Go.RowKit

/-- An own row is what it was, behind a call that makes memory alone. -/
theorem own_below {w w' : World} {base : Nat} {e : TypeId} {size : Nat} {v : Value} {n : Nat} {xs : List Value} (h : w.ownsRow base e size v n xs) (hb : Below w.heap.size w w') : w'.ownsRow base e size v n xs := by
  obtain ⟨h1, h2⟩ := h
  refine ⟨h1, ?_⟩
  rcases h2 with h2 | ⟨g, cap, cur, h3, h4, h5, h6⟩
  · exact .inl h2
  · refine .inr ⟨g, cap, cur, h3, h4, ?_, h6⟩
    have hg : g < w.heap.size := by
      rcases Nat.lt_or_ge g w.heap.size with h | h
      · exact h
      · rw [Array.getElem?_eq_none h] at h5; exact absurd h5 (by simp)
    rw [hb.block g hg]; exact h5
theorem own_base {w : World} {base base' : Nat} {e : TypeId} {size : Nat} {v : Value} {n : Nat} {xs : List Value} (h : w.ownsRow base e size v n xs) (hb : base' ≤ base) : w.ownsRow base' e size v n xs := by
  obtain ⟨h1, h2⟩ := h
  refine ⟨h1, ?_⟩
  rcases h2 with h2 | ⟨g, cap, cur, h3, h4, h5⟩
  · exact .inl h2
  · exact .inr ⟨g, cap, cur, h3, by omega, h5⟩
theorem own_drewN {w : World} {base : Nat} {e : TypeId} {size : Nat} {v : Value} {n : Nat} {xs : List Value} {k : Nat} (h : w.ownsRow base e size v n xs) : (w.drewN k).ownsRow base e size v n xs := h

def sideI (a b p : Pt) : Int :=
  (b.xn * a.xd - a.xn * b.xd) * (p.yn * a.yd - a.yn * p.yd) * b.yd * p.xd - (p.xn * a.xd - a.xn * p.xd) * (b.yn * a.yd - a.yn * b.yd) * b.xd * p.yd
def crossPt (a b p : Pt) : Int := crossB (decide (p.yn * a.yd < a.yn * p.yd)) (decide (p.yn * b.yd < b.yn * p.yd)) (sideI a b p)

/-- A point that is right, as package shape asks. -/
structure PtOk (p : Pt) : Prop where
  x : Right p.xn p.xd
  y : Right p.yn p.yd
  xs : p.xd ≤ 20 ∧ p.xn ≤ 1000 * p.xd ∧ -1000 * p.xd ≤ p.xn
  ys : p.yd ≤ 20 ∧ p.yn ≤ 1000 * p.yd ∧ -1000 * p.yd ≤ p.yn
theorem pt_ok {p : Pt} (h : p.c = 0) : PtOk p := by
  rcases ptC_cases p.xn p.xd p.yn p.yd with ⟨h5, hc⟩ | ⟨h5, h6, hc⟩ | ⟨h5, h6, h7, hc⟩ | ⟨h5, h6, h7, h8, hc⟩ | ⟨h5, h6, h7, h8, hc⟩
  · exact absurd (hc.symm.trans h) h5
  · exact absurd (hc.symm.trans h) h6
  · exact absurd (hc.symm.trans h) (by decide)
  · exact absurd (hc.symm.trans h) (by decide)
  · refine ⟨chk_0 h5, chk_0 h6, ?_, ?_⟩
    · unfold shSml at h7; simpa using h7
    · unfold shSml at h8; simpa using h8
theorem PtOk.c0 {p : Pt} (h : PtOk p) : p.c = 0 := by
  have h1 := chk_right h.x
  have h2 := chk_right h.y
  have h3 : shSml p.xn p.xd = true := by unfold shSml; simpa using h.xs
  have h4 : shSml p.yn p.yd = true := by unfold shSml; simpa using h.ys
  unfold Pt.c ptC
  rw [if_neg (by omega), if_neg (by omega), if_pos ⟨h3, h4⟩]
theorem PtOk.I {p : Pt} (h : PtOk p) : p.I := ⟨h.x.ni, h.x.di, h.y.ni, h.y.di⟩
theorem PtOk.b {p : Pt} (h : PtOk p) : (-20000 ≤ p.xn ∧ p.xn ≤ 20000) ∧ (-20 ≤ p.xd ∧ p.xd ≤ 20) ∧ (-20000 ≤ p.yn ∧ p.yn ≤ 20000) ∧ (-20 ≤ p.yd ∧ p.yd ≤ 20) := by
  have h1 := h.xs; have h2 := h.ys; have h3 := h.x.d0; have h4 := h.y.d0
  omega

theorem w60 {x : Int} (h : -1152921504606846976 ≤ x ∧ x ≤ 1152921504606846976) : wrap64 x = x := by
  apply IntWalk.wrap64_in; omega
theorem mb {a b : Int} (A B C : Int) (ha : -A ≤ a ∧ a ≤ A) (hb : -B ≤ b ∧ b ≤ B) (hC : A * B = C) : -C ≤ a * b ∧ a * b ≤ C := by
  have := mul_abs ha hb; rw [hC] at this; exact this

theorem side_wrap {a b p : Pt} (ha : PtOk a) (hb : PtOk b) (hp : PtOk p) :
    wrap64 (wrap64 (wrap64 (wrap64 (wrap64 (wrap64 (b.xn * a.xd) - wrap64 (a.xn * b.xd)) * wrap64 (wrap64 (p.yn * a.yd) - wrap64 (a.yn * p.yd))) * b.yd) * p.xd) - wrap64 (wrap64 (wrap64 (wrap64 (wrap64 (p.xn * a.xd) - wrap64 (a.xn * p.xd)) * wrap64 (wrap64 (b.yn * a.yd) - wrap64 (a.yn * b.yd))) * b.xd) * p.yd)) = sideI a b p := by
  obtain ⟨a1, a2, a3, a4⟩ := ha.b
  obtain ⟨b1, b2, b3, b4⟩ := hb.b
  obtain ⟨p1, p2, p3, p4⟩ := hp.b
  have e1 := mb 20000 20 400000 b1 a2 rfl
  have e2 := mb 20000 20 400000 a1 b2 rfl
  have e3 := mb 20000 20 400000 p3 a4 rfl
  have e4 := mb 20000 20 400000 a3 p4 rfl
  have e5 := mb 20000 20 400000 p1 a2 rfl
  have e6 := mb 20000 20 400000 a1 p2 rfl
  have e7 := mb 20000 20 400000 b3 a4 rfl
  have e8 := mb 20000 20 400000 a3 b4 rfl
  rw [w60 (x := b.xn * a.xd) (by omega), w60 (x := a.xn * b.xd) (by omega), w60 (x := p.yn * a.yd) (by omega), w60 (x := a.yn * p.yd) (by omega), w60 (x := p.xn * a.xd) (by omega), w60 (x := a.xn * p.xd) (by omega), w60 (x := b.yn * a.yd) (by omega), w60 (x := a.yn * b.yd) (by omega)]
  rw [w60 (x := b.xn * a.xd - a.xn * b.xd) (by omega), w60 (x := p.yn * a.yd - a.yn * p.yd) (by omega), w60 (x := p.xn * a.xd - a.xn * p.xd) (by omega), w60 (x := b.yn * a.yd - a.yn * b.yd) (by omega)]
  have f1 := mb (a := b.xn * a.xd - a.xn * b.xd) (b := p.yn * a.yd - a.yn * p.yd) 800000 800000 640000000000 (by omega) (by omega) rfl
  have f2 := mb (a := p.xn * a.xd - a.xn * p.xd) (b := b.yn * a.yd - a.yn * b.yd) 800000 800000 640000000000 (by omega) (by omega) rfl
  rw [w60 (x := (b.xn * a.xd - a.xn * b.xd) * (p.yn * a.yd - a.yn * p.yd)) (by omega), w60 (x := (p.xn * a.xd - a.xn * p.xd) * (b.yn * a.yd - a.yn * b.yd)) (by omega)]
  have g1 := mb 640000000000 20 12800000000000 f1 b4 rfl
  have g2 := mb 640000000000 20 12800000000000 f2 b2 rfl
  rw [w60 (x := (b.xn * a.xd - a.xn * b.xd) * (p.yn * a.yd - a.yn * p.yd) * b.yd) (by omega), w60 (x := (p.xn * a.xd - a.xn * p.xd) * (b.yn * a.yd - a.yn * b.yd) * b.xd) (by omega)]
  have k1 := mb 12800000000000 20 256000000000000 g1 p2 rfl
  have k2 := mb 12800000000000 20 256000000000000 g2 p4 rfl
  rw [w60 (x := (b.xn * a.xd - a.xn * b.xd) * (p.yn * a.yd - a.yn * p.yd) * b.yd * p.xd) (by omega), w60 (x := (p.xn * a.xd - a.xn * p.xd) * (b.yn * a.yd - a.yn * b.yd) * b.xd * p.yd) (by omega)]
  exact w60 (by omega)

theorem less_wrap {a p : Pt} (ha : PtOk a) (hp : PtOk p) : wrap64 (p.yn * a.yd) = p.yn * a.yd ∧ wrap64 (a.yn * p.yd) = a.yn * p.yd := by
  obtain ⟨a1, a2, a3, a4⟩ := ha.b
  obtain ⟨p1, p2, p3, p4⟩ := hp.b
  have e3 := mb 20000 20 400000 p3 a4 rfl
  have e4 := mb 20000 20 400000 a3 p4 rfl
  exact ⟨w60 (by omega), w60 (by omega)⟩

/-- A call that answers a list of numbers in memory of its own, and no error. -/
def RetL (e : TypeId) (l : List Int) (w : World) (en : Ending) (w' : World) : Prop :=
  ∃ v, en = .returned (.tuple #[v, .nilIface]) ∧ w'.ownsRow w.heap.size e 1 v l.length (l.map (Value.int .i64)) ∧ Below w.heap.size w w'

def zpt : Pt := ⟨0, 1, 0, 1⟩
/-- Which edges, of the first k, are crossed: each with its sign. -/
def crsTo (ps : List Pt) (p : Pt) (k : Nat) : List Int :=
  ((List.range k).map fun i => crossPt (ps.getD i zpt) (ps.getD ((i + 1) % ps.length) zpt) p).filter fun c => c != 0
theorem crsTo_succ (ps : List Pt) (p : Pt) (k : Nat) : crsTo ps p (k + 1) = crsTo ps p k ++ (if crossPt (ps.getD k zpt) (ps.getD ((k + 1) % ps.length) zpt) p = 0 then [] else [crossPt (ps.getD k zpt) (ps.getD ((k + 1) % ps.length) zpt) p]) := by
  unfold crsTo
  rw [List.range_succ, List.map_append, List.filter_append]
  congr 1
  simp only [List.map_cons, List.map_nil]
  generalize crossPt (ps.getD k zpt) (ps.getD ((k + 1) % ps.length) zpt) p = c
  by_cases h : c = 0 <;> simp [h]
theorem crsTo_len (ps : List Pt) (p : Pt) (k : Nat) : (crsTo ps p k).length ≤ k := by
  unfold crsTo
  refine Nat.le_trans (List.length_filter_le _ _) (by simp)

/-- The error of a shape and a point: the shape's; else the point's, at 30. -/
def crC (ps : List Pt) (p : Pt) : Nat × Option Nat := if shC ps = (0, none) then (if p.c = 0 then (0, none) else (p.c, some 30)) else shC ps
/-- The edges that are crossed; none with an error. -/
def crL (ps : List Pt) (p : Pt) : List Int := if crC ps p = (0, none) then crsTo ps p ps.length else []
/-- A call that answers a list of numbers in memory of its own, and an error. -/
def RetLE (T F : Nat) (ea : Nat → Addr) (e : TypeId) (c : Nat × Option Nat) (l : List Int) (w : World) (en : Ending) (w' : World) : Prop :=
  ∃ v x, en = .returned (.tuple #[v, x]) ∧ ErrAt T F ea w.heap.size w' x c ∧ w'.ownsRow w.heap.size e 1 v l.length (l.map (Value.int .i64)) ∧ Below w.heap.size w w'
theorem RetL.le {T F : Nat} {ea : Nat → Addr} {e : TypeId} {c : Nat × Option Nat} {l l' : List Int} {w : World} {en : Ending} {w' : World} (h : RetL e l w en w') (hc : c = (0, none)) (hl : l' = l) : RetLE T F ea e c l' w en w' := by
  subst hc hl
  obtain ⟨v, h1, h2, h3⟩ := h
  exact ⟨v, _, h1, (evl_0 rfl).symm, h2, h3⟩
/-- A call that answers a number and an error. -/
def RetNE (T F : Nat) (ea : Nat → Addr) (c : Nat × Option Nat) (n : Int) (w : World) (en : Ending) (w' : World) : Prop :=
  ∃ x, en = .returned (.tuple #[.int .i64 n, x]) ∧ ErrAt T F ea w.heap.size w' x c ∧ Below w.heap.size w w'

theorem firstBad_all {ps : List Pt} : ∀ {k : Nat}, firstBad ps k = (0, none) → ∀ q ∈ ps, PtOk q := by
  induction ps with
  | nil => intro k _ q hq; cases hq
  | cons p ps ih =>
    intro k h q hq
    unfold firstBad at h
    by_cases h0 : p.c = 0
    · rw [if_pos h0] at h
      rcases List.mem_cons.1 hq with rfl | hq
      · exact pt_ok h0
      · exact ih h q hq
    · rw [if_neg h0] at h
      exact absurd (congrArg Prod.fst h) h0
theorem shC_ok {ps : List Pt} (h : shC ps = (0, none)) : ps.length ≤ 30 ∧ firstBad ps 0 = (0, none) ∧ ∀ q ∈ ps, PtOk q := by
  unfold shC at h
  by_cases h30 : 30 < ps.length
  · rw [if_pos h30] at h; cases h
  · rw [if_neg h30] at h; exact ⟨by omega, h, firstBad_all h⟩
theorem firstBad_some {ps : List Pt} : ∀ {k : Nat}, firstBad ps k = (0, none) ∨ (firstBad ps k).1 ≠ 0 := by
  induction ps with
  | nil => intro k; exact .inl rfl
  | cons p ps ih =>
    intro k
    unfold firstBad
    by_cases h0 : p.c = 0
    · rw [if_pos h0]; exact ih
    · rw [if_neg h0]; exact .inr h0
theorem shC_some (ps : List Pt) : shC ps = (0, none) ∨ (shC ps).1 ≠ 0 := by
  unfold shC
  by_cases h : 30 < ps.length
  · rw [if_pos h]; exact .inr (by decide)
  · rw [if_neg h]; exact firstBad_some
/-- An error that is none. -/
theorem ErrAt.some {T F : Nat} {ea : Nat → Addr} {lo : Nat} {w : World} {v : Value} {c : Nat × Option Nat} (h : ErrAt T F ea lo w v c) (h0 : c.1 ≠ 0) : ∃ t a, v = .iface t (.pointer (some a)) := by
  obtain ⟨c1, c2⟩ := c
  cases c2 with
  | none => exact ⟨_, _, h.trans (evl_n h0)⟩
  | some i => obtain ⟨_, b, _, h2, _⟩ := h; exact ⟨_, _, h2⟩
end Lead

/-
  Plain: how often a shape goes around a point.
-/
namespace Lead
open Go Go.RowKit

theorem call_le {P : Program} {f : FuncId} {args : Array Value} {w W : World} {R : Ending → World → Prop} {T F : Nat} {ea : Nat → Addr} {e : TypeId} {c : Nat × Option Nat} {l : List Int} (hB : Below w.heap.size w W)
    (h : Below w.heap.size w W → Calls P f args W (RetLE T F ea e c l W))
    (k : ∀ v x w1, ErrAt T F ea W.heap.size w1 x c → w1.ownsRow W.heap.size e 1 v l.length (l.map (Value.int .i64)) → Below w.heap.size w w1 → W.heap.size ≤ w1.heap.size → Below W.heap.size W w1 → R (.returned (.tuple #[v, x])) w1) : Calls P f args W R :=
  (h hB).mono fun en w1 ⟨v, x, he, hx, ho, hb⟩ => by
    subst he
    exact k v x w1 hx ho (hB.trans (hb.mono hB.size)) hb.size hb
theorem call_ne {P : Program} {f : FuncId} {args : Array Value} {w W : World} {R : Ending → World → Prop} {T F : Nat} {ea : Nat → Addr} {c : Nat × Option Nat} {n : Int} (hB : Below w.heap.size w W)
    (h : Below w.heap.size w W → Calls P f args W (RetNE T F ea c n W))
    (k : ∀ x w1, ErrAt T F ea W.heap.size w1 x c → Below w.heap.size w w1 → W.heap.size ≤ w1.heap.size → (∀ b o, b < W.heap.size → w1.cell? ⟨b, o, none⟩ = W.cell? ⟨b, o, none⟩) →
      (∀ b o, b < W.heap.size → w1.frozen? ⟨b, o, none⟩ = W.frozen? ⟨b, o, none⟩) → Below W.heap.size W w1 → R (.returned (.tuple #[.int .i64 n, x])) w1) : Calls P f args W R :=
  (h hB).mono fun en w1 ⟨x, he, hx, hb⟩ => by
    subst he
    exact k x w1 hx (hB.trans (hb.mono hB.size)) hb.size (bcell hb).1 (bcell hb).2 hb

theorem crossB_bound (l1 l2 : Bool) (s : Int) : -1 ≤ crossB l1 l2 s ∧ crossB l1 l2 s ≤ 1 := by
  unfold crossB
  split
  · omega
  · split <;> omega
theorem crsTo_bound (ps : List Pt) (p : Pt) (k : Nat) : ∀ c ∈ crsTo ps p k, -1 ≤ c ∧ c ≤ 1 := by
  intro c hc
  unfold crsTo at hc
  obtain ⟨hc, _⟩ := List.mem_filter.1 hc
  obtain ⟨i, _, rfl⟩ := List.mem_map.1 hc
  exact crossB_bound _ _ _
theorem crL_bound (ps : List Pt) (p : Pt) : (∀ c ∈ crL ps p, -1 ≤ c ∧ c ≤ 1) ∧ (crL ps p).length ≤ 30 := by
  unfold crL
  by_cases h : crC ps p = (0, none)
  · rw [if_pos h]
    refine ⟨crsTo_bound _ _ _, Nat.le_trans (crsTo_len _ _ _) ?_⟩
    rcases shC_some ps with h1 | h1
    · exact (shC_ok h1).1
    · exfalso
      unfold crC at h
      rw [if_neg (fun h2 => h1 (by rw [h2]))] at h
      exact h1 (by rw [h])
  · rw [if_neg h]; exact ⟨(fun c hc => by cases hc), by simp⟩
theorem sum_bound {l : List Int} (h : ∀ c ∈ l, -1 ≤ c ∧ c ≤ 1) : -(l.length : Int) ≤ l.sum ∧ l.sum ≤ l.length := by
  induction l with
  | nil => simp
  | cons a l ih =>
    have h1 := h a (by simp)
    have h2 := ih (fun c hc => h c (by simp [hc]))
    simp only [List.sum_cons, List.length_cons]
    omega
theorem sum_take_succ {l : List Int} {k : Nat} (h : k < l.length) : (l.take (k + 1)).sum = (l.take k).sum + l[k] := by
  rw [List.take_succ_eq_append_getElem h, List.sum_append]
  simp
end Lead

/-
  Plain: points as a row of cells; rows of points that a call owns.
-/
namespace Lead
open Go Go.RowKit

def Pt.vals (p : Pt) : List Value := [.int .i64 p.xn, .int .i64 p.xd, .int .i64 p.yn, .int .i64 p.yd]
def flat (ps : List Pt) : List Value := ps.flatMap Pt.vals
theorem flat_nil : flat [] = [] := rfl
theorem flat_cons (p : Pt) (ps : List Pt) : flat (p :: ps) = p.vals ++ flat ps := by simp [flat]
theorem flat_append (a b : List Pt) : flat (a ++ b) = flat a ++ flat b := by simp [flat]
theorem flat_len (ps : List Pt) : (flat ps).length = ps.length * 4 := by
  induction ps with
  | nil => rfl
  | cons p ps ih => rw [flat_cons, List.length_append, ih]; simp [Pt.vals]; omega
theorem flat_at (ps : List Pt) : ∀ (i j : Nat) (h : i < ps.length), j < 4 → (flat ps)[i * 4 + j]? = ps[i].vals[j]? := by
  induction ps with
  | nil => intro i j h; exact absurd h (by simp)
  | cons p ps ih =>
    intro i j h hj
    rw [flat_cons]
    cases i with
    | zero => rw [List.getElem?_append_left (by simp [Pt.vals]; omega)]; simp
    | succ i =>
      rw [List.getElem?_append_right (by simp [Pt.vals]; omega)]
      have : (i + 1) * 4 + j - p.vals.length = i * 4 + j := by simp [Pt.vals]; omega
      rw [this, ih i j (by simpa using h) hj]
      simp
theorem flat_one (ps : List Pt) : ∀ u ∈ flat ps, u.oneCell' = true := by
  intro u hu
  obtain ⟨p, _, hp⟩ := List.mem_flatMap.1 hu
  simp [Pt.vals] at hp
  rcases hp with rfl | rfl | rfl | rfl <;> rfl

theorem add_cell (b off j : Nat) : (⟨b, off, none⟩ : Addr).add j = ⟨b, off + j, none⟩ := by
  unfold Addr.add; split
  · rename_i h; subst h; rfl
  · rfl

theorem PtsIn.cells {w : World} {b off : Nat} {ps : List Pt} (h : PtsIn w b off ps) : ∀ j u, (flat ps)[j]? = some u → w.cell? ((⟨b, off, none⟩ : Addr).add j) = some u := by
  intro j u hu
  rw [add_cell]
  have hj : j < ps.length * 4 := by
    rw [← flat_len]; exact (List.getElem?_eq_some_iff.1 hu).1
  have hi : j / 4 < ps.length := by omega
  have he : j = (j / 4) * 4 + j % 4 := by omega
  rw [he, flat_at ps _ _ hi (by omega)] at hu
  rw [he]
  have h4 : j % 4 = 0 ∨ j % 4 = 1 ∨ j % 4 = 2 ∨ j % 4 = 3 := by omega
  rcases h4 with h4 | h4 | h4 | h4 <;> rw [h4] at hu ⊢ <;> simp [Pt.vals] at hu <;> subst hu
  · exact h.c0 _ hi
  · rw [← Nat.add_assoc]; exact h.c1 _ hi
  · rw [← Nat.add_assoc]; exact h.c2 _ hi
  · rw [← Nat.add_assoc]; exact h.c3 _ hi
theorem ptsIn_of_cells {w : World} {b off : Nat} {ps : List Pt} (h : ∀ j u, (flat ps)[j]? = some u → w.cell? ⟨b, off + j, none⟩ = some u) : PtsIn w b off ps := by
  refine ⟨fun i hi => ?_, fun i hi => ?_, fun i hi => ?_, fun i hi => ?_⟩
  · exact h (i * 4) _ (by rw [← Nat.add_zero (i * 4), flat_at ps i 0 hi (by omega)]; rfl)
  · rw [Nat.add_assoc]; exact h _ _ (by rw [flat_at ps i 1 hi (by omega)]; rfl)
  · rw [Nat.add_assoc]; exact h _ _ (by rw [flat_at ps i 2 hi (by omega)]; rfl)
  · rw [Nat.add_assoc]; exact h _ _ (by rw [flat_at ps i 3 hi (by omega)]; rfl)
theorem PtsIn.drop {w : World} {b off : Nat} {ps : List Pt} (h : PtsIn w b off ps) (k : Nat) : PtsIn w b (off + k * 4) (ps.drop k) := by
  have e : ∀ i, off + k * 4 + i * 4 = off + (k + i) * 4 := fun i => by omega
  refine ⟨fun i hi => ?_, fun i hi => ?_, fun i hi => ?_, fun i hi => ?_⟩ <;> rw [e] <;> rw [List.length_drop] at hi <;> rw [List.getElem_drop]
  · exact h.c0 _ (by omega)
  · exact h.c1 _ (by omega)
  · exact h.c2 _ (by omega)
  · exact h.c3 _ (by omega)
theorem PtsIn.take {w : World} {b off : Nat} {ps : List Pt} (h : PtsIn w b off ps) (k : Nat) : PtsIn w b off (ps.take k) := by
  refine ⟨fun i hi => ?_, fun i hi => ?_, fun i hi => ?_, fun i hi => ?_⟩ <;> rw [List.length_take] at hi <;> rw [List.getElem_take]
  · exact h.c0 _ (by omega)
  · exact h.c1 _ (by omega)
  · exact h.c2 _ (by omega)
  · exact h.c3 _ (by omega)

/-- A row of points that the call owns. -/
def OwnP (w : World) (base : Nat) (e : TypeId) (v : Value) (ps : List Pt) : Prop := w.ownsRow base e 4 v ps.length (flat ps)
theorem OwnP.nil (w : World) (base : Nat) (e : TypeId) : OwnP w base e (.slice none 0 0) [] := World.ownsRow_nil _ _ _ _
theorem OwnP.keep {w w' : World} {base : Nat} {e : TypeId} {v : Value} {ps : List Pt} (h : OwnP w base e v ps) (hb : Below w.heap.size w w') : OwnP w' base e v ps := own_below h hb
theorem OwnP.alloc {w : World} {base : Nat} {e : TypeId} {v : Value} {ps : List Pt} (h : OwnP w base e v ps) (o : Obj) : OwnP (w.alloc o) base e v ps := World.ownsRow.alloc h o
theorem OwnP.base {w : World} {base base' : Nat} {e : TypeId} {v : Value} {ps : List Pt} (h : OwnP w base e v ps) (hb : base' ≤ base) : OwnP w base' e v ps := own_base h hb
/-- .. its value: nil, or a slice from the head of a block on; and the points that lie there. -/
theorem OwnP.form {w : World} {base : Nat} {e : TypeId} {v : Value} {ps : List Pt} (h : OwnP w base e v ps) :
    (v = .slice none 0 0 ∧ ps = []) ∨ ∃ g cap, v = .slice (some ⟨g, 0, none⟩) ps.length cap ∧ base ≤ g ∧ g < w.heap.size ∧ ps.length ≤ cap ∧ ps.length ≤ maxLen ∧ PtsIn w g 0 ps := by
  obtain ⟨h1, h2⟩ := h
  rcases h2 with ⟨h2, h3⟩ | ⟨g, cap, cur, h3, h4, h5, h6, h7, h8, h9⟩
  · exact .inl ⟨h2, List.length_eq_zero_iff.1 h3⟩
  · have hown : w.ownsRow base e 4 (.slice (some ⟨g, 0, none⟩) ps.length cap) ps.length (flat ps) := ⟨h1, .inr ⟨g, cap, cur, rfl, h4, h5, h6, h7, h8, h9⟩⟩
    have hg : g < w.heap.size := by
      rcases Nat.lt_or_ge g w.heap.size with h | h
      · exact h
      · rw [Array.getElem?_eq_none h] at h5; exact absurd h5 (by simp)
    refine .inr ⟨g, cap, h3, h4, hg, h6, by omega, ptsIn_of_cells fun j u hu => ?_⟩
    have hj : j < ps.length * 4 := by rw [← flat_len]; exact (List.getElem?_eq_some_iff.1 hu).1
    rw [Nat.zero_add, hown.cellAt j hj]; exact hu
/-- .. as an argument. -/
theorem OwnP.slp {w : World} {base : Nat} {e : TypeId} {v : Value} {ps : List Pt} (h : OwnP w base e v ps) (hI : ∀ p ∈ ps, p.I) : ∃ oa cap, v = .slice oa ps.length cap ∧ SlP w oa ps.length cap ps := by
  rcases h.form with ⟨rfl, rfl⟩ | ⟨g, cap, rfl, h4, hg, h6, h7, h8⟩
  · exact ⟨none, 0, rfl, rfl, Nat.le_refl _, Nat.zero_le _, hI, .inl ⟨rfl, rfl, rfl⟩⟩
  · exact ⟨_, cap, rfl, rfl, h6, h7, hI, .inr ⟨g, 0, rfl, hg, h8⟩⟩
theorem OwnP.lt {w : World} {base : Nat} {e : TypeId} {v : Value} {ps : List Pt} (h : OwnP w base e v ps) : ∀ k, v.ownBlock = some k → base ≤ k ∧ k < w.heap.size := World.ownsRow.lt h

/-- A call that answers a bool and an error. -/
def RetBE (T F : Nat) (ea : Nat → Addr) (c : Nat × Option Nat) (b : Bool) (w : World) (en : Ending) (w' : World) : Prop :=
  ∃ x, en = .returned (.tuple #[.bool b, x]) ∧ ErrAt T F ea w.heap.size w' x c ∧ Below w.heap.size w w'
theorem call_be {P : Program} {f : FuncId} {args : Array Value} {w W : World} {R : Ending → World → Prop} {T F : Nat} {ea : Nat → Addr} {c : Nat × Option Nat} {n : Bool} (hB : Below w.heap.size w W)
    (h : Below w.heap.size w W → Calls P f args W (RetBE T F ea c n W))
    (k : ∀ x w1, ErrAt T F ea W.heap.size w1 x c → Below w.heap.size w w1 → W.heap.size ≤ w1.heap.size → (∀ b o, b < W.heap.size → w1.cell? ⟨b, o, none⟩ = W.cell? ⟨b, o, none⟩) →
      (∀ b o, b < W.heap.size → w1.frozen? ⟨b, o, none⟩ = W.frozen? ⟨b, o, none⟩) → Below W.heap.size W w1 → R (.returned (.tuple #[.bool n, x])) w1) : Calls P f args W R :=
  (h hB).mono fun en w1 ⟨x, he, hx, hb⟩ => by
    subst he
    exact k x w1 hx (hB.trans (hb.mono hB.size)) hb.size (bcell hb).1 (bcell hb).2 hb

/-- A call that answers own points. -/
def RetP (e : TypeId) (ps : List Pt) (w : World) (en : Ending) (w' : World) : Prop :=
  ∃ v, en = .returned v ∧ OwnP w' w.heap.size e v ps ∧ Below w.heap.size w w'
theorem call_p {P : Program} {f : FuncId} {args : Array Value} {w W : World} {R : Ending → World → Prop} {e : TypeId} {ps : List Pt} (hB : Below w.heap.size w W)
    (h : Below w.heap.size w W → Calls P f args W (RetP e ps W))
    (k : ∀ v w1, OwnP w1 W.heap.size e v ps → Below w.heap.size w w1 → W.heap.size ≤ w1.heap.size → (∀ b o, b < W.heap.size → w1.cell? ⟨b, o, none⟩ = W.cell? ⟨b, o, none⟩) →
      (∀ b o, b < W.heap.size → w1.frozen? ⟨b, o, none⟩ = W.frozen? ⟨b, o, none⟩) → Below W.heap.size W w1 → R (.returned v) w1) : Calls P f args W R :=
  (h hB).mono fun en w1 ⟨v, he, hv, hb⟩ => by
    subst he
    exact k v w1 hv (hB.trans (hb.mono hB.size)) hb.size (bcell hb).1 (bcell hb).2 hb

theorem own_lit2 (w : World) (o1 o2 : Obj) (e : TypeId) (ps : List Pt) (hp : ps.length ≤ maxLen) :
    OwnP (((w.alloc o1).alloc o2).alloc (.cells (flat ps).toArray e)) w.heap.size e (.slice (some ⟨w.heap.size + 1 + 1, 0, none⟩) ps.length ps.length) ps := by
  have h := World.ownsRow_lit (base := w.heap.size) (e := e) (size := 4) ((w.alloc o1).alloc o2) (flat ps).toArray ps.length (by simp; omega) hp (by simp [flat_len])
  rw [World.size_alloc, World.size_alloc] at h
  simpa [OwnP] using h
theorem own_lit1 (w : World) (o1 : Obj) (e : TypeId) (ps : List Pt) (hp : ps.length ≤ maxLen) :
    OwnP ((w.alloc o1).alloc (.cells (flat ps).toArray e)) w.heap.size e (.slice (some ⟨w.heap.size + 1, 0, none⟩) ps.length ps.length) ps := by
  have h := World.ownsRow_lit (base := w.heap.size) (e := e) (size := 4) (w.alloc o1) (flat ps).toArray ps.length (by simp) hp (by simp [flat_len])
  rw [World.size_alloc] at h
  simpa [OwnP] using h

theorem below_via {w2 W w3 : World} (h : Below w2.heap.size w2 W) (hW : Below W.heap.size W w3) : Below w2.heap.size w2 w3 := h.trans (hW.mono h.size)
theorem call_bel {P : Program} {f : FuncId} {args : Array Value} {w W : World} {v : Value} {R : Ending → World → Prop} (hB : Below w.heap.size w W)
    (h : Below w.heap.size w W → Calls P f args W fun e w' => e = .returned v ∧ Below W.heap.size W w')
    (k : ∀ w1, Below w.heap.size w w1 → W.heap.size ≤ w1.heap.size → (∀ b o, b < W.heap.size → w1.cell? ⟨b, o, none⟩ = W.cell? ⟨b, o, none⟩) →
      (∀ b o, b < W.heap.size → w1.frozen? ⟨b, o, none⟩ = W.frozen? ⟨b, o, none⟩) → Below W.heap.size W w1 → R (.returned v) w1) : Calls P f args W R :=
  (h hB).mono fun e w1 ⟨he, hb⟩ => by
    subst he
    exact k w1 (hB.trans (hb.mono hB.size)) hb.size (bcell hb).1 (bcell hb).2 hb

/-- append onto a row of points that the call owns. -/
theorem wp_append_pts {P : Program} {ops : Array Oper} {rest : List Oper} {o : Oper} {a : Act} {Q : Exit → Act → World → Prop} {w0 w : World} (hgd : o.guard = none) (s x : Operand) (t : TypeId)
    (ho : o.op = .call { callee := .builtin .append, args := #[s, x], argTypes := #[t, t] })
    (base : Nat) (e : TypeId) (i : TypeInfo) (z : Value) (ht : P.underlying t = some (.slice e)) (hi : P.info? e = some i) (hz : i.zero = some z)
    (hsize : i.size = 4) (hby : i.bytes = 32) (hzs : z.cells.size = 4) (v : Value) (qs : List Pt) (hs : a.eval s = v) (hown : OwnP w base e v qs)
    (b off m c : Nat) (ps : List Pt) (hx : a.eval x = .slice (some ⟨b, off, none⟩) m c) (hm : m = ps.length) (hp : PtsIn w b off ps) (hlen : qs.length + ps.length ≤ 1000)
    (hbase : base ≤ w.heap.size) (hB : Below w0.heap.size w0 w) (h0 : w0.heap.size ≤ base)
    (h : ∀ v' w', OwnP w' base e v' (qs ++ ps) → Below w0.heap.size w0 w' → w.heap.size ≤ w'.heap.size → (∀ b o, b < base → w'.cell? ⟨b, o, none⟩ = w.cell? ⟨b, o, none⟩) →
      (∀ b o, b < base → w'.frozen? ⟨b, o, none⟩ = w.frozen? ⟨b, o, none⟩) → Below base w w' → wpList P ops Q rest (a.put o.dst v') w') : wpList P ops Q (o :: rest) a w := by
  refine wpList_append_own w hgd s x t ho base e i z 4 32 ht hi hz hsize hby hzs (by decide) v qs.length (flat qs) hs hown ⟨b, off, none⟩ m c (flat ps) hx (by rw [flat_len, hm]) hp.cells (flat_one ps)
    (by unfold maxLen; omega) (by omega) hbase ?_
  intro v' w' hown' hgrow _
  have hA : Below base w w' := (Below.refl base w).grown hgrow hbase (fun q hq => (hown.lt q hq).1)
  refine h v' w' ?_ (hB.trans (hA.mono h0)) hA.size (fun b o h => hA.cell (p := ⟨b, o, none⟩) h) (fun b o h => hA.frozen (p := ⟨b, o, none⟩) h) hA
  unfold OwnP
  rw [List.length_append, flat_append, ← hm]
  exact hown'
theorem below_via' {w2 W w3 : World} {base : Nat} (h : Below w2.heap.size w2 W) (hA : Below base W w3) (hb : w2.heap.size ≤ base) : Below w2.heap.size w2 w3 := h.trans (hA.mono hb)
theorem pts_new (w : World) (e : TypeId) (p : Pt) : PtsIn (w.alloc (.cells #[.int .i64 p.xn, .int .i64 p.xd, .int .i64 p.yn, .int .i64 p.yd] e)) w.heap.size 0 [p] := by
  refine ⟨fun i hi => ?_, fun i hi => ?_, fun i hi => ?_, fun i hi => ?_⟩ <;> (have h0 : i = 0 := by simpa using hi) <;> subst h0 <;> simp

/-- .. at a step of a region that draws its order. -/
theorem step_append_pts {P : Program} {ops : Array Oper} {o : Oper} {a : Act} {w : World} {K : Act → World → Prop} {Q : Exit → Act → World → Prop} {E : Prop} (hgd : o.guard = none) (s x : Operand) (t : TypeId)
    (ho : o.op = .call { callee := .builtin .append, args := #[s, x], argTypes := #[t, t] })
    (base : Nat) (e : TypeId) (i : TypeInfo) (z : Value) (ht : P.underlying t = some (.slice e)) (hi : P.info? e = some i) (hz : i.zero = some z)
    (hsize : i.size = 4) (hby : i.bytes = 32) (hzs : z.cells.size = 4) (v : Value) (qs : List Pt) (hs : a.eval s = v)
    (b off m c : Nat) (ps : List Pt) (hx : a.eval x = .slice (some ⟨b, off, none⟩) m c) (hm : m = ps.length) (hlen : qs.length + ps.length ≤ 1000) (hown : OwnP w base e v qs) (hp : PtsIn w b off ps)
    (hbase : base ≤ w.heap.size)
    (h : ∀ v' w', OwnP w' base e v' (qs ++ ps) → Below base w w' → K (a.put o.dst v') w') : if Region.wanted o (yielded ops a.tmps) = true then Oper.wp P o a w K Q else E := by
  have hw : Region.wanted o (yielded ops a.tmps) = true := by simp [Region.wanted, hgd]
  rw [if_pos hw]
  refine wp_append_own w s x t ho base e i z 4 32 ht hi hz hsize hby hzs (by decide) v qs.length (flat qs) hs hown ⟨b, off, none⟩ m c (flat ps) hx (by rw [flat_len, hm]) hp.cells (flat_one ps)
    (by unfold maxLen; omega) (by omega) hbase ?_
  intro v' w' hown' hgrow _
  refine h v' w' ?_ ((Below.refl base w).grown hgrow hbase (fun q hq => (hown.lt q hq).1))
  unfold OwnP
  rw [List.length_append, flat_append, ← hm]
  exact hown'
theorem held_alloc {N : Nat} {Wa W : World} {X : Prop} (hN : N ≤ Wa.heap.size) (h : Below N Wa W ∧ X) (o : Obj) : Below N Wa (W.alloc o) :=
  h.1.alloc (Nat.le_trans hN h.1.size) o
theorem held_app {N : Nat} {Wa W W' : World} {X : Prop} (hb : Below N W W') (h : Below N Wa W ∧ X) : Below N Wa W' := h.1.trans hb
theorem held_b {N : Nat} {Wa W : World} {X : Prop} (h : Below N Wa W ∧ X) : Below N Wa W := h.1
theorem pts_new' (w : World) (e : TypeId) (p : Pt) : PtsIn (w.alloc (.cells #[.int .i64 p.xn, .int .i64 p.xd, .int .i64 p.yn, .int .i64 p.yd] e)).drew w.heap.size 0 [p] :=
  ⟨(pts_new w e p).c0, (pts_new w e p).c1, (pts_new w e p).c2, (pts_new w e p).c3⟩
end Lead

/-
  Plain: boxes: their points, their errors; calls that answer own points and an error.
-/
namespace Lead
open Go Go.RowKit

def boxP (x y w h : Fr) : List Pt :=
  [⟨x.n, x.d, y.n, y.d⟩, ⟨(x.add w).n, (x.add w).d, y.n, y.d⟩, ⟨(x.add w).n, (x.add w).d, (y.add h).n, (y.add h).d⟩, ⟨x.n, x.d, (y.add h).n, (y.add h).d⟩]
def boxC (x y w h : Fr) : Nat × Option Nat :=
  if x.c ≠ 0 then (x.c, some 0) else if y.c ≠ 0 then (y.c, some 1) else if w.c ≠ 0 then (w.c, some 2) else if h.c ≠ 0 then (h.c, some 3)
  else if x.addC w ≠ 0 ∨ y.addC h ≠ 0 then (2, none) else shC (boxP x y w h)
theorem boxC_cases (x y w h : Fr) : (x.c ≠ 0 ∧ boxC x y w h = (x.c, some 0)) ∨ (x.c = 0 ∧ y.c ≠ 0 ∧ boxC x y w h = (y.c, some 1)) ∨ (x.c = 0 ∧ y.c = 0 ∧ w.c ≠ 0 ∧ boxC x y w h = (w.c, some 2)) ∨
    (x.c = 0 ∧ y.c = 0 ∧ w.c = 0 ∧ h.c ≠ 0 ∧ boxC x y w h = (h.c, some 3)) ∨ (x.c = 0 ∧ y.c = 0 ∧ w.c = 0 ∧ h.c = 0 ∧ x.addC w ≠ 0 ∧ boxC x y w h = (2, none)) ∨
    (x.c = 0 ∧ y.c = 0 ∧ w.c = 0 ∧ h.c = 0 ∧ x.addC w = 0 ∧ y.addC h ≠ 0 ∧ boxC x y w h = (2, none)) ∨ (x.c = 0 ∧ y.c = 0 ∧ w.c = 0 ∧ h.c = 0 ∧ x.addC w = 0 ∧ y.addC h = 0 ∧ boxC x y w h = shC (boxP x y w h)) := by
  unfold boxC
  by_cases h1 : x.c = 0 <;> by_cases h2 : y.c = 0 <;> by_cases h3 : w.c = 0 <;> by_cases h4 : h.c = 0 <;> by_cases h5 : x.addC w = 0 <;> by_cases h6 : y.addC h = 0 <;> simp [h1, h2, h3, h4, h5, h6]
def boxL (x y w h : Fr) : List Pt := if boxC x y w h = (0, none) then boxP x y w h else []
structure Fr.I (a : Fr) : Prop where
  n : I64 a.n
  d : I64 a.d

theorem cell_new {w : World} {vs : Array Value} {t : TypeId} {b j : Nat} (hb : b = w.heap.size) : (w.alloc (.cells vs t)).cell? ⟨b, j, none⟩ = vs[j]? := by subst hb; simp

/-- A call that answers a struct of own points, and an error. -/
def RetPE (T F : Nat) (ea : Nat → Addr) (e : TypeId) (c : Nat × Option Nat) (ps : List Pt) (w : World) (en : Ending) (w' : World) : Prop :=
  ∃ v x, en = .returned (.tuple #[.agg #[v], x]) ∧ ErrAt T F ea w.heap.size w' x c ∧ OwnP w' w.heap.size e v ps ∧ Below w.heap.size w w'
theorem call_pe {P : Program} {f : FuncId} {args : Array Value} {w W : World} {R : Ending → World → Prop} {T F : Nat} {ea : Nat → Addr} {e : TypeId} {c : Nat × Option Nat} {ps : List Pt} (hB : Below w.heap.size w W)
    (h : Below w.heap.size w W → Calls P f args W (RetPE T F ea e c ps W))
    (k : ∀ v x w1, ErrAt T F ea W.heap.size w1 x c ∧ OwnP w1 W.heap.size e v ps → Below w.heap.size w w1 → W.heap.size ≤ w1.heap.size → (∀ b o, b < W.heap.size → w1.cell? ⟨b, o, none⟩ = W.cell? ⟨b, o, none⟩) →
      (∀ b o, b < W.heap.size → w1.frozen? ⟨b, o, none⟩ = W.frozen? ⟨b, o, none⟩) → Below W.heap.size W w1 → R (.returned (.tuple #[.agg #[v], x])) w1) : Calls P f args W R :=
  (h hB).mono fun en w1 ⟨v, x, he, hx, hv, hb⟩ => by
    subst he
    exact k v x w1 ⟨hx, hv⟩ (hB.trans (hb.mono hB.size)) hb.size (bcell hb).1 (bcell hb).2 hb
/-- A call that answers one error: as call_e, and the call's own frame. -/
theorem call_ew {P : Program} {f : FuncId} {args : Array Value} {w W : World} {R : Ending → World → Prop} {T F : Nat} {ea : Nat → Addr} {c : Nat × Option Nat} (hB : Below w.heap.size w W)
    (h : Below w.heap.size w W → Calls P f args W (RetE T F ea c W))
    (k : ∀ v w1, ErrAt T F ea W.heap.size w1 v c → Below w.heap.size w w1 → W.heap.size ≤ w1.heap.size → (∀ b o, b < W.heap.size → w1.cell? ⟨b, o, none⟩ = W.cell? ⟨b, o, none⟩) →
      (∀ b o, b < W.heap.size → w1.frozen? ⟨b, o, none⟩ = W.frozen? ⟨b, o, none⟩) → Below W.heap.size W w1 → R (.returned v) w1) : Calls P f args W R :=
  (h hB).mono fun e w1 ⟨v, he, hv, hb⟩ => by
    subst he
    exact k v w1 hv (hB.trans (hb.mono hB.size)) hb.size (bcell hb).1 (bcell hb).2 hb
theorem slp_lit (w : World) (o1 o2 : Obj) (e : TypeId) (ps : List Pt) (hp : ps.length ≤ maxLen) (hI : ∀ p ∈ ps, p.I) :
    SlP (((w.alloc o1).alloc (.cells (flat ps).toArray e)).alloc o2) (some ⟨w.heap.size + 1, 0, none⟩) ps.length ps.length ps := by
  obtain ⟨oa, cap, hv, hs⟩ := ((own_lit1 w o1 e ps hp).alloc o2).slp hI
  cases hv
  exact hs
theorem low_i64 {n d : Int} (h : lowC n d = 0) : I64 (lowN n d) ∧ I64 (lowD n d) := by
  rcases lowC_cases n d with ⟨_, h1⟩ | ⟨_, _, h1⟩ | ⟨h1, h2, _⟩
  · omega
  · omega
  · have h1 := sml_true.1 h1; have h2 := sml_true.1 h2
    unfold I64; omega
theorem boxP_I {x y w h : Fr} (hx : x.I) (hy : y.I) (h1 : x.addC w = 0) (h2 : y.addC h = 0) : ∀ p ∈ boxP x y w h, p.I := by
  intro p hp
  obtain ⟨a1, a2⟩ := low_i64 h1
  obtain ⟨b1, b2⟩ := low_i64 h2
  simp only [boxP, List.mem_cons, List.not_mem_nil, or_false] at hp
  rcases hp with rfl | rfl | rfl | rfl
  · exact ⟨hx.n, hx.d, hy.n, hy.d⟩
  · exact ⟨a1, a2, hy.n, hy.d⟩
  · exact ⟨a1, a2, b1, b2⟩
  · exact ⟨hx.n, hx.d, b1, b2⟩
theorem own_set {w : World} {base : Nat} {e : TypeId} {size : Nat} {v : Value} {n : Nat} {xs : List Value} (h : w.ownsRow base e size v n xs) (a : Addr) (x : Value) (ha : a.block < base) : (w.setCell a x).ownsRow base e size v n xs := by
  obtain ⟨h1, h2⟩ := h
  refine ⟨h1, ?_⟩
  rcases h2 with h2 | ⟨g, cap, cur, h3, h4, h5, h6⟩
  · exact .inl h2
  · refine .inr ⟨g, cap, cur, h3, h4, ?_, h6⟩
    rw [Below.heap_setCell _ _ _ _ (by omega)]; exact h5
theorem ErrAt.set {T F : Nat} {ea : Nat → Addr} {lo lo' : Nat} {w : World} {v : Value} {c : Nat × Option Nat} (h : ErrAt T F ea lo w v c) (a : Addr) (x : Value) (ha : a.block < lo) (hl : lo' ≤ lo) : ErrAt T F ea lo' (w.setCell a x) v c := by
  obtain ⟨c1, c2⟩ := c
  cases c2 with
  | none => exact h
  | some i =>
    obtain ⟨h0, b, h1, h2, h3, h4⟩ := h
    have hne : a.block ≠ b := by omega
    exact ⟨h0, b, by omega, h2, by rw [World.cell?_setCell_other (h := fun e => hne (by rw [e]))]; exact h3, by rw [World.cell?_setCell_other (h := fun e => hne (by rw [e]))]; exact h4⟩
/-- A fraction and an error, as two. -/
theorem call_fr0 {P : Program} {f : FuncId} {args : Array Value} {w W : World} {R : Ending → World → Prop} {T : Nat} {ea : Nat → Addr} {c : Nat} {q r : Int} (hB : Below w.heap.size w W)
    (h : Below w.heap.size w W → Calls P f args W fun e w' => e = .returned (frV T ea c q r) ∧ Below W.heap.size W w') (hc : c = 0)
    (k : ∀ w1, Below w.heap.size w w1 → W.heap.size ≤ w1.heap.size → (∀ b o, b < W.heap.size → w1.cell? ⟨b, o, none⟩ = W.cell? ⟨b, o, none⟩) →
      (∀ b o, b < W.heap.size → w1.frozen? ⟨b, o, none⟩ = W.frozen? ⟨b, o, none⟩) → Below W.heap.size W w1 → R (.returned (.tuple #[.agg #[.int .i64 q, .int .i64 r], .nilIface])) w1) : Calls P f args W R :=
  (h hB).mono fun en w1 ⟨he, hb⟩ => by
    subst he
    rw [frV_0 hc]
    exact k w1 (hB.trans (hb.mono hB.size)) hb.size (bcell hb).1 (bcell hb).2 hb
theorem call_frn {P : Program} {f : FuncId} {args : Array Value} {w W : World} {R : Ending → World → Prop} {T : Nat} {ea : Nat → Addr} {c : Nat} {q r : Int} (hB : Below w.heap.size w W)
    (h : Below w.heap.size w W → Calls P f args W fun e w' => e = .returned (frV T ea c q r) ∧ Below W.heap.size W w') (hc : c ≠ 0)
    (k : ∀ w1, Below w.heap.size w w1 → W.heap.size ≤ w1.heap.size → (∀ b o, b < W.heap.size → w1.cell? ⟨b, o, none⟩ = W.cell? ⟨b, o, none⟩) →
      (∀ b o, b < W.heap.size → w1.frozen? ⟨b, o, none⟩ = W.frozen? ⟨b, o, none⟩) → Below W.heap.size W w1 → R (.returned (.tuple #[.agg #[.int .i64 0, .int .i64 0], .iface T (.pointer (some (ea c)))])) w1) : Calls P f args W R :=
  (h hB).mono fun en w1 ⟨he, hb⟩ => by
    subst he
    rw [frV_n hc]
    exact k w1 (hB.trans (hb.mono hB.size)) hb.size (bcell hb).1 (bcell hb).2 hb
end Lead

/-
  Plain: JORDAN: winding numbers of lists of points: begun elsewhere, turned around, there and back.
-/
namespace Lead
open Go Go.RowKit

theorem sideI_swap (a b p : Pt) : sideI b a p = - sideI a b p := by
  unfold sideI; grind
theorem crossB_swap (l1 l2 : Bool) (s : Int) : crossB l2 l1 (-s) = - crossB l1 l2 s := by
  unfold crossB
  cases l1 <;> cases l2 <;> simp <;> split <;> omega
theorem cross_swap (a b p : Pt) : crossPt b a p = - crossPt a b p := by
  unfold crossPt; rw [sideI_swap, crossB_swap]
theorem cross_self (a p : Pt) : crossPt a a p = 0 := by
  have := cross_swap a a p; omega

/-- Along a path. -/
def psum (p : Pt) : List Pt → Int
  | [] => 0
  | [_] => 0
  | a :: b :: l => crossPt a b p + psum p (b :: l)
theorem psum_cut (p : Pt) (x : Pt) : ∀ (l1 l2 : List Pt), psum p (l1 ++ x :: l2) = psum p (l1 ++ [x]) + psum p (x :: l2)
  | [], l2 => by simp [psum]
  | [a], l2 => by simp [psum]
  | a :: b :: l1, l2 => by
    have ih := psum_cut p x (b :: l1) l2
    simp only [List.cons_append] at ih ⊢
    simp only [psum]
    rw [ih]; omega
theorem psum_snoc (p : Pt) (l : List Pt) (a b : Pt) : psum p (l ++ [a, b]) = psum p (l ++ [a]) + crossPt a b p := by
  rw [psum_cut p a l [b]]; simp [psum]
theorem psum_rev (p : Pt) : ∀ l : List Pt, psum p l.reverse = - psum p l
  | [] => rfl
  | [a] => rfl
  | a :: b :: l => by
    have ih := psum_rev p (b :: l)
    simp only [List.reverse_cons] at ih ⊢
    rw [List.append_assoc]
    show psum p (l.reverse ++ [b, a]) = _
    rw [psum_snoc, ih, cross_swap]
    simp only [psum]; omega

/-- Around: from the last one to the first one, too. -/
def cyc (p : Pt) : List Pt → Int
  | [] => 0
  | a :: l => psum p (a :: (l ++ [a]))
theorem cyc_app (p a b : Pt) (l1 l2 : List Pt) : cyc p (a :: l1 ++ b :: l2) = psum p (a :: l1 ++ [b]) + psum p (b :: l2 ++ [a]) := by
  have := psum_cut p b (a :: l1) (l2 ++ [a])
  simp only [cyc, List.cons_append, List.append_assoc] at this ⊢
  exact this
theorem cyc_rot (p : Pt) (l1 l2 : List Pt) : cyc p (l2 ++ l1) = cyc p (l1 ++ l2) := by
  cases l1 with
  | nil => simp
  | cons a l1 =>
    cases l2 with
    | nil => simp
    | cons b l2 => rw [cyc_app, cyc_app]; omega
theorem cyc_rev (p : Pt) (l : List Pt) : cyc p l.reverse = - cyc p l := by
  cases l with
  | nil => rfl
  | cons a l =>
    rw [List.reverse_cons, cyc_rot]
    show psum p (a :: (l.reverse ++ [a])) = - psum p (a :: (l ++ [a]))
    rw [← psum_rev]
    congr 1
    simp
theorem cyc_both (p a : Pt) (l : List Pt) : cyc p (a :: l ++ [a] ++ [a] ++ l.reverse) = 0 := by
  have h1 := psum_cut p a (a :: l) (a :: (l.reverse ++ [a]))
  have h2 := cyc_rev p (a :: l)
  rw [List.reverse_cons, cyc_rot] at h2
  simp only [cyc, List.cons_append, List.append_assoc, List.nil_append] at h1 h2 ⊢
  rw [h1]
  simp only [psum, cross_self]
  omega

/-- The sum over the edges, one by one, is the sum around. -/
theorem psum_range (p : Pt) : ∀ (l : List Pt), psum p l = ((List.range (l.length - 1)).map fun i => crossPt (l.getD i zpt) (l.getD (i + 1) zpt) p).sum
  | [] => rfl
  | [a] => rfl
  | a :: b :: l => by
    have ih := psum_range p (b :: l)
    simp only [psum, List.length_cons, Nat.add_sub_cancel] at ih ⊢
    rw [ih, List.range_succ_eq_map, List.map_cons, List.sum_cons, List.map_map]
    rfl
theorem crs_sum_map (ps : List Pt) (p : Pt) (k : Nat) : (crsTo ps p k).sum = ((List.range k).map fun i => crossPt (ps.getD i zpt) (ps.getD ((i + 1) % ps.length) zpt) p).sum := by
  unfold crsTo
  generalize (List.range k).map (fun i => crossPt (ps.getD i zpt) (ps.getD ((i + 1) % ps.length) zpt) p) = l
  induction l with
  | nil => rfl
  | cons a l ih =>
    rw [List.filter_cons]
    by_cases h : a = 0
    · simp [h, ih]
    · simp [h, ih]
theorem crs_cyc (ps : List Pt) (p : Pt) : (crsTo ps p ps.length).sum = cyc p ps := by
  rw [crs_sum_map]
  cases ps with
  | nil => rfl
  | cons a l =>
    show _ = psum p (a :: (l ++ [a]))
    rw [psum_range]
    congr 1
    have hl : (a :: (l ++ [a])).length - 1 = (a :: l).length := by simp
    rw [hl]
    apply List.map_congr_left
    intro i hi
    have hi := List.mem_range.1 hi
    have e1 : (a :: (l ++ [a])).getD i zpt = (a :: l).getD i zpt := by
      rw [List.getD_eq_getElem?_getD, List.getD_eq_getElem?_getD, ← List.cons_append, List.getElem?_append_left hi]
    have e2 : (a :: (l ++ [a])).getD (i + 1) zpt = (a :: l).getD ((i + 1) % (a :: l).length) zpt := by
      rw [List.getD_eq_getElem?_getD, List.getD_eq_getElem?_getD, ← List.cons_append]
      by_cases h : i + 1 < (a :: l).length
      · rw [Nat.mod_eq_of_lt h, List.getElem?_append_left h]
      · have he : i + 1 = (a :: l).length := by omega
        rw [he, Nat.mod_self, List.getElem?_append_right (Nat.le_refl _)]
        simp
    rw [e1, e2]

/-- How often, and how many: both odd or both even; not more often than there are edges. -/
theorem sum_len (l : List Int) (h : ∀ c ∈ l, -1 ≤ c ∧ c ≤ 1) (h0 : ∀ c ∈ l, c ≠ 0) : (l.sum - l.length) % 2 = 0 ∧ -(l.length : Int) ≤ l.sum ∧ l.sum ≤ l.length := by
  refine ⟨?_, sum_bound h⟩
  induction l with
  | nil => rfl
  | cons a l ih =>
    have h1 := h a (by simp)
    have h2 := h0 a (by simp)
    have h3 := ih (fun c hc => h c (by simp [hc])) (fun c hc => h0 c (by simp [hc]))
    simp only [List.sum_cons, List.length_cons]
    omega
theorem crL_len (ps : List Pt) (p : Pt) : ((crL ps p).sum - (crL ps p).length) % 2 = 0 ∧ -((crL ps p).length : Int) ≤ (crL ps p).sum ∧ (crL ps p).sum ≤ (crL ps p).length := by
  apply sum_len _ (crL_bound ps p).1
  intro c hc
  unfold crL at hc
  by_cases h : crC ps p = (0, none)
  · rw [if_pos h] at hc
    have := (List.mem_filter.1 hc).2
    simpa using this
  · rw [if_neg h] at hc; cases hc

/-- A shape of right points, not too many, and a right point: no error. -/
theorem firstBad_ok {ps : List Pt} (h : ∀ q ∈ ps, PtOk q) : ∀ k, firstBad ps k = (0, none) := by
  induction ps with
  | nil => intro k; rfl
  | cons q ps ih =>
    intro k
    unfold firstBad
    rw [if_pos (h q (by simp)).c0]
    exact ih (fun x hx => h x (by simp [hx])) _
theorem crC_ok {ps : List Pt} {p : Pt} (h : ∀ q ∈ ps, PtOk q) (hp : PtOk p) (hl : ps.length ≤ 30) : crC ps p = (0, none) := by
  unfold crC shC
  rw [if_neg (by omega : ¬ 30 < ps.length), firstBad_ok h, if_pos rfl, if_pos hp.c0]
theorem crC_inv {ps : List Pt} {p : Pt} (h : crC ps p = (0, none)) : (∀ q ∈ ps, PtOk q) ∧ PtOk p ∧ ps.length ≤ 30 := by
  unfold crC at h
  by_cases h1 : shC ps = (0, none)
  · rw [if_pos h1] at h
    by_cases h2 : p.c = 0
    · exact ⟨(shC_ok h1).2.2, pt_ok h2, (shC_ok h1).1⟩
    · rw [if_neg h2] at h; exact absurd (congrArg Prod.fst h) h2
  · rw [if_neg h1] at h; exact absurd h h1
theorem wind_ok {ps : List Pt} {p : Pt} (h : ∀ q ∈ ps, PtOk q) (hp : PtOk p) (hl : ps.length ≤ 30) : (crL ps p).sum = cyc p ps := by
  unfold crL; rw [if_pos (crC_ok h hp hl), crs_cyc]
theorem crC_some (ps : List Pt) (p : Pt) : crC ps p = (0, none) ∨ ((crC ps p).1 ≠ 0 ∧ crL ps p = []) := by
  by_cases h : crC ps p = (0, none)
  · exact .inl h
  · refine .inr ⟨?_, by unfold crL; rw [if_neg h]⟩
    unfold crC at h ⊢
    rcases shC_some ps with h1 | h1
    · rw [if_pos h1] at h ⊢
      by_cases h2 : p.c = 0
      · rw [if_pos h2] at h; exact absurd rfl h
      · rw [if_neg h2]; exact h2
    · rw [if_neg (fun h2 => h1 (by rw [h2]))]; exact h1
theorem mem_rot {α : Type} {l : List α} {k : Nat} {q : α} (h : q ∈ l.drop k ++ l.take k) : q ∈ l := by
  rcases List.mem_append.1 h with h | h
  · exact List.mem_of_mem_drop h
  · exact List.mem_of_mem_take h
theorem drop_rev {α : Type} {l : List α} {k : Nat} (h : k < l.length) : (l.drop k).reverse = (l.drop (k + 1)).reverse ++ [l[k]] := by
  rw [List.drop_eq_getElem_cons h, List.reverse_cons]
theorem mem_both {ps ls : List Pt} {a q : Pt} (h : ps = a :: ls) (hq : q ∈ a :: ls ++ [a] ++ [a] ++ ls.reverse) : q ∈ ps := by
  subst h
  have h2 : q = a ∨ q ∈ ls := by
    simp at hq
    grind
  rcases h2 with h2 | h2 <;> simp [h2]
theorem pts_none {w : World} (b off : Nat) (ps : List Pt) (h : ps.length = 0) : PtsIn w b off ps :=
  ⟨(fun i hi => by omega), (fun i hi => by omega), (fun i hi => by omega), (fun i hi => by omega)⟩
end Lead

/-
  Plain: the reference's crossings are package shape's.
-/
namespace Lead
open Go Go.RowKit

def atI (o : Option Nat) : Int := match o with
  | none => -1
  | some i => i

def upI (a p : Pt) : Int := p.yn * a.yd - a.yn * p.yd
def dxI (a b : Pt) : Int := b.xn * a.xd - a.xn * b.xd

/-- What the reference reckons is the side, or its opposite. -/
theorem bey_eq (a b p : Pt) : upI a p * b.yd * dxI a b * p.xd - dxI a p * (upI a b * p.yd) * b.xd = sideI a b p := by
  unfold upI dxI sideI
  grind
theorem bey_neg (a b p : Pt) : -(upI a p * b.yd) * dxI a b * p.xd - dxI a p * (-(upI a b * p.yd)) * b.xd = - sideI a b p := by
  unfold upI dxI sideI
  grind

structure BeyW (a b p : Pt) : Prop where
  u1 : wrap64 (wrap64 (p.yn * a.yd) - wrap64 (a.yn * p.yd)) = upI a p
  u2 : wrap64 (wrap64 (b.yn * a.yd) - wrap64 (a.yn * b.yd)) = upI a b
  d1 : wrap64 (wrap64 (b.xn * a.xd) - wrap64 (a.xn * b.xd)) = dxI a b
  d2 : wrap64 (wrap64 (p.xn * a.xd) - wrap64 (a.xn * p.xd)) = dxI a p
  n : wrap64 (upI a p * b.yd) = upI a p * b.yd
  d : wrap64 (upI a b * p.yd) = upI a b * p.yd
  n' : wrap64 (-(upI a p * b.yd)) = -(upI a p * b.yd)
  d' : wrap64 (-(upI a b * p.yd)) = -(upI a b * p.yd)
  l : wrap64 (wrap64 (upI a p * b.yd * dxI a b) * p.xd) = upI a p * b.yd * dxI a b * p.xd
  r : wrap64 (wrap64 (dxI a p * (upI a b * p.yd)) * b.xd) = dxI a p * (upI a b * p.yd) * b.xd
  l' : wrap64 (wrap64 (-(upI a p * b.yd) * dxI a b) * p.xd) = -(upI a p * b.yd) * dxI a b * p.xd
  r' : wrap64 (wrap64 (dxI a p * (-(upI a b * p.yd))) * b.xd) = dxI a p * (-(upI a b * p.yd)) * b.xd
theorem bey_wrap {a b p : Pt} (ha : PtOk a) (hb : PtOk b) (hp : PtOk p) : BeyW a b p := by
  obtain ⟨a1, a2, a3, a4⟩ := ha.b
  obtain ⟨b1, b2, b3, b4⟩ := hb.b
  obtain ⟨p1, p2, p3, p4⟩ := hp.b
  have e1 := mb 20000 20 400000 b1 a2 rfl
  have e2 := mb 20000 20 400000 a1 b2 rfl
  have e3 := mb 20000 20 400000 p3 a4 rfl
  have e4 := mb 20000 20 400000 a3 p4 rfl
  have e5 := mb 20000 20 400000 p1 a2 rfl
  have e6 := mb 20000 20 400000 a1 p2 rfl
  have e7 := mb 20000 20 400000 b3 a4 rfl
  have e8 := mb 20000 20 400000 a3 b4 rfl
  have U1 : -800000 ≤ upI a p ∧ upI a p ≤ 800000 := by unfold upI; omega
  have U2 : -800000 ≤ upI a b ∧ upI a b ≤ 800000 := by unfold upI; omega
  have D1 : -800000 ≤ dxI a b ∧ dxI a b ≤ 800000 := by unfold dxI; omega
  have D2 : -800000 ≤ dxI a p ∧ dxI a p ≤ 800000 := by unfold dxI; omega
  have N := mb 800000 20 16000000 U1 b4 rfl
  have D := mb 800000 20 16000000 U2 p4 rfl
  have L := mb 16000000 800000 12800000000000 N D1 rfl
  have R := mb 800000 16000000 12800000000000 D2 D rfl
  have LL := mb 12800000000000 20 256000000000000 L p2 rfl
  have RR := mb 12800000000000 20 256000000000000 R b2 rfl
  have L' := mb (a := -(upI a p * b.yd)) 16000000 800000 12800000000000 (by omega) D1 rfl
  have R' := mb (b := -(upI a b * p.yd)) 800000 16000000 12800000000000 D2 (by omega) rfl
  have LL' := mb 12800000000000 20 256000000000000 L' p2 rfl
  have RR' := mb 12800000000000 20 256000000000000 R' b2 rfl
  refine ⟨?_, ?_, ?_, ?_, ?_, ?_, ?_, ?_, ?_, ?_, ?_, ?_⟩
  · rw [w60 (x := p.yn * a.yd) (by omega), w60 (x := a.yn * p.yd) (by omega), w60 (by omega)]; rfl
  · rw [w60 (x := b.yn * a.yd) (by omega), w60 (x := a.yn * b.yd) (by omega), w60 (by omega)]; rfl
  · rw [w60 (x := b.xn * a.xd) (by omega), w60 (x := a.xn * b.xd) (by omega), w60 (by omega)]; rfl
  · rw [w60 (x := p.xn * a.xd) (by omega), w60 (x := a.xn * p.xd) (by omega), w60 (by omega)]; rfl
  · exact w60 (by omega)
  · exact w60 (by omega)
  · exact w60 (by omega)
  · exact w60 (by omega)
  · rw [w60 (x := upI a p * b.yd * dxI a b) (by omega)]; exact w60 (by omega)
  · rw [w60 (x := dxI a p * (upI a b * p.yd)) (by omega)]; exact w60 (by omega)
  · rw [w60 (x := -(upI a p * b.yd) * dxI a b) (by omega)]; exact w60 (by omega)
  · rw [w60 (x := dxI a p * (-(upI a b * p.yd))) (by omega)]; exact w60 (by omega)

theorem mul_lt_of {x y k : Int} (hk : 1 ≤ k) (h : x * k < y * k) : x < y := by
  by_cases h1 : x < y
  · exact h1
  · have := Int.mul_le_mul_of_nonneg_right (show y ≤ x by omega) (show 0 ≤ k by omega); omega
theorem up_pos {a b p : Pt} (ha : PtOk a) (hb : PtOk b) (hp : PtOk p) (h1 : ¬ p.yn * a.yd < a.yn * p.yd) (h2 : p.yn * b.yd < b.yn * p.yd) : 1 ≤ upI a b ∧ ¬ upI a b * p.yd < 0 := by
  have da := ha.y.d0
  have db := hb.y.d0
  have dp := hp.y.d0
  have e1 := Int.mul_le_mul_of_nonneg_right (show a.yn * p.yd ≤ p.yn * a.yd by omega) (show 0 ≤ b.yd by omega)
  have e2 := Int.mul_lt_mul_of_pos_right h2 (show 0 < a.yd by omega)
  have e3 : a.yn * b.yd < b.yn * a.yd := by
    refine mul_lt_of dp ?_
    have l1 : a.yn * b.yd * p.yd = a.yn * p.yd * b.yd := by grind
    have l2 : b.yn * a.yd * p.yd = b.yn * p.yd * a.yd := by grind
    have l3 : p.yn * a.yd * b.yd = p.yn * b.yd * a.yd := by grind
    omega
  have h : 1 ≤ upI a b := by unfold upI; omega
  have := mul_pos1 h dp
  exact ⟨h, by omega⟩
theorem up_neg {a b p : Pt} (ha : PtOk a) (hb : PtOk b) (hp : PtOk p) (h1 : p.yn * a.yd < a.yn * p.yd) (h2 : ¬ p.yn * b.yd < b.yn * p.yd) : upI a b ≤ -1 ∧ upI a b * p.yd < 0 := by
  have da := ha.y.d0
  have db := hb.y.d0
  have dp := hp.y.d0
  have e1 := Int.mul_le_mul_of_nonneg_right (show b.yn * p.yd ≤ p.yn * b.yd by omega) (show 0 ≤ a.yd by omega)
  have e2 := Int.mul_lt_mul_of_pos_right h1 (show 0 < b.yd by omega)
  have e3 : b.yn * a.yd < a.yn * b.yd := by
    refine mul_lt_of dp ?_
    have l1 : a.yn * b.yd * p.yd = a.yn * p.yd * b.yd := by grind
    have l2 : b.yn * a.yd * p.yd = b.yn * p.yd * a.yd := by grind
    have l3 : p.yn * a.yd * b.yd = p.yn * b.yd * a.yd := by grind
    omega
  have h : upI a b ≤ -1 := by unfold upI; omega
  have := mul_pos1 (a := - upI a b) (b := p.yd) (by omega) dp
  rw [Int.neg_mul] at this
  exact ⟨h, by omega⟩
/-- The first sign: of a's and p's heights. -/
theorem cmp_le {x y : Int} : (y < x ∧ ¬ cmpI x y ≤ 0) ∨ (¬ y < x ∧ cmpI x y ≤ 0) := by
  rcases cmpI_cases x y with ⟨h, e⟩ | ⟨h, e⟩ | ⟨h, e⟩ <;> omega
end Lead
