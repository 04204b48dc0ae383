/-
  Several texts as one: Base, Pl1, Pl7, Pl10, Pl11, Pl2, Pl3, Pl4, Pl5, Pl8, Pl6, Pl12.
-/
import Derived.WalkKit
import Derived.WalkSpells
import Derived.WalkLawsBesides
import Derived.Deep.QuietTactic
import Derived.Deep.Draws
import Derived.BigQuiet
import Derived.BigRegion
import Derived.RegionTactic
import Derived.ChangeAlike
import Derived.Handy
import Derived.Lib.Hide
import Derived.Deep.RegionHeld3
import Derived.Deep.RegionWith
/-
  Small general laws that all walks of this family use. No program in sight.
-/
namespace Lead
open Go Go.RowKit

/-- A 64-bit number. -/
def I64 (x : Int) : Prop := -9223372036854775808 ≤ x ∧ x ≤ 9223372036854775807

theorem I64.wf {x : Int} (h : (Lit.int .i64 x).wf = true) : I64 x := by
  simp [Lit.wf, IntKind.min, IntKind.max, IntKind.signed, IntKind.bits] at h
  unfold I64; omega

/-- A cell is known: so its block is there. -/
theorem zlt {w : World} {g : Nat} {v : Value} (h : w.cell? ⟨g, 0, none⟩ = some v) : g < w.heap.size := World.block_lt_of_cell? w _ h
theorem zlts {w : World} {g : Nat} {v : Value} (h : w.cell? ⟨g, 0, none⟩ = some v) : ∀ j, j ≤ g → j < w.heap.size := fun j hj => by have := zlt h; omega
theorem zne {w : World} {g : Nat} {v : Value} (h : w.cell? ⟨g, 0, none⟩ = some v) : ∀ j, j ≤ g → ¬ w.heap.size = j := fun j hj => by have := zlt h; omega
theorem gkeep {w w1 : World} {a : Addr} {v : Value} {B : Nat} (hb : Below B w w1) (h : w.cell? a = some v) (hB : B = w.heap.size) : w1.cell? a = some v := by
  rw [hb.cell (by rw [hB]; exact World.block_lt_of_cell? w _ h)]; exact h

/-- Behind a call: what lay before it reads as it did. -/
theorem bcell {W w1 : World} (hb : Below W.heap.size W w1) : (∀ b o, b < W.heap.size → w1.cell? ⟨b, o, none⟩ = W.cell? ⟨b, o, none⟩) ∧ (∀ b o, b < W.heap.size → w1.frozen? ⟨b, o, none⟩ = W.frozen? ⟨b, o, none⟩) :=
  ⟨fun b o h => hb.cell (p := ⟨b, o, none⟩) h, fun b o h => hb.frozen (p := ⟨b, o, none⟩) h⟩

theorem bwR (B : Nat) (w : World) : Below B w w := Below.refl B w
theorem bwA {B : Nat} {a w : World} (h : Below B a w) (hB : B ≤ w.heap.size) (o : Obj) : Below B a (w.alloc o) := h.alloc hB o
theorem bwD {B : Nat} {a w : World} (h : Below B a w) : Below B a w.drew := h.drew
theorem bwS {B : Nat} {a w : World} {p : Addr} (h : Below B a w) (hB : B ≤ p.block) (v : Value) : Below B a (w.setCell p v) := h.setCell hB v
theorem szA (w : World) (o : Obj) : (w.alloc o).heap.size = w.heap.size + 1 := World.size_alloc w o
theorem szD (w : World) : w.drew.heap.size = w.heap.size := World.size_drew w
theorem szS (w : World) (p : Addr) (v : Value) : (w.setCell p v).heap.size = w.heap.size := World.size_setCell _ _ _
theorem bdn {B n : Nat} {a w : World} (h : Below B a w) : Below B a (w.drewN n) := h.trans ⟨rfl, rfl, rfl, Nat.le_refl _, fun _ _ => rfl⟩

/-- A call that only makes memory: behind it, what is known. -/
theorem call_below {P : Program} {f : FuncId} {args : Array Value} {w W : World} {v : Value} {R : Ending → World → Prop} (hB : Below w.heap.size w W)
    (h : Below w.heap.size w W → Calls P f args W fun e w' => e = .returned v ∧ Below W.heap.size W w')
    (k : ∀ w1, Below w.heap.size w w1 → W.heap.size ≤ w1.heap.size → (∀ b o, b < W.heap.size → w1.cell? ⟨b, o, none⟩ = W.cell? ⟨b, o, none⟩) →
      (∀ b o, b < W.heap.size → w1.frozen? ⟨b, o, none⟩ = W.frozen? ⟨b, o, none⟩) → R (.returned v) w1) : Calls P f args W R :=
  (h hB).mono fun e w1 ⟨he, hb⟩ => by
    subst he
    exact k w1 (hB.trans (hb.mono hB.size)) hb.size (bcell hb).1 (bcell hb).2


end Lead

/-
  Plain laws on numbers: what the walks over package frac come to. No program in sight.
-/
namespace Lead
open Go Go.RowKit

theorem max_neg {x : Int} (hx : I64 x) (h : wrap64 (-x) ≤ x) : wrap64 (Int.gcd x 0) = x := by
  rw [Int.gcd_zero_right]
  unfold wrap64 at *; unfold I64 at hx; omega

theorem max_neg' {x : Int} (hx : I64 x) (h : x < wrap64 (-x)) : wrap64 (Int.gcd x 0) = wrap64 (-x) := by
  rw [Int.gcd_zero_right]
  unfold wrap64 at *; unfold I64 at hx; omega

theorem gcd_step {x y : Int} : Int.gcd y (x.tmod y) = Int.gcd x y := by
  have h : (Int.gcd y (x.tmod y)) = Nat.gcd y.natAbs (x.natAbs % y.natAbs) := by
    unfold Int.gcd; rw [Int.natAbs_tmod]
  rw [h, Nat.gcd_comm y.natAbs, ← Nat.gcd_rec, Nat.gcd_comm]
  rfl
  
theorem tmod_i64 {x y : Int} (hy : I64 y) (h0 : y ≠ 0) : I64 (x.tmod y) := by
  unfold I64 at *
  have h1 := Int.natAbs_tmod x y
  have h2 : x.natAbs % y.natAbs < y.natAbs := Nat.mod_lt _ (by omega)
  omega

theorem tmod_lt {x y : Int} (h0 : y ≠ 0) : (x.tmod y).natAbs < y.natAbs := by
  rw [Int.natAbs_tmod]
  exact Nat.mod_lt _ (by omega)

/-- Is a part of a fraction not too great? -/
def sml (x : Int) : Bool := decide (-1073741824 ≤ x ∧ x ≤ 1073741824)
theorem sml_true {x : Int} : sml x = true ↔ -1073741824 ≤ x ∧ x ≤ 1073741824 := by unfold sml; simp
/-- The number of the error of a fraction: 0 none, 2 ErrBound, 3 ErrShape. -/
def chk (n d : Int) : Nat := if d < 1 then 3 else if Int.gcd n d ≠ 1 then 3 else if sml n = true ∧ sml d = true then 0 else 2

theorem chk_cases (n d : Int) : (d < 1 ∧ chk n d = 3) ∨ (1 ≤ d ∧ Int.gcd n d ≠ 1 ∧ chk n d = 3) ∨ (1 ≤ d ∧ Int.gcd n d = 1 ∧ sml n = false ∧ chk n d = 2) ∨
    (1 ≤ d ∧ Int.gcd n d = 1 ∧ sml n = true ∧ sml d = false ∧ chk n d = 2) ∨ (1 ≤ d ∧ Int.gcd n d = 1 ∧ sml n = true ∧ sml d = true ∧ chk n d = 0) := by
  unfold chk
  by_cases h1 : d < 1
  · simp [h1]
  · by_cases h2 : Int.gcd n d = 1
    · cases h3 : sml n <;> cases h4 : sml d <;> simp [h1, h2] <;> omega
    · simp [h1, h2]; omega

theorem gcd_wrap1 {n d : Int} (h : 1 ≤ d) (hd : I64 d) : wrap64 (Int.gcd n d) = Int.gcd n d := by
  apply IntWalk.wrap64_in
  have h1 : Int.gcd n d ≤ d.natAbs := Nat.le_of_dvd (by omega) (Int.gcd_dvd_natAbs_right n d)
  unfold I64 at hd
  omega

/-- An error by its number; where the errors lie: 'ea'. -/
def evl (T : Nat) (ea : Nat → Addr) (c : Nat) : Value := if c = 0 then .nilIface else .iface T (.pointer (some (ea c)))
theorem evl_0 {T : Nat} {ea : Nat → Addr} {c : Nat} (h : c = 0) : evl T ea c = .nilIface := by unfold evl; rw [if_pos h]
theorem evl_n {T : Nat} {ea : Nat → Addr} {c : Nat} (h : c ≠ 0) : evl T ea c = .iface T (.pointer (some (ea c))) := by unfold evl; rw [if_neg h]

/-- What a function of package frac answers: a fraction and an error's number. -/
def frV (T : Nat) (ea : Nat → Addr) (c : Nat) (q r : Int) : Value :=
  if c = 0 then .tuple #[.agg #[.int .i64 q, .int .i64 r], .nilIface] else .tuple #[.agg #[.int .i64 0, .int .i64 0], .iface T (.pointer (some (ea c)))]
theorem frV_0 {T : Nat} {ea : Nat → Addr} {c : Nat} {q r : Int} (h : c = 0) : frV T ea c q r = .tuple #[.agg #[.int .i64 q, .int .i64 r], .nilIface] := by unfold frV; rw [if_pos h]
theorem frV_n {T : Nat} {ea : Nat → Addr} {c : Nat} {q r : Int} (h : c ≠ 0) : frV T ea c q r = .tuple #[.agg #[.int .i64 0, .int .i64 0], .iface T (.pointer (some (ea c)))] := by unfold frV; rw [if_neg h]

/-- Lowest terms: by what both parts are divided; the parts; the error's number. -/
def lowG (n d : Int) : Int := if d < 0 then -(Int.gcd n d : Int) else (Int.gcd n d : Int)
def lowN (n d : Int) : Int := n.tdiv (lowG n d)
def lowD (n d : Int) : Int := d.tdiv (lowG n d)
def lowC (n d : Int) : Nat := if sml (lowN n d) = true ∧ sml (lowD n d) = true then 0 else 2
theorem lowC_cases (n d : Int) : (sml (lowN n d) = false ∧ lowC n d = 2) ∨ (sml (lowN n d) = true ∧ sml (lowD n d) = false ∧ lowC n d = 2) ∨ (sml (lowN n d) = true ∧ sml (lowD n d) = true ∧ lowC n d = 0) := by
  unfold lowC
  cases h1 : sml (lowN n d) <;> cases h2 : sml (lowD n d) <;> simp

/-- A number that can be divided and put together without a wrap. -/
def B62 (x : Int) : Prop := -4611686018427387904 ≤ x ∧ x ≤ 4611686018427387904
theorem B62.i64 {x : Int} (h : B62 x) : I64 x := by unfold B62 at h; unfold I64; omega

theorem tdiv_abs (x g : Int) : (x.tdiv g).natAbs ≤ x.natAbs := by
  rw [Int.natAbs_tdiv]; exact Nat.div_le_self _ _
theorem wrap_tdiv {x g : Int} (h : B62 x) : wrap64 (x.tdiv g) = x.tdiv g := by
  apply IntWalk.wrap64_in
  have := tdiv_abs x g
  unfold B62 at h
  omega
theorem gcd_b62 {n d : Int} (hd : B62 d) (h0 : d ≠ 0) : (1 : Int) ≤ Int.gcd n d ∧ B62 (Int.gcd n d) := by
  have h1 : Int.gcd n d ≤ d.natAbs := Nat.le_of_dvd (by omega) (Int.gcd_dvd_natAbs_right n d)
  have h2 := Int.gcd_pos_of_ne_zero_right n h0
  unfold B62 at *
  omega
theorem gcd_wrapB {n d : Int} (hd : B62 d) (h0 : d ≠ 0) : wrap64 (Int.gcd n d) = Int.gcd n d := by
  have := (gcd_b62 (n := n) hd h0).2
  apply IntWalk.wrap64_in
  unfold B62 at this; omega
theorem neg_wrapB {g : Int} (h : B62 g) : wrap64 (-g) = -g := by
  apply IntWalk.wrap64_in
  unfold B62 at h; omega

/-- The number of the first error of two fractions. -/
def bothC (n d n' d' : Int) : Nat := if chk n d = 0 then chk n' d' else chk n d
/-- .. and of what is reckoned out of them. -/
def opC (n d n' d' x y : Int) : Nat := if bothC n d n' d' = 0 then lowC x y else bothC n d n' d'
theorem opC_cases (n d n' d' x y : Int) : (bothC n d n' d' ≠ 0 ∧ opC n d n' d' x y = bothC n d n' d') ∨ (bothC n d n' d' = 0 ∧ opC n d n' d' x y = lowC x y) := by
  unfold opC; by_cases h : bothC n d n' d' = 0
  · exact .inr ⟨h, if_pos h⟩
  · exact .inl ⟨h, if_neg h⟩

/-- What a right fraction has. -/
structure Right (n d : Int) : Prop where
  n0 : -1073741824 ≤ n
  n1 : n ≤ 1073741824
  d0 : 1 ≤ d
  d1 : d ≤ 1073741824
  gcd : Int.gcd n d = 1
theorem chk_0 {n d : Int} (h : chk n d = 0) : Right n d := by
  rcases chk_cases n d with ⟨_, hc⟩ | ⟨_, _, hc⟩ | ⟨_, _, _, hc⟩ | ⟨_, _, _, _, hc⟩ | ⟨h1, h2, h3, h4, hc⟩
  · omega
  · omega
  · omega
  · omega
  · rw [sml_true] at h3 h4
    exact ⟨h3.1, h3.2, h1, h4.2, h2⟩
theorem chk_right {n d : Int} (h : Right n d) : chk n d = 0 := by
  obtain ⟨h1, h2, h3, h4, h5⟩ := h
  have a : sml n = true := sml_true.2 ⟨h1, h2⟩
  have b : sml d = true := sml_true.2 ⟨by omega, h4⟩
  unfold chk
  rw [if_neg (by omega), if_neg (by omega), if_pos ⟨a, b⟩]
theorem bothC_0 {n d n' d' : Int} (h : bothC n d n' d' = 0) : Right n d ∧ Right n' d' := by
  unfold bothC at h
  by_cases h1 : chk n d = 0
  · rw [if_pos h1] at h; exact ⟨chk_0 h1, chk_0 h⟩
  · rw [if_neg h1] at h; exact absurd h h1

theorem mul_abs {a b A B : Int} (ha : -A ≤ a ∧ a ≤ A) (hb : -B ≤ b ∧ b ≤ B) : -(A * B) ≤ a * b ∧ a * b ≤ A * B := by
  have h1 : a.natAbs ≤ A.toNat := by omega
  have h2 : b.natAbs ≤ B.toNat := by omega
  have h3 : (a * b).natAbs ≤ A.toNat * B.toNat := by rw [Int.natAbs_mul]; exact Nat.mul_le_mul h1 h2
  have h4 : ((A.toNat * B.toNat : Nat) : Int) = A * B := by rw [Int.natCast_mul, Int.toNat_of_nonneg (by omega), Int.toNat_of_nonneg (by omega)]
  omega
theorem mul_30 {a b : Int} (ha : -1073741824 ≤ a ∧ a ≤ 1073741824) (hb : -1073741824 ≤ b ∧ b ≤ 1073741824) : -1152921504606846976 ≤ a * b ∧ a * b ≤ 1152921504606846976 := by
  have := mul_abs ha hb
  omega
theorem mul_pos1 {a b : Int} (ha : 1 ≤ a) (hb : 1 ≤ b) : 1 ≤ a * b := by
  have := Int.mul_pos (show 0 < a by omega) (show 0 < b by omega)
  omega

theorem wrap_60 {x : Int} (h : -2305843009213693952 ≤ x ∧ x ≤ 2305843009213693952) : wrap64 x = x := by
  apply IntWalk.wrap64_in; omega
theorem Right.nb {n d : Int} (h : Right n d) : -1073741824 ≤ n ∧ n ≤ 1073741824 := ⟨h.n0, h.n1⟩
theorem Right.db {n d : Int} (h : Right n d) : -1073741824 ≤ d ∧ d ≤ 1073741824 := ⟨by have := h.d0; omega, h.d1⟩
theorem Right.ni {n d : Int} (h : Right n d) : I64 n := by have := h.nb; unfold I64; omega
theorem Right.di {n d : Int} (h : Right n d) : I64 d := by have := h.db; unfold I64; omega
theorem add_facts {n d n' d' : Int} (h : Right n d) (h' : Right n' d') : ∃ p1 p2, wrap64 (n * d') = p1 ∧ wrap64 (n' * d) = p2 ∧ wrap64 (p1 + p2) = n * d' + n' * d ∧ wrap64 (d * d') = d * d' ∧
    B62 (n * d' + n' * d) ∧ B62 (d * d') ∧ d * d' ≠ 0 := by
  have a := mul_30 h.nb h'.db
  have b := mul_30 h'.nb h.db
  have c := mul_30 h.db h'.db
  have e := mul_pos1 h.d0 h'.d0
  refine ⟨_, _, wrap_60 (by omega), wrap_60 (by omega), wrap_60 (by omega), wrap_60 (by omega), ?_, ?_, by omega⟩ <;> (unfold B62; omega)
theorem mul_facts {n d n' d' : Int} (h : Right n d) (h' : Right n' d') : wrap64 (n * n') = n * n' ∧ wrap64 (d * d') = d * d' ∧ B62 (n * n') ∧ B62 (d * d') ∧ d * d' ≠ 0 := by
  have a := mul_30 h.nb h'.nb
  have c := mul_30 h.db h'.db
  have e := mul_pos1 h.d0 h'.d0
  refine ⟨wrap_60 (by omega), wrap_60 (by omega), ?_, ?_, by omega⟩ <;> (unfold B62; omega)
/-- Package shape's small: of a right fraction. -/
def shSml (n d : Int) : Bool := decide (d ≤ 20 ∧ n ≤ 1000 * d ∧ -1000 * d ≤ n)
/-- The number of a point's error. -/
def ptC (xn xd yn yd : Int) : Nat := if chk xn xd ≠ 0 then chk xn xd else if chk yn yd ≠ 0 then chk yn yd else if shSml xn xd = true ∧ shSml yn yd = true then 0 else 2
theorem ptC_cases (xn xd yn yd : Int) : (chk xn xd ≠ 0 ∧ ptC xn xd yn yd = chk xn xd) ∨ (chk xn xd = 0 ∧ chk yn yd ≠ 0 ∧ ptC xn xd yn yd = chk yn yd) ∨ (chk xn xd = 0 ∧ chk yn yd = 0 ∧ shSml xn xd = false ∧ ptC xn xd yn yd = 2) ∨
    (chk xn xd = 0 ∧ chk yn yd = 0 ∧ shSml xn xd = true ∧ shSml yn yd = false ∧ ptC xn xd yn yd = 2) ∨ (chk xn xd = 0 ∧ chk yn yd = 0 ∧ shSml xn xd = true ∧ shSml yn yd = true ∧ ptC xn xd yn yd = 0) := by
  unfold ptC
  by_cases h1 : chk xn xd = 0 <;> by_cases h2 : chk yn yd = 0 <;> cases h3 : shSml xn xd <;> cases h4 : shSml yn yd <;> simp [h1, h2]
end Lead

/-
  Plain: fractions in lowest terms: what they are, when they are one, their order and their sums.
-/
namespace Lead
open Go Go.RowKit

theorem low_spec {n d : Int} (hd : 1 ≤ d) : ∃ g : Int, 1 ≤ g ∧ n = g * lowN n d ∧ d = g * lowD n d ∧ Int.gcd (lowN n d) (lowD n d) = 1 ∧ 1 ≤ lowD n d := by
  have hg0 : 0 < Int.gcd n d := Int.gcd_pos_iff.2 (.inr (by omega))
  have hG : lowG n d = (Int.gcd n d : Int) := by unfold lowG; rw [if_neg (by omega)]
  have e1 : n = (Int.gcd n d : Int) * lowN n d := by unfold lowN; rw [hG]; exact (Int.mul_tdiv_cancel' (Int.gcd_dvd_left n d)).symm
  have e2 : d = (Int.gcd n d : Int) * lowD n d := by unfold lowD; rw [hG]; exact (Int.mul_tdiv_cancel' (Int.gcd_dvd_right n d)).symm
  refine ⟨(Int.gcd n d : Int), by omega, e1, e2, ?_, ?_⟩
  · unfold lowN lowD
    rw [hG, Int.tdiv_eq_ediv_of_dvd (Int.gcd_dvd_left n d), Int.tdiv_eq_ediv_of_dvd (Int.gcd_dvd_right n d)]
    exact Int.gcd_ediv_gcd_ediv_gcd hg0
  · have h1 : (0 : Int) < (Int.gcd n d : Int) := by omega
    have h2 : 0 < (Int.gcd n d : Int) * lowD n d := by omega
    have := Int.pos_of_mul_pos_right h2 (by omega)
    omega

/-- Lowest terms that are not too great are right. -/
theorem low_right {n d : Int} (hd : 1 ≤ d) (hc : lowC n d = 0) : Right (lowN n d) (lowD n d) := by
  obtain ⟨g, h1, h2, h3, h4, h5⟩ := low_spec (n := n) hd
  rcases lowC_cases n d with ⟨_, h⟩ | ⟨_, _, h⟩ | ⟨h6, h7, _⟩
  · omega
  · omega
  · have h6 := sml_true.1 h6; have h7 := sml_true.1 h7
    exact chk_0 (by
      rcases chk_cases (lowN n d) (lowD n d) with ⟨h, _⟩ | ⟨_, h, _⟩ | ⟨_, _, h, _⟩ | ⟨_, _, _, h, _⟩ | ⟨_, _, _, _, h⟩
      · omega
      · exact absurd h4 h
      · rw [sml_true.2 h6] at h; cases h
      · rw [sml_true.2 h7] at h; cases h
      · exact h)
theorem low_eq {n d : Int} (hd : 1 ≤ d) : lowN n d * d = n * lowD n d := by
  obtain ⟨g, h1, h2, h3, _⟩ := low_spec (n := n) hd
  calc lowN n d * d = lowN n d * (g * lowD n d) := by rw [← h3]
    _ = (g * lowN n d) * lowD n d := by grind
    _ = n * lowD n d := by rw [← h2]
theorem Right.co {n d : Int} (h : Right n d) : Int.gcd n d = 1 := by
  have := chk_right h
  rcases chk_cases n d with ⟨_, h⟩ | ⟨_, _, h⟩ | ⟨_, h, _⟩ | ⟨_, h, _⟩ | ⟨_, h, _⟩
  · omega
  · omega
  · exact h
  · exact h
  · exact h

theorem dvd_co {a b c : Int} (h : Int.gcd a b = 1) (hd : b ∣ a * c) : b ∣ c := by
  rw [← Int.natAbs_dvd_natAbs] at hd ⊢
  rw [Int.natAbs_mul] at hd
  exact Nat.Coprime.dvd_of_dvd_mul_left (by rw [Nat.Coprime, Nat.gcd_comm]; exact h) hd
/-- Two right fractions of one value are one. -/
theorem right_one {a b c d : Int} (h1 : Int.gcd a b = 1) (hb : 1 ≤ b) (h2 : Int.gcd c d = 1) (hd : 1 ≤ d) (h : a * d = c * b) : a = c ∧ b = d := by
  have e1 : b ∣ d := dvd_co h1 ⟨c, by grind⟩
  have e2 : d ∣ b := dvd_co h2 ⟨a, by grind⟩
  have e : b = d := Int.dvd_antisymm (by omega) (by omega) e1 e2
  subst e
  exact ⟨Int.eq_of_mul_eq_mul_right (by omega) h, rfl⟩
/-- A fraction. -/
structure Fr where
  n : Int
  d : Int
def Fr.R (a : Fr) : Prop := Right a.n a.d
def Fr.c (a : Fr) : Nat := chk a.n a.d
def addN (a b : Fr) : Int := a.n * b.d + b.n * a.d
def addD (a b : Fr) : Int := a.d * b.d
def Fr.add (a b : Fr) : Fr := ⟨lowN (addN a b) (addD a b), lowD (addN a b) (addD a b)⟩
def Fr.addC (a b : Fr) : Nat := lowC (addN a b) (addD a b)

theorem addD_pos {a b : Fr} (ha : 1 ≤ a.d) (hb : 1 ≤ b.d) : 1 ≤ addD a b := mul_pos1 ha hb
theorem add_right {a b : Fr} (ha : 1 ≤ a.d) (hb : 1 ≤ b.d) (hc : a.addC b = 0) : (a.add b).R := low_right (addD_pos ha hb) hc
end Lead

/-
  Plain: what was added is taken off, what was multiplied divided.
-/
namespace Lead
open Go Go.RowKit

/-- Lowest terms, whatever the sign below. -/
theorem low_any {n d : Int} (hd : d ≠ 0) : lowN n d * d = n * lowD n d ∧ Int.gcd (lowN n d) (lowD n d) = 1 ∧ 1 ≤ lowD n d := by
  rcases Int.lt_or_gt_of_ne hd with h | h
  · have hg0 : 0 < Int.gcd n d := Int.gcd_pos_iff.2 (.inr (by omega))
    have hG : lowG n d = -(Int.gcd n d : Int) := by unfold lowG; rw [if_pos h]
    have d1 : -(Int.gcd n d : Int) ∣ n := Int.neg_dvd.2 (Int.gcd_dvd_left n d)
    have d2 : -(Int.gcd n d : Int) ∣ d := Int.neg_dvd.2 (Int.gcd_dvd_right n d)
    have e1 : n = -(Int.gcd n d : Int) * lowN n d := by unfold lowN; rw [hG]; exact (Int.mul_tdiv_cancel' d1).symm
    have e2 : d = -(Int.gcd n d : Int) * lowD n d := by unfold lowD; rw [hG]; exact (Int.mul_tdiv_cancel' d2).symm
    have e3 : Int.gcd n d = Int.gcd n d * Int.gcd (lowN n d) (lowD n d) := by
      have : Int.gcd n d = Int.gcd (-(Int.gcd n d : Int) * lowN n d) (-(Int.gcd n d : Int) * lowD n d) := by rw [← e1, ← e2]
      rw [Int.gcd_mul_left] at this
      simpa using this
    refine ⟨?_, ?_, ?_⟩
    · generalize (Int.gcd n d : Int) = g at e1 e2
      calc lowN n d * d = lowN n d * (-g * lowD n d) := by rw [← e2]
        _ = (-g * lowN n d) * lowD n d := by grind
        _ = n * lowD n d := by rw [← e1]
    · exact Nat.eq_of_mul_eq_mul_left hg0 (by rw [← e3, Nat.mul_one])
    · have h1 : (0 : Int) < (Int.gcd n d : Int) := by omega
      have h2 : 0 < (Int.gcd n d : Int) * lowD n d := by
        have : (Int.gcd n d : Int) * lowD n d = -d := by
          have := e2; rw [Int.neg_mul] at this; omega
        omega
      have := Int.pos_of_mul_pos_right h2 (by omega)
      omega
  · obtain ⟨g, h1, h2, h3, h4, h5⟩ := low_spec (n := n) (d := d) (by omega)
    exact ⟨low_eq (by omega), h4, h5⟩
/-- A fraction that is of a right one's value comes out as that one, without an error. -/
theorem low_same {n d : Int} (hd : d ≠ 0) {a : Fr} (ha : a.R) (h : n * a.d = a.n * d) : lowN n d = a.n ∧ lowD n d = a.d ∧ lowC n d = 0 := by
  obtain ⟨e1, e2, e3⟩ := low_any (n := n) hd
  have e4 : lowN n d * a.d = a.n * lowD n d := by
    refine Int.eq_of_mul_eq_mul_right hd ?_
    have l1 : lowN n d * a.d * d = (lowN n d * d) * a.d := by grind
    have l2 : a.n * lowD n d * d = (a.n * d) * lowD n d := by grind
    rw [l1, l2, e1, ← h]; grind
  obtain ⟨h1, h2⟩ := right_one e2 e3 ha.co ha.d0 e4
  refine ⟨h1, h2, ?_⟩
  unfold lowC
  rw [h1, h2, if_pos ⟨sml_true.2 ha.nb, sml_true.2 ha.db⟩]

def mulN (a b : Fr) : Int := a.n * b.n
def Fr.mul (a b : Fr) : Fr := ⟨lowN (mulN a b) (addD a b), lowD (mulN a b) (addD a b)⟩
def Fr.mulC (a b : Fr) : Nat := lowC (mulN a b) (addD a b)
theorem mul_eq {a b : Fr} (ha : 1 ≤ a.d) (hb : 1 ≤ b.d) : (a.mul b).n * (a.d * b.d) = a.n * b.n * (a.mul b).d := low_eq (addD_pos ha hb)
theorem mul_right {a b : Fr} (ha : 1 ≤ a.d) (hb : 1 ≤ b.d) (hc : a.mulC b = 0) : (a.mul b).R := low_right (addD_pos ha hb) hc
theorem mul_zero {a b : Fr} (ha : 1 ≤ a.d) (hb : 1 ≤ b.d) (h0 : b.n = 0) : (a.mul b).n = 0 := by
  have e := mul_eq (a := a) (b := b) ha hb
  rw [h0, Int.mul_zero, Int.zero_mul] at e
  have := mul_pos1 ha hb
  rcases Int.mul_eq_zero.1 e with h | h
  · exact h
  · omega
end Lead

/-
  Plain: the reference's lowest terms are package frac's; values with an error's number.
-/
namespace Lead
open Go Go.RowKit

/-- A number where there is no error, else 0. -/
def z0 (c : Nat) (q : Int) : Int := if c = 0 then q else 0
theorem z0_0 {c : Nat} {q : Int} (h : c = 0) : z0 c q = q := by unfold z0; rw [if_pos h]
theorem z0_n {c : Nat} {q : Int} (h : c ≠ 0) : z0 c q = 0 := by unfold z0; rw [if_neg h]
theorem frV_z (T : Nat) (ea : Nat → Addr) (c : Nat) (q r : Int) : frV T ea c q r = .tuple #[.agg #[.int .i64 (z0 c q), .int .i64 (z0 c r)], evl T ea c] := by
  by_cases h : c = 0
  · rw [frV_0 h, z0_0 h, z0_0 h, evl_0 h]
  · rw [frV_n h, z0_n h, z0_n h, evl_n h]
/-- What the reference answers: a fraction and an error's number. -/
def frN (c : Nat) (q r : Int) : Value := .tuple #[.agg #[.int .i64 (z0 c q), .int .i64 (z0 c r)], .int .i64 c]
theorem frN_0 {c : Nat} {q r : Int} (h : c = 0) : frN c q r = .tuple #[.agg #[.int .i64 q, .int .i64 r], .int .i64 0] := by unfold frN; rw [z0_0 h, z0_0 h, h]; rfl
theorem frN_n {c : Nat} {q r : Int} (h : c ≠ 0) : frN c q r = .tuple #[.agg #[.int .i64 0, .int .i64 0], .int .i64 c] := by unfold frN; rw [z0_n h, z0_n h]

theorem both_cases (n d n' d' : Int) : (chk n d ≠ 0 ∧ bothC n d n' d' = chk n d) ∨ (chk n d = 0 ∧ chk n' d' ≠ 0 ∧ bothC n d n' d' = chk n' d') ∨ (chk n d = 0 ∧ chk n' d' = 0 ∧ bothC n d n' d' = 0) := by
  unfold bothC
  by_cases h1 : chk n d = 0
  · by_cases h2 : chk n' d' = 0
    · exact .inr (.inr ⟨h1, h2, by rw [if_pos h1, h2]⟩)
    · exact .inr (.inl ⟨h1, h2, by rw [if_pos h1]⟩)
  · exact .inl ⟨h1, by rw [if_neg h1]⟩
theorem chk_low {n d : Int} (h0 : d ≠ 0) : chk (lowN n d) (lowD n d) = lowC n d := by
  obtain ⟨_, e2, e3⟩ := low_any (n := n) h0
  unfold chk lowC
  rw [if_neg (by omega), if_neg (by omega)]
theorem low_neg {n d : Int} (h : d < 0) : (-n).tdiv (Int.gcd (-n) (-d) : Int) = lowN n d ∧ (-d).tdiv (Int.gcd (-n) (-d) : Int) = lowD n d := by
  unfold lowN lowD lowG
  rw [if_pos h, Int.gcd_neg, Int.neg_gcd, Int.neg_tdiv, Int.neg_tdiv, Int.tdiv_neg, Int.tdiv_neg]
  exact ⟨rfl, rfl⟩
theorem low_pos {n d : Int} (h : ¬ d < 0) : n.tdiv (Int.gcd n d : Int) = lowN n d ∧ d.tdiv (Int.gcd n d : Int) = lowD n d := by
  unfold lowN lowD lowG
  rw [if_neg h]
  exact ⟨rfl, rfl⟩
theorem B62.neg {x : Int} (h : B62 x) : B62 (-x) := by unfold B62 at *; omega
theorem lowN_i64 {n d : Int} (h : B62 n) : I64 (lowN n d) := by
  have := tdiv_abs n (lowG n d)
  unfold B62 at h; unfold I64 lowN; omega
theorem lowD_i64 {n d : Int} (h : B62 d) : I64 (lowD n d) := by
  have := tdiv_abs d (lowG n d)
  unfold B62 at h; unfold I64 lowD; omega
end Lead

/-
  Plain: points, shapes; how they lie in memory; errors with a place.
-/
namespace Lead
open Go Go.RowKit

/-- A point. -/
structure Pt where
  xn : Int
  xd : Int
  yn : Int
  yd : Int

def Pt.c (p : Pt) : Nat := ptC p.xn p.xd p.yn p.yd
structure Pt.I (p : Pt) : Prop where
  xn : I64 p.xn
  xd : I64 p.xd
  yn : I64 p.yn
  yd : I64 p.yd

/-- Points that lie from a place on. -/
structure PtsIn (w : World) (b off : Nat) (ps : List Pt) : Prop where
  c0 : ∀ i (h : i < ps.length), w.cell? ⟨b, off + i * 4, none⟩ = some (.int .i64 ps[i].xn)
  c1 : ∀ i (h : i < ps.length), w.cell? ⟨b, off + i * 4 + 1, none⟩ = some (.int .i64 ps[i].xd)
  c2 : ∀ i (h : i < ps.length), w.cell? ⟨b, off + i * 4 + 2, none⟩ = some (.int .i64 ps[i].yn)
  c3 : ∀ i (h : i < ps.length), w.cell? ⟨b, off + i * 4 + 3, none⟩ = some (.int .i64 ps[i].yd)

theorem PtsIn.keep {w w1 : World} {b off : Nat} {ps : List Pt} {B : Nat} (h : PtsIn w b off ps) (hb : Below B w w1) (hB : b < B) : PtsIn w1 b off ps :=
  ⟨fun i hi => by rw [hb.cell hB]; exact h.c0 i hi, fun i hi => by rw [hb.cell hB]; exact h.c1 i hi, fun i hi => by rw [hb.cell hB]; exact h.c2 i hi, fun i hi => by rw [hb.cell hB]; exact h.c3 i hi⟩
theorem PtsIn.lt {w : World} {b off : Nat} {ps : List Pt} (h : PtsIn w b off ps) (h0 : 0 < ps.length) : b < w.heap.size := by
  have := World.block_lt_of_cell? w _ (h.c0 0 h0); exact this

/-- A slice of points: nil, or points that lie from a place on. -/
def SlP (w : World) (oa : Option Addr) (len cap : Nat) (ps : List Pt) : Prop :=
  len = ps.length ∧ len ≤ cap ∧ len ≤ maxLen ∧ (∀ p ∈ ps, p.I) ∧ ((oa = none ∧ len = 0 ∧ cap = 0) ∨ ∃ b off, oa = some ⟨b, off, none⟩ ∧ b < w.heap.size ∧ PtsIn w b off ps)
theorem SlP.keep {w w1 : World} {oa : Option Addr} {len cap : Nat} {ps : List Pt} {B : Nat} (h : SlP w oa len cap ps) (hb : Below B w w1) (hB : B = w.heap.size) : SlP w1 oa len cap ps := by
  obtain ⟨h1, h2, h3, h4, h5⟩ := h
  refine ⟨h1, h2, h3, h4, ?_⟩
  rcases h5 with h5 | ⟨b, off, h6, h7, h8⟩
  · exact .inl h5
  · exact .inr ⟨b, off, h6, Nat.lt_of_lt_of_le h7 hb.size, h8.keep hb (by omega)⟩

/-- An error: a bare one of package api, or one with a place (in new memory). -/
def ErrAt (T F : Nat) (ea : Nat → Addr) (lo : Nat) (w : World) (v : Value) (c : Nat × Option Nat) : Prop :=
  match c.2 with
  | none => v = evl T ea c.1
  | some i => c.1 ≠ 0 ∧ ∃ b, lo ≤ b ∧ v = .iface F (.pointer (some ⟨b, 0, none⟩)) ∧ w.cell? ⟨b, 0, none⟩ = some (.int .i64 i) ∧ w.cell? ⟨b, 1, none⟩ = some (.iface T (.pointer (some (ea c.1))))
theorem ErrAt.keep {T F : Nat} {ea : Nat → Addr} {lo lo' B : Nat} {w w' : World} {v : Value} {c : Nat × Option Nat} (h : ErrAt T F ea lo w v c) (hb : Below B w w') (hB : B = w.heap.size) (hl : lo' ≤ lo) : ErrAt T F ea lo' w' v c := by
  obtain ⟨c1, c2⟩ := c
  cases c2 with
  | none => exact h
  | some i =>
    obtain ⟨h0, b, h1, h2, h3, h4⟩ := h
    exact ⟨h0, b, by omega, h2, gkeep hb h3 hB, gkeep hb h4 hB⟩
theorem ErrAt.nil {T F : Nat} {ea : Nat → Addr} {lo : Nat} {w : World} {v : Value} {c : Nat × Option Nat} (h : ErrAt T F ea lo w v c) (h0 : c = (0, none)) : v = .nilIface := by
  subst h0; exact h.trans (evl_0 rfl)

/-- A call that answers one error. -/
def RetE (T F : Nat) (ea : Nat → Addr) (c : Nat × Option Nat) (w : World) (e : Ending) (w' : World) : Prop :=
  ∃ v, e = .returned v ∧ ErrAt T F ea w.heap.size w' v c ∧ Below w.heap.size w w'

/-- A call that answers one error: behind it, what is known. -/
theorem call_e {P : Program} {f : FuncId} {args : Array Value} {w W : World} {R : Ending → World → Prop} {T F : Nat} {ea : Nat → Addr} {c : Nat × Option Nat} (hB : Below w.heap.size w W)
    (h : Below w.heap.size w W → Calls P f args W (RetE T F ea c W))
    (k : ∀ v w1, ErrAt T F ea W.heap.size w1 v c → Below w.heap.size w w1 → W.heap.size ≤ w1.heap.size → (∀ b o, b < W.heap.size → w1.cell? ⟨b, o, none⟩ = W.cell? ⟨b, o, none⟩) →
      (∀ b o, b < W.heap.size → w1.frozen? ⟨b, o, none⟩ = W.frozen? ⟨b, o, none⟩) → R (.returned v) w1) : Calls P f args W R :=
  (h hB).mono fun e w1 ⟨v, he, hv, hb⟩ => by
    subst he
    exact k v w1 hv (hB.trans (hb.mono hB.size)) hb.size (bcell hb).1 (bcell hb).2
end Lead

/-
  Plain: which edges are crossed.
-/
namespace Lead
open Go Go.RowKit

/-- An own row is what it was, behind a call that makes memory alone. -/
theorem own_below {w w' : World} {base : Nat} {e : TypeId} {size : Nat} {v : Value} {n : Nat} {xs : List Value} (h : w.ownsRow base e size v n xs) (hb : Below w.heap.size w w') : w'.ownsRow base e size v n xs := by
  obtain ⟨h1, h2⟩ := h
  refine ⟨h1, ?_⟩
  rcases h2 with h2 | ⟨g, cap, cur, h3, h4, h5, h6⟩
  · exact .inl h2
  · refine .inr ⟨g, cap, cur, h3, h4, ?_, h6⟩
    have hg : g < w.heap.size := by
      rcases Nat.lt_or_ge g w.heap.size with h | h
      · exact h
      · rw [Array.getElem?_eq_none h] at h5; exact absurd h5 (by simp)
    rw [hb.block g hg]; exact h5
theorem own_base {w : World} {base base' : Nat} {e : TypeId} {size : Nat} {v : Value} {n : Nat} {xs : List Value} (h : w.ownsRow base e size v n xs) (hb : base' ≤ base) : w.ownsRow base' e size v n xs := by
  obtain ⟨h1, h2⟩ := h
  refine ⟨h1, ?_⟩
  rcases h2 with h2 | ⟨g, cap, cur, h3, h4, h5⟩
  · exact .inl h2
  · exact .inr ⟨g, cap, cur, h3, by omega, h5⟩
/-- A point that is right, as package shape asks. -/
structure PtOk (p : Pt) : Prop where
  x : Right p.xn p.xd
  y : Right p.yn p.yd
  xs : p.xd ≤ 20 ∧ p.xn ≤ 1000 * p.xd ∧ -1000 * p.xd ≤ p.xn
  ys : p.yd ≤ 20 ∧ p.yn ≤ 1000 * p.yd ∧ -1000 * p.yd ≤ p.yn
theorem pt_ok {p : Pt} (h : p.c = 0) : PtOk p := by
  rcases ptC_cases p.xn p.xd p.yn p.yd with ⟨h5, hc⟩ | ⟨h5, h6, hc⟩ | ⟨h5, h6, h7, hc⟩ | ⟨h5, h6, h7, h8, hc⟩ | ⟨h5, h6, h7, h8, hc⟩
  · exact absurd (hc.symm.trans h) h5
  · exact absurd (hc.symm.trans h) h6
  · exact absurd (hc.symm.trans h) (by decide)
  · exact absurd (hc.symm.trans h) (by decide)
  · refine ⟨chk_0 h5, chk_0 h6, ?_, ?_⟩
    · unfold shSml at h7; simpa using h7
    · unfold shSml at h8; simpa using h8
theorem PtOk.c0 {p : Pt} (h : PtOk p) : p.c = 0 := by
  have h1 := chk_right h.x
  have h2 := chk_right h.y
  have h3 : shSml p.xn p.xd = true := by unfold shSml; simpa using h.xs
  have h4 : shSml p.yn p.yd = true := by unfold shSml; simpa using h.ys
  unfold Pt.c ptC
  rw [if_neg (by omega), if_neg (by omega), if_pos ⟨h3, h4⟩]
theorem PtOk.I {p : Pt} (h : PtOk p) : p.I := ⟨h.x.ni, h.x.di, h.y.ni, h.y.di⟩
theorem PtOk.b {p : Pt} (h : PtOk p) : (-20000 ≤ p.xn ∧ p.xn ≤ 20000) ∧ (-20 ≤ p.xd ∧ p.xd ≤ 20) ∧ (-20000 ≤ p.yn ∧ p.yn ≤ 20000) ∧ (-20 ≤ p.yd ∧ p.yd ≤ 20) := by
  have h1 := h.xs; have h2 := h.ys; have h3 := h.x.d0; have h4 := h.y.d0
  omega

theorem mb {a b : Int} (A B C : Int) (ha : -A ≤ a ∧ a ≤ A) (hb : -B ≤ b ∧ b ≤ B) (hC : A * B = C) : -C ≤ a * b ∧ a * b ≤ C := by
  have := mul_abs ha hb; rw [hC] at this; exact this

/-- A call that answers a list of numbers in memory of its own, and no error. -/
def RetL (e : TypeId) (l : List Int) (w : World) (en : Ending) (w' : World) : Prop :=
  ∃ v, en = .returned (.tuple #[v, .nilIface]) ∧ w'.ownsRow w.heap.size e 1 v l.length (l.map (Value.int .i64)) ∧ Below w.heap.size w w'

/-- A call that answers a list of numbers in memory of its own, and an error. -/
def RetLE (T F : Nat) (ea : Nat → Addr) (e : TypeId) (c : Nat × Option Nat) (l : List Int) (w : World) (en : Ending) (w' : World) : Prop :=
  ∃ v x, en = .returned (.tuple #[v, x]) ∧ ErrAt T F ea w.heap.size w' x c ∧ w'.ownsRow w.heap.size e 1 v l.length (l.map (Value.int .i64)) ∧ Below w.heap.size w w'
theorem RetL.le {T F : Nat} {ea : Nat → Addr} {e : TypeId} {c : Nat × Option Nat} {l l' : List Int} {w : World} {en : Ending} {w' : World} (h : RetL e l w en w') (hc : c = (0, none)) (hl : l' = l) : RetLE T F ea e c l' w en w' := by
  subst hc hl
  obtain ⟨v, h1, h2, h3⟩ := h
  exact ⟨v, _, h1, (evl_0 rfl).symm, h2, h3⟩
/-- An error that is none. -/
theorem ErrAt.some {T F : Nat} {ea : Nat → Addr} {lo : Nat} {w : World} {v : Value} {c : Nat × Option Nat} (h : ErrAt T F ea lo w v c) (h0 : c.1 ≠ 0) : ∃ t a, v = .iface t (.pointer (some a)) := by
  obtain ⟨c1, c2⟩ := c
  cases c2 with
  | none => exact ⟨_, _, h.trans (evl_n h0)⟩
  | some i => obtain ⟨_, b, _, h2, _⟩ := h; exact ⟨_, _, h2⟩
end Lead

/-
  Plain: how often a shape goes around a point.
-/
namespace Lead
open Go Go.RowKit

end Lead

/-
  Plain: points as a row of cells; rows of points that a call owns.
-/
namespace Lead
open Go Go.RowKit

def Pt.vals (p : Pt) : List Value := [.int .i64 p.xn, .int .i64 p.xd, .int .i64 p.yn, .int .i64 p.yd]
def flat (ps : List Pt) : List Value := ps.flatMap Pt.vals
theorem flat_cons (p : Pt) (ps : List Pt) : flat (p :: ps) = p.vals ++ flat ps := by simp [flat]
theorem flat_append (a b : List Pt) : flat (a ++ b) = flat a ++ flat b := by simp [flat]
theorem flat_len (ps : List Pt) : (flat ps).length = ps.length * 4 := by
  induction ps with
  | nil => rfl
  | cons p ps ih => rw [flat_cons, List.length_append, ih]; simp [Pt.vals]; omega
theorem flat_at (ps : List Pt) : ∀ (i j : Nat) (h : i < ps.length), j < 4 → (flat ps)[i * 4 + j]? = ps[i].vals[j]? := by
  induction ps with
  | nil => intro i j h; exact absurd h (by simp)
  | cons p ps ih =>
    intro i j h hj
    rw [flat_cons]
    cases i with
    | zero => rw [List.getElem?_append_left (by simp [Pt.vals]; omega)]; simp
    | succ i =>
      rw [List.getElem?_append_right (by simp [Pt.vals]; omega)]
      have : (i + 1) * 4 + j - p.vals.length = i * 4 + j := by simp [Pt.vals]; omega
      rw [this, ih i j (by simpa using h) hj]
      simp
theorem flat_one (ps : List Pt) : ∀ u ∈ flat ps, u.oneCell' = true := by
  intro u hu
  obtain ⟨p, _, hp⟩ := List.mem_flatMap.1 hu
  simp [Pt.vals] at hp
  rcases hp with rfl | rfl | rfl | rfl <;> rfl

theorem add_cell (b off j : Nat) : (⟨b, off, none⟩ : Addr).add j = ⟨b, off + j, none⟩ := by
  unfold Addr.add; split
  · rename_i h; subst h; rfl
  · rfl

theorem PtsIn.cells {w : World} {b off : Nat} {ps : List Pt} (h : PtsIn w b off ps) : ∀ j u, (flat ps)[j]? = some u → w.cell? ((⟨b, off, none⟩ : Addr).add j) = some u := by
  intro j u hu
  rw [add_cell]
  have hj : j < ps.length * 4 := by
    rw [← flat_len]; exact (List.getElem?_eq_some_iff.1 hu).1
  have hi : j / 4 < ps.length := by omega
  have he : j = (j / 4) * 4 + j % 4 := by omega
  rw [he, flat_at ps _ _ hi (by omega)] at hu
  rw [he]
  have h4 : j % 4 = 0 ∨ j % 4 = 1 ∨ j % 4 = 2 ∨ j % 4 = 3 := by omega
  rcases h4 with h4 | h4 | h4 | h4 <;> rw [h4] at hu ⊢ <;> simp [Pt.vals] at hu <;> subst hu
  · exact h.c0 _ hi
  · rw [← Nat.add_assoc]; exact h.c1 _ hi
  · rw [← Nat.add_assoc]; exact h.c2 _ hi
  · rw [← Nat.add_assoc]; exact h.c3 _ hi
theorem ptsIn_of_cells {w : World} {b off : Nat} {ps : List Pt} (h : ∀ j u, (flat ps)[j]? = some u → w.cell? ⟨b, off + j, none⟩ = some u) : PtsIn w b off ps := by
  refine ⟨fun i hi => ?_, fun i hi => ?_, fun i hi => ?_, fun i hi => ?_⟩
  · exact h (i * 4) _ (by rw [← Nat.add_zero (i * 4), flat_at ps i 0 hi (by omega)]; rfl)
  · rw [Nat.add_assoc]; exact h _ _ (by rw [flat_at ps i 1 hi (by omega)]; rfl)
  · rw [Nat.add_assoc]; exact h _ _ (by rw [flat_at ps i 2 hi (by omega)]; rfl)
  · rw [Nat.add_assoc]; exact h _ _ (by rw [flat_at ps i 3 hi (by omega)]; rfl)
theorem PtsIn.drop {w : World} {b off : Nat} {ps : List Pt} (h : PtsIn w b off ps) (k : Nat) : PtsIn w b (off + k * 4) (ps.drop k) := by
  have e : ∀ i, off + k * 4 + i * 4 = off + (k + i) * 4 := fun i => by omega
  refine ⟨fun i hi => ?_, fun i hi => ?_, fun i hi => ?_, fun i hi => ?_⟩ <;> rw [e] <;> rw [List.length_drop] at hi <;> rw [List.getElem_drop]
  · exact h.c0 _ (by omega)
  · exact h.c1 _ (by omega)
  · exact h.c2 _ (by omega)
  · exact h.c3 _ (by omega)
theorem PtsIn.take {w : World} {b off : Nat} {ps : List Pt} (h : PtsIn w b off ps) (k : Nat) : PtsIn w b off (ps.take k) := by
  refine ⟨fun i hi => ?_, fun i hi => ?_, fun i hi => ?_, fun i hi => ?_⟩ <;> rw [List.length_take] at hi <;> rw [List.getElem_take]
  · exact h.c0 _ (by omega)
  · exact h.c1 _ (by omega)
  · exact h.c2 _ (by omega)
  · exact h.c3 _ (by omega)

/-- A row of points that the call owns. -/
def OwnP (w : World) (base : Nat) (e : TypeId) (v : Value) (ps : List Pt) : Prop := w.ownsRow base e 4 v ps.length (flat ps)
theorem OwnP.nil (w : World) (base : Nat) (e : TypeId) : OwnP w base e (.slice none 0 0) [] := World.ownsRow_nil _ _ _ _
theorem OwnP.keep {w w' : World} {base : Nat} {e : TypeId} {v : Value} {ps : List Pt} (h : OwnP w base e v ps) (hb : Below w.heap.size w w') : OwnP w' base e v ps := own_below h hb
theorem OwnP.alloc {w : World} {base : Nat} {e : TypeId} {v : Value} {ps : List Pt} (h : OwnP w base e v ps) (o : Obj) : OwnP (w.alloc o) base e v ps := World.ownsRow.alloc h o
theorem OwnP.base {w : World} {base base' : Nat} {e : TypeId} {v : Value} {ps : List Pt} (h : OwnP w base e v ps) (hb : base' ≤ base) : OwnP w base' e v ps := own_base h hb
/-- .. its value: nil, or a slice from the head of a block on; and the points that lie there. -/
theorem OwnP.form {w : World} {base : Nat} {e : TypeId} {v : Value} {ps : List Pt} (h : OwnP w base e v ps) :
    (v = .slice none 0 0 ∧ ps = []) ∨ ∃ g cap, v = .slice (some ⟨g, 0, none⟩) ps.length cap ∧ base ≤ g ∧ g < w.heap.size ∧ ps.length ≤ cap ∧ ps.length ≤ maxLen ∧ PtsIn w g 0 ps := by
  obtain ⟨h1, h2⟩ := h
  rcases h2 with ⟨h2, h3⟩ | ⟨g, cap, cur, h3, h4, h5, h6, h7, h8, h9⟩
  · exact .inl ⟨h2, List.length_eq_zero_iff.1 h3⟩
  · have hown : w.ownsRow base e 4 (.slice (some ⟨g, 0, none⟩) ps.length cap) ps.length (flat ps) := ⟨h1, .inr ⟨g, cap, cur, rfl, h4, h5, h6, h7, h8, h9⟩⟩
    have hg : g < w.heap.size := by
      rcases Nat.lt_or_ge g w.heap.size with h | h
      · exact h
      · rw [Array.getElem?_eq_none h] at h5; exact absurd h5 (by simp)
    refine .inr ⟨g, cap, h3, h4, hg, h6, by omega, ptsIn_of_cells fun j u hu => ?_⟩
    have hj : j < ps.length * 4 := by rw [← flat_len]; exact (List.getElem?_eq_some_iff.1 hu).1
    rw [Nat.zero_add, hown.cellAt j hj]; exact hu
theorem OwnP.lt {w : World} {base : Nat} {e : TypeId} {v : Value} {ps : List Pt} (h : OwnP w base e v ps) : ∀ k, v.ownBlock = some k → base ≤ k ∧ k < w.heap.size := World.ownsRow.lt h

theorem below_via {w2 W w3 : World} (h : Below w2.heap.size w2 W) (hW : Below W.heap.size W w3) : Below w2.heap.size w2 w3 := h.trans (hW.mono h.size)
theorem call_bel {P : Program} {f : FuncId} {args : Array Value} {w W : World} {v : Value} {R : Ending → World → Prop} (hB : Below w.heap.size w W)
    (h : Below w.heap.size w W → Calls P f args W fun e w' => e = .returned v ∧ Below W.heap.size W w')
    (k : ∀ w1, Below w.heap.size w w1 → W.heap.size ≤ w1.heap.size → (∀ b o, b < W.heap.size → w1.cell? ⟨b, o, none⟩ = W.cell? ⟨b, o, none⟩) →
      (∀ b o, b < W.heap.size → w1.frozen? ⟨b, o, none⟩ = W.frozen? ⟨b, o, none⟩) → Below W.heap.size W w1 → R (.returned v) w1) : Calls P f args W R :=
  (h hB).mono fun e w1 ⟨he, hb⟩ => by
    subst he
    exact k w1 (hB.trans (hb.mono hB.size)) hb.size (bcell hb).1 (bcell hb).2 hb

theorem below_via' {w2 W w3 : World} {base : Nat} (h : Below w2.heap.size w2 W) (hA : Below base W w3) (hb : w2.heap.size ≤ base) : Below w2.heap.size w2 w3 := h.trans (hA.mono hb)
end Lead

/-
  Plain: boxes: their points, their errors; calls that answer own points and an error.
-/
namespace Lead
open Go Go.RowKit

structure Fr.I (a : Fr) : Prop where
  n : I64 a.n
  d : I64 a.d

theorem cell_new {w : World} {vs : Array Value} {t : TypeId} {b j : Nat} (hb : b = w.heap.size) : (w.alloc (.cells vs t)).cell? ⟨b, j, none⟩ = vs[j]? := by subst hb; simp

/-- A call that answers one error: as call_e, and the call's own frame. -/
theorem call_ew {P : Program} {f : FuncId} {args : Array Value} {w W : World} {R : Ending → World → Prop} {T F : Nat} {ea : Nat → Addr} {c : Nat × Option Nat} (hB : Below w.heap.size w W)
    (h : Below w.heap.size w W → Calls P f args W (RetE T F ea c W))
    (k : ∀ v w1, ErrAt T F ea W.heap.size w1 v c → Below w.heap.size w w1 → W.heap.size ≤ w1.heap.size → (∀ b o, b < W.heap.size → w1.cell? ⟨b, o, none⟩ = W.cell? ⟨b, o, none⟩) →
      (∀ b o, b < W.heap.size → w1.frozen? ⟨b, o, none⟩ = W.frozen? ⟨b, o, none⟩) → Below W.heap.size W w1 → R (.returned v) w1) : Calls P f args W R :=
  (h hB).mono fun e w1 ⟨v, he, hv, hb⟩ => by
    subst he
    exact k v w1 hv (hB.trans (hb.mono hB.size)) hb.size (bcell hb).1 (bcell hb).2 hb
theorem ErrAt.set {T F : Nat} {ea : Nat → Addr} {lo lo' : Nat} {w : World} {v : Value} {c : Nat × Option Nat} (h : ErrAt T F ea lo w v c) (a : Addr) (x : Value) (ha : a.block < lo) (hl : lo' ≤ lo) : ErrAt T F ea lo' (w.setCell a x) v c := by
  obtain ⟨c1, c2⟩ := c
  cases c2 with
  | none => exact h
  | some i =>
    obtain ⟨h0, b, h1, h2, h3, h4⟩ := h
    have hne : a.block ≠ b := by omega
    exact ⟨h0, b, by omega, h2, by rw [World.cell?_setCell_other (h := fun e => hne (by rw [e]))]; exact h3, by rw [World.cell?_setCell_other (h := fun e => hne (by rw [e]))]; exact h4⟩
end Lead

/-
  Plain: JORDAN: winding numbers of lists of points: begun elsewhere, turned around, there and back.
-/
namespace Lead
open Go Go.RowKit

end Lead

/-
  Plain: the reference's crossings are package shape's.
-/
namespace Lead
open Go Go.RowKit

def atI (o : Option Nat) : Int := match o with
  | none => -1
  | some i => i

end Lead
