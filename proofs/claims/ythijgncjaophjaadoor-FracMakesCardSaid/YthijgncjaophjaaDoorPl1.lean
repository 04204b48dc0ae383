/-
  Plain laws on numbers: what the walks over package frac come to. No program in sight.
-/
import Derived.Test.YthijgncjaophjaaDoorBase
namespace Lead
open Go Go.RowKit

theorem max_neg {x : Int} (hx : I64 x) (h : wrap64 (-x) ≤ x) : wrap64 (Int.gcd x 0) = x := by
  rw [Int.gcd_zero_right]
  unfold wrap64 at *; unfold I64 at hx; omega

theorem max_neg' {x : Int} (hx : I64 x) (h : x < wrap64 (-x)) : wrap64 (Int.gcd x 0) = wrap64 (-x) := by
  rw [Int.gcd_zero_right]
  unfold wrap64 at *; unfold I64 at hx; omega

theorem gcd_step {x y : Int} : Int.gcd y (x.tmod y) = Int.gcd x y := by
  have h : (Int.gcd y (x.tmod y)) = Nat.gcd y.natAbs (x.natAbs % y.natAbs) := by
    unfold Int.gcd; rw [Int.natAbs_tmod]
  rw [h, Nat.gcd_comm y.natAbs, ← Nat.gcd_rec, Nat.gcd_comm]
  rfl
  
theorem tmod_i64 {x y : Int} (hy : I64 y) (h0 : y ≠ 0) : I64 (x.tmod y) := by
  unfold I64 at *
  have h1 := Int.natAbs_tmod x y
  have h2 : x.natAbs % y.natAbs < y.natAbs := Nat.mod_lt _ (by omega)
  omega

theorem tmod_lt {x y : Int} (h0 : y ≠ 0) : (x.tmod y).natAbs < y.natAbs := by
  rw [Int.natAbs_tmod]
  exact Nat.mod_lt _ (by omega)

/-- Is a part of a fraction not too great? -/
def sml (x : Int) : Bool := decide (-1073741824 ≤ x ∧ x ≤ 1073741824)
theorem sml_true {x : Int} : sml x = true ↔ -1073741824 ≤ x ∧ x ≤ 1073741824 := by unfold sml; simp
theorem sml_false {x : Int} : sml x = false ↔ ¬ (-1073741824 ≤ x ∧ x ≤ 1073741824) := by unfold sml; simp

/-- The number of the error of a fraction: 0 none, 2 ErrBound, 3 ErrShape. -/
def chk (n d : Int) : Nat := if d < 1 then 3 else if Int.gcd n d ≠ 1 then 3 else if sml n = true ∧ sml d = true then 0 else 2

theorem chk_cases (n d : Int) : (d < 1 ∧ chk n d = 3) ∨ (1 ≤ d ∧ Int.gcd n d ≠ 1 ∧ chk n d = 3) ∨ (1 ≤ d ∧ Int.gcd n d = 1 ∧ sml n = false ∧ chk n d = 2) ∨
    (1 ≤ d ∧ Int.gcd n d = 1 ∧ sml n = true ∧ sml d = false ∧ chk n d = 2) ∨ (1 ≤ d ∧ Int.gcd n d = 1 ∧ sml n = true ∧ sml d = true ∧ chk n d = 0) := by
  unfold chk
  by_cases h1 : d < 1
  · simp [h1]
  · by_cases h2 : Int.gcd n d = 1
    · cases h3 : sml n <;> cases h4 : sml d <;> simp [h1, h2] <;> omega
    · simp [h1, h2]; omega

theorem gcd_wrap1 {n d : Int} (h : 1 ≤ d) (hd : I64 d) : wrap64 (Int.gcd n d) = Int.gcd n d := by
  apply IntWalk.wrap64_in
  have h1 : Int.gcd n d ≤ d.natAbs := Nat.le_of_dvd (by omega) (Int.gcd_dvd_natAbs_right n d)
  unfold I64 at hd
  omega

/-- An error by its number; where the errors lie: 'ea'. -/
def evl (T : Nat) (ea : Nat → Addr) (c : Nat) : Value := if c = 0 then .nilIface else .iface T (.pointer (some (ea c)))
theorem evl_0 {T : Nat} {ea : Nat → Addr} {c : Nat} (h : c = 0) : evl T ea c = .nilIface := by unfold evl; rw [if_pos h]
theorem evl_n {T : Nat} {ea : Nat → Addr} {c : Nat} (h : c ≠ 0) : evl T ea c = .iface T (.pointer (some (ea c))) := by unfold evl; rw [if_neg h]

/-- What a function of package frac answers: a fraction and an error's number. -/
def frV (T : Nat) (ea : Nat → Addr) (c : Nat) (q r : Int) : Value :=
  if c = 0 then .tuple #[.agg #[.int .i64 q, .int .i64 r], .nilIface] else .tuple #[.agg #[.int .i64 0, .int .i64 0], .iface T (.pointer (some (ea c)))]
theorem frV_0 {T : Nat} {ea : Nat → Addr} {c : Nat} {q r : Int} (h : c = 0) : frV T ea c q r = .tuple #[.agg #[.int .i64 q, .int .i64 r], .nilIface] := by unfold frV; rw [if_pos h]
theorem frV_n {T : Nat} {ea : Nat → Addr} {c : Nat} {q r : Int} (h : c ≠ 0) : frV T ea c q r = .tuple #[.agg #[.int .i64 0, .int .i64 0], .iface T (.pointer (some (ea c)))] := by unfold frV; rw [if_neg h]

/-- Lowest terms: by what both parts are divided; the parts; the error's number. -/
def lowG (n d : Int) : Int := if d < 0 then -(Int.gcd n d : Int) else (Int.gcd n d : Int)
def lowN (n d : Int) : Int := n.tdiv (lowG n d)
def lowD (n d : Int) : Int := d.tdiv (lowG n d)
def lowC (n d : Int) : Nat := if sml (lowN n d) = true ∧ sml (lowD n d) = true then 0 else 2
theorem lowC_cases (n d : Int) : (sml (lowN n d) = false ∧ lowC n d = 2) ∨ (sml (lowN n d) = true ∧ sml (lowD n d) = false ∧ lowC n d = 2) ∨ (sml (lowN n d) = true ∧ sml (lowD n d) = true ∧ lowC n d = 0) := by
  unfold lowC
  cases h1 : sml (lowN n d) <;> cases h2 : sml (lowD n d) <;> simp

/-- A number that can be divided and put together without a wrap. -/
def B62 (x : Int) : Prop := -4611686018427387904 ≤ x ∧ x ≤ 4611686018427387904
theorem B62.i64 {x : Int} (h : B62 x) : I64 x := by unfold B62 at h; unfold I64; omega

theorem tdiv_abs (x g : Int) : (x.tdiv g).natAbs ≤ x.natAbs := by
  rw [Int.natAbs_tdiv]; exact Nat.div_le_self _ _
theorem wrap_tdiv {x g : Int} (h : B62 x) : wrap64 (x.tdiv g) = x.tdiv g := by
  apply IntWalk.wrap64_in
  have := tdiv_abs x g
  unfold B62 at h
  omega
theorem gcd_b62 {n d : Int} (hd : B62 d) (h0 : d ≠ 0) : (1 : Int) ≤ Int.gcd n d ∧ B62 (Int.gcd n d) := by
  have h1 : Int.gcd n d ≤ d.natAbs := Nat.le_of_dvd (by omega) (Int.gcd_dvd_natAbs_right n d)
  have h2 := Int.gcd_pos_of_ne_zero_right n h0
  unfold B62 at *
  omega
theorem gcd_wrapB {n d : Int} (hd : B62 d) (h0 : d ≠ 0) : wrap64 (Int.gcd n d) = Int.gcd n d := by
  have := (gcd_b62 (n := n) hd h0).2
  apply IntWalk.wrap64_in
  unfold B62 at this; omega
theorem neg_wrapB {g : Int} (h : B62 g) : wrap64 (-g) = -g := by
  apply IntWalk.wrap64_in
  unfold B62 at h; omega

/-- The number of the first error of two fractions. -/
def bothC (n d n' d' : Int) : Nat := if chk n d = 0 then chk n' d' else chk n d
/-- .. and of what is reckoned out of them. -/
def opC (n d n' d' x y : Int) : Nat := if bothC n d n' d' = 0 then lowC x y else bothC n d n' d'
theorem opC_cases (n d n' d' x y : Int) : (bothC n d n' d' ≠ 0 ∧ opC n d n' d' x y = bothC n d n' d') ∨ (bothC n d n' d' = 0 ∧ opC n d n' d' x y = lowC x y) := by
  unfold opC; by_cases h : bothC n d n' d' = 0
  · exact .inr ⟨h, if_pos h⟩
  · exact .inl ⟨h, if_neg h⟩

/-- What a right fraction has. -/
structure Right (n d : Int) : Prop where
  n0 : -1073741824 ≤ n
  n1 : n ≤ 1073741824
  d0 : 1 ≤ d
  d1 : d ≤ 1073741824
  gcd : Int.gcd n d = 1
theorem chk_0 {n d : Int} (h : chk n d = 0) : Right n d := by
  rcases chk_cases n d with ⟨_, hc⟩ | ⟨_, _, hc⟩ | ⟨_, _, _, hc⟩ | ⟨_, _, _, _, hc⟩ | ⟨h1, h2, h3, h4, hc⟩
  · omega
  · omega
  · omega
  · omega
  · rw [sml_true] at h3 h4
    exact ⟨h3.1, h3.2, h1, h4.2, h2⟩
theorem chk_right {n d : Int} (h : Right n d) : chk n d = 0 := by
  obtain ⟨h1, h2, h3, h4, h5⟩ := h
  have a : sml n = true := sml_true.2 ⟨h1, h2⟩
  have b : sml d = true := sml_true.2 ⟨by omega, h4⟩
  unfold chk
  rw [if_neg (by omega), if_neg (by omega), if_pos ⟨a, b⟩]
theorem bothC_0 {n d n' d' : Int} (h : bothC n d n' d' = 0) : Right n d ∧ Right n' d' := by
  unfold bothC at h
  by_cases h1 : chk n d = 0
  · rw [if_pos h1] at h; exact ⟨chk_0 h1, chk_0 h⟩
  · rw [if_neg h1] at h; exact absurd h h1

theorem mul_abs {a b A B : Int} (ha : -A ≤ a ∧ a ≤ A) (hb : -B ≤ b ∧ b ≤ B) : -(A * B) ≤ a * b ∧ a * b ≤ A * B := by
  have h1 : a.natAbs ≤ A.toNat := by omega
  have h2 : b.natAbs ≤ B.toNat := by omega
  have h3 : (a * b).natAbs ≤ A.toNat * B.toNat := by rw [Int.natAbs_mul]; exact Nat.mul_le_mul h1 h2
  have h4 : ((A.toNat * B.toNat : Nat) : Int) = A * B := by rw [Int.natCast_mul, Int.toNat_of_nonneg (by omega), Int.toNat_of_nonneg (by omega)]
  omega
theorem mul_30 {a b : Int} (ha : -1073741824 ≤ a ∧ a ≤ 1073741824) (hb : -1073741824 ≤ b ∧ b ≤ 1073741824) : -1152921504606846976 ≤ a * b ∧ a * b ≤ 1152921504606846976 := by
  have := mul_abs ha hb
  omega
theorem mul_pos1 {a b : Int} (ha : 1 ≤ a) (hb : 1 ≤ b) : 1 ≤ a * b := by
  have := Int.mul_pos (show 0 < a by omega) (show 0 < b by omega)
  omega

theorem wrap_60 {x : Int} (h : -2305843009213693952 ≤ x ∧ x ≤ 2305843009213693952) : wrap64 x = x := by
  apply IntWalk.wrap64_in; omega
theorem Right.nb {n d : Int} (h : Right n d) : -1073741824 ≤ n ∧ n ≤ 1073741824 := ⟨h.n0, h.n1⟩
theorem Right.db {n d : Int} (h : Right n d) : -1073741824 ≤ d ∧ d ≤ 1073741824 := ⟨by have := h.d0; omega, h.d1⟩
theorem Right.ni {n d : Int} (h : Right n d) : I64 n := by have := h.nb; unfold I64; omega
theorem Right.di {n d : Int} (h : Right n d) : I64 d := by have := h.db; unfold I64; omega
theorem add_facts {n d n' d' : Int} (h : Right n d) (h' : Right n' d') : ∃ p1 p2, wrap64 (n * d') = p1 ∧ wrap64 (n' * d) = p2 ∧ wrap64 (p1 + p2) = n * d' + n' * d ∧ wrap64 (d * d') = d * d' ∧
    B62 (n * d' + n' * d) ∧ B62 (d * d') ∧ d * d' ≠ 0 := by
  have a := mul_30 h.nb h'.db
  have b := mul_30 h'.nb h.db
  have c := mul_30 h.db h'.db
  have e := mul_pos1 h.d0 h'.d0
  refine ⟨_, _, wrap_60 (by omega), wrap_60 (by omega), wrap_60 (by omega), wrap_60 (by omega), ?_, ?_, by omega⟩ <;> (unfold B62; omega)
theorem sub_facts {n d n' d' : Int} (h : Right n d) (h' : Right n' d') : ∃ p1 p2, wrap64 (n * d') = p1 ∧ wrap64 (n' * d) = p2 ∧ wrap64 (p1 - p2) = n * d' - n' * d ∧ wrap64 (d * d') = d * d' ∧
    B62 (n * d' - n' * d) ∧ B62 (d * d') ∧ d * d' ≠ 0 := by
  have a := mul_30 h.nb h'.db
  have b := mul_30 h'.nb h.db
  have c := mul_30 h.db h'.db
  have e := mul_pos1 h.d0 h'.d0
  refine ⟨_, _, wrap_60 (by omega), wrap_60 (by omega), wrap_60 (by omega), wrap_60 (by omega), ?_, ?_, by omega⟩ <;> (unfold B62; omega)
theorem mul_facts {n d n' d' : Int} (h : Right n d) (h' : Right n' d') : wrap64 (n * n') = n * n' ∧ wrap64 (d * d') = d * d' ∧ B62 (n * n') ∧ B62 (d * d') ∧ d * d' ≠ 0 := by
  have a := mul_30 h.nb h'.nb
  have c := mul_30 h.db h'.db
  have e := mul_pos1 h.d0 h'.d0
  refine ⟨wrap_60 (by omega), wrap_60 (by omega), ?_, ?_, by omega⟩ <;> (unfold B62; omega)
theorem div_facts {n d n' d' : Int} (h : Right n d) (h' : Right n' d') (h0 : n' ≠ 0) : wrap64 (n * d') = n * d' ∧ wrap64 (d * n') = d * n' ∧ B62 (n * d') ∧ B62 (d * n') ∧ d * n' ≠ 0 := by
  have a := mul_30 h.nb h'.db
  have c := mul_30 h.db h'.nb
  have e : d * n' ≠ 0 := Int.mul_ne_zero (by have := h.d0; omega) h0
  refine ⟨wrap_60 (by omega), wrap_60 (by omega), ?_, ?_, e⟩ <;> (unfold B62; omega)
theorem cmp_facts {n d n' d' : Int} (h : Right n d) (h' : Right n' d') : wrap64 (n * d') = n * d' ∧ wrap64 (n' * d) = n' * d := by
  have a := mul_30 h.nb h'.db
  have c := mul_30 h'.nb h.db
  exact ⟨wrap_60 (by omega), wrap_60 (by omega)⟩

/-- Div's number: ErrZero behind the errors of both. -/
def divC (n d n' d' x y : Int) : Nat := if bothC n d n' d' = 0 then (if n' = 0 then 11 else lowC x y) else bothC n d n' d'
theorem divC_cases (n d n' d' x y : Int) : (bothC n d n' d' ≠ 0 ∧ divC n d n' d' x y = bothC n d n' d') ∨ (bothC n d n' d' = 0 ∧ n' = 0 ∧ divC n d n' d' x y = 11) ∨
    (bothC n d n' d' = 0 ∧ n' ≠ 0 ∧ divC n d n' d' x y = lowC x y) := by
  unfold divC; by_cases h : bothC n d n' d' = 0
  · by_cases h0 : n' = 0
    · exact .inr (.inl ⟨h, h0, by rw [if_pos h, if_pos h0]⟩)
    · exact .inr (.inr ⟨h, h0, by rw [if_pos h, if_neg h0]⟩)
  · exact .inl ⟨h, if_neg h⟩
/-- Which is greater: -1, 0, 1. -/
def cmpI (x y : Int) : Int := if x < y then -1 else if y < x then 1 else 0
theorem cmpI_cases (x y : Int) : (x < y ∧ cmpI x y = -1) ∨ (y < x ∧ cmpI x y = 1) ∨ (x = y ∧ cmpI x y = 0) := by
  unfold cmpI
  rcases Int.lt_trichotomy x y with h | h | h
  · exact .inl ⟨h, if_pos h⟩
  · exact .inr (.inr ⟨h, by rw [if_neg (by omega), if_neg (by omega)]⟩)
  · exact .inr (.inl ⟨h, by rw [if_neg (by omega), if_pos h]⟩)
/-- A number and an error. -/
def cmV (T : Nat) (ea : Nat → Addr) (c : Nat) (x : Int) : Value := if c = 0 then .tuple #[.int .i64 x, .nilIface] else .tuple #[.int .i64 0, .iface T (.pointer (some (ea c)))]
theorem cmV_0 {T : Nat} {ea : Nat → Addr} {c : Nat} {x : Int} (h : c = 0) : cmV T ea c x = .tuple #[.int .i64 x, .nilIface] := by unfold cmV; rw [if_pos h]
theorem cmV_n {T : Nat} {ea : Nat → Addr} {c : Nat} {x : Int} (h : c ≠ 0) : cmV T ea c x = .tuple #[.int .i64 0, .iface T (.pointer (some (ea c)))] := by unfold cmV; rw [if_neg h]

/-- What an edge counts: l1: p below its beginning; l2: p below its end; s: on which side. -/
def crossB (l1 l2 : Bool) (s : Int) : Int := if l1 = false ∧ l2 = true ∧ 0 < s then 1 else if l1 = true ∧ l2 = false ∧ s < 0 then -1 else 0

/-- Package shape's small: of a right fraction. -/
def shSml (n d : Int) : Bool := decide (d ≤ 20 ∧ n ≤ 1000 * d ∧ -1000 * d ≤ n)
theorem shSml_cases {n d : Int} {b : Bool} (h : shSml n d = b) : (¬ d ≤ 20 ∧ b = false) ∨ (d ≤ 20 ∧ ¬ n ≤ 1000 * d ∧ b = false) ∨ (d ≤ 20 ∧ n ≤ 1000 * d ∧ ¬ -1000 * d ≤ n ∧ b = false) ∨ (d ≤ 20 ∧ n ≤ 1000 * d ∧ -1000 * d ≤ n ∧ b = true) := by
  subst h; unfold shSml
  by_cases h1 : d ≤ 20 <;> by_cases h2 : n ≤ 1000 * d <;> by_cases h3 : -1000 * d ≤ n <;> simp [*]
/-- The number of a point's error. -/
def ptC (xn xd yn yd : Int) : Nat := if chk xn xd ≠ 0 then chk xn xd else if chk yn yd ≠ 0 then chk yn yd else if shSml xn xd = true ∧ shSml yn yd = true then 0 else 2
theorem ptC_cases (xn xd yn yd : Int) : (chk xn xd ≠ 0 ∧ ptC xn xd yn yd = chk xn xd) ∨ (chk xn xd = 0 ∧ chk yn yd ≠ 0 ∧ ptC xn xd yn yd = chk yn yd) ∨ (chk xn xd = 0 ∧ chk yn yd = 0 ∧ shSml xn xd = false ∧ ptC xn xd yn yd = 2) ∨
    (chk xn xd = 0 ∧ chk yn yd = 0 ∧ shSml xn xd = true ∧ shSml yn yd = false ∧ ptC xn xd yn yd = 2) ∨ (chk xn xd = 0 ∧ chk yn yd = 0 ∧ shSml xn xd = true ∧ shSml yn yd = true ∧ ptC xn xd yn yd = 0) := by
  unfold ptC
  by_cases h1 : chk xn xd = 0 <;> by_cases h2 : chk yn yd = 0 <;> cases h3 : shSml xn xd <;> cases h4 : shSml yn yd <;> simp [h1, h2]
end Lead
