/-
  A range over a function whose iterator writes one cell block of its own between two rounds (strings.SplitSeq): the statement's law.
-/
import Derived.RangeFuncBox
import Derived.RangeFuncFrom
import Derived.RangeFuncWrites
import Derived.RangeFuncLeaves
import Derived.Test.YtpdaenldmgpkjaaGreatDoorRw
namespace Lead
open Go Go.RowKit
/-- All blocks but b stand as they stood; new ones may have come. -/
structure ButOne (b : Nat) (W W' : World) : Prop where
  os : W'.os = W.os
  tape : W'.tape = W.tape
  output : W'.output = W.output
  size : W.heap.size ≤ W'.heap.size
  block : ∀ k, k < W.heap.size → k ≠ b → W'.heap[k]? = W.heap[k]?
theorem ButOne.refl (b : Nat) (W : World) : ButOne b W W := ⟨rfl, rfl, rfl, Nat.le_refl _, fun _ _ _ => rfl⟩
theorem ButOne.trans {b : Nat} {A B C : World} (h : ButOne b A B) (k : ButOne b B C) : ButOne b A C :=
  ⟨k.os.trans h.os, k.tape.trans h.tape, k.output.trans h.output, Nat.le_trans h.size k.size, fun i hi hn => (k.block i (Nat.lt_of_lt_of_le hi h.size) hn).trans (h.block i hi hn)⟩
theorem ButOne.setCell {b : Nat} (W : World) (o : Nat) (v : Value) : ButOne b W (W.setCell ⟨b, o, none⟩ v) :=
  ⟨rfl, rfl, rfl, by simp, fun k _ hn => Below.heap_setCell W ⟨b, o, none⟩ v k hn⟩
theorem ButOne.grown {b : Nat} {W W' : World} (h : W.grownBy W' (some b)) : ButOne b W W' := ⟨h.os, h.tape, h.output, h.size, fun k hk hn => h.block k hk (fun e => hn (by injection e))⟩
/-- What a predicate of the caller's may lean on: what is cells, or lies below B; but for block b. -/
def Leans (b B : Nat) {β : Type} (I : β → World → Prop) : Prop :=
  ∀ s W W', I s W → W'.os = W.os → W'.tape = W.tape → W'.output = W.output → W.heap.size ≤ W'.heap.size → (∀ j o, W.heap[j]? = some o → j ≠ b → (j < B ∨ o.isCells = true) → W'.heap[j]? = some o) → I s W'
theorem Leans.one {b B : Nat} {β : Type} {I : β → World → Prop} (h : Leans b B I) {s : β} {W W' : World} (hi : I s W) (hb : ButOne b W W') : I s W' :=
  h s W W' hi hb.os hb.tape hb.output hb.size fun j o hj hn _ => (hb.block j (Array.getElem?_eq_some_iff.1 hj).1 hn).trans hj
theorem Leans.put {b B : Nat} {β : Type} {I : β → World → Prop} (h : Leans b B I) {s : β} {W : World} {l : Nat} {o : Obj} (o' : Obj) (hi : I s W) (hl : B ≤ l) (ho : W.heap[l]? = some o) (hc : o.isCells = false) : I s (W.putObj l o') :=
  h s W _ hi rfl rfl rfl (by simp) fun j q hj _ hq => by
    have hjl : j ≠ l := by
      rintro rfl
      rw [ho] at hj; cases hj
      rcases hq with hq | hq
      · omega
      · rw [hc] at hq; cases hq
    exact (World.putObj_heap_other hjl).trans hj
theorem Leans.alloc {b B : Nat} {β : Type} {I : β → World → Prop} (h : Leans b B I) {s : β} {W : World} (o : Obj) (hi : I s W) : I s (W.alloc o) :=
  h s W _ hi rfl rfl rfl (by simp) fun j q hj _ _ => (Below.heap_alloc W o j (Array.getElem?_eq_some_iff.1 hj).1).trans hj
/-- The blocks that the iterator reads stand as they stood. -/
def Kp (q : Nat → Prop) (W W' : World) : Prop := ∀ k, q k → W'.heap[k]? = W.heap[k]?
/-- How a round may be left. -/
def roundP {α : Type} (q : Nat → Prop) (B : Nat) (I Ix : List α → World → Prop) (xs : List α) (W : World) : Exit → Act → World → Prop
  | .normal, _, W' => KeepsFrom B W W' ∧ Kp q W W' ∧ I xs W'
  | .ret, _, W' => KeepsFrom B W W' ∧ Ix xs W'
  | _, _, _ => False
/-- What the iterator brings. -/
def SeqCell {α : Type} (F : Fence) (n : Nat) (P : Program) (g : Nat) (lb : Array Value) (encs : α → Array Value) (q : Nat → Prop) (b : Nat) (xs : List α) (w : World) : Prop :=
  ∀ (l : Nat) (J Jx : List α → World → Prop) (W : World), Below w.heap.size w W → (∀ s A A', J s A → ButOne b A A' → J s A') → (∀ s A A', Jx s A → ButOne b A A' → Jx s A') →
    (∀ pre x W1, J pre W1 → (pre ++ [x]) <+: xs → YieldAt F (n - 1) P l (encs x) W1 fun e W' =>
      (e = .returned (.bool true) ∧ J (pre ++ [x]) W' ∧ Kp q W1 W') ∨ (e = .returned (.bool false) ∧ Jx (pre ++ [x]) W')) →
    J [] W →
    CallsIn F n P g (#[.func (.yield l) #[] #[]] ++ lb) W fun e W' => (∃ v, e = .returned v) ∧ (J xs W' ∨ (∃ pre, pre <+: xs ∧ Jx pre W'))
theorem wpIn_range_cell {F : Fence} {n : Nat} {P : Program} {α : Type} {g : Operand} {ps : Array Tmp} {assign body : Code} {Q : Exit → Act → World → Prop} {a : Act} {w : World}
    (hro : F.round = none) (h1 : 1 ≤ n) {gf : Nat} {lb : Array Value} (hg : a.eval g = .func (.func gf) #[] lb) (hFg : F.fn gf) (eg : ∀ args w, (callFunc gf args).run P w = .ok (.enter gf args) w)
    {encs : α → Array Value} {q : Nat → Prop} (hqb : ∀ k, q k → k < w.heap.size) {b : Nat} (hb : b < w.heap.size) {xs : List α} (hseq : SeqCell F (n - 1) P gf lb encs q b xs w) (hps : ∀ x, (encs x).size = ps.size)
    (I Ix : List α → World → Prop) (hI : Leans b w.heap.size I) (hIx : Leans b w.heap.size Ix) (h0 : I [] w) (a₁ : α → Act)
    (hassign : ∀ (l : Nat) (x : α) (W : World) (K : Act → World → Prop), K (a₁ x) W →
      assign.wpIn (F.inRound l) (n - 1 - 1) P (Exit.then K (fun _ _ _ => False)) { tmps := (ps.zip (encs x)).foldl (fun t (p, v) => t.setIfInBounds p v) a.tmps, defers := [] } W)
    (hbody : ∀ (l : Nat) (pre : List α) (x : α) (W : World), I pre W → (pre ++ [x]) <+: xs → body.wpIn (F.inRound l) (n - 1 - 1) P (roundP q w.heap.size I Ix (pre ++ [x]) W) (a₁ x) W)
    (hdone : ∀ (D : Nat) (W : World), w.heap.size ≤ D → I xs W → W.heap[D]? = some (.deferred (some [])) → Q .normal { a with defers := { target := .collected D, args := #[] } :: a.defers } W)
    (hstop : ∀ (D : Nat) (pre : List α) (W : World), w.heap.size ≤ D → pre <+: xs → Ix pre W → W.heap[D]? = some (.deferred (some [])) → Code.ret.wpIn F n P Q { a with defers := { target := .collected D, args := #[] } :: a.defers } W) :
    (Code.rangeFunc g ps assign body).wpIn F n P Q a w := by
  refine wpIn_rangeFunc ?_
  intro fn hfn
  rw [hro]
  obtain ⟨rec, hrec⟩ : ∃ rec : LoopState → Option Code → Loop, rec = fun st pe => { state := st, pending := pe, fn, tmps := a.tmps, params := ps, assign, body, defers := w.heap.size } := ⟨_, rfl⟩
  obtain ⟨W1, hW1⟩ : ∃ W1, (w.alloc (.deferred (some []))).alloc (.loop (rec .ready none)) = W1 := ⟨_, rfl⟩
  have hB1 : Below w.heap.size w W1 := by rw [← hW1]; exact ((Below.refl _ w).alloc (Nat.le_refl _) _).alloc (by simp) _
  have hL1 : W1.heap[w.heap.size + 1]? = some (.loop (rec .ready none)) := by
    have h := World.alloc_heap_new (w.alloc (.deferred (some []))) (.loop (rec .ready none))
    rw [World.size_alloc] at h
    rw [← hW1]; exact h
  have hK1 : W1.heap[w.heap.size]? = some (.deferred (some [])) := by
    rw [← hW1]; exact (Below.heap_alloc _ _ _ (by simp)).trans (World.alloc_heap_new w _)
  have hI1 : I [] W1 := by rw [← hW1]; exact hI.alloc _ (hI.alloc _ h0)
  refine ⟨w.heap.size + 1, [{ target := .collected w.heap.size, args := #[] }], W1, { target := .fn (.func gf) lb, args := #[.func (.yield (w.heap.size + 1)) #[] #[]] }, W1, gf,
    #[.func (.yield (w.heap.size + 1)) #[] #[]] ++ lb, W1, ?_, ?_, ?_, ?_, fun _ => h1, ?_⟩
  · rw [← hW1, hrec]; exact run_enterLoop_outer _ _ _ _ _
  · simp only [resolve, hg]
    simp [go_sem]
  · intro f' hf'
    simp [Target.leads] at hf'
    rw [← hf']; exact hFg
  · simp [invoke, go_sem, eg]
  have keep : ∀ (k : Nat) (o : Obj) (A A' : World), A.heap[k]? = some o → k ≠ b → ButOne b A A' → A'.heap[k]? = some o := fun k o A A' hk hn h => (h.block k (Array.getElem?_eq_some_iff.1 hk).1 hn).trans hk
  refine (hseq (w.heap.size + 1)
    (fun pre W => I pre W ∧ W.heap[w.heap.size + 1]? = some (.loop (rec .ready none)) ∧ W.heap[w.heap.size]? = some (.deferred (some [])))
    (fun pre W => Ix pre W ∧ W.heap[w.heap.size + 1]? = some (.loop (rec .done (some .ret))) ∧ W.heap[w.heap.size]? = some (.deferred (some [])))
    W1 hB1 (fun s A A' hs h => ⟨hI.one hs.1 h, keep _ _ A A' hs.2.1 (by omega) h, keep _ _ A A' hs.2.2 (by omega) h⟩)
    (fun s A A' hs h => ⟨hIx.one hs.1 h, keep _ _ A A' hs.2.1 (by omega) h, keep _ _ A A' hs.2.2 (by omega) h⟩) ?_ ⟨hI1, hL1, hK1⟩).mono ?_
  · rintro pre x W ⟨hi, hl, hk⟩ hlen
    have hlt : w.heap.size + 1 < W.heap.size := (Array.getElem?_eq_some_iff.1 hl).1
    have hy := run_yield (P := P) (args := encs x) hl (by rw [hrec]; exact hps x)
    rw [hrec] at hy
    refine ⟨fn, _, assign, body, hy, roundIn_of_wpIn hfn (hassign _ x W _ ⟨_, run_beginRound hl (by rw [hrec]), ?_⟩)⟩
    obtain ⟨W2, hW2⟩ : ∃ W2, W.putObj (w.heap.size + 1) (.loop { rec .ready none with state := .busy }) = W2 := ⟨_, rfl⟩
    have hl2 : W2.heap[w.heap.size + 1]? = some (.loop { rec .ready none with state := .busy }) := by rw [← hW2]; exact World.putObj_heap_same hlt
    have hk2 : W2.heap[w.heap.size]? = some (.deferred (some [])) := by rw [← hW2]; exact (World.putObj_heap_other (by omega)).trans hk
    have hb2 : Kp q W W2 := fun k hk => by rw [← hW2]; have := hqb k hk; exact World.putObj_heap_other (by omega)
    have hi2 : I pre W2 := by rw [← hW2]; exact hI.put _ hi (by omega) hl rfl
    rw [hW2]
    refine wpIn_mono (hbody _ pre x W2 hi2 hlen) ?_
    rintro e a3 W3 hp
    cases e with
    | normal =>
      obtain ⟨hk3, hb3, hi3⟩ := hp
      have hl3 := hk3.same _ _ (by omega) hl2 rfl
      have hd3 := hk3.same _ _ (Nat.le_refl _) hk2 rfl
      have he := run_endRound (P := P) none hl3
      refine ⟨_, _, he, .inl ⟨rfl, ⟨hI.put _ hi3 (by omega) hl3 rfl, ?_, (World.putObj_heap_other (by omega)).trans hd3⟩, ?_⟩⟩
      · have h := World.putObj_heap_same (o := .loop { { rec .ready none with state := .busy } with state := if (none : Option Code).isNone then .ready else .done, pending := none }) (Array.getElem?_eq_some_iff.1 hl3).1
        rw [h, hrec]; rfl
      · exact fun k hk => (World.putObj_heap_other (by have := hqb k hk; omega)).trans ((hb3 k hk).trans (hb2 k hk))
    | ret =>
      obtain ⟨hk3, hi3⟩ := hp
      have hl3 := hk3.same _ _ (by omega) hl2 rfl
      have hd3 := hk3.same _ _ (Nat.le_refl _) hk2 rfl
      have he := run_endRound (P := P) (some .ret) hl3
      refine ⟨_, _, he, .inr ⟨rfl, hIx.put _ hi3 (by omega) hl3 rfl, ?_, (World.putObj_heap_other (by omega)).trans hd3⟩⟩
      have h := World.putObj_heap_same (o := .loop { { rec .ready none with state := .busy } with state := if (some Code.ret).isNone then .ready else .done, pending := some .ret }) (Array.getElem?_eq_some_iff.1 hl3).1
      rw [h, hrec]; rfl
    | exit id => exact hp.elim
    | goto t => exact hp.elim
    | panic ch => exact hp.elim
    | outgrown => exact hp.elim
  · rintro e W2 ⟨⟨v, rfl⟩, (⟨hi, hl, hk⟩ | ⟨pre, hSp, hi, hl, hk⟩)⟩
    · have he := run_endLoop (P := P) hl (by rw [hrec]; simp)
      refine ⟨_, _, he, ?_⟩
      rw [hrec]
      exact hdone _ _ (Nat.le_refl _) (hI.put _ hi (by omega) hl rfl) ((World.putObj_heap_other (by omega)).trans hk)
    · have he := run_endLoop (P := P) hl (by rw [hrec]; simp)
      refine ⟨_, _, he, ?_⟩
      rw [hrec]
      exact hstop _ pre _ (Nat.le_refl _) hSp (hIx.put _ hi (by omega) hl rfl) ((World.putObj_heap_other (by omega)).trans hk)
end Lead
