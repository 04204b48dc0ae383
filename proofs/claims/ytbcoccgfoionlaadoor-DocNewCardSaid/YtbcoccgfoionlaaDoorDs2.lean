/-
  Rows of the document's own: a number more among them, or out of them (slices.Insert, slices.DeleteFunc): what comes is a row of the document's own again.
-/
import Derived.Test.YtbcoccgfoionlaaDoorDs1
import Derived.Shelf.Spec.SlicesInsert
import Derived.Shelf.Spec.SlicesInsertGrow
import Derived.Shelf.SlicesE.DeleteFunc
import Derived.Deep.Upon
namespace Lead.Dc
open Go Go.RowKit Lead Go.Proofs Go.Shelf
/-- Of what there was, a row's block alone has turned. -/
structure RowTurn (v : Value) (w w' : World) : Prop where
  os : w'.os = w.os
  tape : w'.tape = w.tape
  output : w'.output = w.output
  size : w.heap.size ≤ w'.heap.size
  block : ∀ k, k < w.heap.size → rowB v ≠ some k → w'.heap[k]? = w.heap[k]?
variable {α : Type} {w w' : World}
theorem set_block (b : Nat) : ∀ (vs : List Value) (o : Nat) (w : World) (cs : Array Value) (T : TypeId), w.heap[b]? = some (.cells cs T (0, 0)) → ∃ cs', (w.setCells b o vs).heap[b]? = some (.cells cs' T (0, 0)) ∧ cs'.size = cs.size
  | [], _, w, cs, T, h => ⟨cs, h, rfl⟩
  | v :: r, o, w, cs, T, h => by
    obtain ⟨cs', h1, h2⟩ := set_block b r (o + 1) (w.setCell ⟨b, o, none⟩ v) _ T (heap_setCell_same w b o cs T v h)
    exact ⟨cs', h1, by rw [h2]; simp⟩
theorem set_size (b : Nat) : ∀ (vs : List Value) (o : Nat) (w : World), (w.setCells b o vs).heap.size = w.heap.size
  | [], _, _ => rfl
  | v :: r, o, w => by rw [World.setCells, set_size b r]; simp
theorem set_tape (b : Nat) : ∀ (vs : List Value) (o : Nat) (w : World), (w.setCells b o vs).tape = w.tape
  | [], _, _ => rfl
  | v :: r, o, w => by rw [World.setCells, set_tape b r]; rfl
theorem cell_of {w : World} {g : Nat} {cs : Array Value} {T : TypeId} (h : w.heap[g]? = some (.cells cs T (0, 0))) (j : Nat) : w.cell? ⟨g, j, none⟩ = cs[j]? := by simp [World.cell?, h]
/-- A row, out of its cells. -/
theorem own_cells {En : Enc α} {base g cap : Nat} {e : TypeId} {xs : List α} {cur : Array Value} (h : w.heap[g]? = some (.cells cur e (0, 0))) (hb : base ≤ g) (hs : cur.size = cap * En.k) (hl : xs.length ≤ cap) (hm : cap ≤ maxLen)
    (hc : ∀ j u, (En.flat xs)[j]? = some u → w.cell? ⟨g, j, none⟩ = some u) : OwnR En w base e (.slice (some ⟨g, 0, none⟩) xs.length cap) xs := by
  refine ⟨En.flat_len xs, .inr ⟨g, cap, cur, rfl, hb, h, hl, hm, hs, ?_⟩⟩
  apply List.ext_getElem?
  intro j
  by_cases hj : j < xs.length * En.k
  · have hj' : j < (En.flat xs).length := by rw [En.flat_len]; exact hj
    rw [List.getElem?_take_of_lt hj, Array.getElem?_toList, ← cell_of h, hc j _ (List.getElem?_eq_getElem hj'), List.getElem?_eq_getElem hj']
  · rw [List.getElem?_eq_none (by rw [List.length_take]; omega), List.getElem?_eq_none (by rw [En.flat_len]; omega)]
/-! ### numbers -/
theorem flatI (xs : List Nat) : EIn.flat xs = xs.map fun n : Nat => Value.int .i64 (n : Int) := by
  induction xs with
  | nil => rfl
  | cons x r ih => rw [List.map_cons, ← ih]; rfl
theorem insK_at (l : List Nat) (i n : Nat) (hi : i ≤ l.length) (j : Nat) : (insK l i n)[j]? = if j < i then l[j]? else if j = i then some n else l[j - 1]? := by
  unfold insK
  by_cases h1 : j < i
  · rw [if_pos h1, List.getElem?_append_left (by rw [List.length_take]; omega), List.getElem?_take_of_lt h1]
  · rw [if_neg h1, List.getElem?_append_right (by rw [List.length_take]; omega), List.length_take, Nat.min_eq_left hi]
    by_cases h2 : j = i
    · subst h2; rw [if_pos rfl, Nat.sub_self]; rfl
    · rw [if_neg h2]
      obtain ⟨d, hd⟩ : ∃ d, j - i = d + 1 := ⟨j - i - 1, by omega⟩
      rw [hd, List.getElem?_cons_succ, List.getElem?_drop]
      congr 1; omega
theorem insK_len (l : List Nat) (i n : Nat) (hi : i ≤ l.length) : (insK l i n).length = l.length + 1 := by
  unfold insK
  rw [List.length_append, List.length_cons, List.length_take, List.length_drop]; omega
theorem insK_end (l : List Nat) (n : Nat) : insK l l.length n = l ++ [n] := by unfold insK; rw [List.take_of_length_le (Nat.le_refl _), List.drop_of_length_le (Nat.le_refl _)]
variable {P : Program} {ρ : Ren}
/-- What becomes of a row of numbers. -/
def InsPost (base : Nat) (t : TypeId) (kv : Value) (l : List Nat) (W : World) (e : Ending) (w' : World) : Prop :=
  ∃ v', e = .returned v' ∧ OwnR EIn w' base t v' l ∧ RowTurn kv W w' ∧ ∀ b, rowB v' = some b → rowB kv = some b ∨ W.heap.size ≤ b
theorem new_row {W : World} {base : Nat} {t : TypeId} {kv : Value} {l : List Nat} {cs : Array Value} {c : Nat} {w1 : World} (hb : base ≤ W.heap.size) (hw : ∀ k, k < W.heap.size → w1.heap[k]? = W.heap[k]?) (ho : w1.os = W.os ∧ w1.tape = W.tape ∧ w1.output = W.output) (hs : w1.heap.size = W.heap.size + 1)
    (hblk : w1.heap[W.heap.size]? = some (.cells cs t (0, 0))) (hcs : cs.size = c) (hl : l.length ≤ c) (hm : c ≤ maxLen) (len : Nat) (hlen : len = l.length) (hc : ∀ j u, (EIn.flat l)[j]? = some u → w1.cell? ⟨W.heap.size, j, none⟩ = some u) :
    InsPost base t kv l W (.returned (.slice (some ⟨W.heap.size, 0, none⟩) len c)) w1 := by
  subst hlen
  refine ⟨_, rfl, own_cells hblk hb (by rw [hcs]; exact (Nat.mul_one _).symm) hl hm hc, ⟨ho.1, ho.2.1, ho.2.2, by omega, fun k hk _ => hw k hk⟩, fun b hb' => .inr ?_⟩
  cases c with
  | zero => cases hb'
  | succ c =>
    have : W.heap.size = b := by simpa [rowB] using hb'
    omega
theorem ins_any (L : Lays2.n21 P ρ) {base : Nat} {kv : Value} {kids : List Nat} {W : World} {vb i n : Nat} {tv : TypeId} (hown : OwnQ EIn W base (ρ.t 3) kv kids) (hi : i ≤ kids.length) (hv : W.heap[vb]? = some (.cells #[.int .i64 (n : Int)] tv (0, 0))) (hvb : rowB kv ≠ some vb)
    (hlen : kids.length ≤ 1000000) (hbase : base ≤ W.heap.size) :
    Calls P (ρ.f 21) #[kv, .int .i64 (i : Int), .slice (some ⟨vb, 0, none⟩) 1 1] W (InsPost base (ρ.t 3) kv (insK kids i n) W) := by
  have hvs : ∀ j v, ([Value.int .i64 (n : Int)])[j]? = some v → W.cell? ⟨vb, 0 + j, none⟩ = some v := by
    intro j v h
    rw [Nat.zero_add, cell_of hv]
    cases j with
    | zero => simpa using h
    | succ j => simp at h
  have h1v : ∀ v ∈ [Value.int .i64 (n : Int)], v.oneCell' = true := by intro v h; simp at h; subst h; rfl
  have hcl : (EIn.flat kids).length = kids.length := by rw [flatI, List.length_map]
  have h1c : ∀ v ∈ EIn.flat kids, v.oneCell' = true := EIn.flat_one kids
  have hat : ∀ (l : List Nat) (j : Nat), (EIn.flat l)[j]? = l[j]?.map fun n : Nat => Value.int .i64 (n : Int) := fun l j => by rw [flatI, List.getElem?_map]
  have hil := insK_len kids i n hi
  -- the end, into a new row
  have hgrow : ∀ (oa : Option Addr) (c : Nat), kv = .slice oa kids.length c → (oa = none → kids.length = 0) → kids.length ≤ c → c < kids.length + 1 → i = kids.length → (∀ a, oa = some a → ∀ j v, (EIn.flat kids)[j]? = some v → W.cell? (a.add j) = some v) →
      Calls P (ρ.f 21) #[kv, .int .i64 (i : Int), .slice (some ⟨vb, 0, none⟩) 1 1] W (InsPost base (ρ.t 3) kv (insK kids i n) W) := by
    intro oa c hk hn hlc hcl' hie hcs
    subst hie
    rw [hk]
    refine (Any2.slices_Insert_int_end_grow L oa kids.length c vb 0 1 1 (EIn.flat kids) [.int .i64 (n : Int)] W (by decide) hlc hcl' (by omega) hcl rfl hn hcs hvs h1v).mono ?_
    rintro e w1 ⟨rfl, rfl⟩
    have hge := grownCap_ge W (kids.length + 1) c (ρ.t 3)
    have hmx := grownCap_le_maxLen W (kids.length + 1) c (ρ.t 3) (by unfold maxLen; omega)
    generalize grownCap W (kids.length + 1) c (ρ.t 3) = gc at hge hmx ⊢
    refine new_row (W := W) (w1 := W.drew.alloc (.cells ((EIn.flat kids ++ [Value.int .i64 (n : Int)]).toArray ++ Builtin.zeroCells (Value.int .i64 0).cells (gc - (kids.length + 1))) (ρ.t 3))) hbase (fun k hk => ?_) ⟨rfl, rfl, rfl⟩ (by simp) (heap_alloc_new W.drew _) ?_ (by omega) hmx _ hil.symm (fun j u hj => ?_)
    · exact Below.heap_alloc W.drew _ k hk
    · simp [size_zeroCells, hcl, Value.cells]; omega
    · have h0 := cell_of (heap_alloc_new W.drew (.cells (((EIn.flat kids ++ [Value.int .i64 (n : Int)]).toArray) ++ Builtin.zeroCells (Value.int .i64 0).cells (gc - (kids.length + 1))) (ρ.t 3))) j
      refine h0.trans ?_
      rw [insK_end] at hj
      have hj' : j < (EIn.flat (kids ++ [n])).length := (List.getElem?_eq_some_iff.1 hj).1
      rw [EIn.flat_append] at hj hj'
      have hj2 : j < (EIn.flat kids ++ [Value.int .i64 (n : Int)]).length := hj'
      rw [Array.getElem?_append_left (by simpa using hj2)]
      have hj3 : (EIn.flat kids ++ [Value.int .i64 (n : Int)])[j]? = some u := hj
      simpa using hj3
  rcases hown with hown | ⟨a, rfl, rfl⟩
  · obtain ⟨hx, ⟨rfl, h2⟩ | ⟨g, cap, cur, rfl, hg, hh, hl, hm, hs, ht⟩⟩ := hown
    · have hk0 : kids = [] := List.length_eq_zero_iff.1 h2
      subst hk0
      exact hgrow none 0 rfl (fun _ => rfl) (Nat.le_refl _) (by decide) (by simpa using hi) (fun a ha => by cases ha)
    · have hown : OwnR EIn W base (ρ.t 3) (.slice (some ⟨g, 0, none⟩) kids.length cap) kids := ⟨hx, .inr ⟨g, cap, cur, rfl, hg, hh, hl, hm, hs, ht⟩⟩
      have hs1 : cur.size = cap := by rw [hs]; exact Nat.mul_one _
      have hcs : ∀ j v, (EIn.flat kids)[j]? = some v → W.cell? ⟨g, 0 + j, none⟩ = some v := fun j v hj => by
        have hj' : j < kids.length := by rw [← hcl]; exact (List.getElem?_eq_some_iff.1 hj).1
        rw [Nat.zero_add, cell_of hh, ← Array.getElem?_toList, ← ht] at *
        rw [List.getElem?_take_of_lt (by simpa [EIn] using hj')] at hj
        exact hj
      by_cases hroom : kids.length + 1 ≤ cap
      · have hrb : rowB (.slice (some ⟨g, 0, none⟩) kids.length cap) = some g := by
          cases cap with
          | zero => omega
          | succ c => rfl
        have hne : vb ≠ g := fun e => hvb (by rw [hrb, e])
        have hin : ∀ j, j < cap → (W.cell? ⟨g, j, none⟩).isSome = true := fun j hj => by rw [cell_of hh, Array.getElem?_eq_getElem (by omega)]; rfl
        have done : ∀ w1 : World, (∃ cs', w1.heap[g]? = some (.cells cs' (ρ.t 3) (0, 0)) ∧ cs'.size = cap) → (∀ k, k < W.heap.size → k ≠ g → w1.heap[k]? = W.heap[k]?) → w1.heap.size = W.heap.size → w1.os = W.os → w1.tape = W.tape → w1.output = W.output →
            (∀ j u, (EIn.flat (insK kids i n))[j]? = some u → w1.cell? ⟨g, j, none⟩ = some u) →
            InsPost base (ρ.t 3) (.slice (some ⟨g, 0, none⟩) kids.length cap) (insK kids i n) W (.returned (.slice (some ⟨g, 0, none⟩) (kids.length + 1) cap)) w1 := by
          rintro w1 ⟨cs', a1, a2⟩ a3 a4 a5 a6 a7 a8
          have := own_cells (En := EIn) (base := base) (cap := cap) (xs := insK kids i n) a1 hg (by rw [a2]; exact (Nat.mul_one _).symm) (by omega) hm a8
          rw [hil] at this
          refine ⟨_, rfl, this, ⟨a5, a6, a7, by omega, fun k hk hk' => a3 k hk (fun e => hk' (by rw [hrb, e]))⟩, fun b hb => .inl ?_⟩
          rw [hrb]
          cases cap with
          | zero => omega
          | succ c => exact hb
        by_cases hie : i = kids.length
        · subst hie
          refine (Any2.slices_Insert_int_end_room L g 0 kids.length cap vb 0 1 1 [.int .i64 (n : Int)] W (by decide) hroom (by unfold maxLen at hm; omega) rfl (fun j hj => ?_) (fun j hj => hfree hh) hvs h1v).mono ?_
          · rw [Nat.zero_add]; exact hin _ (by omega)
          · rintro e w1 ⟨rfl, rfl⟩
            obtain ⟨cs', b1, b2⟩ := set_block g [.int .i64 (n : Int)] (0 + kids.length) W cur _ hh
            refine done _ ⟨cs', b1, by omega⟩ (fun k hk hk' => World.heap_setCells_other W g _ _ hk hk') (set_size _ _ _ _) (World.os_setCells _ _ _ _) (set_tape _ _ _ _) (World.output_setCells _ _ _ _) (fun j u hj => ?_)
            rw [hat, insK_at _ _ _ (Nat.le_refl _)] at hj
            by_cases h1 : j < kids.length
            · rw [if_pos h1] at hj
              rw [World.cell?_setCells_out g _ _ _ _ (fun _ _ => .inl (by simpa using h1)), ← Nat.zero_add j]
              exact hcs j u (by rw [hat]; exact hj)
            · by_cases h2 : j = kids.length
              · subst h2
                rw [if_neg h1, if_pos rfl] at hj
                have := World.cell?_setCells_in g [.int .i64 (n : Int)] (0 + kids.length) W (fun t ht => by simp at ht; subst ht; rw [Nat.zero_add]; exact hin _ (by omega)) 0 (by simp)
                simp at hj
                rw [← hj]; simpa using this
              · rw [if_neg h1, if_neg h2, List.getElem?_eq_none (by omega)] at hj; cases hj
        · have hlt : i < kids.length := by omega
          have hsh : ∀ {b : Nat} {cs : Array Value} {t : TypeId}, W.heap[b]? = some (.cells cs t (0, 0)) → W.shape? b = some (t, cs.size) := fun h => by simp [World.shape?, h]
          refine (Any2.slices_Insert_int_shift L g 0 kids.length cap i vb 0 1 1 (EIn.flat kids) [.int .i64 (n : Int)] W hlt (by decide) hroom (by unfold maxLen at hm; omega) hne hcl rfl hcs (fun j hj => by rw [Nat.zero_add]; exact hin _ (by omega)) (fun j hj => hfree hh) hvs h1c h1v
            tv (ρ.t 3) 1 cap (hsh hv) (by rw [hsh hh, hs1]) (by omega) (hfree hv) (hfree hv)).mono ?_
          rintro e w1 ⟨rfl, rfl⟩
          obtain ⟨cs1, b1, b2⟩ := set_block g ((EIn.flat kids).drop i) (0 + (i + 1)) W.drew cur _ hh
          obtain ⟨cs2, b3, b4⟩ := set_block g [.int .i64 (n : Int)] (0 + i) (W.drew.setCells g (0 + (i + 1)) ((EIn.flat kids).drop i)) cs1 _ b1
          refine done _ ⟨cs2, b3, by omega⟩ (fun k hk hk' => ?_) (by rw [set_size, set_size]; rfl) (by rw [World.os_setCells, World.os_setCells]; rfl) (by rw [set_tape, set_tape]; rfl) (by rw [World.output_setCells, World.output_setCells]; rfl) (fun j u hj => ?_)
          · rw [World.heap_setCells_other _ g _ _ (by rw [set_size]; exact hk) hk', World.heap_setCells_other W.drew g _ _ hk hk']; rfl
          · rw [hat, insK_at _ _ _ hi] at hj
            have hsome : ∀ t, t < ((EIn.flat kids).drop i).length → (W.drew.cell? ⟨g, 0 + (i + 1) + t, none⟩).isSome = true := fun t ht => by
              rw [List.length_drop, hcl] at ht
              exact hin _ (by omega)
            by_cases h1 : j < i
            · rw [if_pos h1] at hj
              rw [World.cell?_setCells_out g _ _ _ _ (fun _ _ => .inl (by show j < 0 + i; omega)), World.cell?_setCells_out g _ _ _ _ (fun _ _ => .inl (by show j < 0 + (i + 1); omega)), ← Nat.zero_add j]
              exact hcs j u (by rw [hat]; exact hj)
            · by_cases h2 : j = i
              · subst h2
                rw [if_neg h1, if_pos rfl] at hj
                have h3 := World.cell?_setCells_in g [.int .i64 (n : Int)] (0 + j) (W.drew.setCells g (0 + (j + 1)) ((EIn.flat kids).drop j)) (fun t ht => by
                  simp at ht; subst ht
                  rw [World.cell?_setCells_out g _ _ _ _ (fun _ _ => .inl (by show 0 + j + 0 < 0 + (j + 1); omega))]
                  exact hin _ (by omega)) 0 (by simp)
                simp at h3 hj
                rw [← hj]; simpa using h3
              · rw [if_neg h1, if_neg h2] at hj
                have hjl : j - 1 < kids.length := by
                  cases hx : kids[j - 1]? with
                  | none => rw [hx] at hj; cases hj
                  | some y => exact (List.getElem?_eq_some_iff.1 hx).1
                rw [World.cell?_setCells_out g _ _ _ _ (fun _ _ => .inr (by show 0 + i + 1 ≤ j; omega))]
                have hdl : j - (i + 1) < ((EIn.flat kids).drop i).length := by rw [List.length_drop, hcl]; omega
                have h3 := World.cell?_setCells_in g ((EIn.flat kids).drop i) (0 + (i + 1)) W.drew hsome (j - (i + 1)) hdl
                have e1 : 0 + (i + 1) + (j - (i + 1)) = j := by omega
                rw [e1] at h3
                rw [h3]
                have e2 : ((EIn.flat kids).drop i)[j - (i + 1)]? = kids[j - 1]?.map fun n : Nat => Value.int .i64 (n : Int) := by rw [List.getElem?_drop, hat]; congr 2; omega
                rw [List.getElem?_eq_getElem hdl] at e2
                rw [e2]; exact hj
      · by_cases hie : i = kids.length
        · exact hgrow (some ⟨g, 0, none⟩) cap rfl (fun h => by cases h) hl (by omega) hie (fun a ha j v hj => by cases ha; rw [add_cell]; exact hcs j v hj)
        · have hlt : i < kids.length := by omega
          refine (Any2.slices_Insert_int_grow L g 0 kids.length cap i vb 0 1 1 (EIn.flat kids) [.int .i64 (n : Int)] W hlt (by decide) hl (by omega) (by omega) hcl rfl hcs hvs h1c h1v).mono ?_
          rintro e w1 ⟨rfl, rfl⟩
          have hge := grownCap_ge W (kids.length + 1) cap (ρ.t 3)
          have hmx := grownCap_le_maxLen W (kids.length + 1) cap (ρ.t 3) (by unfold maxLen; omega)
          generalize grownCap W (kids.length + 1) cap (ρ.t 3) = gc at hge hmx ⊢
          obtain ⟨C, hC⟩ : ∃ C, ((EIn.flat kids).take i).toArray ++ Builtin.zeroCells (Value.int .i64 0).cells (kids.length + 1 - i) ++ Builtin.zeroCells (Value.int .i64 0).cells (gc - (kids.length + 1)) = C := ⟨_, rfl⟩
          have hCs : C.size = gc := by rw [← hC]; simp [size_zeroCells, hcl, Value.cells]; omega
          have hCj : ∀ j, j < i → C[j]? = (EIn.flat kids)[j]? := fun j hj => by
            rw [← hC, Array.append_assoc, Array.getElem?_append_left (by simp [hcl]; omega)]
            simp [List.getElem?_take_of_lt hj]
          rw [hC]
          have hA := heap_alloc_new W (.cells C (ρ.t 3))
          obtain ⟨cs1, b1, b2⟩ := set_block W.heap.size [.int .i64 (n : Int)] i (W.alloc (.cells C (ρ.t 3))).drew C _ hA
          obtain ⟨cs2, b3, b4⟩ := set_block W.heap.size ((EIn.flat kids).drop i) (i + 1) ((W.alloc (.cells C (ρ.t 3))).drew.setCells W.heap.size i [.int .i64 (n : Int)]).drew cs1 _ b1
          have hAs : (W.alloc (.cells C (ρ.t 3))).drew.heap.size = W.heap.size + 1 := by simp
          have hin : ∀ j, j < gc → ((W.alloc (.cells C (ρ.t 3))).drew.cell? ⟨W.heap.size, j, none⟩).isSome = true := fun j hj => by
            rw [World.cell?_drew, cell_of hA, Array.getElem?_eq_getElem (by omega)]; rfl
          have hin2 : ∀ j, j < gc → (((W.alloc (.cells C (ρ.t 3))).drew.setCells W.heap.size i [.int .i64 (n : Int)]).drew.cell? ⟨W.heap.size, j, none⟩).isSome = true := fun j hj => by
            rw [World.cell?_drew, cell_of b1, Array.getElem?_eq_getElem (by omega)]; rfl
          refine new_row hbase (fun k hk => ?_) ⟨by rw [World.os_setCells]; exact World.os_setCells _ _ _ _, by rw [set_tape]; exact set_tape _ _ _ _, by rw [World.output_setCells]; exact World.output_setCells _ _ _ _⟩ ?_ b3 (by omega) (by omega) hmx _ hil.symm (fun j u hj => ?_)
          · rw [World.heap_setCells_other _ _ _ _ (by show k < (World.setCells _ _ _ _).heap.size; rw [set_size, hAs]; omega) (by omega)]
            show (World.setCells _ _ _ _).heap[k]? = _
            rw [World.heap_setCells_other _ _ _ _ (by rw [hAs]; omega) (by omega)]
            exact Below.heap_alloc W _ k hk
          · rw [set_size]
            show (World.setCells _ _ _ _).heap.size = _
            rw [set_size, hAs]
          · rw [hat, insK_at _ _ _ hi] at hj
            by_cases h1 : j < i
            · rw [if_pos h1] at hj
              rw [World.cell?_setCells_out _ _ _ _ _ (fun _ _ => .inl (by show j < i + 1; omega)), World.cell?_drew, World.cell?_setCells_out _ _ _ _ _ (fun _ _ => .inl (by show j < i; omega)), World.cell?_drew, cell_of hA, hCj j h1, hat]
              exact hj
            · by_cases h2 : j = i
              · subst h2
                rw [if_neg h1, if_pos rfl] at hj
                rw [World.cell?_setCells_out _ _ _ _ _ (fun _ _ => .inl (by show j < j + 1; omega)), World.cell?_drew]
                have h3 := World.cell?_setCells_in W.heap.size [.int .i64 (n : Int)] j (W.alloc (.cells C (ρ.t 3))).drew (fun t ht => by simp at ht; subst ht; exact hin _ (by omega)) 0 (by simp)
                simp at h3 hj
                rw [← hj]; simpa using h3
              · rw [if_neg h1, if_neg h2] at hj
                have hjl : j - 1 < kids.length := by
                  cases hx : kids[j - 1]? with
                  | none => rw [hx] at hj; cases hj
                  | some y => exact (List.getElem?_eq_some_iff.1 hx).1
                have hdl : j - (i + 1) < ((EIn.flat kids).drop i).length := by rw [List.length_drop, hcl]; omega
                have h3 := World.cell?_setCells_in W.heap.size ((EIn.flat kids).drop i) (i + 1) ((W.alloc (.cells C (ρ.t 3))).drew.setCells W.heap.size i [.int .i64 (n : Int)]).drew (fun t ht => hin2 _ (by rw [List.length_drop, hcl] at ht; omega)) (j - (i + 1)) hdl
                have e1 : i + 1 + (j - (i + 1)) = j := by omega
                rw [e1] at h3
                rw [h3]
                have e2 : ((EIn.flat kids).drop i)[j - (i + 1)]? = kids[j - 1]?.map fun n : Nat => Value.int .i64 (n : Int) := by rw [List.getElem?_drop, hat]; congr 2; omega
                rw [List.getElem?_eq_getElem hdl] at e2
                rw [e2]; exact hj
  · exact hgrow (some a) 0 rfl (fun h => by cases h) (Nat.le_refl _) (by decide) (by simpa using hi) (fun a' _ j v hj => by simp [flatI] at hj)
/-! ### a number struck -/
theorem put_cells_size {β : Type} [Inhabited β] (enc : β → Value) (off : Nat) (d : Array β) (c : Array Value) : (Sort.putCells enc off d c).size = c.size := by simp [Sort.putCells]
theorem put_block {β : Type} [Inhabited β] {enc : β → Value} {w : World} {g off : Nat} {d : Array β} {cs : Array Value} {T : TypeId} (h : w.heap[g]? = some (.cells cs T (0, 0))) : (Sort.putRow enc w g off d).heap[g]? = some (.cells (Sort.putCells enc off d cs) T (0, 0)) := by
  show (w.heap.modify g _)[g]? = _
  rw [Array.getElem?_modify, if_pos rfl, h]; rfl
theorem put_other {β : Type} [Inhabited β] {enc : β → Value} {w : World} {g off k : Nat} {d : Array β} (h : k ≠ g) : (Sort.putRow enc w g off d).heap[k]? = w.heap[k]? := by
  show (w.heap.modify g _)[k]? = _
  rw [Array.getElem?_modify, if_neg (fun e => h e.symm)]
def encN (n : Nat) : Value := .int .i64 (n : Int)
theorem del_any (L : SlLaysH.n10 P ρ) {base : Nat} {kv : Value} {kids : List Nat} {W : World} {p : Nat → Bool} {g0 : Nat} {lb : Array Value} (eg : ∀ args w, (callFunc g0 args).run P w = .ok (.enter g0 args) w) (hz : ∀ w, (zeroValue (ρ.t 23)).run P w = .ok (.int .i64 0) w)
    {t : TypeId} (hown : OwnQ EIn W base t kv kids) (h0 : 0 < kids.length) (hp : ∀ (W' : World) (x : Nat), (∀ k, k < W.heap.size → rowB kv ≠ some k → W'.heap[k]? = W.heap[k]?) → FnGives P g0 lb #[encN x] (.bool (p x)) W') :
    Calls P (ρ.f 10) #[kv, .func (.func g0) #[] lb] W (InsPost base t kv (kids.filter fun x => !p x) W) := by
  rcases hown with hown | ⟨a, _, rfl⟩
  · obtain ⟨hx, ⟨_, h2⟩ | ⟨g, cap, cur, rfl, hg, hh, hl, hm, hs, ht⟩⟩ := hown
    · omega
    · have hs1 : cur.size = cap := by rw [hs]; exact Nat.mul_one _
      have hcap : ∃ c, cap = c + 1 := ⟨cap - 1, by omega⟩
      have hrb : rowB (.slice (some ⟨g, 0, none⟩) kids.length cap) = some g := by obtain ⟨c, rfl⟩ := hcap; rfl
      have hcell : ∀ j (hj : j < kids.length), cur[j]? = some (encN kids[j]) := fun j hj => by
        have e1 : (cur.toList.take (kids.length * EIn.k))[j]? = (EIn.flat kids)[j]? := by rw [ht]
        rw [List.getElem?_take_of_lt (by simpa [EIn] using hj), Array.getElem?_toList, flatI, List.getElem?_map, List.getElem?_eq_getElem hj] at e1
        exact e1
      have hH : Sort.Holds encN W g 0 kids.toArray := fun j hj => by
        have hj' : j < kids.length := by simpa using hj
        refine ⟨?_, hfree hh⟩
        rw [Nat.zero_add, cell_of hh, hcell j hj']
        congr 2
        rw [getElem!_pos kids.toArray j hj]; simp
      have hgW := hlt hh
      have hP1 : PredAt P g0 lb encN p W := fun W' x hb => hp W' x (fun k hk _ => hb.block k hk)
      have hP2 : PredOver P g0 lb encN p g 0 kids.toArray.size W := fun q os dk x _ => hp _ x (fun k hk hk' => by
        have hne : k ≠ g := fun e => hk' (by rw [hrb, e])
        unfold sortWorld
        rw [Sort.heap_grow_old _ os (by show k < (Sort.putRow _ _ _ _ _).heap.size; rw [Sort.size_putRow]; exact hk), put_other hne]; rfl)
      have hcon := AnyE.slices_DeleteFunc L encN (fun _ => rfl) p g0 lb eg 0 hz g 0 cap kids.toArray W hP1 hP2 hH (by simp; unfold maxLen at hm; omega) (by simpa using hl)
      rw [List.size_toArray] at hcon
      refine hcon.mono ?_
      rintro e w1 ⟨rfl, q, rfl⟩
      have hfl : (kids.filter fun x => !p x).length ≤ kids.length := List.length_filter_le _ _
      obtain ⟨fl, hf⟩ : ∃ fl, (kids.filter fun x => !p x) = fl := ⟨_, rfl⟩
      rw [hf] at hfl ⊢
      have hb1 : (Sort.putRow encN (Sort.ahead W q) g 0 (fl ++ List.replicate (kids.length - fl.length) 0).toArray).heap[g]? = _ := put_block (enc := encN) (w := Sort.ahead W q) hh
      have hown1 := own_cells (En := EIn) (base := base) (cap := cap) (xs := fl) hb1 hg (by rw [put_cells_size, hs1]; exact (Nat.mul_one _).symm) (by omega) hm (fun j u hj => by
        have hj' : j < fl.length := by have := (List.getElem?_eq_some_iff.1 hj).1; rw [flatI, List.length_map] at this; exact this
        rw [cell_of hb1]
        unfold Sort.putCells
        rw [Array.getElem?_mapIdx, Array.getElem?_eq_getElem (show j < cur.size by omega), Option.map_some, if_pos ⟨Nat.zero_le _, by simp; omega⟩, Nat.sub_zero, ← hj, flatI, List.getElem?_map, List.getElem?_eq_getElem hj', Option.map_some]
        congr 1
        rw [getElem!_pos _ j (by simp; omega)]
        simp [encN, hj'])
      refine ⟨_, rfl, hown1, ⟨rfl, rfl, rfl, by rw [Sort.size_putRow]; exact Nat.le_refl _, fun k hk hk' => ?_⟩, fun b hb => .inl ?_⟩
      · have hne : k ≠ g := fun e => hk' (by rw [hrb, e])
        rw [put_other hne]; rfl
      · rw [hrb]
        obtain ⟨c, rfl⟩ := hcap
        exact hb
  · simp at h0
end Lead.Dc
