/-
  From a walk that ends 'true; old memory is as it was' to the row: what all statements of this family share.
-/
import Derived.Test.YtenegeddcbccdaaGreatDoorRows
import Derived.ProofKit
import Derived.OpenShut
import Derived.Stop.LaidErr
import Derived.Deep.DeepHandedRow
import Derived.Deep.DeepWitnessRowRef
import Derived.LaidMore
import Derived.LaidHandle
namespace Lead
open Go Go.ChangeShapes Go.WideShapes Go.ChangeAt Go.RowKit

theorem trodAll_below {H : Type} {enc : TypeId × Value → H} {P : Program} (hl : laidOutB P = true) {W W' : World} (hb : Below W.heap.size W W') :
    ∀ {ts : List TypeId} {vs : List Value} {ds : List (DataW H)} {ps : List MemPlace}, (∀ t ∈ ts, P.readableRec t = true ∧ t < P.types.size) → DataW.TrodAll enc P W 0 (fun _ => true) true ts vs ds ps →
      (∀ x ∈ ps, x.block < W.heap.size) → DataW.TrodAll enc P W' 0 (fun b => decide (b < W.heap.size)) true ts vs ds ps := by
  intro ts
  induction ts with
  | nil =>
    intro vs ds ps _ h _
    obtain ⟨rfl, rfl, rfl⟩ := trodAll_nil h
    exact trodAll_mk0
  | cons t ts ih =>
    intro vs ds ps ht h hlt
    obtain ⟨v, vs', d, ds', p, q, rfl, rfl, rfl, h1, h2⟩ := trodAll_cons h
    exact trodAll_cons_mk (Below.trod hl (ht t (by simp)).1 (ht t (by simp)).2 h1 hb (fun x hx => hlt x (List.mem_append_left _ hx)))
      (ih (fun u hu => ht u (by simp [hu])) h2 (fun x hx => hlt x (List.mem_append_right _ hx)))

/-- A law's post: it returned true, and old memory is as it was. -/
theorem law_post {H : Type} {enc : TypeId × Value → H} {P : Program} {f : Func} {s : ChangeSpec} {W W' : World} {args : Array Value} {ds gs : List (DataW H)} {before : List MemPlace} {tb : TypeId}
    (hl : laidOutB P = true) (hread : ∀ t ∈ f.params.toList, P.readableRec t = true ∧ t < P.types.size) (hvars : s.vars = []) (htb : P.underlying tb = some .bool) (hres : f.resultTypes = #[tb])
    (hfn : ∀ ds, ds.length = f.params.size → s.fn H ds = { results := [.lit (.bool true)], args := ds })
    (hW : DataW.Whole enc P f.params.toList s.vars false W args.toList ds gs before) (hb : Below W.heap.size W W') : s.post enc P f false true false false W args (.bool true) W' := by
  have hW' := hW
  have hlt := hW.lt
  obtain ⟨p, q, hA, hV, rfl, hfz, hnd⟩ := hW
  rw [hvars] at hV
  obtain ⟨rfl, rfl⟩ := trodVars_none hV
  have hlen : ds.length = f.params.size := by
    have : ∀ {ts : List TypeId} {vs : List Value} {ds : List (DataW H)} {ps : List MemPlace}, DataW.TrodAll enc P W 0 (fun _ => true) true ts vs ds ps → ds.length = ts.length := by
      intro ts
      induction ts with
      | nil => intro vs ds ps h; obtain ⟨_, rfl, _⟩ := trodAll_nil h; rfl
      | cons t ts ih => intro vs ds ps h; obtain ⟨_, _, _, _, _, _, _, rfl, _, _, h2⟩ := trodAll_cons h; simp [ih h2]
    have := this hA
    simpa using this
  have e1 : s.fn H (ds ++ []) = { results := [.lit (.bool true)], args := ds } := by rw [List.append_nil]; exact hfn ds hlen
  refine ⟨_, _, _, [], p, [], hW', ?_, ?_, ?_, hb.frame _, fun h => by cases h⟩
  · rw [e1, hres]; exact trodAll_mk1 (shut_bool htb true)
  · rw [e1]; exact trodAll_below hl hb hread hA (fun x hx => hlt x (List.mem_append_left _ hx))
  · rw [e1, hvars]; rfl
end Lead
namespace Go.Proofs.YtenegeddcbccdaaGreatDoor
open Go.ChangeShapes Go.WideShapes Go.ChangeAt Go.RowKit Lead
set_option maxRecDepth 100000
theorem own : ownKnob Tryz.prog.godebug = none := by kernel_rfl
theorem laidOut : laidOutB Tryz.prog = true := by kernel_rfl
theorem starE : "*" ++ "errors.errorString" = "*errors.errorString" := by decide
theorem rowE (u : TypeId) (h : Tryz.prog.typeName? 3 u = some "*errors.errorString") : u = 240 :=
  typeName_ptr_named (nm := "errors.errorString") (by rw [starE]; kernel_rfl) (by kernel_rfl) (by decide) u (by rw [starE]; exact h)
theorem cellsES : Tryz.prog.cellsOf 259 = 1 := by kernel_rfl
theorem cellsStr : Tryz.prog.cellsOf 9 = 1 := by kernel_rfl

/-- What a listed error reads as. -/
def sentD (text : List UInt8) : DataW Unit := .iface "*errors.errorString" (.ptr (.agg [.lit (.string text)]))

/-- Listed errors lie at places of their own. -/
theorem sents_ind {W : World} : ∀ (L : List (String × List UInt8)) (ps : List MemPlace), DataW.LaidVars Tryz.prog W (L.map fun x => (x.1, sentD x.2)) ps → ps.Nodup →
    (∀ b off, MemPlace.cell b off ∈ ps → (∃ c t, W.heap[b]? = some (.cells c t (0, 0))) ∧ ∀ u v, W.cell? ⟨b, off, none⟩ = some (.iface u v) → Value.okWide Tryz.prog W .any 0 u v) →
    (∀ x ∈ L, ∃ g, Tryz.prog.globalNamed x.1 = some g ∧ (Tryz.prog.globals[g]?).map (·.type) = some 32) →
    ∃ As : List Addr, As.length = L.length ∧ As.Nodup ∧ (∀ a ∈ As, MemPlace.cell a.block a.off ∈ ps) ∧
      ∀ (i : Nat) (x : String × List UInt8) (a : Addr), L[i]? = some x → As[i]? = some a → (∀ g, Tryz.prog.globalNamed x.1 = some g → W.cell? ⟨g, 0, none⟩ = some (.iface 240 (.pointer (some a)))) ∧
        (∃ s, W.cell? a = some (.string s)) ∧ ∃ c t, W.heap[a.block]? = some (.cells c t (0, 0)) := by
  intro L
  induction L with
  | nil => intro ps _ _ _ _; exact ⟨[], rfl, List.nodup_nil, (fun a ha => by cases ha), (fun i x a hx => by simp at hx)⟩
  | cons y L ih =>
    intro ps h hnd hrows hg
    obtain ⟨g, t, cs, fuel, p, q, hg0, ht0, hv0, hd0, hq, rfl⟩ := h
    obtain ⟨g', hg1, hg2⟩ := hg y (by simp)
    obtain rfl := Option.some.inj (hg1.symm.trans hg0)
    obtain rfl := Option.some.inj (hg2.symm.trans ht0)
    have hc0 : 0 < cs.size → MemPlace.cell g' 0 ∈ MemPlace.row ⟨g', 0, none⟩ cs.size ++ p ++ q := fun h => by
      simp only [List.append_assoc, List.mem_append]
      exact .inl (List.mem_map.2 ⟨0, List.mem_range.2 h, by simp⟩)
    have ok0 : ∀ u v, cs.toList = [.iface u v] → Value.okWide Tryz.prog W .any 0 u v := fun u v e => by
      have hcs : cs = #[.iface u v] := by cases cs; simp_all
      subst hcs
      exact (hrows g' 0 (hc0 (by simp))).2 u v (by simpa using World.var?_cell hg0 hv0 0)
    obtain ⟨a0, s0, hcs, hca, _, _, rfl⟩ := errorString_of_trod Tryz.underlying32 rowE Tryz.underlying240 Tryz.underlying259 rfl rfl Tryz.underlying9 cellsES cellsStr hd0 ok0
    have hcs' : cs = #[.iface 240 (.pointer (some a0))] := by cases cs; simp_all
    subst hcs'
    obtain ⟨As, h1, h2, h3, h4⟩ := ih q hq (List.Nodup.sublist (List.sublist_append_right _ _) hnd) (fun b off hm => hrows b off (List.mem_append_right _ hm)) (fun x hx => hg x (by simp [hx]))
    have ha0 : MemPlace.cell a0.block a0.off ∈ MemPlace.row ⟨g', 0, none⟩ 1 ++ MemPlace.row a0 1 ++ q := by simp [MemPlace.row]
    refine ⟨a0 :: As, by simp [h1], List.nodup_cons.2 ⟨fun hm => ?_, h2⟩, ?_, ?_⟩
    · have hq2 := h3 a0 hm
      simp only [MemPlace.row, List.range_one, List.map_cons, List.map_nil, Nat.add_zero] at hnd
      have := (List.nodup_cons.1 (List.nodup_cons.1 hnd).2).1
      exact this hq2
    · intro a ha
      rcases List.mem_cons.1 ha with rfl | ha
      · exact ha0
      · exact List.mem_append_right _ (h3 a ha)
    · intro i x a hx ha
      cases i with
      | zero =>
        simp at hx ha
        subst hx ha
        refine ⟨fun g hgg => ?_, ⟨s0, hca⟩, (hrows _ _ ha0).1⟩
        obtain rfl := Option.some.inj (hg0.symm.trans hgg)
        simpa using World.var?_cell hg0 hv0 0
      | succ i => exact h4 i x a (by simpa using hx) (by simpa using ha)

/-- Where the error of a number lies: by the list of the numbers, in the order of the row's list. -/
def eaOf (codes : List Nat) (As : List Addr) (c : Nat) : Addr := (As[codes.idxOf c]?).getD ⟨0, 0, none⟩
end Go.Proofs.YtenegeddcbccdaaGreatDoor
