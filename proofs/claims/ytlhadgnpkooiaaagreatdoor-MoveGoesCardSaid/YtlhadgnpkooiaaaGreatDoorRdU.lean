/-
  Walks over package move: one.
-/
import Derived.Test.YtlhadgnpkooiaaaGreatDoorRdV
import Derived.Test.YtlhadgnpkooiaaaGreatDoorSet
namespace Lead
open Go Go.RowKit
theorem call_fs {P : Program} {f : FuncId} {args : Array Value} {w W : World} {R : Ending → World → Prop} {T : Nat} {ea : Nat → Addr} {e : TypeId} {c : Nat} {fs : List Fr} (hB : Below w.heap.size w W)
    (h : Below w.heap.size w W → Calls P f args W (RetFs T ea e c fs W)) (h0 : c = 0) (hne : fs ≠ []) {n : Nat} (hn : fs.length = n)
    (k : ∀ g cap w1, W.heap.size ≤ g → g < w1.heap.size → RowIn EF w1 g 0 fs → Below w.heap.size w w1 → W.heap.size ≤ w1.heap.size → (∀ b o, b < W.heap.size → w1.cell? ⟨b, o, none⟩ = W.cell? ⟨b, o, none⟩) →
      (∀ b o, b < W.heap.size → w1.frozen? ⟨b, o, none⟩ = W.frozen? ⟨b, o, none⟩) → Below W.heap.size W w1 → R (.returned (.tuple #[.slice (some ⟨g, 0, none⟩) n cap, .nilIface])) w1) : Calls P f args W R :=
  (h hB).mono fun en w1 ⟨v, he, hv, hb⟩ => by
    subst he
    rcases (hv h0).form with ⟨_, h2⟩ | ⟨g, cap, h1, h2, h3, _, _, h4⟩
    · exact absurd h2 hne
    · subst h1 hn
      rw [evl_0 h0]
      exact k g cap w1 h2 h3 h4 (hB.trans (hb.mono hB.size)) hb.size (bcell hb).1 (bcell hb).2 hb
theorem call_fsn {P : Program} {f : FuncId} {args : Array Value} {w W : World} {R : Ending → World → Prop} {T : Nat} {ea : Nat → Addr} {e : TypeId} {c : Nat} {fs : List Fr} (hB : Below w.heap.size w W)
    (h : Below w.heap.size w W → Calls P f args W (RetFs T ea e c fs W)) (h0 : c ≠ 0)
    (k : ∀ v w1, Below w.heap.size w w1 → W.heap.size ≤ w1.heap.size → (∀ b o, b < W.heap.size → w1.cell? ⟨b, o, none⟩ = W.cell? ⟨b, o, none⟩) →
      (∀ b o, b < W.heap.size → w1.frozen? ⟨b, o, none⟩ = W.frozen? ⟨b, o, none⟩) → Below W.heap.size W w1 → R (.returned (.tuple #[v, .iface T (.pointer (some (ea c)))])) w1) : Calls P f args W R :=
  (h hB).mono fun en w1 ⟨v, he, _, hb⟩ => by
    subst he
    rw [evl_n h0]
    exact k v w1 (hB.trans (hb.mono hB.size)) hb.size (bcell hb).1 (bcell hb).2 hb
theorem row2 {w : World} {g : Nat} {a b : Fr} (h : RowIn EF w g 0 [a, b]) : w.cell? ⟨g, 0, none⟩ = some (.int .i64 a.n) ∧ w.cell? ⟨g, 1, none⟩ = some (.int .i64 a.d) ∧ w.cell? ⟨g, 2, none⟩ = some (.int .i64 b.n) ∧ w.cell? ⟨g, 3, none⟩ = some (.int .i64 b.d) :=
  ⟨h 0 (by simp) 0 _ rfl, h 0 (by simp) 1 _ rfl, h 1 (by simp) 0 _ rfl, h 1 (by simp) 1 _ rfl⟩
theorem row1 {w : World} {g : Nat} {a : Fr} (h : RowIn EF w g 0 [a]) : w.cell? ⟨g, 0, none⟩ = some (.int .i64 a.n) ∧ w.cell? ⟨g, 1, none⟩ = some (.int .i64 a.d) :=
  ⟨h 0 (by simp) 0 _ rfl, h 0 (by simp) 1 _ rfl⟩
end Lead
namespace Go.Proofs.YtlhadgnpkooiaaaGreatDoor
open Go.RowKit Lead

theorem res_one (tmps : Array Value) (w0 : World) (g : Nat) (v0 v1 v2 v3 v4 v5 v6 v7 v8 v9 v10 v11 : Value) (h4 : tmps[4]?.getD undef = .pointer (some ⟨g, 0, none⟩)) (hc : ∀ j, w0.cell? ⟨g, j, none⟩ = (#[v0, v1, v2, v3, v4, v5, v6, v7, v8, v9, v10, v11] : Array Value)[j]?) :
    (results Tryz.f30 tmps).run Tryz.prog w0 = .ok (.tuple #[.agg #[v0, v1, v2, v3, v4, v5, v6, v7, v8, v9, v10, v11], tmps[5]?.getD undef]) w0 := by
  simp [results, Tryz.results30, go_sem, h4, hc]
set_option maxHeartbeats 1000000 in
set_option maxRecDepth 100000 in
theorem mone_turn (_ea : Nat → Addr) (s : ByteArray) (a : List UInt8) (b off cap : Nat) (w : World) (h1 : (s.toList == [116, 117, 114, 110]) = true) (q : Mv) (hq : qtr a = some q) (hs0 : w.cell? ⟨b, off, none⟩ = some (.string ⟨a.toArray⟩)) (hbl : b < w.heap.size) :
    Calls Tryz.prog 30 #[.string s, .slice (some ⟨b, off, none⟩) 1 cap] w fun e w' => e = .returned (.tuple #[.agg #[.int .i64 q.A.n, .int .i64 q.A.d, .int .i64 q.B.n, .int .i64 q.B.d, .int .i64 q.C.n, .int .i64 q.C.d, .int .i64 q.D.n, .int .i64 q.D.d, .int .i64 q.E.n, .int .i64 q.E.d, .int .i64 q.F.n, .int .i64 q.F.d], .nilIface]) ∧ Below w.heap.size w w' := by
  have hb0 : ¬ w.heap.size = b := by omega
  have hq1 : (qtr (⟨a.toArray⟩ : ByteArray).data.toList).getD zMv = q := by
    show (qtr a).getD zMv = q
    rw [hq]; rfl
  have hq2 : (qtr (⟨a.toArray⟩ : ByteArray).data.toList).isSome = true := by
    show (qtr a).isSome = true
    rw [hq]; rfl
  have H_hq := Lib.hid hq
  clear hq
  have H_hq1 := Lib.hid hq1
  clear hq1
  have H_hq2 := Lib.hid hq2
  clear hq2
  go_enter Tryz.func30, Tryz.ntmps30
  ((try go_simp); (repeat go_step))
  refine call_bel (w := w) (by repeat' (first | (with_reducible first | exact bwR _ _ | assumption | refine bdn ?_ | refine bwA ?_ ?_ _ | refine bwD ?_ | refine bwS ?_ ?_ _) | omega | (simp <;> omega))) (fun HB => mone_any _) ?_
  intro w1 hb1 hz1 c1 d1 hW1
  have t1 := hb1.size
  try simp only [szA] at hz1 c1 d1
  try simp only [szD] at hz1 c1 d1
  try simp only [szS] at hz1 c1 d1
  try simp only [World.heap_drewN] at hz1 c1 d1
  try simp only [szA] at hz1 c1 d1
  try simp only [szD] at hz1 c1 d1
  try simp only [szS] at hz1 c1 d1
  have s1_0 : w.heap.size < w1.heap.size := by omega
  have o1_0 := fun j => c1 (w.heap.size) j (by omega)
  have f1_0 := fun j => d1 (w.heap.size) j (by omega)
  clear c1 d1 hz1 hW1
  have hs1 := (hb1.cell (p := ⟨b, off, none⟩) hbl).trans hs0
  have sb1 : b < w1.heap.size := by omega
  have nb1 : ¬ w1.heap.size = b := by omega
  ((try go_simp); (repeat go_step))
  refine call_bel (w := w) (by repeat' (first | (with_reducible first | exact bwR _ _ | assumption | refine bdn ?_ | refine bwA ?_ ?_ _ | refine bwD ?_ | refine bwS ?_ ?_ _) | omega | (simp <;> omega))) (fun HB => mquarters_any ⟨a.toArray⟩ q true _ H_hq1.out H_hq2.out) ?_
  intro w2 hb2 hz2 c2 d2 hW2
  have t2 := hb2.size
  try simp only [szA] at hz2 c2 d2
  try simp only [szD] at hz2 c2 d2
  try simp only [szS] at hz2 c2 d2
  try simp only [World.heap_drewN] at hz2 c2 d2
  try simp only [szA] at hz2 c2 d2
  try simp only [szD] at hz2 c2 d2
  try simp only [szS] at hz2 c2 d2
  have s2_0 : w.heap.size < w2.heap.size := by omega
  have o2_0 := fun j => c2 (w.heap.size) j (by omega)
  have f2_0 := fun j => d2 (w.heap.size) j (by omega)
  clear c2 d2 hz2 hW2
  ((try go_simp); (repeat go_step))
  first
    | (with_reducible refine bodyPost_ret (res_one _ _ (w.heap.size) _ _ _ _ _ _ _ _ _ _ _ _ ?hp (set12 ?hz _ _ _ _ _ _ _ _ _ _ _ _)) rfl ?_)
    | (with_reducible refine bodyPost_ret (res_one _ _ (w.heap.size) _ _ _ _ _ _ _ _ _ _ _ _ ?hp (set12d ?hz _ _ _ _ _ _ _ _ _ _ _ _)) rfl ?_)
    | (with_reducible refine bodyPost_ret (res_one _ _ (w.heap.size) _ _ _ _ _ _ _ _ _ _ _ _ ?hp (set12a ?hg ?hz _ _ _ _ _ _ _ _ _ _ _ _)) rfl ?_)
    | (with_reducible refine bodyPost_ret (res_one _ _ (w.heap.size) _ _ _ _ _ _ _ _ _ _ _ _ ?hp (set12ad ?hg ?hz _ _ _ _ _ _ _ _ _ _ _ _)) rfl ?_)
  case hp => simp
  case hz => (intro j; rw [o2_0, World.cell?_alloc_past _ _ _ s1_0, o1_0, World.cell?_alloc_new])
  try (case hg => ((try simp only [World.size_setCell]); exact s2_0))
  show _ ∧ _
  exact ⟨rfl, by repeat' (first | (with_reducible first | exact bwR _ _ | assumption | refine bdn ?_ | refine bwA ?_ ?_ _ | refine bwD ?_ | refine bwS ?_ ?_ _) | omega | (simp <;> omega))⟩

set_option maxHeartbeats 1000000 in
set_option maxRecDepth 100000 in
theorem mone_turn_no (ea : Nat → Addr) (s : ByteArray) (a : List UInt8) (b off cap : Nat) (w : World) (h1 : (s.toList == [116, 117, 114, 110]) = true) (hq : qtr a = none) (hs0 : w.cell? ⟨b, off, none⟩ = some (.string ⟨a.toArray⟩)) (hbl : b < w.heap.size) (hText : w.cell? ⟨1, 0, none⟩ = some (.iface 183 (.pointer (some (ea 1))))) :
    Calls Tryz.prog 30 #[.string s, .slice (some ⟨b, off, none⟩) 1 cap] w fun e w' => e = .returned (.tuple #[.agg #[.int .i64 zMv.A.n, .int .i64 zMv.A.d, .int .i64 zMv.B.n, .int .i64 zMv.B.d, .int .i64 zMv.C.n, .int .i64 zMv.C.d, .int .i64 zMv.D.n, .int .i64 zMv.D.d, .int .i64 zMv.E.n, .int .i64 zMv.E.d, .int .i64 zMv.F.n, .int .i64 zMv.F.d], .iface 183 (.pointer (some (ea 1)))]) ∧ Below w.heap.size w w' := by
  have zhText := zlt hText
  have xhText := zlts hText
  have yhText := zne hText
  have hb0 : ¬ w.heap.size = b := by omega
  have hq1 : (qtr (⟨a.toArray⟩ : ByteArray).data.toList).getD zMv = zMv := by
    show (qtr a).getD zMv = zMv
    rw [hq]; rfl
  have hq2 : (qtr (⟨a.toArray⟩ : ByteArray).data.toList).isSome = false := by
    show (qtr a).isSome = false
    rw [hq]; rfl
  have H_hq := Lib.hid hq
  clear hq
  have H_hq1 := Lib.hid hq1
  clear hq1
  have H_hq2 := Lib.hid hq2
  clear hq2
  go_enter Tryz.func30, Tryz.ntmps30
  ((try go_simp); (repeat go_step))
  refine call_bel (w := w) (by repeat' (first | (with_reducible first | exact bwR _ _ | assumption | refine bdn ?_ | refine bwA ?_ ?_ _ | refine bwD ?_ | refine bwS ?_ ?_ _) | omega | (simp <;> omega))) (fun HB => mone_any _) ?_
  intro w1 hb1 hz1 c1 d1 hW1
  have t1 := hb1.size
  try simp only [szA] at hz1 c1 d1
  try simp only [szD] at hz1 c1 d1
  try simp only [szS] at hz1 c1 d1
  try simp only [World.heap_drewN] at hz1 c1 d1
  try simp only [szA] at hz1 c1 d1
  try simp only [szD] at hz1 c1 d1
  try simp only [szS] at hz1 c1 d1
  have s1_0 : w.heap.size < w1.heap.size := by omega
  have o1_0 := fun j => c1 (w.heap.size) j (by omega)
  have f1_0 := fun j => d1 (w.heap.size) j (by omega)
  clear c1 d1 hz1 hW1
  have hs1 := (hb1.cell (p := ⟨b, off, none⟩) hbl).trans hs0
  have sb1 : b < w1.heap.size := by omega
  have nb1 : ¬ w1.heap.size = b := by omega
  ((try go_simp); (repeat go_step))
  refine call_bel (w := w) (by repeat' (first | (with_reducible first | exact bwR _ _ | assumption | refine bdn ?_ | refine bwA ?_ ?_ _ | refine bwD ?_ | refine bwS ?_ ?_ _) | omega | (simp <;> omega))) (fun HB => mquarters_any ⟨a.toArray⟩ zMv false _ H_hq1.out H_hq2.out) ?_
  intro w2 hb2 hz2 c2 d2 hW2
  have t2 := hb2.size
  try simp only [szA] at hz2 c2 d2
  try simp only [szD] at hz2 c2 d2
  try simp only [szS] at hz2 c2 d2
  try simp only [World.heap_drewN] at hz2 c2 d2
  try simp only [szA] at hz2 c2 d2
  try simp only [szD] at hz2 c2 d2
  try simp only [szS] at hz2 c2 d2
  have s2_0 : w.heap.size < w2.heap.size := by omega
  have o2_0 := fun j => c2 (w.heap.size) j (by omega)
  have f2_0 := fun j => d2 (w.heap.size) j (by omega)
  clear c2 d2 hz2 hW2
  have SKB : ∀ W, Below w.heap.size w W → W.cell? ⟨1, 0, none⟩ = some (.iface 183 (.pointer (some (ea 1)))) := fun W h => gkeep h hText rfl
  have H_SKB := Lib.hid SKB
  clear SKB
  ((try go_simp); (repeat go_step))
  go_region_held3 (fun W => W.cell? ⟨1, 0, none⟩ = some (.iface 183 (.pointer (some (ea 1))))) (exact H_SKB.out _ (by repeat' (first | (with_reducible first | exact bwR _ _ | assumption | refine bdn ?_ | refine bwA ?_ ?_ _ | refine bwD ?_ | refine bwS ?_ ?_ _) | omega | (simp <;> omega)))) (fail)
  ((try go_simp); (repeat go_step))
  first
    | (with_reducible refine bodyPost_ret (res_one _ _ (w.heap.size) _ _ _ _ _ _ _ _ _ _ _ _ ?hp (set12 ?hz _ _ _ _ _ _ _ _ _ _ _ _)) rfl ?_)
    | (with_reducible refine bodyPost_ret (res_one _ _ (w.heap.size) _ _ _ _ _ _ _ _ _ _ _ _ ?hp (set12d ?hz _ _ _ _ _ _ _ _ _ _ _ _)) rfl ?_)
    | (with_reducible refine bodyPost_ret (res_one _ _ (w.heap.size) _ _ _ _ _ _ _ _ _ _ _ _ ?hp (set12a ?hg ?hz _ _ _ _ _ _ _ _ _ _ _ _)) rfl ?_)
    | (with_reducible refine bodyPost_ret (res_one _ _ (w.heap.size) _ _ _ _ _ _ _ _ _ _ _ _ ?hp (set12ad ?hg ?hz _ _ _ _ _ _ _ _ _ _ _ _)) rfl ?_)
  case hp => simp
  case hz => (intro j; rw [o2_0, World.cell?_alloc_past _ _ _ s1_0, o1_0, World.cell?_alloc_new])
  try (case hg => ((try simp only [World.size_setCell]); exact s2_0))
  show _ ∧ _
  exact ⟨rfl, by repeat' (first | (with_reducible first | exact bwR _ _ | assumption | refine bdn ?_ | refine bwA ?_ ?_ _ | refine bwD ?_ | refine bwS ?_ ?_ _) | omega | (simp <;> omega))⟩

set_option maxHeartbeats 1000000 in
set_option maxRecDepth 100000 in
theorem mone_err (ea : Nat → Addr) (s : ByteArray) (ss : List (List UInt8)) (b off n cap : Nat) (w : World) (h1 : (s.toList == [116, 117, 114, 110]) = false) (hn : ss.length = n) (h2 : n ≤ 100) (hc : frsC ss ≠ 0) (hsz : ∀ l ∈ ss, l.length ≤ 100000) (hss : StrIn w b off ss) (hbl : b < w.heap.size)
    (hL : Libs w) (hText : w.cell? ⟨1, 0, none⟩ = some (.iface 183 (.pointer (some (ea 1))))) (hShape : w.cell? ⟨2, 0, none⟩ = some (.iface 183 (.pointer (some (ea 3))))) (hBound : w.cell? ⟨0, 0, none⟩ = some (.iface 183 (.pointer (some (ea 2))))) :
    Calls Tryz.prog 30 #[.string s, .slice (some ⟨b, off, none⟩) n cap] w fun e w' => e = .returned (.tuple #[.agg #[.int .i64 zMv.A.n, .int .i64 zMv.A.d, .int .i64 zMv.B.n, .int .i64 zMv.B.d, .int .i64 zMv.C.n, .int .i64 zMv.C.d, .int .i64 zMv.D.n, .int .i64 zMv.D.d, .int .i64 zMv.E.n, .int .i64 zMv.E.d, .int .i64 zMv.F.n, .int .i64 zMv.F.d], .iface 183 (.pointer (some (ea (frsC ss))))]) ∧ Below w.heap.size w w' := by
  have zhText := zlt hText
  have xhText := zlts hText
  have yhText := zne hText
  have zhShape := zlt hShape
  have xhShape := zlts hShape
  have yhShape := zne hShape
  have zhBound := zlt hBound
  have xhBound := zlts hBound
  have yhBound := zne hBound
  have H_hL := Lib.hid hL
  clear hL
  have H_hn := Lib.hid hn
  clear hn
  have H_hc := Lib.hid hc
  clear hc
  have H_hsz := Lib.hid hsz
  clear hsz
  have H_hss := Lib.hid hss
  clear hss
  go_enter Tryz.func30, Tryz.ntmps30
  ((try go_simp); (repeat go_step))
  refine call_bel (w := w) (by repeat' (first | (with_reducible first | exact bwR _ _ | assumption | refine bdn ?_ | refine bwA ?_ ?_ _ | refine bwD ?_ | refine bwS ?_ ?_ _) | omega | (simp <;> omega))) (fun HB => mone_any _) ?_
  intro w1 hb1 hz1 c1 d1 hW1
  have t1 := hb1.size
  try simp only [szA] at hz1 c1 d1
  try simp only [szD] at hz1 c1 d1
  try simp only [szS] at hz1 c1 d1
  try simp only [World.heap_drewN] at hz1 c1 d1
  try simp only [szA] at hz1 c1 d1
  try simp only [szD] at hz1 c1 d1
  try simp only [szS] at hz1 c1 d1
  have s1_0 : w.heap.size < w1.heap.size := by omega
  have o1_0 := fun j => c1 (w.heap.size) j (by omega)
  have f1_0 := fun j => d1 (w.heap.size) j (by omega)
  clear c1 d1 hz1 hW1
  ((try go_simp); (repeat go_step))
  refine call_fsn (w := w) (by repeat' (first | (with_reducible first | exact bwR _ _ | assumption | refine bdn ?_ | refine bwA ?_ ?_ _ | refine bwD ?_ | refine bwS ?_ ?_ _) | omega | (simp <;> omega))) (fun HB => mfracs_any ea ss b off n cap _ H_hn.out h2 H_hsz.out (H_hss.out.keep HB hbl) (by simp; omega) (H_hL.out.keep HB rfl) (gkeep HB hText rfl) (gkeep HB hShape rfl) (gkeep HB hBound rfl)) (H_hc.out) ?_
  intro v2 w2 hb2 hz2 c2 d2 hW2
  have t2 := hb2.size
  try simp only [szA] at hz2 c2 d2
  try simp only [szD] at hz2 c2 d2
  try simp only [szS] at hz2 c2 d2
  try simp only [World.heap_drewN] at hz2 c2 d2
  try simp only [szA] at hz2 c2 d2
  try simp only [szD] at hz2 c2 d2
  try simp only [szS] at hz2 c2 d2
  have s2_0 : w.heap.size < w2.heap.size := by omega
  have o2_0 := fun j => c2 (w.heap.size) j (by omega)
  have f2_0 := fun j => d2 (w.heap.size) j (by omega)
  clear c2 d2 hz2 hW2
  ((try go_simp); (repeat go_step))
  first
    | (with_reducible refine bodyPost_ret (res_one _ _ (w.heap.size) _ _ _ _ _ _ _ _ _ _ _ _ ?hp (set12 ?hz _ _ _ _ _ _ _ _ _ _ _ _)) rfl ?_)
    | (with_reducible refine bodyPost_ret (res_one _ _ (w.heap.size) _ _ _ _ _ _ _ _ _ _ _ _ ?hp (set12d ?hz _ _ _ _ _ _ _ _ _ _ _ _)) rfl ?_)
    | (with_reducible refine bodyPost_ret (res_one _ _ (w.heap.size) _ _ _ _ _ _ _ _ _ _ _ _ ?hp (set12a ?hg ?hz _ _ _ _ _ _ _ _ _ _ _ _)) rfl ?_)
    | (with_reducible refine bodyPost_ret (res_one _ _ (w.heap.size) _ _ _ _ _ _ _ _ _ _ _ _ ?hp (set12ad ?hg ?hz _ _ _ _ _ _ _ _ _ _ _ _)) rfl ?_)
  case hp => simp
  case hz => (intro j; rw [o2_0, World.cell?_alloc_past _ _ _ s1_0, o1_0, World.cell?_alloc_new])
  try (case hg => ((try simp only [World.size_setCell]); exact s2_0))
  show _ ∧ _
  exact ⟨rfl, by repeat' (first | (with_reducible first | exact bwR _ _ | assumption | refine bdn ?_ | refine bwA ?_ ?_ _ | refine bwD ?_ | refine bwS ?_ ?_ _) | omega | (simp <;> omega))⟩

set_option maxHeartbeats 1000000 in
set_option maxRecDepth 100000 in
theorem mone_move (ea : Nat → Addr) (s : ByteArray) (x y : List UInt8) (b off cap : Nat) (w : World) (h1 : (s.toList == [116, 117, 114, 110]) = false) (h3 : (s.toList == [109, 111, 118, 101]) = true) (hc : frsC [x, y] = 0) (p q : Fr) (hp : rdF x = p) (hq : rdF y = q) (hsz : ∀ l ∈ [x, y], l.length ≤ 100000) (hss : StrIn w b off [x, y]) (hbl : b < w.heap.size)
    (hL : Libs w) (hText : w.cell? ⟨1, 0, none⟩ = some (.iface 183 (.pointer (some (ea 1))))) (hShape : w.cell? ⟨2, 0, none⟩ = some (.iface 183 (.pointer (some (ea 3))))) (hBound : w.cell? ⟨0, 0, none⟩ = some (.iface 183 (.pointer (some (ea 2))))) :
    Calls Tryz.prog 30 #[.string s, .slice (some ⟨b, off, none⟩) 2 cap] w fun e w' => e = .returned (.tuple #[.agg #[.int .i64 (⟨⟨1, 1⟩, ⟨0, 1⟩, ⟨0, 1⟩, ⟨1, 1⟩, p, q⟩ : Mv).A.n, .int .i64 (⟨⟨1, 1⟩, ⟨0, 1⟩, ⟨0, 1⟩, ⟨1, 1⟩, p, q⟩ : Mv).A.d, .int .i64 (⟨⟨1, 1⟩, ⟨0, 1⟩, ⟨0, 1⟩, ⟨1, 1⟩, p, q⟩ : Mv).B.n, .int .i64 (⟨⟨1, 1⟩, ⟨0, 1⟩, ⟨0, 1⟩, ⟨1, 1⟩, p, q⟩ : Mv).B.d, .int .i64 (⟨⟨1, 1⟩, ⟨0, 1⟩, ⟨0, 1⟩, ⟨1, 1⟩, p, q⟩ : Mv).C.n, .int .i64 (⟨⟨1, 1⟩, ⟨0, 1⟩, ⟨0, 1⟩, ⟨1, 1⟩, p, q⟩ : Mv).C.d, .int .i64 (⟨⟨1, 1⟩, ⟨0, 1⟩, ⟨0, 1⟩, ⟨1, 1⟩, p, q⟩ : Mv).D.n, .int .i64 (⟨⟨1, 1⟩, ⟨0, 1⟩, ⟨0, 1⟩, ⟨1, 1⟩, p, q⟩ : Mv).D.d, .int .i64 (⟨⟨1, 1⟩, ⟨0, 1⟩, ⟨0, 1⟩, ⟨1, 1⟩, p, q⟩ : Mv).E.n, .int .i64 (⟨⟨1, 1⟩, ⟨0, 1⟩, ⟨0, 1⟩, ⟨1, 1⟩, p, q⟩ : Mv).E.d, .int .i64 (⟨⟨1, 1⟩, ⟨0, 1⟩, ⟨0, 1⟩, ⟨1, 1⟩, p, q⟩ : Mv).F.n, .int .i64 (⟨⟨1, 1⟩, ⟨0, 1⟩, ⟨0, 1⟩, ⟨1, 1⟩, p, q⟩ : Mv).F.d], .nilIface]) ∧ Below w.heap.size w w' := by
  have zhText := zlt hText
  have xhText := zlts hText
  have yhText := zne hText
  have zhShape := zlt hShape
  have xhShape := zlts hShape
  have yhShape := zne hShape
  have zhBound := zlt hBound
  have xhBound := zlts hBound
  have yhBound := zne hBound
  have hpq : [x, y].map rdF = [p, q] := by rw [← hp, ← hq]; rfl
  have H_hL := Lib.hid hL
  clear hL
  have H_hc := Lib.hid hc
  clear hc
  have H_hsz := Lib.hid hsz
  clear hsz
  have H_hss := Lib.hid hss
  clear hss
  have H_hp := Lib.hid hp
  clear hp
  have H_hq := Lib.hid hq
  clear hq
  have H_hpq := Lib.hid hpq
  clear hpq
  go_enter Tryz.func30, Tryz.ntmps30
  ((try go_simp); (repeat go_step))
  refine call_bel (w := w) (by repeat' (first | (with_reducible first | exact bwR _ _ | assumption | refine bdn ?_ | refine bwA ?_ ?_ _ | refine bwD ?_ | refine bwS ?_ ?_ _) | omega | (simp <;> omega))) (fun HB => mone_any _) ?_
  intro w1 hb1 hz1 c1 d1 hW1
  have t1 := hb1.size
  try simp only [szA] at hz1 c1 d1
  try simp only [szD] at hz1 c1 d1
  try simp only [szS] at hz1 c1 d1
  try simp only [World.heap_drewN] at hz1 c1 d1
  try simp only [szA] at hz1 c1 d1
  try simp only [szD] at hz1 c1 d1
  try simp only [szS] at hz1 c1 d1
  have s1_0 : w.heap.size < w1.heap.size := by omega
  have o1_0 := fun j => c1 (w.heap.size) j (by omega)
  have f1_0 := fun j => d1 (w.heap.size) j (by omega)
  clear c1 d1 hz1 hW1
  ((try go_simp); (repeat go_step))
  refine call_fs (w := w) (by repeat' (first | (with_reducible first | exact bwR _ _ | assumption | refine bdn ?_ | refine bwA ?_ ?_ _ | refine bwD ?_ | refine bwS ?_ ?_ _) | omega | (simp <;> omega))) (fun HB => mfracs_any ea [x, y] b off 2 cap _ rfl (by decide) H_hsz.out (H_hss.out.keep HB hbl) (by simp; omega) (H_hL.out.keep HB rfl) (gkeep HB hText rfl) (gkeep HB hShape rfl) (gkeep HB hBound rfl)) (H_hc.out) (by rw [H_hpq.out]; simp) rfl ?_
  intro gg2 cap2 w2 hg2 hgl2 hcl2 hb2 hz2 c2 d2 hW2
  have t2 := hb2.size
  try simp only [szA] at hz2 c2 d2
  try simp only [szD] at hz2 c2 d2
  try simp only [szS] at hz2 c2 d2
  try simp only [World.heap_drewN] at hz2 c2 d2
  try simp only [szA] at hz2 c2 d2
  try simp only [szD] at hz2 c2 d2
  try simp only [szS] at hz2 c2 d2
  have s2_0 : w.heap.size < w2.heap.size := by omega
  have o2_0 := fun j => c2 (w.heap.size) j (by omega)
  have f2_0 := fun j => d2 (w.heap.size) j (by omega)
  have s2_1 : w1.heap.size < w2.heap.size := by omega
  have o2_1 := fun j => c2 (w1.heap.size) j (by omega)
  have f2_1 := fun j => d2 (w1.heap.size) j (by omega)
  clear c2 d2 hz2 hW2
  rw [H_hpq.out] at hcl2
  obtain ⟨k0, k1, k2, k3⟩ := row2 hcl2
  simp only [World.size_alloc] at hg2
  have n1 : ¬ w1.heap.size = gg2 := by omega
  have n2 : ¬ w.heap.size = gg2 := by omega
  have n3 : w1.heap.size ≠ gg2 := n1
  have n4 : w1.heap.size ≠ w.heap.size := by omega
  clear hcl2
  ((try go_simp); (repeat go_step))
  go_region_held3 (fun W => W.cell? ⟨gg2, 0, none⟩ = some (.int .i64 p.n) ∧ W.cell? ⟨gg2, 1, none⟩ = some (.int .i64 p.d) ∧ W.cell? ⟨gg2, 2, none⟩ = some (.int .i64 q.n) ∧ W.cell? ⟨gg2, 3, none⟩ = some (.int .i64 q.d)) (refine ⟨?_, ?_, ?_, ?_⟩ <;> ((try rw [World.cell?_drew]); (first | with_reducible assumption | (rw [oth2 n3]; with_reducible assumption) | (rw [oth4 n3]; with_reducible assumption)))) (fail)
  ((try go_simp); (repeat go_step))
  first
    | (with_reducible refine bodyPost_ret (res_one _ _ (w.heap.size) _ _ _ _ _ _ _ _ _ _ _ _ ?hp (set12 ?hz _ _ _ _ _ _ _ _ _ _ _ _)) rfl ?_)
    | (with_reducible refine bodyPost_ret (res_one _ _ (w.heap.size) _ _ _ _ _ _ _ _ _ _ _ _ ?hp (set12d ?hz _ _ _ _ _ _ _ _ _ _ _ _)) rfl ?_)
    | (with_reducible refine bodyPost_ret (res_one _ _ (w.heap.size) _ _ _ _ _ _ _ _ _ _ _ _ ?hp (set12a ?hg ?hz _ _ _ _ _ _ _ _ _ _ _ _)) rfl ?_)
    | (with_reducible refine bodyPost_ret (res_one _ _ (w.heap.size) _ _ _ _ _ _ _ _ _ _ _ _ ?hp (set12ad ?hg ?hz _ _ _ _ _ _ _ _ _ _ _ _)) rfl ?_)
  case hp => simp
  case hz => (intro j; rw [oth4 n4, o2_0, World.cell?_alloc_past _ _ _ s1_0, o1_0, World.cell?_alloc_new])
  try (case hg => ((try simp only [World.size_setCell]); exact s2_0))
  show _ ∧ _
  exact ⟨rfl, by repeat' (first | (with_reducible first | exact bwR _ _ | assumption | refine bdn ?_ | refine bwA ?_ ?_ _ | refine bwD ?_ | refine bwS ?_ ?_ _) | omega | (simp <;> omega))⟩
set_option maxHeartbeats 1000000 in
set_option maxRecDepth 100000 in
theorem mone_scale (ea : Nat → Addr) (s : ByteArray) (x y : List UInt8) (b off cap : Nat) (w : World) (h1 : (s.toList == [116, 117, 114, 110]) = false) (h3 : (s.toList == [109, 111, 118, 101]) = false) (h4 : (s.toList == [115, 99, 97, 108, 101]) = true) (hc : frsC [x, y] = 0) (p q : Fr) (hp : rdF x = p) (hq : rdF y = q) (hsz : ∀ l ∈ [x, y], l.length ≤ 100000) (hss : StrIn w b off [x, y]) (hbl : b < w.heap.size)
    (hL : Libs w) (hText : w.cell? ⟨1, 0, none⟩ = some (.iface 183 (.pointer (some (ea 1))))) (hShape : w.cell? ⟨2, 0, none⟩ = some (.iface 183 (.pointer (some (ea 3))))) (hBound : w.cell? ⟨0, 0, none⟩ = some (.iface 183 (.pointer (some (ea 2))))) :
    Calls Tryz.prog 30 #[.string s, .slice (some ⟨b, off, none⟩) 2 cap] w fun e w' => e = .returned (.tuple #[.agg #[.int .i64 (⟨p, ⟨0, 1⟩, ⟨0, 1⟩, q, ⟨0, 1⟩, ⟨0, 1⟩⟩ : Mv).A.n, .int .i64 (⟨p, ⟨0, 1⟩, ⟨0, 1⟩, q, ⟨0, 1⟩, ⟨0, 1⟩⟩ : Mv).A.d, .int .i64 (⟨p, ⟨0, 1⟩, ⟨0, 1⟩, q, ⟨0, 1⟩, ⟨0, 1⟩⟩ : Mv).B.n, .int .i64 (⟨p, ⟨0, 1⟩, ⟨0, 1⟩, q, ⟨0, 1⟩, ⟨0, 1⟩⟩ : Mv).B.d, .int .i64 (⟨p, ⟨0, 1⟩, ⟨0, 1⟩, q, ⟨0, 1⟩, ⟨0, 1⟩⟩ : Mv).C.n, .int .i64 (⟨p, ⟨0, 1⟩, ⟨0, 1⟩, q, ⟨0, 1⟩, ⟨0, 1⟩⟩ : Mv).C.d, .int .i64 (⟨p, ⟨0, 1⟩, ⟨0, 1⟩, q, ⟨0, 1⟩, ⟨0, 1⟩⟩ : Mv).D.n, .int .i64 (⟨p, ⟨0, 1⟩, ⟨0, 1⟩, q, ⟨0, 1⟩, ⟨0, 1⟩⟩ : Mv).D.d, .int .i64 (⟨p, ⟨0, 1⟩, ⟨0, 1⟩, q, ⟨0, 1⟩, ⟨0, 1⟩⟩ : Mv).E.n, .int .i64 (⟨p, ⟨0, 1⟩, ⟨0, 1⟩, q, ⟨0, 1⟩, ⟨0, 1⟩⟩ : Mv).E.d, .int .i64 (⟨p, ⟨0, 1⟩, ⟨0, 1⟩, q, ⟨0, 1⟩, ⟨0, 1⟩⟩ : Mv).F.n, .int .i64 (⟨p, ⟨0, 1⟩, ⟨0, 1⟩, q, ⟨0, 1⟩, ⟨0, 1⟩⟩ : Mv).F.d], .nilIface]) ∧ Below w.heap.size w w' := by
  have zhText := zlt hText
  have xhText := zlts hText
  have yhText := zne hText
  have zhShape := zlt hShape
  have xhShape := zlts hShape
  have yhShape := zne hShape
  have zhBound := zlt hBound
  have xhBound := zlts hBound
  have yhBound := zne hBound
  have hpq : [x, y].map rdF = [p, q] := by rw [← hp, ← hq]; rfl
  have H_hL := Lib.hid hL
  clear hL
  have H_hc := Lib.hid hc
  clear hc
  have H_hsz := Lib.hid hsz
  clear hsz
  have H_hss := Lib.hid hss
  clear hss
  have H_hp := Lib.hid hp
  clear hp
  have H_hq := Lib.hid hq
  clear hq
  have H_hpq := Lib.hid hpq
  clear hpq
  go_enter Tryz.func30, Tryz.ntmps30
  ((try go_simp); (repeat go_step))
  refine call_bel (w := w) (by repeat' (first | (with_reducible first | exact bwR _ _ | assumption | refine bdn ?_ | refine bwA ?_ ?_ _ | refine bwD ?_ | refine bwS ?_ ?_ _) | omega | (simp <;> omega))) (fun HB => mone_any _) ?_
  intro w1 hb1 hz1 c1 d1 hW1
  have t1 := hb1.size
  try simp only [szA] at hz1 c1 d1
  try simp only [szD] at hz1 c1 d1
  try simp only [szS] at hz1 c1 d1
  try simp only [World.heap_drewN] at hz1 c1 d1
  try simp only [szA] at hz1 c1 d1
  try simp only [szD] at hz1 c1 d1
  try simp only [szS] at hz1 c1 d1
  have s1_0 : w.heap.size < w1.heap.size := by omega
  have o1_0 := fun j => c1 (w.heap.size) j (by omega)
  have f1_0 := fun j => d1 (w.heap.size) j (by omega)
  clear c1 d1 hz1 hW1
  ((try go_simp); (repeat go_step))
  refine call_fs (w := w) (by repeat' (first | (with_reducible first | exact bwR _ _ | assumption | refine bdn ?_ | refine bwA ?_ ?_ _ | refine bwD ?_ | refine bwS ?_ ?_ _) | omega | (simp <;> omega))) (fun HB => mfracs_any ea [x, y] b off 2 cap _ rfl (by decide) H_hsz.out (H_hss.out.keep HB hbl) (by simp; omega) (H_hL.out.keep HB rfl) (gkeep HB hText rfl) (gkeep HB hShape rfl) (gkeep HB hBound rfl)) (H_hc.out) (by rw [H_hpq.out]; simp) rfl ?_
  intro gg2 cap2 w2 hg2 hgl2 hcl2 hb2 hz2 c2 d2 hW2
  have t2 := hb2.size
  try simp only [szA] at hz2 c2 d2
  try simp only [szD] at hz2 c2 d2
  try simp only [szS] at hz2 c2 d2
  try simp only [World.heap_drewN] at hz2 c2 d2
  try simp only [szA] at hz2 c2 d2
  try simp only [szD] at hz2 c2 d2
  try simp only [szS] at hz2 c2 d2
  have s2_0 : w.heap.size < w2.heap.size := by omega
  have o2_0 := fun j => c2 (w.heap.size) j (by omega)
  have f2_0 := fun j => d2 (w.heap.size) j (by omega)
  have s2_1 : w1.heap.size < w2.heap.size := by omega
  have o2_1 := fun j => c2 (w1.heap.size) j (by omega)
  have f2_1 := fun j => d2 (w1.heap.size) j (by omega)
  clear c2 d2 hz2 hW2
  rw [H_hpq.out] at hcl2
  obtain ⟨k0, k1, k2, k3⟩ := row2 hcl2
  simp only [World.size_alloc] at hg2
  have n1 : ¬ w1.heap.size = gg2 := by omega
  have n2 : ¬ w.heap.size = gg2 := by omega
  have n3 : w1.heap.size ≠ gg2 := n1
  have n4 : w1.heap.size ≠ w.heap.size := by omega
  clear hcl2
  ((try go_simp); (repeat go_step))
  go_region_held3 (fun W => W.cell? ⟨gg2, 0, none⟩ = some (.int .i64 p.n) ∧ W.cell? ⟨gg2, 1, none⟩ = some (.int .i64 p.d) ∧ W.cell? ⟨gg2, 2, none⟩ = some (.int .i64 q.n) ∧ W.cell? ⟨gg2, 3, none⟩ = some (.int .i64 q.d)) (refine ⟨?_, ?_, ?_, ?_⟩ <;> ((try rw [World.cell?_drew]); (first | with_reducible assumption | (rw [oth2 n3]; with_reducible assumption) | (rw [oth4 n3]; with_reducible assumption)))) (fail)
  ((try go_simp); (repeat go_step))
  first
    | (with_reducible refine bodyPost_ret (res_one _ _ (w.heap.size) _ _ _ _ _ _ _ _ _ _ _ _ ?hp (set12 ?hz _ _ _ _ _ _ _ _ _ _ _ _)) rfl ?_)
    | (with_reducible refine bodyPost_ret (res_one _ _ (w.heap.size) _ _ _ _ _ _ _ _ _ _ _ _ ?hp (set12d ?hz _ _ _ _ _ _ _ _ _ _ _ _)) rfl ?_)
    | (with_reducible refine bodyPost_ret (res_one _ _ (w.heap.size) _ _ _ _ _ _ _ _ _ _ _ _ ?hp (set12a ?hg ?hz _ _ _ _ _ _ _ _ _ _ _ _)) rfl ?_)
    | (with_reducible refine bodyPost_ret (res_one _ _ (w.heap.size) _ _ _ _ _ _ _ _ _ _ _ _ ?hp (set12ad ?hg ?hz _ _ _ _ _ _ _ _ _ _ _ _)) rfl ?_)
  case hp => simp
  case hz => (intro j; rw [oth4 n4, o2_0, World.cell?_alloc_past _ _ _ s1_0, o1_0, World.cell?_alloc_new])
  try (case hg => ((try simp only [World.size_setCell]); exact s2_0))
  show _ ∧ _
  exact ⟨rfl, by repeat' (first | (with_reducible first | exact bwR _ _ | assumption | refine bdn ?_ | refine bwA ?_ ?_ _ | refine bwD ?_ | refine bwS ?_ ?_ _) | omega | (simp <;> omega))⟩

set_option maxHeartbeats 1000000 in
set_option maxRecDepth 100000 in
theorem mone_skew (ea : Nat → Addr) (s : ByteArray) (x : List UInt8) (b off cap : Nat) (w : World) (h1 : (s.toList == [116, 117, 114, 110]) = false) (h3 : (s.toList == [109, 111, 118, 101]) = false) (h4 : (s.toList == [115, 99, 97, 108, 101]) = false) (h5 : (s.toList == [115, 107, 101, 119]) = true) (hc : frsC [x] = 0) (p : Fr) (hp : rdF x = p) (hsz : ∀ l ∈ [x], l.length ≤ 100000) (hss : StrIn w b off [x]) (hbl : b < w.heap.size)
    (hL : Libs w) (hText : w.cell? ⟨1, 0, none⟩ = some (.iface 183 (.pointer (some (ea 1))))) (hShape : w.cell? ⟨2, 0, none⟩ = some (.iface 183 (.pointer (some (ea 3))))) (hBound : w.cell? ⟨0, 0, none⟩ = some (.iface 183 (.pointer (some (ea 2))))) :
    Calls Tryz.prog 30 #[.string s, .slice (some ⟨b, off, none⟩) 1 cap] w fun e w' => e = .returned (.tuple #[.agg #[.int .i64 (⟨⟨1, 1⟩, ⟨0, 1⟩, p, ⟨1, 1⟩, ⟨0, 1⟩, ⟨0, 1⟩⟩ : Mv).A.n, .int .i64 (⟨⟨1, 1⟩, ⟨0, 1⟩, p, ⟨1, 1⟩, ⟨0, 1⟩, ⟨0, 1⟩⟩ : Mv).A.d, .int .i64 (⟨⟨1, 1⟩, ⟨0, 1⟩, p, ⟨1, 1⟩, ⟨0, 1⟩, ⟨0, 1⟩⟩ : Mv).B.n, .int .i64 (⟨⟨1, 1⟩, ⟨0, 1⟩, p, ⟨1, 1⟩, ⟨0, 1⟩, ⟨0, 1⟩⟩ : Mv).B.d, .int .i64 (⟨⟨1, 1⟩, ⟨0, 1⟩, p, ⟨1, 1⟩, ⟨0, 1⟩, ⟨0, 1⟩⟩ : Mv).C.n, .int .i64 (⟨⟨1, 1⟩, ⟨0, 1⟩, p, ⟨1, 1⟩, ⟨0, 1⟩, ⟨0, 1⟩⟩ : Mv).C.d, .int .i64 (⟨⟨1, 1⟩, ⟨0, 1⟩, p, ⟨1, 1⟩, ⟨0, 1⟩, ⟨0, 1⟩⟩ : Mv).D.n, .int .i64 (⟨⟨1, 1⟩, ⟨0, 1⟩, p, ⟨1, 1⟩, ⟨0, 1⟩, ⟨0, 1⟩⟩ : Mv).D.d, .int .i64 (⟨⟨1, 1⟩, ⟨0, 1⟩, p, ⟨1, 1⟩, ⟨0, 1⟩, ⟨0, 1⟩⟩ : Mv).E.n, .int .i64 (⟨⟨1, 1⟩, ⟨0, 1⟩, p, ⟨1, 1⟩, ⟨0, 1⟩, ⟨0, 1⟩⟩ : Mv).E.d, .int .i64 (⟨⟨1, 1⟩, ⟨0, 1⟩, p, ⟨1, 1⟩, ⟨0, 1⟩, ⟨0, 1⟩⟩ : Mv).F.n, .int .i64 (⟨⟨1, 1⟩, ⟨0, 1⟩, p, ⟨1, 1⟩, ⟨0, 1⟩, ⟨0, 1⟩⟩ : Mv).F.d], .nilIface]) ∧ Below w.heap.size w w' := by
  have zhText := zlt hText
  have xhText := zlts hText
  have yhText := zne hText
  have zhShape := zlt hShape
  have xhShape := zlts hShape
  have yhShape := zne hShape
  have zhBound := zlt hBound
  have xhBound := zlts hBound
  have yhBound := zne hBound
  have hpq : [x].map rdF = [p] := by rw [← hp]; rfl
  have H_hL := Lib.hid hL
  clear hL
  have H_hc := Lib.hid hc
  clear hc
  have H_hsz := Lib.hid hsz
  clear hsz
  have H_hss := Lib.hid hss
  clear hss
  have H_hp := Lib.hid hp
  clear hp
  have H_hpq := Lib.hid hpq
  clear hpq
  go_enter Tryz.func30, Tryz.ntmps30
  ((try go_simp); (repeat go_step))
  refine call_bel (w := w) (by repeat' (first | (with_reducible first | exact bwR _ _ | assumption | refine bdn ?_ | refine bwA ?_ ?_ _ | refine bwD ?_ | refine bwS ?_ ?_ _) | omega | (simp <;> omega))) (fun HB => mone_any _) ?_
  intro w1 hb1 hz1 c1 d1 hW1
  have t1 := hb1.size
  try simp only [szA] at hz1 c1 d1
  try simp only [szD] at hz1 c1 d1
  try simp only [szS] at hz1 c1 d1
  try simp only [World.heap_drewN] at hz1 c1 d1
  try simp only [szA] at hz1 c1 d1
  try simp only [szD] at hz1 c1 d1
  try simp only [szS] at hz1 c1 d1
  have s1_0 : w.heap.size < w1.heap.size := by omega
  have o1_0 := fun j => c1 (w.heap.size) j (by omega)
  have f1_0 := fun j => d1 (w.heap.size) j (by omega)
  clear c1 d1 hz1 hW1
  ((try go_simp); (repeat go_step))
  refine call_fs (w := w) (by repeat' (first | (with_reducible first | exact bwR _ _ | assumption | refine bdn ?_ | refine bwA ?_ ?_ _ | refine bwD ?_ | refine bwS ?_ ?_ _) | omega | (simp <;> omega))) (fun HB => mfracs_any ea [x] b off 1 cap _ rfl (by decide) H_hsz.out (H_hss.out.keep HB hbl) (by simp; omega) (H_hL.out.keep HB rfl) (gkeep HB hText rfl) (gkeep HB hShape rfl) (gkeep HB hBound rfl)) (H_hc.out) (by rw [H_hpq.out]; simp) rfl ?_
  intro gg2 cap2 w2 hg2 hgl2 hcl2 hb2 hz2 c2 d2 hW2
  have t2 := hb2.size
  try simp only [szA] at hz2 c2 d2
  try simp only [szD] at hz2 c2 d2
  try simp only [szS] at hz2 c2 d2
  try simp only [World.heap_drewN] at hz2 c2 d2
  try simp only [szA] at hz2 c2 d2
  try simp only [szD] at hz2 c2 d2
  try simp only [szS] at hz2 c2 d2
  have s2_0 : w.heap.size < w2.heap.size := by omega
  have o2_0 := fun j => c2 (w.heap.size) j (by omega)
  have f2_0 := fun j => d2 (w.heap.size) j (by omega)
  have s2_1 : w1.heap.size < w2.heap.size := by omega
  have o2_1 := fun j => c2 (w1.heap.size) j (by omega)
  have f2_1 := fun j => d2 (w1.heap.size) j (by omega)
  clear c2 d2 hz2 hW2
  rw [H_hpq.out] at hcl2
  obtain ⟨k0, k1⟩ := row1 hcl2
  simp only [World.size_alloc] at hg2
  have n1 : ¬ w1.heap.size = gg2 := by omega
  have n2 : ¬ w.heap.size = gg2 := by omega
  have n4 : w1.heap.size ≠ w.heap.size := by omega
  clear hcl2
  ((try go_simp); (repeat go_step))
  first
    | (with_reducible refine bodyPost_ret (res_one _ _ (w.heap.size) _ _ _ _ _ _ _ _ _ _ _ _ ?hp (set12 ?hz _ _ _ _ _ _ _ _ _ _ _ _)) rfl ?_)
    | (with_reducible refine bodyPost_ret (res_one _ _ (w.heap.size) _ _ _ _ _ _ _ _ _ _ _ _ ?hp (set12d ?hz _ _ _ _ _ _ _ _ _ _ _ _)) rfl ?_)
    | (with_reducible refine bodyPost_ret (res_one _ _ (w.heap.size) _ _ _ _ _ _ _ _ _ _ _ _ ?hp (set12a ?hg ?hz _ _ _ _ _ _ _ _ _ _ _ _)) rfl ?_)
    | (with_reducible refine bodyPost_ret (res_one _ _ (w.heap.size) _ _ _ _ _ _ _ _ _ _ _ _ ?hp (set12ad ?hg ?hz _ _ _ _ _ _ _ _ _ _ _ _)) rfl ?_)
  case hp => simp
  case hz => (intro j; rw [oth2 n4, o2_0, World.cell?_alloc_past _ _ _ s1_0, o1_0, World.cell?_alloc_new])
  try (case hg => ((try simp only [World.size_setCell]); exact s2_0))
  show _ ∧ _
  exact ⟨rfl, by repeat' (first | (with_reducible first | exact bwR _ _ | assumption | refine bdn ?_ | refine bwA ?_ ?_ _ | refine bwD ?_ | refine bwS ?_ ?_ _) | omega | (simp <;> omega))⟩
/-- .. of whatever kind. -/
theorem mone_all (ea : Nat → Addr) (s : ByteArray) (ss : List (List UInt8)) (b off n cap : Nat) (w : World) (hk : manyW s.data.toList = n) (h0 : n ≠ 0) (hn : ss.length = n) (c : Nat) (q : Mv)
    (hc : oneC s.data.toList (ss.getD 0 []) (ss.getD (n - 1) []) = c) (hq : (if c = 0 then oneV s.data.toList (ss.getD 0 []) (ss.getD (n - 1) []) else zMv) = q)
    (hsz : ∀ l ∈ ss, l.length ≤ 100000) (hss : StrIn w b off ss) (hbl : b < w.heap.size) (hL : Libs w) (hText : w.cell? ⟨1, 0, none⟩ = some (.iface 183 (.pointer (some (ea 1))))) (hShape : w.cell? ⟨2, 0, none⟩ = some (.iface 183 (.pointer (some (ea 3))))) (hBound : w.cell? ⟨0, 0, none⟩ = some (.iface 183 (.pointer (some (ea 2))))) :
    Calls Tryz.prog 30 #[.string s, .slice (some ⟨b, off, none⟩) n cap] w fun e w' => e = .returned (.tuple #[.agg #[.int .i64 q.A.n, .int .i64 q.A.d, .int .i64 q.B.n, .int .i64 q.B.d, .int .i64 q.C.n, .int .i64 q.C.d, .int .i64 q.D.n, .int .i64 q.D.d, .int .i64 q.E.n, .int .i64 q.E.d, .int .i64 q.F.n, .int .i64 q.F.d], evl 183 ea c]) ∧ Below w.heap.size w w' := by
  unfold manyW kMove kScale kTurn kSkew at hk
  unfold oneC kTurn at hc
  unfold oneV mkW kMove kScale kTurn at hq
  rcases tst s [116, 117, 114, 110] with ⟨t1, e1⟩ | ⟨t1, e1⟩
  · rw [e1] at hk hc hq
    have hn1 : n = 1 := by rw [← hk]; rfl
    subst hn1
    match ss, hn with
    | [a], _ =>
      rw [if_pos rfl] at hc hq
      change (match qtr a with | some _ => 0 | none => 1) = c at hc
      change (if c = 0 then (qtr a).getD zMv else zMv) = q at hq
      have hs0 : w.cell? ⟨b, off, none⟩ = some (.string ⟨a.toArray⟩) := hss 0 (by simp)
      cases hx : qtr a with
      | some m =>
        rw [hx] at hc hq
        subst hc
        obtain rfl : m = q := hq
        rw [evl_0 rfl]
        exact mone_turn ea s a b off cap w t1 m hx hs0 hbl
      | none =>
        rw [hx] at hc hq
        subst hc
        obtain rfl : zMv = q := hq
        rw [evl_n (by decide)]
        exact mone_turn_no ea s a b off cap w t1 hx hs0 hbl hText
  · rw [if_neg e1] at hc hq
    rcases tst s [109, 111, 118, 101] with ⟨t2, e2⟩ | ⟨t2, e2⟩
    · rw [if_pos (.inl e2)] at hk
      subst hk
      match ss, hn with
      | [x, y], _ =>
        change (if rdC x = 0 then rdC y else rdC x) = c at hc
        change (if c = 0 then _ else zMv) = q at hq
        have hf : frsC [x, y] = c := by rw [← hc]; unfold frsC; by_cases hx : rdC x = 0 <;> by_cases hy : rdC y = 0 <;> simp [frsC, hx, hy]
        by_cases h : c = 0
        · rw [if_pos h, if_pos e2] at hq
          rw [evl_0 h]
          have := mone_move ea s x y b off cap w t1 t2 (hf.trans h) (rdF x) (rdF y) rfl rfl hsz hss hbl hL hText hShape hBound
          rw [← hq]; exact this
        · rw [if_neg h] at hq
          rw [evl_n h, ← hq, ← hf]
          exact mone_err ea s [x, y] b off 2 cap w t1 rfl (by decide) (by rw [hf]; exact h) hsz hss hbl hL hText hShape hBound
    · rcases tst s [115, 99, 97, 108, 101] with ⟨t3, e3⟩ | ⟨t3, e3⟩
      · rw [if_pos (.inr e3)] at hk
        subst hk
        match ss, hn with
        | [x, y], _ =>
          change (if rdC x = 0 then rdC y else rdC x) = c at hc
          change (if c = 0 then _ else zMv) = q at hq
          have hf : frsC [x, y] = c := by rw [← hc]; unfold frsC; by_cases hx : rdC x = 0 <;> by_cases hy : rdC y = 0 <;> simp [frsC, hx, hy]
          by_cases h : c = 0
          · rw [if_pos h, if_neg e2, if_pos e3] at hq
            rw [evl_0 h]
            have := mone_scale ea s x y b off cap w t1 t2 t3 (hf.trans h) (rdF x) (rdF y) rfl rfl hsz hss hbl hL hText hShape hBound
            rw [← hq]; exact this
          · rw [if_neg h] at hq
            rw [evl_n h, ← hq, ← hf]
            exact mone_err ea s [x, y] b off 2 cap w t1 rfl (by decide) (by rw [hf]; exact h) hsz hss hbl hL hText hShape hBound
      · rw [if_neg (not_or.2 ⟨e2, e3⟩)] at hk
        rcases tst s [115, 107, 101, 119] with ⟨t4, e4⟩ | ⟨t4, e4⟩
        · rw [if_pos (.inr e4)] at hk
          subst hk
          match ss, hn with
          | [x], _ =>
            change (if rdC x = 0 then rdC x else rdC x) = c at hc
            change (if c = 0 then _ else zMv) = q at hq
            have hf : frsC [x] = c := by rw [← hc]; unfold frsC; by_cases hx : rdC x = 0 <;> simp [frsC, hx]
            by_cases h : c = 0
            · rw [if_pos h, if_neg e2, if_neg e3] at hq
              rw [evl_0 h]
              have := mone_skew ea s x b off cap w t1 t2 t3 t4 (hf.trans h) (rdF x) rfl hsz hss hbl hL hText hShape hBound
              rw [← hq]; exact this
            · rw [if_neg h] at hq
              rw [evl_n h, ← hq, ← hf]
              exact mone_err ea s [x] b off 1 cap w t1 rfl (by decide) (by rw [hf]; exact h) hsz hss hbl hL hText hShape hBound
        · rw [if_neg (not_or.2 ⟨e1, e4⟩)] at hk
          exact absurd hk.symm h0
end Go.Proofs.YtlhadgnpkooiaaaGreatDoor
