/-
  Walks over package doc: Move.
-/
import Derived.Test.YtccojeglidbpoaaDoorDo5
namespace Lead.Dc
open Go Go.RowKit Lead
variable {E : Els} {next : Nat} {d : Nat → Nat}
theorem move_eq (E : Els) {a b p : Nat} (j : Nat) (hap : a ≠ p) (hab : a ≠ b) : upd (upd (offE E a p) a (fun e => { e with parent := (b : Int) })) b (fun e => { e with kids := insK e.kids j a }) = moveE E a b j p := by
  unfold offE upd moveE
  rw [List.map_map, List.map_map]
  refine List.map_congr_left fun x _ => ?_
  obtain ⟨k, e⟩ := x
  unfold mvEl
  simp only [Function.comp]
  by_cases h1 : k = p
  · subst h1
    have h2 : ¬ k = a := fun h => hap h.symm
    by_cases h3 : k = b
    · subst h3; simp [h2]
    · simp [h2, h3]
  · by_cases h2 : k = a
    · subst h2; simp [h1, hab]
    · by_cases h3 : k = b
      · subst h3; simp [h1, h2]
      · simp [h1, h2, h3]
theorem offK_len {l : List Nat} {n : Nat} (h : l.Nodup) (hn : n ∈ l) : (offK l n).length + 1 = l.length := (insK_offK h hn).2.2
def toI (l : List Nat) : List Int := l.map fun n : Nat => (n : Int)
theorem toI_contains (l : List Nat) (b : Nat) : (toI l).contains (b : Int) = decide (b ∈ l) := by
  rw [Bool.eq_iff_iff, List.contains_iff_mem, decide_eq_true_iff]
  unfold toI
  rw [List.mem_map]
  constructor
  · rintro ⟨x, hx, h⟩
    have : x = b := by omega
    exact this ▸ hx
  · intro h; exact ⟨b, h, rfl⟩
theorem toI_cells {w : World} {g : Nat} {l : List Nat} (h : RowIn EIn w g 0 l) : ∀ j, j < (toI l).length → w.cell? ⟨g, 0 + j, none⟩ = some (.int .i64 ((toI l).getD j 0)) := by
  intro j hj
  unfold toI at hj ⊢
  rw [List.length_map] at hj
  have h1 := h j hj 0 _ rfl
  rw [List.getD_eq_getElem?_getD, List.getElem?_map, List.getElem?_eq_getElem hj]
  simpa [EIn] using h1
end Lead.Dc
namespace Go.Proofs.YtccojeglidbpoaaDoor
open Go.RowKit Go.WideMaps Go.Maps Lead Lead.Dc
set_option maxHeartbeats 1000000 in
set_option maxRecDepth 100000 in
theorem mov_none1 (ea : Nat → Addr) (bd next : Nat) (z y i : Int) (F : Nat → Prop) (E : Els) (d : Nat → Nat) (w : World) (hD : DokG Tryd.prog TT w bd F E next d) (hG : DGs ea w) (hz : I64 z) (hy : I64 y) (h : atZ E z = none) :
    Calls Tryd.prog 13 #[.pointer (some ⟨bd, 0, none⟩), .int .i64 z, .int .i64 y, .int .i64 i] w (ErrIs 125 ea 5 w) := by
  have hNone := hG.c5
  have hShape := hG.c3
  have hCycle := hG.c9
  have hBound := hG.c2
  have hDeep := hG.c8
  have zhNone := zlt hNone
  have xhNone := zlts hNone
  have yhNone := zne hNone
  have zhShape := zlt hShape
  have xhShape := zlts hShape
  have yhShape := zne hShape
  have zhCycle := zlt hCycle
  have xhCycle := zlts hCycle
  have yhCycle := zne hCycle
  have zhBound := zlt hBound
  have xhBound := zlts hBound
  have yhBound := zne hBound
  have zhDeep := zlt hDeep
  have xhDeep := zlts hDeep
  have yhDeep := zne hDeep
  have hDG := hD
  obtain ⟨⟨pl, bm, cnt, D, hA, hc, hF⟩, hg, hbig, hlen⟩ := hD
  have c0 := hA.c0
  have hm := atZ_none h
  cases hb : atZ E y with
  | none =>
    have hm2 := atZ_none hb
    have H_hA := Lib.hid hA
    clear hA
    have H_hm := Lib.hid hm
    clear hm
    have H_hm2 := Lib.hid hm2
    clear hm2
    have H_hb := Lib.hid hb
    clear hb
    have H_h := Lib.hid h
    clear h
    have H_hz := Lib.hid hz
    clear hz
    have H_hy := Lib.hid hy
    clear hy
    have H_hDG := Lib.hid hDG
    clear hDG
    have H_hG := Lib.hid hG
    clear hG
    clear hc hF hg
    go_enter Tryd.func13, Tryd.ntmps13
    go_wp2_with (first | (at_lookup; refine wp_miss_ok (T := TT) TK rfl _ _ rfl rfl rfl H_hA.out H_hm.out H_hz.out ?_) | (at_lookup; refine wp_miss_ok (T := TT) TK rfl _ _ rfl rfl rfl H_hA.out H_hm2.out H_hy.out ?_))
    go_returns
    exact ⟨rfl, by repeat' (first | (with_reducible first | exact bwR _ _ | assumption | refine bdn ?_ | refine bwA ?_ ?_ _ | refine bwD ?_ | refine bwS ?_ ?_ _) | omega | (simp <;> omega))⟩
  | some me =>
    obtain ⟨b, rfl, hbm⟩ := atZ_some hb
    have H_hA := Lib.hid hA
    clear hA
    have H_hm := Lib.hid hm
    clear hm
    have H_hbm := Lib.hid hbm
    clear hbm
    have H_hb := Lib.hid hb
    clear hb
    have H_h := Lib.hid h
    clear h
    have H_hz := Lib.hid hz
    clear hz
    have H_hy := Lib.hid hy
    clear hy
    have H_hDG := Lib.hid hDG
    clear hDG
    have H_hG := Lib.hid hG
    clear hG
    clear hc hF hg
    go_enter Tryd.func13, Tryd.ntmps13
    go_wp2_with (first | (at_lookup; refine wp_miss_ok (T := TT) TK rfl _ _ rfl rfl rfl H_hA.out H_hm.out H_hz.out ?_) | (at_lookup; refine wp_hit_ok (T := TT) TK rfl _ _ rfl rfl rfl H_hA.out H_hbm.out H_hy.out ?_))
    go_returns
    exact ⟨rfl, by repeat' (first | (with_reducible first | exact bwR _ _ | assumption | refine bdn ?_ | refine bwA ?_ ?_ _ | refine bwD ?_ | refine bwS ?_ ?_ _) | omega | (simp <;> omega))⟩
set_option maxHeartbeats 1000000 in
set_option maxRecDepth 100000 in
theorem mov_none2 (ea : Nat → Addr) (bd next a : Nat) (y i : Int) (F : Nat → Prop) (E : Els) (d : Nat → Nat) (e : El) (w : World) (hD : DokG Tryd.prog TT w bd F E next d) (hG : DGs ea w) (he : elAt E a = some e) (hy : I64 y) (h : atZ E y = none) :
    Calls Tryd.prog 13 #[.pointer (some ⟨bd, 0, none⟩), .int .i64 (a : Int), .int .i64 y, .int .i64 i] w (ErrIs 125 ea 5 w) := by
  have hNone := hG.c5
  have hShape := hG.c3
  have hCycle := hG.c9
  have hBound := hG.c2
  have hDeep := hG.c8
  have zhNone := zlt hNone
  have xhNone := zlts hNone
  have yhNone := zne hNone
  have zhShape := zlt hShape
  have xhShape := zlts hShape
  have yhShape := zne hShape
  have zhCycle := zlt hCycle
  have xhCycle := zlts hCycle
  have yhCycle := zne hCycle
  have zhBound := zlt hBound
  have xhBound := zlts hBound
  have yhBound := zne hBound
  have zhDeep := zlt hDeep
  have xhDeep := zlts hDeep
  have yhDeep := zne hDeep
  have hDG := hD
  obtain ⟨⟨pl, bm, cnt, D, hA, hc, hF⟩, hg, hbig, hlen⟩ := hD
  have c0 := hA.c0
  have hm := atZ_none h
  have haI : I64 (a : Int) := i64_nat (by have := hg.lt a e he; omega)
  have H_hA := Lib.hid hA
  clear hA
  have H_hm := Lib.hid hm
  clear hm
  have H_he := Lib.hid he
  clear he
  have H_h := Lib.hid h
  clear h
  have H_haI := Lib.hid haI
  clear haI
  have H_hy := Lib.hid hy
  clear hy
  have H_hDG := Lib.hid hDG
  clear hDG
  have H_hG := Lib.hid hG
  clear hG
  clear hc hF hg
  go_enter Tryd.func13, Tryd.ntmps13
  go_wp2_with (first | (at_lookup; refine wp_hit_ok (T := TT) TK rfl _ _ rfl rfl rfl H_hA.out H_he.out H_haI.out ?_) | (at_lookup; refine wp_miss_ok (T := TT) TK rfl _ _ rfl rfl rfl H_hA.out H_hm.out H_hy.out ?_))
  go_returns
  exact ⟨rfl, by repeat' (first | (with_reducible first | exact bwR _ _ | assumption | refine bdn ?_ | refine bwA ?_ ?_ _ | refine bwD ?_ | refine bwS ?_ ?_ _) | omega | (simp <;> omega))⟩
set_option maxHeartbeats 1000000 in
set_option maxRecDepth 100000 in
theorem mov_root (ea : Nat → Addr) (bd next b : Nat) (i : Int) (F : Nat → Prop) (E : Els) (d : Nat → Nat) (me : El) (w : World) (hD : DokG Tryd.prog TT w bd F E next d) (hG : DGs ea w) (hm : elAt E b = some me) :
    Calls Tryd.prog 13 #[.pointer (some ⟨bd, 0, none⟩), .int .i64 0, .int .i64 (b : Int), .int .i64 i] w (ErrIs 125 ea 3 w) := by
  have hNone := hG.c5
  have hShape := hG.c3
  have hCycle := hG.c9
  have hBound := hG.c2
  have hDeep := hG.c8
  have zhNone := zlt hNone
  have xhNone := zlts hNone
  have yhNone := zne hNone
  have zhShape := zlt hShape
  have xhShape := zlts hShape
  have yhShape := zne hShape
  have zhCycle := zlt hCycle
  have xhCycle := zlts hCycle
  have yhCycle := zne hCycle
  have zhBound := zlt hBound
  have xhBound := zlts hBound
  have yhBound := zne hBound
  have zhDeep := zlt hDeep
  have xhDeep := zlts hDeep
  have yhDeep := zne hDeep
  have hDG := hD
  obtain ⟨⟨pl, bm, cnt, D, hA, hc, hF⟩, hg, hbig, hlen⟩ := hD
  have c0 := hA.c0
  obtain ⟨e, he, _⟩ := hg.root
  have hgb := hg.lt b me hm
  have haI : I64 ((0 : Nat) : Int) := i64_nat (by omega)
  have hbI : I64 (b : Int) := i64_nat (by omega)
  have H_hA := Lib.hid hA
  clear hA
  have H_hm := Lib.hid hm
  clear hm
  have H_he := Lib.hid he
  clear he
  have H_haI := Lib.hid haI
  clear haI
  have H_hbI := Lib.hid hbI
  clear hbI
  have H_hDG := Lib.hid hDG
  clear hDG
  have H_hG := Lib.hid hG
  clear hG
  clear hc hF hg
  go_enter Tryd.func13, Tryd.ntmps13
  go_wp2_with (first | (at_lookup; refine wp_hit_ok (T := TT) (n := 0) TK rfl _ _ rfl rfl rfl H_hA.out H_he.out H_haI.out ?_) | (at_lookup; refine wp_hit_ok (T := TT) (n := b) TK rfl _ _ rfl rfl rfl H_hA.out H_hm.out H_hbI.out ?_))
  go_returns
  exact ⟨rfl, by repeat' (first | (with_reducible first | exact bwR _ _ | assumption | refine bdn ?_ | refine bwA ?_ ?_ _ | refine bwD ?_ | refine bwS ?_ ?_ _) | omega | (simp <;> omega))⟩
set_option maxHeartbeats 1000000 in
set_option maxRecDepth 100000 in
theorem mov_cycle (ea : Nat → Addr) (bd next a b p : Nat) (i : Int) (F : Nat → Prop) (E : Els) (d : Nat → Nat) (e me : El) (w : World) (hD : DokG Tryd.prog TT w bd F E next d) (hG : DGs ea w) (he : elAt E a = some e) (hm : elAt E b = some me) (h0 : a ≠ 0) (hp : e.parent = (p : Int)) (hcy : decide (b ∈ below E 10 a) = true) :
    Calls Tryd.prog 13 #[.pointer (some ⟨bd, 0, none⟩), .int .i64 (a : Int), .int .i64 (b : Int), .int .i64 i] w (ErrIs 125 ea 9 w) := by
  have hNone := hG.c5
  have hShape := hG.c3
  have hCycle := hG.c9
  have hBound := hG.c2
  have hDeep := hG.c8
  have zhNone := zlt hNone
  have xhNone := zlts hNone
  have yhNone := zne hNone
  have zhShape := zlt hShape
  have xhShape := zlts hShape
  have yhShape := zne hShape
  have zhCycle := zlt hCycle
  have xhCycle := zlts hCycle
  have yhCycle := zne hCycle
  have zhBound := zlt hBound
  have xhBound := zlts hBound
  have yhBound := zne hBound
  have zhDeep := zlt hDeep
  have xhDeep := zlts hDeep
  have yhDeep := zne hDeep
  have hDG := hD
  obtain ⟨⟨pl, bm, cnt, D, hA, hc, hF⟩, hg, hbig, hlen⟩ := hD
  have c0 := hA.c0
  have hga := hg.lt a e he
  have hgb := hg.lt b me hm
  have haI : I64 (a : Int) := i64_nat (by omega)
  have hbI : I64 (b : Int) := i64_nat (by omega)
  have hEa := hA.els a e he
  have hEb := hA.els b me hm
  have e2 := hEa.e2
  rw [hp] at e2
  have e3 := hEb.e3
  obtain ⟨oa, len, cap, hkv, hS⟩ := hEb.kids.sl
  obtain rfl : len = me.kids.length := hS.1
  rw [hkv] at e3
  have hkl := hg.kids_len hm
  have hnz : ((a : Int) == 0) = false := by rw [beq_eq_false_iff_ne]; omega
  have hbl := hg.below_len he
  have hblw := hEb.lt
  have hbla := hEa.lt
  have hself := self_below (E := E) 10 a
  obtain ⟨l, hl⟩ : ∃ u, below E 10 a = u := ⟨_, rfl⟩
  have hbelow := below_any bd next F E d 10 a e w hDG he (by omega)
  rw [hl] at hbelow hself hbl
  have hml : decide (b ∈ l) = decide (b ∈ below E 10 a) := by rw [hl]
  have H_hA := Lib.hid hA
  clear hA
  have H_hm := Lib.hid hm
  clear hm
  have H_he := Lib.hid he
  clear he
  have H_haI := Lib.hid haI
  clear haI
  have H_hbI := Lib.hid hbI
  clear hbI
  have H_hDG := Lib.hid hDG
  clear hDG
  have H_hG := Lib.hid hG
  clear hG
  have H_hEa := Lib.hid hEa
  clear hEa
  have H_hEb := Lib.hid hEb
  clear hEb
  have H_hkv := Lib.hid hkv
  clear hkv
  have H_hS := Lib.hid hS
  clear hS
  have H_hl := Lib.hid hl
  clear hl
  have H_hbelow := Lib.hid hbelow
  clear hbelow
  have H_hml := Lib.hid hml
  clear hml
  have H_hp := Lib.hid hp
  clear hp
  clear hc hF hg
  have H_hcy := Lib.hid hcy
  clear hcy
  by_cases hpb : p = b
  · have hpb' : ((p : Int) == (b : Int)) = true := by rw [hpb]; simp
    have H_hpb := Lib.hid hpb
    clear hpb
    go_enter Tryd.func13, Tryd.ntmps13
    go_wp2_with (first | (at_lookup; refine wp_hit_ok (T := TT) (n := a) TK rfl _ _ rfl rfl rfl H_hA.out H_he.out H_haI.out ?_) | (at_lookup; refine wp_hit_ok (T := TT) (n := b) TK rfl _ _ rfl rfl rfl H_hA.out H_hm.out H_hbI.out ?_))
    refine H_hbelow.out.mono ?_
    rintro _ w1 ⟨v1, rfl, ho1, hb1⟩
    obtain ⟨g, cp, rfl, hg0, hg1, _, _, hr1⟩ : ∃ g cp, v1 = .slice (some ⟨g, 0, none⟩) l.length cp ∧ w.heap.size ≤ g ∧ g < w1.heap.size ∧ l.length ≤ cp ∧ l.length ≤ maxLen ∧ RowIn EIn w1 g 0 l := by
      rcases ho1.form with ⟨_, h⟩ | h
      · rw [h] at hself; cases hself
      · exact h
    have hCycle_1 := gkeep hb1 hCycle rfl
    have hBound_1 := gkeep hb1 hBound rfl
    have hDeep_1 := gkeep hb1 hDeep rfl
    have t1 := hb1.size
    have hll : l.length ≤ 1000000 := by omega
    clear ho1 hself
    have H_hr1 := Lib.hid hr1
    clear hr1
    go_wp2_with fail
    refine (Tryd.slices_Contains_int g 0 l.length cp (toI l) (b : Int) w1 (by unfold toI; rw [List.length_map]; exact Nat.le_refl _) (by omega) (toI_cells H_hr1.out)).mono ?_
    rintro _ _ ⟨rfl, rfl⟩
    rw [List.take_of_length_le (by unfold toI; rw [List.length_map]; exact Nat.le_refl _), toI_contains, H_hml.out, H_hcy.out]
    go_wp2_with fail
    go_returns
    exact ⟨rfl, by repeat' (first | (with_reducible first | exact bwR _ _ | assumption | refine bdn ?_ | refine bwA ?_ ?_ _ | refine bwD ?_ | refine bwS ?_ ?_ _) | omega | (simp <;> omega))⟩
  · have hpb' : ((p : Int) == (b : Int)) = false := by rw [beq_eq_false_iff_ne]; omega
    have H_hpb := Lib.hid hpb
    clear hpb
    go_enter Tryd.func13, Tryd.ntmps13
    go_wp2_with (first | (at_lookup; refine wp_hit_ok (T := TT) (n := a) TK rfl _ _ rfl rfl rfl H_hA.out H_he.out H_haI.out ?_) | (at_lookup; refine wp_hit_ok (T := TT) (n := b) TK rfl _ _ rfl rfl rfl H_hA.out H_hm.out H_hbI.out ?_))
    refine H_hbelow.out.mono ?_
    rintro _ w1 ⟨v1, rfl, ho1, hb1⟩
    obtain ⟨g, cp, rfl, hg0, hg1, _, _, hr1⟩ : ∃ g cp, v1 = .slice (some ⟨g, 0, none⟩) l.length cp ∧ w.heap.size ≤ g ∧ g < w1.heap.size ∧ l.length ≤ cp ∧ l.length ≤ maxLen ∧ RowIn EIn w1 g 0 l := by
      rcases ho1.form with ⟨_, h⟩ | h
      · rw [h] at hself; cases hself
      · exact h
    have hCycle_1 := gkeep hb1 hCycle rfl
    have hBound_1 := gkeep hb1 hBound rfl
    have hDeep_1 := gkeep hb1 hDeep rfl
    have t1 := hb1.size
    have hll : l.length ≤ 1000000 := by omega
    clear ho1 hself
    have H_hr1 := Lib.hid hr1
    clear hr1
    go_wp2_with fail
    refine (Tryd.slices_Contains_int g 0 l.length cp (toI l) (b : Int) w1 (by unfold toI; rw [List.length_map]; exact Nat.le_refl _) (by omega) (toI_cells H_hr1.out)).mono ?_
    rintro _ _ ⟨rfl, rfl⟩
    rw [List.take_of_length_le (by unfold toI; rw [List.length_map]; exact Nat.le_refl _), toI_contains, H_hml.out, H_hcy.out]
    go_wp2_with fail
    go_returns
    exact ⟨rfl, by repeat' (first | (with_reducible first | exact bwR _ _ | assumption | refine bdn ?_ | refine bwA ?_ ?_ _ | refine bwD ?_ | refine bwS ?_ ?_ _) | omega | (simp <;> omega))⟩
set_option maxHeartbeats 1000000 in
set_option maxRecDepth 100000 in
theorem mov_bound (ea : Nat → Addr) (bd next a b p : Nat) (i : Int) (F : Nat → Prop) (E : Els) (d : Nat → Nat) (e me : El) (w : World) (hD : DokG Tryd.prog TT w bd F E next d) (hG : DGs ea w) (he : elAt E a = some e) (hm : elAt E b = some me) (h0 : a ≠ 0) (hp : e.parent = (p : Int)) (hcy : decide (b ∈ below E 10 a) = false) (hi : I64 i)
    (hat : i < 0 ∨ ((if p = b then me.kids.length - 1 else me.kids.length : Nat) : Int) < i) :
    Calls Tryd.prog 13 #[.pointer (some ⟨bd, 0, none⟩), .int .i64 (a : Int), .int .i64 (b : Int), .int .i64 i] w (ErrIs 125 ea 2 w) := by
  have hpk : p = b → 0 < me.kids.length := fun h => by
    obtain ⟨_, pe, hpe, hk⟩ := hD.good.off_p he h0 hp
    rw [h, hm] at hpe
    obtain rfl := Option.some.inj hpe
    exact List.length_pos_of_mem hk
  have hNone := hG.c5
  have hShape := hG.c3
  have hCycle := hG.c9
  have hBound := hG.c2
  have hDeep := hG.c8
  have zhNone := zlt hNone
  have xhNone := zlts hNone
  have yhNone := zne hNone
  have zhShape := zlt hShape
  have xhShape := zlts hShape
  have yhShape := zne hShape
  have zhCycle := zlt hCycle
  have xhCycle := zlts hCycle
  have yhCycle := zne hCycle
  have zhBound := zlt hBound
  have xhBound := zlts hBound
  have yhBound := zne hBound
  have zhDeep := zlt hDeep
  have xhDeep := zlts hDeep
  have yhDeep := zne hDeep
  have hDG := hD
  obtain ⟨⟨pl, bm, cnt, D, hA, hc, hF⟩, hg, hbig, hlen⟩ := hD
  have c0 := hA.c0
  have hga := hg.lt a e he
  have hgb := hg.lt b me hm
  have haI : I64 (a : Int) := i64_nat (by omega)
  have hbI : I64 (b : Int) := i64_nat (by omega)
  have hEa := hA.els a e he
  have hEb := hA.els b me hm
  have e2 := hEa.e2
  rw [hp] at e2
  have e3 := hEb.e3
  obtain ⟨oa, len, cap, hkv, hS⟩ := hEb.kids.sl
  obtain rfl : len = me.kids.length := hS.1
  rw [hkv] at e3
  have hkl := hg.kids_len hm
  have hnz : ((a : Int) == 0) = false := by rw [beq_eq_false_iff_ne]; omega
  have hbl := hg.below_len he
  have hblw := hEb.lt
  have hbla := hEa.lt
  have hself := self_below (E := E) 10 a
  obtain ⟨l, hl⟩ : ∃ u, below E 10 a = u := ⟨_, rfl⟩
  have hbelow := below_any bd next F E d 10 a e w hDG he (by omega)
  rw [hl] at hbelow hself hbl
  have hml : decide (b ∈ l) = decide (b ∈ below E 10 a) := by rw [hl]
  have H_hA := Lib.hid hA
  clear hA
  have H_hm := Lib.hid hm
  clear hm
  have H_he := Lib.hid he
  clear he
  have H_haI := Lib.hid haI
  clear haI
  have H_hbI := Lib.hid hbI
  clear hbI
  have H_hDG := Lib.hid hDG
  clear hDG
  have H_hG := Lib.hid hG
  clear hG
  have H_hEa := Lib.hid hEa
  clear hEa
  have H_hEb := Lib.hid hEb
  clear hEb
  have H_hkv := Lib.hid hkv
  clear hkv
  have H_hS := Lib.hid hS
  clear hS
  have H_hl := Lib.hid hl
  clear hl
  have H_hbelow := Lib.hid hbelow
  clear hbelow
  have H_hml := Lib.hid hml
  clear hml
  have H_hp := Lib.hid hp
  clear hp
  clear hc hF hg
  have H_hcy := Lib.hid hcy
  clear hcy
  by_cases hpb : p = b
  · have hpb' : ((p : Int) == (b : Int)) = true := by rw [hpb]; simp
    rw [if_pos hpb] at hat
    have hpk' := hpk hpb
    have H_hpb := Lib.hid hpb
    clear hpb
    clear hpk
    rcases hat with hat | hat
    all_goals
      go_enter Tryd.func13, Tryd.ntmps13
      go_wp2_with (first | (at_lookup; refine wp_hit_ok (T := TT) (n := a) TK rfl _ _ rfl rfl rfl H_hA.out H_he.out H_haI.out ?_) | (at_lookup; refine wp_hit_ok (T := TT) (n := b) TK rfl _ _ rfl rfl rfl H_hA.out H_hm.out H_hbI.out ?_))
      refine H_hbelow.out.mono ?_
      rintro _ w1 ⟨v1, rfl, ho1, hb1⟩
      obtain ⟨g, cp, rfl, hg0, hg1, _, _, hr1⟩ : ∃ g cp, v1 = .slice (some ⟨g, 0, none⟩) l.length cp ∧ w.heap.size ≤ g ∧ g < w1.heap.size ∧ l.length ≤ cp ∧ l.length ≤ maxLen ∧ RowIn EIn w1 g 0 l := by
        rcases ho1.form with ⟨_, h⟩ | h
        · rw [h] at hself; cases hself
        · exact h
      have hCycle_1 := gkeep hb1 hCycle rfl
      have hBound_1 := gkeep hb1 hBound rfl
      have hDeep_1 := gkeep hb1 hDeep rfl
      have t1 := hb1.size
      have hll : l.length ≤ 1000000 := by omega
      clear ho1 hself
      have H_hr1 := Lib.hid hr1
      clear hr1
      go_wp2_with fail
      refine (Tryd.slices_Contains_int g 0 l.length cp (toI l) (b : Int) w1 (by unfold toI; rw [List.length_map]; exact Nat.le_refl _) (by omega) (toI_cells H_hr1.out)).mono ?_
      rintro _ _ ⟨rfl, rfl⟩
      rw [List.take_of_length_le (by unfold toI; rw [List.length_map]; exact Nat.le_refl _), toI_contains, H_hml.out, H_hcy.out]
      go_wp2_with fail
      go_returns
      exact ⟨rfl, by repeat' (first | (with_reducible first | exact bwR _ _ | assumption | refine bdn ?_ | refine bwA ?_ ?_ _ | refine bwD ?_ | refine bwS ?_ ?_ _) | omega | (simp <;> omega))⟩
  · have hpb' : ((p : Int) == (b : Int)) = false := by rw [beq_eq_false_iff_ne]; omega
    rw [if_neg hpb] at hat
    have H_hpb := Lib.hid hpb
    clear hpb
    clear hpk
    rcases hat with hat | hat
    all_goals
      go_enter Tryd.func13, Tryd.ntmps13
      go_wp2_with (first | (at_lookup; refine wp_hit_ok (T := TT) (n := a) TK rfl _ _ rfl rfl rfl H_hA.out H_he.out H_haI.out ?_) | (at_lookup; refine wp_hit_ok (T := TT) (n := b) TK rfl _ _ rfl rfl rfl H_hA.out H_hm.out H_hbI.out ?_))
      refine H_hbelow.out.mono ?_
      rintro _ w1 ⟨v1, rfl, ho1, hb1⟩
      obtain ⟨g, cp, rfl, hg0, hg1, _, _, hr1⟩ : ∃ g cp, v1 = .slice (some ⟨g, 0, none⟩) l.length cp ∧ w.heap.size ≤ g ∧ g < w1.heap.size ∧ l.length ≤ cp ∧ l.length ≤ maxLen ∧ RowIn EIn w1 g 0 l := by
        rcases ho1.form with ⟨_, h⟩ | h
        · rw [h] at hself; cases hself
        · exact h
      have hCycle_1 := gkeep hb1 hCycle rfl
      have hBound_1 := gkeep hb1 hBound rfl
      have hDeep_1 := gkeep hb1 hDeep rfl
      have t1 := hb1.size
      have hll : l.length ≤ 1000000 := by omega
      clear ho1 hself
      have H_hr1 := Lib.hid hr1
      clear hr1
      go_wp2_with fail
      refine (Tryd.slices_Contains_int g 0 l.length cp (toI l) (b : Int) w1 (by unfold toI; rw [List.length_map]; exact Nat.le_refl _) (by omega) (toI_cells H_hr1.out)).mono ?_
      rintro _ _ ⟨rfl, rfl⟩
      rw [List.take_of_length_le (by unfold toI; rw [List.length_map]; exact Nat.le_refl _), toI_contains, H_hml.out, H_hcy.out]
      go_wp2_with fail
      go_returns
      exact ⟨rfl, by repeat' (first | (with_reducible first | exact bwR _ _ | assumption | refine bdn ?_ | refine bwA ?_ ?_ _ | refine bwD ?_ | refine bwS ?_ ?_ _) | omega | (simp <;> omega))⟩
set_option maxHeartbeats 1000000 in
set_option maxRecDepth 100000 in
theorem mov_deep (ea : Nat → Addr) (bd next a b p j : Nat) (F : Nat → Prop) (E : Els) (d : Nat → Nat) (e me : El) (w : World) (hD : DokG Tryd.prog TT w bd F E next d) (hG : DGs ea w) (he : elAt E a = some e) (hm : elAt E b = some me) (h0 : a ≠ 0) (hp : e.parent = (p : Int)) (hcy : decide (b ∈ below E 10 a) = false)
    (hat : j ≤ (if p = b then me.kids.length - 1 else me.kids.length)) (hdh : 10 < d b + high E 10 a) :
    Calls Tryd.prog 13 #[.pointer (some ⟨bd, 0, none⟩), .int .i64 (a : Int), .int .i64 (b : Int), .int .i64 (j : Int)] w (ErrIs 125 ea 8 w) := by
  have hpk : p = b → 0 < me.kids.length := fun h => by
    obtain ⟨_, pe, hpe, hk⟩ := hD.good.off_p he h0 hp
    rw [h, hm] at hpe
    obtain rfl := Option.some.inj hpe
    exact List.length_pos_of_mem hk
  have hNone := hG.c5
  have hShape := hG.c3
  have hCycle := hG.c9
  have hBound := hG.c2
  have hDeep := hG.c8
  have zhNone := zlt hNone
  have xhNone := zlts hNone
  have yhNone := zne hNone
  have zhShape := zlt hShape
  have xhShape := zlts hShape
  have yhShape := zne hShape
  have zhCycle := zlt hCycle
  have xhCycle := zlts hCycle
  have yhCycle := zne hCycle
  have zhBound := zlt hBound
  have xhBound := zlts hBound
  have yhBound := zne hBound
  have zhDeep := zlt hDeep
  have xhDeep := zlts hDeep
  have yhDeep := zne hDeep
  have hDG := hD
  obtain ⟨⟨pl, bm, cnt, D, hA, hc, hF⟩, hg, hbig, hlen⟩ := hD
  have c0 := hA.c0
  have hga := hg.lt a e he
  have hgb := hg.lt b me hm
  have haI : I64 (a : Int) := i64_nat (by omega)
  have hbI : I64 (b : Int) := i64_nat (by omega)
  have hEa := hA.els a e he
  have hEb := hA.els b me hm
  have e2 := hEa.e2
  rw [hp] at e2
  have e3 := hEb.e3
  obtain ⟨oa, len, cap, hkv, hS⟩ := hEb.kids.sl
  obtain rfl : len = me.kids.length := hS.1
  rw [hkv] at e3
  have hkl := hg.kids_len hm
  have hnz : ((a : Int) == 0) = false := by rw [beq_eq_false_iff_ne]; omega
  have hbl := hg.below_len he
  have hblw := hEb.lt
  have hbla := hEa.lt
  have hself := self_below (E := E) 10 a
  obtain ⟨l, hl⟩ : ∃ u, below E 10 a = u := ⟨_, rfl⟩
  have hbelow := below_any bd next F E d 10 a e w hDG he (by omega)
  rw [hl] at hbelow hself hbl
  have hml : decide (b ∈ l) = decide (b ∈ below E 10 a) := by rw [hl]
  have H_hA := Lib.hid hA
  clear hA
  have H_hm := Lib.hid hm
  clear hm
  have H_he := Lib.hid he
  clear he
  have H_haI := Lib.hid haI
  clear haI
  have H_hbI := Lib.hid hbI
  clear hbI
  have H_hDG := Lib.hid hDG
  clear hDG
  have H_hG := Lib.hid hG
  clear hG
  have H_hEa := Lib.hid hEa
  clear hEa
  have H_hEb := Lib.hid hEb
  clear hEb
  have H_hkv := Lib.hid hkv
  clear hkv
  have H_hS := Lib.hid hS
  clear hS
  have H_hl := Lib.hid hl
  clear hl
  have H_hbelow := Lib.hid hbelow
  clear hbelow
  have H_hml := Lib.hid hml
  clear hml
  have H_hp := Lib.hid hp
  clear hp
  have hd1 := hg.dm b me H_hm.out
  have hd2 := hg.high_small H_he.out
  clear hc hF hg
  have H_hcy := Lib.hid hcy
  clear hcy
  by_cases hpb : p = b
  · have hpb' : ((p : Int) == (b : Int)) = true := by rw [hpb]; simp
    rw [if_pos hpb] at hat
    have hpk' := hpk hpb
    have H_hpb := Lib.hid hpb
    clear hpb
    clear hpk
    go_enter Tryd.func13, Tryd.ntmps13
    go_wp2_with (first | (at_lookup; refine wp_hit_ok (T := TT) (n := a) TK rfl _ _ rfl rfl rfl H_hA.out H_he.out H_haI.out ?_) | (at_lookup; refine wp_hit_ok (T := TT) (n := b) TK rfl _ _ rfl rfl rfl H_hA.out H_hm.out H_hbI.out ?_))
    refine H_hbelow.out.mono ?_
    rintro _ w1 ⟨v1, rfl, ho1, hb1⟩
    obtain ⟨g, cp, rfl, hg0, hg1, _, _, hr1⟩ : ∃ g cp, v1 = .slice (some ⟨g, 0, none⟩) l.length cp ∧ w.heap.size ≤ g ∧ g < w1.heap.size ∧ l.length ≤ cp ∧ l.length ≤ maxLen ∧ RowIn EIn w1 g 0 l := by
      rcases ho1.form with ⟨_, h⟩ | h
      · rw [h] at hself; cases hself
      · exact h
    have hCycle_1 := gkeep hb1 hCycle rfl
    have hBound_1 := gkeep hb1 hBound rfl
    have hDeep_1 := gkeep hb1 hDeep rfl
    have t1 := hb1.size
    have hll : l.length ≤ 1000000 := by omega
    clear ho1 hself
    have H_hr1 := Lib.hid hr1
    clear hr1
    go_wp2_with fail
    refine (Tryd.slices_Contains_int g 0 l.length cp (toI l) (b : Int) w1 (by unfold toI; rw [List.length_map]; exact Nat.le_refl _) (by omega) (toI_cells H_hr1.out)).mono ?_
    rintro _ _ ⟨rfl, rfl⟩
    rw [List.take_of_length_le (by unfold toI; rw [List.length_map]; exact Nat.le_refl _), toI_contains, H_hml.out, H_hcy.out]
    go_wp2_with fail
    refine call_bel (w := w) (by repeat' (first | (with_reducible first | exact bwR _ _ | assumption | refine bdn ?_ | refine bwA ?_ ?_ _ | refine bwD ?_ | refine bwS ?_ ?_ _) | omega | (simp <;> omega))) (fun HB => deep_any bd next b F E d me _ (H_hDG.out.keep HB) H_hm.out) ?_
    intro w2 hb2 hz2 c2 d2 hW2
    have hDeep_2 := gkeep hb2 hDeep rfl
    have t2 := hb2.size
    clear hz2 c2 d2 hW2
    go_wp2_with fail
    refine call_bel (w := w) (by repeat' (first | (with_reducible first | exact bwR _ _ | assumption | refine bdn ?_ | refine bwA ?_ ?_ _ | refine bwD ?_ | refine bwS ?_ ?_ _) | omega | (simp <;> omega))) (fun HB => high_any bd next F E d H_hDG.out.good 10 a e _ (H_hDG.out.keep HB) H_he.out (by omega)) ?_
    intro w3 hb3 hz3 c3 d3 hW3
    have hDeep_3 := gkeep hb3 hDeep rfl
    have t3 := hb3.size
    clear hz3 c3 d3 hW3
    go_wp2_with fail
    go_returns
    exact ⟨rfl, by repeat' (first | (with_reducible first | exact bwR _ _ | assumption | refine bdn ?_ | refine bwA ?_ ?_ _ | refine bwD ?_ | refine bwS ?_ ?_ _) | omega | (simp <;> omega))⟩
  · have hpb' : ((p : Int) == (b : Int)) = false := by rw [beq_eq_false_iff_ne]; omega
    rw [if_neg hpb] at hat
    have H_hpb := Lib.hid hpb
    clear hpb
    clear hpk
    go_enter Tryd.func13, Tryd.ntmps13
    go_wp2_with (first | (at_lookup; refine wp_hit_ok (T := TT) (n := a) TK rfl _ _ rfl rfl rfl H_hA.out H_he.out H_haI.out ?_) | (at_lookup; refine wp_hit_ok (T := TT) (n := b) TK rfl _ _ rfl rfl rfl H_hA.out H_hm.out H_hbI.out ?_))
    refine H_hbelow.out.mono ?_
    rintro _ w1 ⟨v1, rfl, ho1, hb1⟩
    obtain ⟨g, cp, rfl, hg0, hg1, _, _, hr1⟩ : ∃ g cp, v1 = .slice (some ⟨g, 0, none⟩) l.length cp ∧ w.heap.size ≤ g ∧ g < w1.heap.size ∧ l.length ≤ cp ∧ l.length ≤ maxLen ∧ RowIn EIn w1 g 0 l := by
      rcases ho1.form with ⟨_, h⟩ | h
      · rw [h] at hself; cases hself
      · exact h
    have hCycle_1 := gkeep hb1 hCycle rfl
    have hBound_1 := gkeep hb1 hBound rfl
    have hDeep_1 := gkeep hb1 hDeep rfl
    have t1 := hb1.size
    have hll : l.length ≤ 1000000 := by omega
    clear ho1 hself
    have H_hr1 := Lib.hid hr1
    clear hr1
    go_wp2_with fail
    refine (Tryd.slices_Contains_int g 0 l.length cp (toI l) (b : Int) w1 (by unfold toI; rw [List.length_map]; exact Nat.le_refl _) (by omega) (toI_cells H_hr1.out)).mono ?_
    rintro _ _ ⟨rfl, rfl⟩
    rw [List.take_of_length_le (by unfold toI; rw [List.length_map]; exact Nat.le_refl _), toI_contains, H_hml.out, H_hcy.out]
    go_wp2_with fail
    refine call_bel (w := w) (by repeat' (first | (with_reducible first | exact bwR _ _ | assumption | refine bdn ?_ | refine bwA ?_ ?_ _ | refine bwD ?_ | refine bwS ?_ ?_ _) | omega | (simp <;> omega))) (fun HB => deep_any bd next b F E d me _ (H_hDG.out.keep HB) H_hm.out) ?_
    intro w2 hb2 hz2 c2 d2 hW2
    have hDeep_2 := gkeep hb2 hDeep rfl
    have t2 := hb2.size
    clear hz2 c2 d2 hW2
    go_wp2_with fail
    refine call_bel (w := w) (by repeat' (first | (with_reducible first | exact bwR _ _ | assumption | refine bdn ?_ | refine bwA ?_ ?_ _ | refine bwD ?_ | refine bwS ?_ ?_ _) | omega | (simp <;> omega))) (fun HB => high_any bd next F E d H_hDG.out.good 10 a e _ (H_hDG.out.keep HB) H_he.out (by omega)) ?_
    intro w3 hb3 hz3 c3 d3 hW3
    have hDeep_3 := gkeep hb3 hDeep rfl
    have t3 := hb3.size
    clear hz3 c3 d3 hW3
    go_wp2_with fail
    go_returns
    exact ⟨rfl, by repeat' (first | (with_reducible first | exact bwR _ _ | assumption | refine bdn ?_ | refine bwA ?_ ?_ _ | refine bwD ?_ | refine bwS ?_ ?_ _) | omega | (simp <;> omega))⟩
set_option maxHeartbeats 3000000 in
set_option maxRecDepth 100000 in
theorem mov_ok (ea : Nat → Addr) (bd next a b p j : Nat) (F : Nat → Prop) (E : Els) (d : Nat → Nat) (e me : El) (w : World) (hD : DokG Tryd.prog TT w bd F E next d) (hG : DGs ea w) (he : elAt E a = some e) (hm : elAt E b = some me) (h0 : a ≠ 0) (hp : e.parent = (p : Int)) (hcy : decide (b ∈ below E 10 a) = false)
    (hat : j ≤ (if p = b then me.kids.length - 1 else me.kids.length)) (hdh : d b + high E 10 a ≤ 10) :
    Calls Tryd.prog 13 #[.pointer (some ⟨bd, 0, none⟩), .int .i64 (a : Int), .int .i64 (b : Int), .int .i64 (j : Int)] w fun en w' => en = .returned .nilIface ∧ Became Tryd.prog TT w w' bd F (moveE E a b j p) next := by
  obtain ⟨hpnb, pe, hpe, hk⟩ := hD.good.off_p he h0 hp
  have hap : a ≠ p := fun h => hpnb (h ▸ self_below 10 a)
  have hab : a ≠ b := fun h => by
    have h1 := of_decide_eq_false hcy
    exact h1 (h ▸ self_below 10 a)
  have hpk : p = b → 0 < me.kids.length := fun h => by
    rw [h, hm] at hpe
    obtain rfl := Option.some.inj hpe
    exact List.length_pos_of_mem hk
  have hgp := hD.good.lt p pe hpe
  have keys := hD.good.keys
  have hkl0 := hD.good.kids_len hm
  obtain ⟨me5, hm4, hj5, hl5⟩ : ∃ me5, elAt (offE E a p) b = some me5 ∧ j ≤ me5.kids.length ∧ me5.kids.length ≤ me.kids.length := by
    by_cases h : b = p
    · subst h
      rw [if_pos rfl] at hat
      rw [hm] at hpe
      obtain rfl := Option.some.inj hpe
      have := offK_len (hD.good.nd b me hm) hk
      unfold offE
      rw [elAt_upd, if_pos rfl, hm]
      exact ⟨_, rfl, by show j ≤ (offK me.kids a).length; omega, List.length_filter_le _ _⟩
    · rw [if_neg (fun h' => h h'.symm)] at hat
      rw [offE_at a p b h]
      exact ⟨me, hm, hat, Nat.le_refl _⟩
  have he4 : elAt (offE E a p) a = some e := by rw [offE_at a p a hap]; exact he
  have hkeys4 : ((offE E a p).map (·.1)).Nodup := by unfold offE; rw [upd_keys]; exact keys
  have hpe5 : Dc.upd (offE E a p) a (fun _ => { e with parent := (b : Int) }) = Dc.upd (offE E a p) a (fun e => { e with parent := (b : Int) }) := upd_const hkeys4 he4 (fun e => { e with parent := (b : Int) })
  obtain ⟨E5, hE5⟩ : ∃ u, Dc.upd (offE E a p) a (fun e => { e with parent := (b : Int) }) = u := ⟨_, rfl⟩
  have hm5 : elAt E5 b = some me5 := by rw [← hE5, elAt_upd, if_neg (fun h => hab h.symm)]; exact hm4
  have hins : Dc.upd E5 b (fun _ => { me5 with kids := insK me5.kids j a }) = moveE E a b j p := by
    rw [upd_const (by rw [← hE5, upd_keys]; exact hkeys4) hm5 (fun e => { e with kids := insK e.kids j a }), ← hE5]
    exact move_eq E j hap hab
  rw [hE5] at hpe5
  have hNone := hG.c5
  have hShape := hG.c3
  have hCycle := hG.c9
  have hBound := hG.c2
  have hDeep := hG.c8
  have zhNone := zlt hNone
  have xhNone := zlts hNone
  have yhNone := zne hNone
  have zhShape := zlt hShape
  have xhShape := zlts hShape
  have yhShape := zne hShape
  have zhCycle := zlt hCycle
  have xhCycle := zlts hCycle
  have yhCycle := zne hCycle
  have zhBound := zlt hBound
  have xhBound := zlts hBound
  have yhBound := zne hBound
  have zhDeep := zlt hDeep
  have xhDeep := zlts hDeep
  have yhDeep := zne hDeep
  have hDG := hD
  obtain ⟨⟨pl, bm, cnt, D, hA, hc, hF⟩, hg, hbig, hlen⟩ := hD
  have c0 := hA.c0
  have hga := hg.lt a e he
  have hgb := hg.lt b me hm
  have haI : I64 (a : Int) := i64_nat (by omega)
  have hbI : I64 (b : Int) := i64_nat (by omega)
  have hEa := hA.els a e he
  have hEb := hA.els b me hm
  have e2 := hEa.e2
  rw [hp] at e2
  have e3 := hEb.e3
  obtain ⟨oa, len, cap, hkv, hS⟩ := hEb.kids.sl
  obtain rfl : len = me.kids.length := hS.1
  rw [hkv] at e3
  have hkl := hg.kids_len hm
  have hnz : ((a : Int) == 0) = false := by rw [beq_eq_false_iff_ne]; omega
  have hbl := hg.below_len he
  have hblw := hEb.lt
  have hbla := hEa.lt
  have hself := self_below (E := E) 10 a
  obtain ⟨l, hl⟩ : ∃ u, below E 10 a = u := ⟨_, rfl⟩
  have hbelow := below_any bd next F E d 10 a e w hDG he (by omega)
  rw [hl] at hbelow hself hbl
  have hml : decide (b ∈ l) = decide (b ∈ below E 10 a) := by rw [hl]
  have H_hA := Lib.hid hA
  clear hA
  have H_hm := Lib.hid hm
  clear hm
  have H_he := Lib.hid he
  clear he
  have H_haI := Lib.hid haI
  clear haI
  have H_hbI := Lib.hid hbI
  clear hbI
  have H_hDG := Lib.hid hDG
  clear hDG
  have H_hG := Lib.hid hG
  clear hG
  have H_hEa := Lib.hid hEa
  clear hEa
  have H_hEb := Lib.hid hEb
  clear hEb
  have H_hkv := Lib.hid hkv
  clear hkv
  have H_hS := Lib.hid hS
  clear hS
  have H_hl := Lib.hid hl
  clear hl
  have H_hbelow := Lib.hid hbelow
  clear hbelow
  have H_hml := Lib.hid hml
  clear hml
  have H_hp := Lib.hid hp
  clear hp
  have hd1 := hg.dm b me H_hm.out
  have hd2 := hg.high_small H_he.out
  clear hg hE5 hkeys4
  have H_hcy := Lib.hid hcy
  clear hcy
  have H_hpe := Lib.hid hpe
  clear hpe
  have H_keys := Lib.hid keys
  clear keys
  have H_hF := Lib.hid hF
  clear hF
  have H_hm4 := Lib.hid hm4
  clear hm4
  have H_he4 := Lib.hid he4
  clear he4
  have H_hpe5 := Lib.hid hpe5
  clear hpe5
  have H_hm5 := Lib.hid hm5
  clear hm5
  have H_hins := Lib.hid hins
  clear hins
  by_cases hpb : p = b
  · have hpb' : ((p : Int) == (b : Int)) = true := by rw [hpb]; simp
    rw [if_pos hpb] at hat
    have hpk' := hpk hpb
    have H_hpb := Lib.hid hpb
    clear hpb
    clear hpk
    go_enter Tryd.func13, Tryd.ntmps13
    go_wp2_with (first | (at_lookup; refine wp_hit_ok (T := TT) (n := a) TK rfl _ _ rfl rfl rfl H_hA.out H_he.out H_haI.out ?_) | (at_lookup; refine wp_hit_ok (T := TT) (n := b) TK rfl _ _ rfl rfl rfl H_hA.out H_hm.out H_hbI.out ?_))
    refine H_hbelow.out.mono ?_
    rintro _ w1 ⟨v1, rfl, ho1, hb1⟩
    obtain ⟨g, cp, rfl, hg0, hg1, _, _, hr1⟩ : ∃ g cp, v1 = .slice (some ⟨g, 0, none⟩) l.length cp ∧ w.heap.size ≤ g ∧ g < w1.heap.size ∧ l.length ≤ cp ∧ l.length ≤ maxLen ∧ RowIn EIn w1 g 0 l := by
      rcases ho1.form with ⟨_, h⟩ | h
      · rw [h] at hself; cases hself
      · exact h
    have hCycle_1 := gkeep hb1 hCycle rfl
    have hBound_1 := gkeep hb1 hBound rfl
    have hDeep_1 := gkeep hb1 hDeep rfl
    have t1 := hb1.size
    have hll : l.length ≤ 1000000 := by omega
    clear ho1 hself
    have H_hr1 := Lib.hid hr1
    clear hr1
    go_wp2_with fail
    refine (Tryd.slices_Contains_int g 0 l.length cp (toI l) (b : Int) w1 (by unfold toI; rw [List.length_map]; exact Nat.le_refl _) (by omega) (toI_cells H_hr1.out)).mono ?_
    rintro _ _ ⟨rfl, rfl⟩
    rw [List.take_of_length_le (by unfold toI; rw [List.length_map]; exact Nat.le_refl _), toI_contains, H_hml.out, H_hcy.out]
    go_wp2_with fail
    refine call_bel (w := w) (by repeat' (first | (with_reducible first | exact bwR _ _ | assumption | refine bdn ?_ | refine bwA ?_ ?_ _ | refine bwD ?_ | refine bwS ?_ ?_ _) | omega | (simp <;> omega))) (fun HB => deep_any bd next b F E d me _ (H_hDG.out.keep HB) H_hm.out) ?_
    intro w2 hb2 hz2 c2 d2 hW2
    have hDeep_2 := gkeep hb2 hDeep rfl
    have t2 := hb2.size
    clear hz2 c2 d2 hW2
    go_wp2_with fail
    refine call_bel (w := w) (by repeat' (first | (with_reducible first | exact bwR _ _ | assumption | refine bdn ?_ | refine bwA ?_ ?_ _ | refine bwD ?_ | refine bwS ?_ ?_ _) | omega | (simp <;> omega))) (fun HB => high_any bd next F E d H_hDG.out.good 10 a e _ (H_hDG.out.keep HB) H_he.out (by omega)) ?_
    intro w3 hb3 hz3 c3 d3 hW3
    have hDeep_3 := gkeep hb3 hDeep rfl
    have t3 := hb3.size
    clear hz3 c3 d3 hW3
    go_wp2_with fail
    have hA3 := H_hA.out.keep hb3
    have hF3 := H_hF.out.keep (w' := w3) hb3.size
    have hT3 : Turn F w w3 := Turn.of_below hb3
    refine (off_any bd next a p bm cnt F E d pl D e pe w3 hA3 hF3 H_he.out H_hp.out H_hpe.out hk (by omega) (by omega)).mono ?_
    rintro _ w4 ⟨rfl, kv4, F4, hF4n, hA4, hF4, hT4⟩
    have hoe : Dc.upd E p (fun _ => { pe with kids := offK pe.kids a }) = offE E a p := upd_const H_keys.out H_hpe.out (fun e => { e with kids := offK e.kids a })
    rw [hoe] at hA4 hF4
    obtain ⟨pl4, hpl4⟩ : ∃ u, (fun x => if x = p then (⟨(pl p).blk, (pl p).av, kv4⟩ : Plc) else pl x) = u := ⟨_, rfl⟩
    have hp4a : pl4 a = pl a := by rw [← hpl4]; exact if_neg hap
    have hp4b : (pl4 b).blk = (pl b).blk := by
      rw [← hpl4]
      show (if b = p then (⟨(pl p).blk, (pl p).av, kv4⟩ : Plc) else pl b).blk = _
      by_cases h : b = p
      · rw [if_pos h, h]
      · rw [if_neg h]
    rw [hpl4] at hA4 hF4
    have hT04 : Turn F w w4 := hT3.goOn hT4 (fun j h => .inl h)
    have hn4 := hA4.els a e H_he4.out
    rw [hp4a] at hn4
    have x2 := hn4.e2
    rw [H_hp.out] at x2
    have y2 := hn4.fr 2
    have zla := hn4.lt
    have z4 := hT04.size
    have hq4 := hA4.els b me5 H_hm4.out
    obtain ⟨o5, l5, k5, hkv4, hS4⟩ := hq4.kids.sl
    obtain rfl : l5 = me5.kids.length := hS4.1
    have u3 := hq4.e3
    rw [hkv4, hp4b] at u3
    have zlb := hq4.lt
    rw [hp4b] at zlb
    have hnab : ¬ (pl a).blk = (pl b).blk := fun h => (H_hA.out.ne a b e me hab H_he.out H_hm.out).1 h
    have hnba : ¬ (pl b).blk = (pl a).blk := fun h => hnab h.symm
    obtain ⟨hA5, hF5, hT5⟩ := hA4.par TK hF4 H_he4.out (b : Int)
    rw [hp4a] at hA5 hF5 hT5
    rw [H_hpe5.out] at hA5 hF5
    obtain ⟨w5, hw5⟩ : ∃ u, w4.setCell ⟨(pl a).blk, 2, none⟩ (.int .i64 (b : Int)) = u := ⟨_, rfl⟩
    have hz5 : w5.heap.size = w4.heap.size := by rw [← hw5]; simp
    obtain ⟨pl5, hpl5⟩ : ∃ u, (fun x => if x = a then pl a else pl4 x) = u := ⟨_, rfl⟩
    have hp5b : pl5 b = pl4 b := by
      rw [← hpl5]
      exact if_neg (fun h => hab h.symm)
    rw [hw5, hpl5] at hA5 hF5
    rw [hw5] at hT5
    have hF4w : ∀ j, F4 j → F j ∨ w.heap.size ≤ j := fun j hj => (hF4n j hj).imp id (fun h => by omega)
    have hT05 : Turn F w w5 := hT04.goOn hT5 hF4w
    have hq5 := hA5.els b me5 H_hm5.out
    have hkq := hq5.kids
    rw [hp5b, hkv4] at hkq
    have hkv5 : (pl5 b).kv = .slice o5 me5.kids.length k5 := by rw [hp5b]; exact hkv4
    have hbk5 : (pl5 b).blk = (pl b).blk := by rw [hp5b]; exact hp4b
    have H_hA5 := Lib.hid hA5
    clear hA5
    have H_hF5 := Lib.hid hF5
    clear hF5
    have H_hT05 := Lib.hid hT05
    clear hT05
    have H_hkv5 := Lib.hid hkv5
    clear hkv5
    have H_hkq := Lib.hid hkq
    clear hkq
    have H_hq5 := Lib.hid hq5
    clear hq5
    have H_hw5 := Lib.hid hw5
    clear hw5
    have H_hF4w := Lib.hid hF4w
    clear hF4w
    have H_hbk5 := Lib.hid hbk5
    clear hbk5
    clear hT3 hT4 hT5 hA4 hF4 hn4 hS4 hA3 hF3 hoe hpl4 hpl5 hq4 hkv4 hp4a hp4b hp5b hF4n hT04
    go_wp2_with fail
    rw [H_hw5.out]
    have hkq6 : OwnQ EIn (w5.alloc (.cells #[.int .i64 (a : Int)] 3)) 0 3 (.slice o5 me5.kids.length k5) me5.kids := H_hkq.out.keep ((Below.refl _ _).alloc (Nat.le_refl _) _)
    have hle5 : w4.heap.size ≤ w5.heap.size := Nat.le_of_eq hz5.symm
    rw [show w4.heap.size = w5.heap.size from hz5.symm]
    clear hz5
    refine (ins_any (ρ := Tryd.insI_ren) Tryd.insI (base := 0) (kv := .slice o5 me5.kids.length k5) (kids := me5.kids) (vb := w5.heap.size) (i := j) (n := a) (tv := 3) hkq6 hj5 (heap_alloc_new _ _) (fun hb => by
      obtain ⟨_, h, _⟩ := H_hkq.out.rowB hb
      omega) (by omega) (Nat.zero_le _)).mono ?_
    rintro _ w7 ⟨v7, rfl, hv7, hrt, hvb7⟩
    obtain ⟨o7, l7, c7, rfl⟩ := own_form hv7
    have z7 := hrt.size
    rw [World.size_alloc] at z7
    have hw7 : ∀ j, j < w5.heap.size → rowB (.slice o5 me5.kids.length k5) ≠ some j → w7.heap[j]? = w5.heap[j]? := fun j hj hn => (hrt.block j (by rw [World.size_alloc]; omega) hn).trans (Below.heap_alloc _ _ _ hj)
    have hbne : rowB (.slice o5 me5.kids.length k5) ≠ some (pl b).blk := fun hb => by
      obtain ⟨_, _, cur, hcq⟩ := H_hkq.out.rowB hb
      exact H_hq5.out.blk_ne hcq TK.h5 H_hbk5.out.symm
    have hcq := H_hq5.out.cell
    have hlb5 := H_hq5.out.lt
    rw [H_hbk5.out] at hcq hlb5
    rw [← hw7 _ hlb5 hbne] at hcq
    have e3_7 : w7.cell? ⟨(pl b).blk, 3, none⟩ = some (pl5 b).kv := hcell hcq rfl
    have y3_7 : w7.frozen? ⟨(pl b).blk, 3, none⟩ = false := hfree hcq
    have hfin := H_hA5.out.kids TK H_hF5.out H_hm5.out (w1 := w7) (v' := .slice o7 l7 c7) (l' := insK me5.kids j a) ⟨hrt.os, hrt.tape, hrt.output⟩ (by omega) (fun j hj hn => hw7 j hj (by rw [← H_hkv5.out]; exact hn)) hv7 (fun b hb => by
      rcases hvb7 b hb with h | h
      · rw [H_hkv5.out]; exact .inl h
      · rw [World.size_alloc] at h; exact .inr (by omega))
    rw [H_hbk5.out] at hfin
    have hvlt : ∀ x, rowB (.slice o7 l7 c7) = some x → F x ∨ w.heap.size ≤ x := fun x hx => by
      rcases hvb7 x hx with h | h
      · exact H_hF4w.out x (H_hF5.out.kv b me5 H_hm5.out x (by rw [H_hkv5.out]; exact h))
      · rw [World.size_alloc] at h; exact .inr (by omega)
    rw [H_hins.out] at hfin
    clear hcq hw7 hrt hvb7 hv7
    have H_hfin := Lib.hid hfin
    clear hfin
    have H_hvlt := Lib.hid hvlt
    clear hvlt
    go_wp2_with fail
    go_returns
    refine ⟨rfl, _, fun x hx => ?_, ⟨_, _, _, _, H_hfin.out.1, hc, H_hfin.out.2.1⟩, H_hT05.out.goOn H_hfin.out.2.2 H_hF4w.out⟩
    rcases hx with h | h
    · exact H_hF4w.out x h
    · exact H_hvlt.out x h
  · have hpb' : ((p : Int) == (b : Int)) = false := by rw [beq_eq_false_iff_ne]; omega
    rw [if_neg hpb] at hat
    have H_hpb := Lib.hid hpb
    clear hpb
    clear hpk
    go_enter Tryd.func13, Tryd.ntmps13
    go_wp2_with (first | (at_lookup; refine wp_hit_ok (T := TT) (n := a) TK rfl _ _ rfl rfl rfl H_hA.out H_he.out H_haI.out ?_) | (at_lookup; refine wp_hit_ok (T := TT) (n := b) TK rfl _ _ rfl rfl rfl H_hA.out H_hm.out H_hbI.out ?_))
    refine H_hbelow.out.mono ?_
    rintro _ w1 ⟨v1, rfl, ho1, hb1⟩
    obtain ⟨g, cp, rfl, hg0, hg1, _, _, hr1⟩ : ∃ g cp, v1 = .slice (some ⟨g, 0, none⟩) l.length cp ∧ w.heap.size ≤ g ∧ g < w1.heap.size ∧ l.length ≤ cp ∧ l.length ≤ maxLen ∧ RowIn EIn w1 g 0 l := by
      rcases ho1.form with ⟨_, h⟩ | h
      · rw [h] at hself; cases hself
      · exact h
    have hCycle_1 := gkeep hb1 hCycle rfl
    have hBound_1 := gkeep hb1 hBound rfl
    have hDeep_1 := gkeep hb1 hDeep rfl
    have t1 := hb1.size
    have hll : l.length ≤ 1000000 := by omega
    clear ho1 hself
    have H_hr1 := Lib.hid hr1
    clear hr1
    go_wp2_with fail
    refine (Tryd.slices_Contains_int g 0 l.length cp (toI l) (b : Int) w1 (by unfold toI; rw [List.length_map]; exact Nat.le_refl _) (by omega) (toI_cells H_hr1.out)).mono ?_
    rintro _ _ ⟨rfl, rfl⟩
    rw [List.take_of_length_le (by unfold toI; rw [List.length_map]; exact Nat.le_refl _), toI_contains, H_hml.out, H_hcy.out]
    go_wp2_with fail
    refine call_bel (w := w) (by repeat' (first | (with_reducible first | exact bwR _ _ | assumption | refine bdn ?_ | refine bwA ?_ ?_ _ | refine bwD ?_ | refine bwS ?_ ?_ _) | omega | (simp <;> omega))) (fun HB => deep_any bd next b F E d me _ (H_hDG.out.keep HB) H_hm.out) ?_
    intro w2 hb2 hz2 c2 d2 hW2
    have hDeep_2 := gkeep hb2 hDeep rfl
    have t2 := hb2.size
    clear hz2 c2 d2 hW2
    go_wp2_with fail
    refine call_bel (w := w) (by repeat' (first | (with_reducible first | exact bwR _ _ | assumption | refine bdn ?_ | refine bwA ?_ ?_ _ | refine bwD ?_ | refine bwS ?_ ?_ _) | omega | (simp <;> omega))) (fun HB => high_any bd next F E d H_hDG.out.good 10 a e _ (H_hDG.out.keep HB) H_he.out (by omega)) ?_
    intro w3 hb3 hz3 c3 d3 hW3
    have hDeep_3 := gkeep hb3 hDeep rfl
    have t3 := hb3.size
    clear hz3 c3 d3 hW3
    go_wp2_with fail
    have hA3 := H_hA.out.keep hb3
    have hF3 := H_hF.out.keep (w' := w3) hb3.size
    have hT3 : Turn F w w3 := Turn.of_below hb3
    refine (off_any bd next a p bm cnt F E d pl D e pe w3 hA3 hF3 H_he.out H_hp.out H_hpe.out hk (by omega) (by omega)).mono ?_
    rintro _ w4 ⟨rfl, kv4, F4, hF4n, hA4, hF4, hT4⟩
    have hoe : Dc.upd E p (fun _ => { pe with kids := offK pe.kids a }) = offE E a p := upd_const H_keys.out H_hpe.out (fun e => { e with kids := offK e.kids a })
    rw [hoe] at hA4 hF4
    obtain ⟨pl4, hpl4⟩ : ∃ u, (fun x => if x = p then (⟨(pl p).blk, (pl p).av, kv4⟩ : Plc) else pl x) = u := ⟨_, rfl⟩
    have hp4a : pl4 a = pl a := by rw [← hpl4]; exact if_neg hap
    have hp4b : (pl4 b).blk = (pl b).blk := by
      rw [← hpl4]
      show (if b = p then (⟨(pl p).blk, (pl p).av, kv4⟩ : Plc) else pl b).blk = _
      by_cases h : b = p
      · rw [if_pos h, h]
      · rw [if_neg h]
    rw [hpl4] at hA4 hF4
    have hT04 : Turn F w w4 := hT3.goOn hT4 (fun j h => .inl h)
    have hn4 := hA4.els a e H_he4.out
    rw [hp4a] at hn4
    have x2 := hn4.e2
    rw [H_hp.out] at x2
    have y2 := hn4.fr 2
    have zla := hn4.lt
    have z4 := hT04.size
    have hq4 := hA4.els b me5 H_hm4.out
    obtain ⟨o5, l5, k5, hkv4, hS4⟩ := hq4.kids.sl
    obtain rfl : l5 = me5.kids.length := hS4.1
    have u3 := hq4.e3
    rw [hkv4, hp4b] at u3
    have zlb := hq4.lt
    rw [hp4b] at zlb
    have hnab : ¬ (pl a).blk = (pl b).blk := fun h => (H_hA.out.ne a b e me hab H_he.out H_hm.out).1 h
    have hnba : ¬ (pl b).blk = (pl a).blk := fun h => hnab h.symm
    obtain ⟨hA5, hF5, hT5⟩ := hA4.par TK hF4 H_he4.out (b : Int)
    rw [hp4a] at hA5 hF5 hT5
    rw [H_hpe5.out] at hA5 hF5
    obtain ⟨w5, hw5⟩ : ∃ u, w4.setCell ⟨(pl a).blk, 2, none⟩ (.int .i64 (b : Int)) = u := ⟨_, rfl⟩
    have hz5 : w5.heap.size = w4.heap.size := by rw [← hw5]; simp
    obtain ⟨pl5, hpl5⟩ : ∃ u, (fun x => if x = a then pl a else pl4 x) = u := ⟨_, rfl⟩
    have hp5b : pl5 b = pl4 b := by
      rw [← hpl5]
      exact if_neg (fun h => hab h.symm)
    rw [hw5, hpl5] at hA5 hF5
    rw [hw5] at hT5
    have hF4w : ∀ j, F4 j → F j ∨ w.heap.size ≤ j := fun j hj => (hF4n j hj).imp id (fun h => by omega)
    have hT05 : Turn F w w5 := hT04.goOn hT5 hF4w
    have hq5 := hA5.els b me5 H_hm5.out
    have hkq := hq5.kids
    rw [hp5b, hkv4] at hkq
    have hkv5 : (pl5 b).kv = .slice o5 me5.kids.length k5 := by rw [hp5b]; exact hkv4
    have hbk5 : (pl5 b).blk = (pl b).blk := by rw [hp5b]; exact hp4b
    have H_hA5 := Lib.hid hA5
    clear hA5
    have H_hF5 := Lib.hid hF5
    clear hF5
    have H_hT05 := Lib.hid hT05
    clear hT05
    have H_hkv5 := Lib.hid hkv5
    clear hkv5
    have H_hkq := Lib.hid hkq
    clear hkq
    have H_hq5 := Lib.hid hq5
    clear hq5
    have H_hw5 := Lib.hid hw5
    clear hw5
    have H_hF4w := Lib.hid hF4w
    clear hF4w
    have H_hbk5 := Lib.hid hbk5
    clear hbk5
    clear hT3 hT4 hT5 hA4 hF4 hn4 hS4 hA3 hF3 hoe hpl4 hpl5 hq4 hkv4 hp4a hp4b hp5b hF4n hT04
    go_wp2_with fail
    rw [H_hw5.out]
    have hkq6 : OwnQ EIn (w5.alloc (.cells #[.int .i64 (a : Int)] 3)) 0 3 (.slice o5 me5.kids.length k5) me5.kids := H_hkq.out.keep ((Below.refl _ _).alloc (Nat.le_refl _) _)
    have hle5 : w4.heap.size ≤ w5.heap.size := Nat.le_of_eq hz5.symm
    rw [show w4.heap.size = w5.heap.size from hz5.symm]
    clear hz5
    refine (ins_any (ρ := Tryd.insI_ren) Tryd.insI (base := 0) (kv := .slice o5 me5.kids.length k5) (kids := me5.kids) (vb := w5.heap.size) (i := j) (n := a) (tv := 3) hkq6 hj5 (heap_alloc_new _ _) (fun hb => by
      obtain ⟨_, h, _⟩ := H_hkq.out.rowB hb
      omega) (by omega) (Nat.zero_le _)).mono ?_
    rintro _ w7 ⟨v7, rfl, hv7, hrt, hvb7⟩
    obtain ⟨o7, l7, c7, rfl⟩ := own_form hv7
    have z7 := hrt.size
    rw [World.size_alloc] at z7
    have hw7 : ∀ j, j < w5.heap.size → rowB (.slice o5 me5.kids.length k5) ≠ some j → w7.heap[j]? = w5.heap[j]? := fun j hj hn => (hrt.block j (by rw [World.size_alloc]; omega) hn).trans (Below.heap_alloc _ _ _ hj)
    have hbne : rowB (.slice o5 me5.kids.length k5) ≠ some (pl b).blk := fun hb => by
      obtain ⟨_, _, cur, hcq⟩ := H_hkq.out.rowB hb
      exact H_hq5.out.blk_ne hcq TK.h5 H_hbk5.out.symm
    have hcq := H_hq5.out.cell
    have hlb5 := H_hq5.out.lt
    rw [H_hbk5.out] at hcq hlb5
    rw [← hw7 _ hlb5 hbne] at hcq
    have e3_7 : w7.cell? ⟨(pl b).blk, 3, none⟩ = some (pl5 b).kv := hcell hcq rfl
    have y3_7 : w7.frozen? ⟨(pl b).blk, 3, none⟩ = false := hfree hcq
    have hfin := H_hA5.out.kids TK H_hF5.out H_hm5.out (w1 := w7) (v' := .slice o7 l7 c7) (l' := insK me5.kids j a) ⟨hrt.os, hrt.tape, hrt.output⟩ (by omega) (fun j hj hn => hw7 j hj (by rw [← H_hkv5.out]; exact hn)) hv7 (fun b hb => by
      rcases hvb7 b hb with h | h
      · rw [H_hkv5.out]; exact .inl h
      · rw [World.size_alloc] at h; exact .inr (by omega))
    rw [H_hbk5.out] at hfin
    have hvlt : ∀ x, rowB (.slice o7 l7 c7) = some x → F x ∨ w.heap.size ≤ x := fun x hx => by
      rcases hvb7 x hx with h | h
      · exact H_hF4w.out x (H_hF5.out.kv b me5 H_hm5.out x (by rw [H_hkv5.out]; exact h))
      · rw [World.size_alloc] at h; exact .inr (by omega)
    rw [H_hins.out] at hfin
    clear hcq hw7 hrt hvb7 hv7
    have H_hfin := Lib.hid hfin
    clear hfin
    have H_hvlt := Lib.hid hvlt
    clear hvlt
    go_wp2_with fail
    go_returns
    refine ⟨rfl, _, fun x hx => ?_, ⟨_, _, _, _, H_hfin.out.1, hc, H_hfin.out.2.1⟩, H_hT05.out.goOn H_hfin.out.2.2 H_hF4w.out⟩
    rcases hx with h | h
    · exact H_hF4w.out x h
    · exact H_hvlt.out x h
end Go.Proofs.YtccojeglidbpoaaDoor
