/-
  Walks over package pick: Read.
-/
import Derived.Test.YteaipondofbecaaGreatDoorPk5
import Derived.Test.YteaipondofbecaaGreatDoorPq
namespace Lead.Pk
open Go Go.RowKit Lead Lead.Dc
/-- A want's slice. -/
def StX.sl (x : StX) : Value := .slice x.wo x.wl x.wc
/-- Read's boxes and rows, while it reads: w the call's world, w1 behind Split. -/
structure SelW (T TS TW : TypeId) (w w1 W : World) (S : ByteArray) (v : Value) (xs : List StX) : Prop where
  bel : Below w.heap.size w W
  one : w.heap.size + 1 < w1.heap.size
  size : w1.heap.size ≤ W.heap.size
  old : ∀ k, k < w1.heap.size → k ≠ w.heap.size + 1 → W.heap[k]? = w1.heap[k]?
  res : w1.heap[w.heap.size]? = some (.cells #[.slice none 0 0, .string ⟨#[]⟩] T (0, 0))
  box : W.heap[w.heap.size + 1]? = some (.cells #[v, .string S] T (0, 0))
  own : OwnR ESt W w1.heap.size TS v xs
  wants : ∀ x ∈ xs, OwnR EWa W w1.heap.size TW x.sl x.ws ∧ ∀ b, x.sl.ownBlock = some b → v.ownBlock ≠ some b
variable {T TS TW : TypeId} {w w1 W W' : World} {S : ByteArray} {v : Value} {xs : List StX}
theorem SelW.step (h : SelW T TS TW w w1 W S v xs) (hb : Below W.heap.size W W') : SelW T TS TW w w1 W' S v xs :=
  ⟨below_via h.bel hb, h.one, Nat.le_trans h.size hb.size, fun k hk hn => (hb.block k (Nat.lt_of_lt_of_le hk h.size)).trans (h.old k hk hn), h.res, (hb.block _ (Nat.lt_of_lt_of_le h.one h.size)).trans h.box, h.own.keep hb, fun x hx => ⟨(h.wants x hx).1.keep hb, (h.wants x hx).2⟩⟩
theorem SelW.app {w3 : World} {v3 : Value} {x : StX} (h : SelW T TS TW w w1 W S v xs) (hx : OwnR EWa W w1.heap.size TW x.sl x.ws) (hxv : ∀ b, x.sl.ownBlock = some b → v.ownBlock ≠ some b)
    (hv : OwnR ESt w3 w1.heap.size TS v3 (xs ++ [x])) (hg : W.grownBy w3 v.ownBlock) (ho : v3.ownBlock = v.ownBlock ∨ v3.ownBlock = some W.heap.size) :
    SelW T TS TW w w1 (w3.setCell ⟨w.heap.size + 1, 0, none⟩ v3) S v3 (xs ++ [x]) := by
  have hno : ∀ k, v.ownBlock = some k → w1.heap.size ≤ k := fun k hk => (h.own.lt k hk).1
  have h1 := h.one
  have hs := h.size
  have hbb := (hg.block (w.heap.size + 1) (by omega) (fun e => by have := hno _ e.symm; omega)).trans h.box
  have keepW : ∀ (y : StX), OwnR EWa W w1.heap.size TW y.sl y.ws → (∀ b, y.sl.ownBlock = some b → v.ownBlock ≠ some b) → OwnR EWa (w3.setCell ⟨w.heap.size + 1, 0, none⟩ v3) w1.heap.size TW y.sl y.ws ∧ ∀ b, y.sl.ownBlock = some b → v3.ownBlock ≠ some b := fun y hy hyv => by
    refine ⟨own_kept hy (fun b hb => ?_), fun b hb => ?_⟩
    · have hlt := hy.lt b hb
      rw [heap_setCell_other _ _ _ _ (fun e => by have he : b = w.heap.size + 1 := e; omega)]
      exact hg.block b hlt.2 (fun e => hyv b hb e.symm)
    · rcases ho with ho | ho
      · rw [ho]; exact hyv b hb
      · rw [ho]; intro e; injection e with e; have := (hy.lt b hb).2; omega
  refine ⟨(h.bel.grown hg h.bel.size (fun k hk => by have := hno k hk; omega)).setCell (p := ⟨w.heap.size + 1, 0, none⟩) (Nat.le_succ _) _, h1, by rw [World.size_setCell]; exact Nat.le_trans hs hg.size, fun k hk hn => ?_, h.res, heap_setCell_same _ _ _ _ _ _ hbb, ?_, fun y hy => ?_⟩
  · rw [heap_setCell_other _ _ _ _ hn]
    exact (hg.block k (by omega) (fun e => by have := hno k e.symm; omega)).trans (h.old k hk hn)
  · exact own_kept hv (fun k hk => heap_setCell_other _ _ _ _ (fun e => by have := (hv.lt k hk).1; have he : k = w.heap.size + 1 := e; omega))
  · rcases List.mem_append.1 hy with hy | hy
    · exact keepW y (h.wants y hy).1 (h.wants y hy).2
    · rw [List.mem_singleton.1 hy]; exact keepW x hx hxv
theorem SelW.f (h : SelW T TS TW w w1 W S v xs) : W.cell? ⟨w.heap.size + 1, 0, none⟩ = some v ∧ W.cell? ⟨w.heap.size + 1, 1, none⟩ = some (.string S) ∧ W.cell? ⟨w.heap.size, 0, none⟩ = some (.slice none 0 0) ∧ W.cell? ⟨w.heap.size, 1, none⟩ = some (.string ⟨#[]⟩) ∧
    (∀ j, W.frozen? ⟨w.heap.size + 1, j, none⟩ = false) ∧ ∀ j, W.frozen? ⟨w.heap.size, j, none⟩ = false := by
  have hr := (h.old w.heap.size (by have := h.one; omega) (by omega)).trans h.res
  exact ⟨Dc.hcell h.box rfl, Dc.hcell h.box rfl, Dc.hcell hr rfl, Dc.hcell hr rfl, fun _ => Dc.hfree h.box, fun _ => Dc.hfree hr⟩
theorem SelW.r (h : SelW T TS TW w w1 W S v xs) : W.heap[w.heap.size]? = some (.cells #[.slice none 0 0, .string ⟨#[]⟩] T (0, 0)) := (h.old w.heap.size (by have := h.one; omega) (by omega)).trans h.res
theorem two_set {W : World} {b : Nat} {T : TypeId} {x y : Value} (h : W.heap[b]? = some (.cells #[x, y] T (0, 0))) (x' y' : Value) :
    ((W.setCell ⟨b, 0, none⟩ x').setCell ⟨b, 1, none⟩ y').cell? ⟨b, 0, none⟩ = some x' ∧ ((W.setCell ⟨b, 0, none⟩ x').setCell ⟨b, 1, none⟩ y').cell? ⟨b, 1, none⟩ = some y' := by
  have h3 := heap_setCell_same _ b 1 _ _ y' (heap_setCell_same W b 0 _ _ x' h)
  exact ⟨Dc.hcell h3 rfl, Dc.hcell h3 rfl⟩
theorem two_set_d {W : World} {b : Nat} {T : TypeId} {x y : Value} (h : W.heap[b]? = some (.cells #[x, y] T (0, 0))) (x' y' : Value) :
    ((W.setCell ⟨b, 0, none⟩ x').setCell ⟨b, 1, none⟩ y').drew.cell? ⟨b, 0, none⟩ = some x' ∧ ((W.setCell ⟨b, 0, none⟩ x').setCell ⟨b, 1, none⟩ y').drew.cell? ⟨b, 1, none⟩ = some y' := two_set h x' y'
theorem two_set_ad {W : World} {b : Nat} {T : TypeId} {x y : Value} (h : W.heap[b]? = some (.cells #[x, y] T (0, 0))) (o : Obj) (x' y' : Value) :
    (((W.setCell ⟨b, 0, none⟩ x').setCell ⟨b, 1, none⟩ y').alloc o).drew.cell? ⟨b, 0, none⟩ = some x' ∧ (((W.setCell ⟨b, 0, none⟩ x').setCell ⟨b, 1, none⟩ y').alloc o).drew.cell? ⟨b, 1, none⟩ = some y' := by
  obtain ⟨h1, h2⟩ := two_set h x' y'
  have hl : b < ((W.setCell ⟨b, 0, none⟩ x').setCell ⟨b, 1, none⟩ y').heap.size := World.block_lt_of_cell? _ _ h1
  exact ⟨(World.cell?_alloc_lt _ _ _ hl).trans h1, (World.cell?_alloc_lt _ _ _ hl).trans h2⟩
theorem two_bel {w W : World} (h : Below w.heap.size w W) (x' y' : Value) : Below w.heap.size w ((W.setCell ⟨w.heap.size, 0, none⟩ x').setCell ⟨w.heap.size, 1, none⟩ y') :=
  (h.setCell (p := ⟨w.heap.size, 0, none⟩) (Nat.le_refl _) _).setCell (p := ⟨w.heap.size, 1, none⟩) (Nat.le_refl _) _
/-- A selector's steps, as they lie. -/
def SelOk (TS TW : TypeId) (base : Nat) (W : World) (v : Value) (l : List St) : Prop := ∃ xs : List StX, OwnR ESt W base TS v xs ∧ (∀ x ∈ xs, OwnR EWa W base TW x.sl x.ws) ∧ xs.map StX.st = l
theorem SelOk.keep {base : Nat} {l : List St} (h : SelOk TS TW base W v l) (hb : Below W.heap.size W W') : SelOk TS TW base W' v l := by
  obtain ⟨xs, h1, h2, h3⟩ := h
  exact ⟨xs, h1.keep hb, fun x hx => (h2 x hx).keep hb, h3⟩
theorem SelW.done (h : SelW T TS TW w w1 W S v xs) {l : List St} (hl : xs.map StX.st = l) (x' y' : Value) : SelOk TS TW w.heap.size ((W.setCell ⟨w.heap.size, 0, none⟩ x').setCell ⟨w.heap.size, 1, none⟩ y') v l := by
  have h1 := h.one
  have hk : ∀ (k : Nat), w1.heap.size ≤ k → ((W.setCell ⟨w.heap.size, 0, none⟩ x').setCell ⟨w.heap.size, 1, none⟩ y').heap[k]? = W.heap[k]? := fun k hk => by
    have hne : ¬ k = w.heap.size := by omega
    rw [heap_setCell_other _ _ _ _ hne, heap_setCell_other _ _ _ _ hne]
  exact ⟨xs, own_kept (h.own.base (by omega)) (fun k hk' => hk k (h.own.lt k hk').1), fun x hx => own_kept ((h.wants x hx).1.base (by omega)) (fun k hk' => hk k ((h.wants x hx).1.lt k hk').1), hl⟩
theorem SelW.start (hb : Below (w.heap.size + 2) ((w.alloc (.cells #[.slice none 0 0, .string ⟨#[]⟩] T)).alloc (.cells #[.slice none 0 0, .string S] T)) w1) : SelW T TS TW w w1 w1 S (.slice none 0 0) [] := by
  have hs := hb.size
  rw [World.size_alloc, World.size_alloc] at hs
  refine ⟨(((Below.refl _ _).alloc (Nat.le_refl _) _).alloc (by simp) _).trans (hb.mono (by omega)), by omega, Nat.le_refl _, fun _ _ _ => rfl, ?_, ?_, OwnR.nil _ _ _ _, fun x hx => by cases hx⟩
  · rw [hb.block _ (by omega), Below.heap_alloc _ _ _ (by simp)]; exact heap_alloc_new _ _
  · rw [hb.block _ (by omega)]
    have h := heap_alloc_new (w.alloc (.cells #[.slice none 0 0, .string ⟨#[]⟩] T)) (.cells #[.slice none 0 0, .string S] T)
    rw [World.size_alloc] at h; exact h
/-- What Read answers. -/
def ReadIs (TS TW TE : TypeId) (ea : Nat → Addr) (s : By) (o : Option (List St)) (w : World) (en : Ending) (w' : World) : Prop := Below w.heap.size w w' ∧ match o with
  | some l => ∃ v, en = .returned (.tuple #[.agg #[v, .string (bs s)], .nilIface]) ∧ SelOk TS TW w.heap.size w' v l
  | none => en = .returned (.tuple #[.agg #[.slice none 0 0, .string ⟨#[]⟩], .iface TE (.pointer (some (ea 1)))])
end Lead.Pk
namespace Go.Proofs.YteaipondofbecaaGreatDoor
open Go.RowKit Lead Lead.Dc Lead.Pk
theorem infoSt : (Tryz.prog.info? 252).map (fun i => (i.zero, i.size, i.bytes)) = some (some (.agg #[.string ⟨#[]⟩, .slice none 0 0, .bool false]), 3, 48) := by kernel_rfl
theorem res_read (tmps : Array Value) (w0 : World) (g : Nat) (x y e : Value) (h2 : tmps[2]?.getD undef = .pointer (some ⟨g, 0, none⟩)) (h3 : tmps[3]?.getD undef = e)
    (hc : w0.cell? ⟨g, 0, none⟩ = some x ∧ w0.cell? ⟨g, 1, none⟩ = some y) :
    (results Tryz.f124 tmps).run Tryz.prog w0 = .ok (.tuple #[.agg #[x, y], e]) w0 := by
  obtain ⟨hc, he⟩ := hc
  simp [results, Tryz.results124, go_sem, h2, h3, hc, he]
theorem split_any (s : By) (m : Int) (w : World) (hl : s.length ≤ 100000) (hm : w.cell? ⟨12, 0, none⟩ = some (.int .i64 m)) :
    Calls Tryz.prog 79 #[.string (bs s), .string ⟨#[32]⟩] w fun e w' =>
      ∃ g, e = .returned (.slice (some ⟨g, 0, none⟩) (cutL 32 s).length (cutL 32 s).length) ∧ g < w'.heap.size ∧ w.heap.size ≤ g ∧ (∀ i (h : i < (cutL 32 s).length), w'.cell? ⟨g, i, none⟩ = some (.string (bs (cutL 32 s)[i]))) ∧ Below w.heap.size w w' := by
  refine (Tryz.strings_Split (bs s) ⟨#[32]⟩ m w (by rw [bs_size]; omega) hm (by decide)).mono ?_
  rintro e w' ⟨rfl, rfl⟩
  have hlen := cutL_len 32 (bs s)
  rw [bs_list] at hlen
  refine ⟨w.heap.size, by rw [hlen], by simp, Nat.le_refl _, fun i hi => ?_, (Below.refl _ _).alloc (Nat.le_refl _) _⟩
  have hc := splitB_cells 32 (bs s)
  rw [bs_list] at hc
  rw [hc, World.cell?_alloc_new]
  simp [hi, bs]
set_option maxHeartbeats 8000000 in
set_option maxRecDepth 100000 in
theorem pread_any (ea : Nat → Addr) (m : Int) (s : By) (w : World) (hl : s.length ≤ 100000) (hE : w.cell? ⟨8, 0, none⟩ = some (.iface 330 (.pointer (some (ea 1))))) (hm : w.cell? ⟨12, 0, none⟩ = some (.int .i64 m)) :
    Calls Tryz.prog 124 #[.string (bs s)] w (ReadIs 252 259 330 ea s (readP s) w) := by
  have zE := zlt hE
  have cS := fun (W : World) (hb : Below w.heap.size w W) => split_any s m W hl (gkeep hb hm rfl)
  obtain ⟨S, hS⟩ : ∃ u, bs s = u := ⟨_, rfl⟩
  rw [hS] at cS
  rw [hS]
  have H_cS := Lib.hid cS
  clear cS
  have H_hS := Lib.hid hS
  clear hS
  have H_hm := Lib.hid hm
  clear hm
  go_enter Tryz.func124, Tryz.ntmps124
  go_wp2_with fail
  refine (H_cS.out _ (by repeat' (first | (with_reducible first | exact bwR _ _ | assumption | refine bdn ?_ | refine bwA ?_ ?_ _ | refine bwD ?_ | refine bwS ?_ ?_ _) | omega | (simp <;> omega)))).mono ?_
  rintro _ w1 ⟨g, rfl, hg1, hg2, hwords, hb1⟩
  have hb2 : Below (w.heap.size + 2) _ w1 := hb1.mono (by simp)
  have hW1 := SelW.start (TS := 252) (TW := 259) hb2
  have hg3 : w.heap.size + 2 ≤ g := by simpa using hg2
  have hB1 : Below w.heap.size w w1 := hW1.bel
  clear hg2 hb1 hb2
  have hsm : ∀ x ∈ cutL 32 s, x.length ≤ 100000 := fun x hx => Nat.le_trans (cutL_small hx) hl
  have hcount := cutL_count 32 s
  obtain ⟨n, hn⟩ : ∃ u, (cutL 32 s).length = u := ⟨_, rfl⟩
  rw [hn] at hcount ⊢
  obtain ⟨i0, hi0, hz0, hz1, hz2⟩ := info_parts infoSt
  have H_hW1 := Lib.hid hW1
  clear hW1
  have H_hwords := Lib.hid hwords
  clear hwords
  have H_hn := Lib.hid hn
  clear hn
  have H_hsm := Lib.hid hsm
  clear hsm
  have H_hi0 := Lib.hid hi0
  clear hi0
  have H_hz0 := Lib.hid hz0
  clear hz0
  have H_hz1 := Lib.hid hz1
  clear hz1
  have H_hz2 := Lib.hid hz2
  clear hz2
  go_wp2_with fail
  go_loopw [5, 15] (fun t5 t15 wr => ∃ (i : Nat) (right : Bool) (v : Value) (xs : List StX), i ≤ n ∧ t5 = .bool right ∧ t15 = .int .i64 i ∧ RowKit.Hid (rdT (cutL 32 s) i = some (right, xs.map StX.st)) ∧ RowKit.Hid (SelW 138 252 259 w w1 wr S v xs)) (fun _ t15 _ => n - (intOf t15).toNat)
  case atStart => exact ⟨0, false, _, [], Nat.zero_le _, rfl, rfl, Lib.hid rfl, H_hW1⟩
  case round =>
    obtain ⟨i, right, v, xs, hi, rfl, rfl, H_rd, H_W⟩ := hrel
    obtain ⟨d0, d1, a0, a1, bf, af⟩ := H_W.out.f
    obtain ⟨ov, cv, rfl⟩ := ow_form H_W.out.own
    have gE : wr.cell? ⟨8, 0, none⟩ = some (.iface 330 (.pointer (some (ea 1)))) := gkeep H_W.out.bel hE rfl
    by_cases hlt : i < n
    · have hlt' : i < (cutL 32 s).length := by rw [H_hn.out]; exact hlt
      have hwl := H_hsm.out _ (List.getElem_mem hlt')
      have hwc : wr.cell? ⟨g, i, none⟩ = some (.string (bs (cutL 32 s)[i])) := by
        have h := World.cell?_of_block (w := w1) (w' := wr) (a := ⟨g, i, none⟩) (H_W.out.old g hg1 (by omega))
        rw [h]; exact H_hwords.out i hlt'
      obtain ⟨wd, hwd⟩ : ∃ u, (cutL 32 s)[i] = u := ⟨_, rfl⟩
      rw [hwd] at hwc hwl
      have cC := fun W => stepof_any wd W hwl
      have hq : ((bs wd).toList == [62]) = decide (wd = [62]) := by
        rw [ByteArray.toList_eq, bs_list, Bool.eq_iff_iff]; simp
      have gi : IntKind.i64.wrap ((i : Int) + 1) = ((i + 1 : Nat) : Int) := IntWalk.i64_in _ (by omega)
      by_cases hgt : wd = [62] ∧ 0 < i ∧ right = false
      · obtain ⟨h1, h2, h3⟩ := hgt
        have hrn : rdT (cutL 32 s) (i + 1) = some (true, xs.map StX.st) := by rw [rdT_next H_rd.out hlt', hwd]; exact rdStep_gt ⟨h1, h2, h3⟩
        rw [decide_eq_true h1] at hq
        have g2 : (0 : Int) < (i : Int) := by omega
        subst h3
        have H_hrn := Lib.hid hrn
        clear hrn
        have H_h1 := Lib.hid h1
        clear h1
        have H_h2 := Lib.hid h2
        clear h2
        have H_hwd := Lib.hid hwd
        clear hwd
        go_wp2_with fail
        go_roundw
        case rel => exact ⟨i + 1, true, .slice ov xs.length cv, xs, by omega, rfl, by go_num, H_hrn, H_W⟩
        case measure => simp [intOf]; omega
      · by_cases h62 : wd = [62]
        · rw [decide_eq_true h62] at hq
          by_cases hi0 : 0 < i
          · have g2 : (0 : Int) < (i : Int) := by omega
            have hr : right = true := by
              cases right with
              | true => rfl
              | false => exact absurd ⟨h62, hi0, rfl⟩ hgt
            subst hr
            have H_h62 := Lib.hid h62
            clear h62
            cases hsp : stepP wd with
            | none =>
              rw [hsp] at cC
              have hre := readP_stop (i := i + 1) (by rw [rdT_next H_rd.out hlt', hwd]; exact rdStep_no hgt hsp) hlt'
              have H_cC := Lib.hid cC
              clear cC
              have H_hre := Lib.hid hre
              clear hre
              have H_hsp := Lib.hid hsp
              clear hsp
              have H_hgt := Lib.hid hgt
              clear hgt
              have H_hwd := Lib.hid hwd
              clear hwd
              go_wp2_with fail
              refine (H_cC.out _).mono ?_
              rintro en w5 ⟨hb5, rfl⟩
              have hW5 := H_W.out.step hb5
              have gE5 : w5.cell? ⟨8, 0, none⟩ = some (.iface 330 (.pointer (some (ea 1)))) := gkeep hW5.bel hE rfl
              have zE5 := zlt gE5
              clear hb5 d0 d1 a0 a1 bf af gE
              obtain ⟨d0, d1, a0, a1, bf, af⟩ := hW5.f
              have hl0 : w.heap.size < w5.heap.size := by have := hW5.one; have := hW5.size; omega
              have H_hW5 := Lib.hid hW5
              clear hW5
              go_wp2_with fail
              go_region
              all_goals
                go_wp2_with fail
                with_reducible refine bodyPost_ret (res_read _ _ w.heap.size _ _ (.iface 330 (.pointer (some (ea 1)))) ?h2 ?h3 (two_set_ad H_hW5.out.r _ _ _)) rfl ?_
                case h2 => simp
                case h3 => simp
                refine ⟨((two_bel H_hW5.out.bel _ _).alloc (by simp; omega) _).drew, ?_⟩
                rw [H_hre.out]
            | some z =>
              obtain ⟨nm, wn⟩ := z
              rw [hsp] at cC
              have hrn : rdT (cutL 32 s) (i + 1) = some (false, xs.map StX.st ++ [⟨nm, wn, true⟩]) := by rw [rdT_next H_rd.out hlt', hwd]; exact rdStep_yes hgt hsp
              have H_cC := Lib.hid cC
              clear cC
              have H_hsp := Lib.hid hsp
              clear hsp
              have H_hgt := Lib.hid hgt
              clear hgt
              have H_hwd := Lib.hid hwd
              clear hwd
              have H_hrn := Lib.hid hrn
              clear hrn
              go_wp2_with fail
              refine (H_cC.out _).mono ?_
              rintro en w5 ⟨hb5, v8, rfl, hv8⟩
              obtain ⟨o8, c8, rfl⟩ := ow_form hv8
              have hW5 := H_W.out.step hb5
              have hsz := hW5.size
              have hone := hW5.one
              have hl0 : w.heap.size < w5.heap.size := by omega
              have hl1 : w.heap.size + 1 < w5.heap.size := by omega
              have hwr := H_W.out.size
              clear hb5 d0 d1 a0 a1 bf af gE
              obtain ⟨d0, d1, a0, a1, bf, af⟩ := hW5.f
              have hxl := rdT_len i H_rd.out
              rw [List.length_map] at hxl
              have hW6 := hW5.step (((Below.refl w5.heap.size w5).alloc (Nat.le_refl _) (.cells #[.string (bs nm), .slice o8 wn.length c8, .bool true] 252)).alloc (by simp) (.cells #[.string (bs nm), .slice o8 wn.length c8, .bool true] 252))
              have hx6 := (hv8.keep (((Below.refl w5.heap.size w5).alloc (Nat.le_refl _) (.cells #[.string (bs nm), .slice o8 wn.length c8, .bool true] 252)).alloc (by simp) (.cells #[.string (bs nm), .slice o8 wn.length c8, .bool true] 252))).base hwr
              have hxv : ∀ b, (Value.slice o8 wn.length c8).ownBlock = some b → (Value.slice ov xs.length cv).ownBlock ≠ some b := fun b hb e => by
                have h1 := (hv8.lt b hb).1
                have h2 := (H_W.out.own.lt b e).2
                omega
              have H_hW5 := Lib.hid hW5
              clear hW5
              have H_hv8 := Lib.hid hv8
              clear hv8
              have H_hW6 := Lib.hid hW6
              clear hW6
              have H_hx6 := Lib.hid hx6
              clear hx6
              have H_hxv := Lib.hid hxv
              clear hxv
              have H_hxl := Lib.hid hxl
              clear hxl
              go_wp2_with (at_builtin; refine wp_append_told rfl (.tmp 42) (.tmp 44) 136 rfl ESt w1.heap.size 252 i0 _ 48 Tryz.underlying136 H_hi0.out H_hz0.out H_hz1.out H_hz2.out rfl (by decide) _ xs rfl _ _ 1 1 [⟨nm, o8, wn.length, c8, wn, true⟩] rfl rfl ?a1 ?a2 ?a3 ?a4 ?_)
              case a1 => have := H_hxl.out; show xs.length + 1 ≤ 1000000; omega
              case a2 => exact H_hW6.out.own
              case a3 => exact row_one (vs := #[.string (bs nm), .slice o8 wn.length c8, .bool true]) rfl (fun j => by have h := World.cell?_alloc_new (w5.alloc (.cells #[.string (bs nm), .slice o8 wn.length c8, .bool true] 252)) #[.string (bs nm), .slice o8 wn.length c8, .bool true] 252 j; rw [World.size_alloc] at h; exact h)
              case a4 => exact H_hW6.out.size
              intro v3 w6 hv3 hA3 hg3 ho3
              obtain ⟨o3, c3, rfl⟩ := ow_form hv3
              have hW7 := H_hW6.out.app (x := ⟨nm, o8, wn.length, c8, wn, true⟩) H_hx6.out H_hxv.out hv3 hg3 (by rw [World.size_alloc, World.size_alloc]; exact ho3)
              have hbb := (hg3.block (w.heap.size + 1) (Nat.lt_of_lt_of_le hone H_hW6.out.size) (fun e => by have := (H_hW6.out.own.lt _ e.symm).1; omega)).trans H_hW6.out.box
              have c1 : w6.cell? ⟨w.heap.size + 1, 0, none⟩ = some (.slice ov xs.length cv) := Dc.hcell hbb rfl
              have c2 : ∀ j, w6.frozen? ⟨w.heap.size + 1, j, none⟩ = false := fun j => Dc.hfree hbb
              clear hv3 hA3 hg3 ho3 hbb
              have H_hW7 := Lib.hid hW7
              clear hW7
              go_wp2_with fail
              go_roundw
              case rel => exact ⟨i + 1, false, .slice o3 (xs.length + 1) c3, xs ++ [⟨nm, o8, wn.length, c8, wn, true⟩], by omega, rfl, by go_num, Lib.hid (by rw [List.map_append]; exact H_hrn.out), Lib.hid (by have h := H_hW7.out; rw [List.length_append] at h; exact h)⟩
              case measure => simp [intOf]; omega
          · have g2 : ¬ (0 : Int) < (i : Int) := by omega
            have H_h62 := Lib.hid h62
            clear h62
            cases hsp : stepP wd with
            | none =>
              rw [hsp] at cC
              have hre := readP_stop (i := i + 1) (by rw [rdT_next H_rd.out hlt', hwd]; exact rdStep_no hgt hsp) hlt'
              have H_cC := Lib.hid cC
              clear cC
              have H_hre := Lib.hid hre
              clear hre
              have H_hsp := Lib.hid hsp
              clear hsp
              have H_hgt := Lib.hid hgt
              clear hgt
              have H_hwd := Lib.hid hwd
              clear hwd
              go_wp2_with fail
              refine (H_cC.out _).mono ?_
              rintro en w5 ⟨hb5, rfl⟩
              have hW5 := H_W.out.step hb5
              have gE5 : w5.cell? ⟨8, 0, none⟩ = some (.iface 330 (.pointer (some (ea 1)))) := gkeep hW5.bel hE rfl
              have zE5 := zlt gE5
              clear hb5 d0 d1 a0 a1 bf af gE
              obtain ⟨d0, d1, a0, a1, bf, af⟩ := hW5.f
              have hl0 : w.heap.size < w5.heap.size := by have := hW5.one; have := hW5.size; omega
              have H_hW5 := Lib.hid hW5
              clear hW5
              go_wp2_with fail
              go_region
              all_goals
                go_wp2_with fail
                with_reducible refine bodyPost_ret (res_read _ _ w.heap.size _ _ (.iface 330 (.pointer (some (ea 1)))) ?h2 ?h3 (two_set_ad H_hW5.out.r _ _ _)) rfl ?_
                case h2 => simp
                case h3 => simp
                refine ⟨((two_bel H_hW5.out.bel _ _).alloc (by simp; omega) _).drew, ?_⟩
                rw [H_hre.out]
            | some z =>
              obtain ⟨nm, wn⟩ := z
              rw [hsp] at cC
              have hrn : rdT (cutL 32 s) (i + 1) = some (false, xs.map StX.st ++ [⟨nm, wn, right⟩]) := by rw [rdT_next H_rd.out hlt', hwd]; exact rdStep_yes hgt hsp
              have H_cC := Lib.hid cC
              clear cC
              have H_hsp := Lib.hid hsp
              clear hsp
              have H_hgt := Lib.hid hgt
              clear hgt
              have H_hwd := Lib.hid hwd
              clear hwd
              have H_hrn := Lib.hid hrn
              clear hrn
              go_wp2_with fail
              refine (H_cC.out _).mono ?_
              rintro en w5 ⟨hb5, v8, rfl, hv8⟩
              obtain ⟨o8, c8, rfl⟩ := ow_form hv8
              have hW5 := H_W.out.step hb5
              have hsz := hW5.size
              have hone := hW5.one
              have hl0 : w.heap.size < w5.heap.size := by omega
              have hl1 : w.heap.size + 1 < w5.heap.size := by omega
              have hwr := H_W.out.size
              clear hb5 d0 d1 a0 a1 bf af gE
              obtain ⟨d0, d1, a0, a1, bf, af⟩ := hW5.f
              have hxl := rdT_len i H_rd.out
              rw [List.length_map] at hxl
              have hW6 := hW5.step (((Below.refl w5.heap.size w5).alloc (Nat.le_refl _) (.cells #[.string (bs nm), .slice o8 wn.length c8, .bool right] 252)).alloc (by simp) (.cells #[.string (bs nm), .slice o8 wn.length c8, .bool right] 252))
              have hx6 := (hv8.keep (((Below.refl w5.heap.size w5).alloc (Nat.le_refl _) (.cells #[.string (bs nm), .slice o8 wn.length c8, .bool right] 252)).alloc (by simp) (.cells #[.string (bs nm), .slice o8 wn.length c8, .bool right] 252))).base hwr
              have hxv : ∀ b, (Value.slice o8 wn.length c8).ownBlock = some b → (Value.slice ov xs.length cv).ownBlock ≠ some b := fun b hb e => by
                have h1 := (hv8.lt b hb).1
                have h2 := (H_W.out.own.lt b e).2
                omega
              have H_hW5 := Lib.hid hW5
              clear hW5
              have H_hv8 := Lib.hid hv8
              clear hv8
              have H_hW6 := Lib.hid hW6
              clear hW6
              have H_hx6 := Lib.hid hx6
              clear hx6
              have H_hxv := Lib.hid hxv
              clear hxv
              have H_hxl := Lib.hid hxl
              clear hxl
              go_wp2_with (at_builtin; refine wp_append_told rfl (.tmp 42) (.tmp 44) 136 rfl ESt w1.heap.size 252 i0 _ 48 Tryz.underlying136 H_hi0.out H_hz0.out H_hz1.out H_hz2.out rfl (by decide) _ xs rfl _ _ 1 1 [⟨nm, o8, wn.length, c8, wn, right⟩] rfl rfl ?a1 ?a2 ?a3 ?a4 ?_)
              case a1 => have := H_hxl.out; show xs.length + 1 ≤ 1000000; omega
              case a2 => exact H_hW6.out.own
              case a3 => exact row_one (vs := #[.string (bs nm), .slice o8 wn.length c8, .bool right]) rfl (fun j => by have h := World.cell?_alloc_new (w5.alloc (.cells #[.string (bs nm), .slice o8 wn.length c8, .bool right] 252)) #[.string (bs nm), .slice o8 wn.length c8, .bool right] 252 j; rw [World.size_alloc] at h; exact h)
              case a4 => exact H_hW6.out.size
              intro v3 w6 hv3 hA3 hg3 ho3
              obtain ⟨o3, c3, rfl⟩ := ow_form hv3
              have hW7 := H_hW6.out.app (x := ⟨nm, o8, wn.length, c8, wn, right⟩) H_hx6.out H_hxv.out hv3 hg3 (by rw [World.size_alloc, World.size_alloc]; exact ho3)
              have hbb := (hg3.block (w.heap.size + 1) (Nat.lt_of_lt_of_le hone H_hW6.out.size) (fun e => by have := (H_hW6.out.own.lt _ e.symm).1; omega)).trans H_hW6.out.box
              have c1 : w6.cell? ⟨w.heap.size + 1, 0, none⟩ = some (.slice ov xs.length cv) := Dc.hcell hbb rfl
              have c2 : ∀ j, w6.frozen? ⟨w.heap.size + 1, j, none⟩ = false := fun j => Dc.hfree hbb
              clear hv3 hA3 hg3 ho3 hbb
              have H_hW7 := Lib.hid hW7
              clear hW7
              go_wp2_with fail
              go_roundw
              case rel => exact ⟨i + 1, false, .slice o3 (xs.length + 1) c3, xs ++ [⟨nm, o8, wn.length, c8, wn, right⟩], by omega, rfl, by go_num, Lib.hid (by rw [List.map_append]; exact H_hrn.out), Lib.hid (by have h := H_hW7.out; rw [List.length_append] at h; exact h)⟩
              case measure => simp [intOf]; omega
        · rw [decide_eq_false h62] at hq
          have H_h62 := Lib.hid h62
          clear h62
          cases hsp : stepP wd with
          | none =>
            rw [hsp] at cC
            have hre := readP_stop (i := i + 1) (by rw [rdT_next H_rd.out hlt', hwd]; exact rdStep_no hgt hsp) hlt'
            have H_cC := Lib.hid cC
            clear cC
            have H_hre := Lib.hid hre
            clear hre
            have H_hsp := Lib.hid hsp
            clear hsp
            have H_hgt := Lib.hid hgt
            clear hgt
            have H_hwd := Lib.hid hwd
            clear hwd
            go_wp2_with fail
            refine (H_cC.out _).mono ?_
            rintro en w5 ⟨hb5, rfl⟩
            have hW5 := H_W.out.step hb5
            have gE5 : w5.cell? ⟨8, 0, none⟩ = some (.iface 330 (.pointer (some (ea 1)))) := gkeep hW5.bel hE rfl
            have zE5 := zlt gE5
            clear hb5 d0 d1 a0 a1 bf af gE
            obtain ⟨d0, d1, a0, a1, bf, af⟩ := hW5.f
            have hl0 : w.heap.size < w5.heap.size := by have := hW5.one; have := hW5.size; omega
            have H_hW5 := Lib.hid hW5
            clear hW5
            go_wp2_with fail
            go_region
            all_goals
              go_wp2_with fail
              with_reducible refine bodyPost_ret (res_read _ _ w.heap.size _ _ (.iface 330 (.pointer (some (ea 1)))) ?h2 ?h3 (two_set_ad H_hW5.out.r _ _ _)) rfl ?_
              case h2 => simp
              case h3 => simp
              refine ⟨((two_bel H_hW5.out.bel _ _).alloc (by simp; omega) _).drew, ?_⟩
              rw [H_hre.out]
          | some z =>
            obtain ⟨nm, wn⟩ := z
            rw [hsp] at cC
            have hrn : rdT (cutL 32 s) (i + 1) = some (false, xs.map StX.st ++ [⟨nm, wn, right⟩]) := by rw [rdT_next H_rd.out hlt', hwd]; exact rdStep_yes hgt hsp
            have H_cC := Lib.hid cC
            clear cC
            have H_hsp := Lib.hid hsp
            clear hsp
            have H_hgt := Lib.hid hgt
            clear hgt
            have H_hwd := Lib.hid hwd
            clear hwd
            have H_hrn := Lib.hid hrn
            clear hrn
            go_wp2_with fail
            refine (H_cC.out _).mono ?_
            rintro en w5 ⟨hb5, v8, rfl, hv8⟩
            obtain ⟨o8, c8, rfl⟩ := ow_form hv8
            have hW5 := H_W.out.step hb5
            have hsz := hW5.size
            have hone := hW5.one
            have hl0 : w.heap.size < w5.heap.size := by omega
            have hl1 : w.heap.size + 1 < w5.heap.size := by omega
            have hwr := H_W.out.size
            clear hb5 d0 d1 a0 a1 bf af gE
            obtain ⟨d0, d1, a0, a1, bf, af⟩ := hW5.f
            have hxl := rdT_len i H_rd.out
            rw [List.length_map] at hxl
            have hW6 := hW5.step (((Below.refl w5.heap.size w5).alloc (Nat.le_refl _) (.cells #[.string (bs nm), .slice o8 wn.length c8, .bool right] 252)).alloc (by simp) (.cells #[.string (bs nm), .slice o8 wn.length c8, .bool right] 252))
            have hx6 := (hv8.keep (((Below.refl w5.heap.size w5).alloc (Nat.le_refl _) (.cells #[.string (bs nm), .slice o8 wn.length c8, .bool right] 252)).alloc (by simp) (.cells #[.string (bs nm), .slice o8 wn.length c8, .bool right] 252))).base hwr
            have hxv : ∀ b, (Value.slice o8 wn.length c8).ownBlock = some b → (Value.slice ov xs.length cv).ownBlock ≠ some b := fun b hb e => by
              have h1 := (hv8.lt b hb).1
              have h2 := (H_W.out.own.lt b e).2
              omega
            have H_hW5 := Lib.hid hW5
            clear hW5
            have H_hv8 := Lib.hid hv8
            clear hv8
            have H_hW6 := Lib.hid hW6
            clear hW6
            have H_hx6 := Lib.hid hx6
            clear hx6
            have H_hxv := Lib.hid hxv
            clear hxv
            have H_hxl := Lib.hid hxl
            clear hxl
            go_wp2_with (at_builtin; refine wp_append_told rfl (.tmp 42) (.tmp 44) 136 rfl ESt w1.heap.size 252 i0 _ 48 Tryz.underlying136 H_hi0.out H_hz0.out H_hz1.out H_hz2.out rfl (by decide) _ xs rfl _ _ 1 1 [⟨nm, o8, wn.length, c8, wn, right⟩] rfl rfl ?a1 ?a2 ?a3 ?a4 ?_)
            case a1 => have := H_hxl.out; show xs.length + 1 ≤ 1000000; omega
            case a2 => exact H_hW6.out.own
            case a3 => exact row_one (vs := #[.string (bs nm), .slice o8 wn.length c8, .bool right]) rfl (fun j => by have h := World.cell?_alloc_new (w5.alloc (.cells #[.string (bs nm), .slice o8 wn.length c8, .bool right] 252)) #[.string (bs nm), .slice o8 wn.length c8, .bool right] 252 j; rw [World.size_alloc] at h; exact h)
            case a4 => exact H_hW6.out.size
            intro v3 w6 hv3 hA3 hg3 ho3
            obtain ⟨o3, c3, rfl⟩ := ow_form hv3
            have hW7 := H_hW6.out.app (x := ⟨nm, o8, wn.length, c8, wn, right⟩) H_hx6.out H_hxv.out hv3 hg3 (by rw [World.size_alloc, World.size_alloc]; exact ho3)
            have hbb := (hg3.block (w.heap.size + 1) (Nat.lt_of_lt_of_le hone H_hW6.out.size) (fun e => by have := (H_hW6.out.own.lt _ e.symm).1; omega)).trans H_hW6.out.box
            have c1 : w6.cell? ⟨w.heap.size + 1, 0, none⟩ = some (.slice ov xs.length cv) := Dc.hcell hbb rfl
            have c2 : ∀ j, w6.frozen? ⟨w.heap.size + 1, j, none⟩ = false := fun j => Dc.hfree hbb
            clear hv3 hA3 hg3 ho3 hbb
            have H_hW7 := Lib.hid hW7
            clear hW7
            go_wp2_with fail
            go_roundw
            case rel => exact ⟨i + 1, false, .slice o3 (xs.length + 1) c3, xs ++ [⟨nm, o8, wn.length, c8, wn, right⟩], by omega, rfl, by go_num, Lib.hid (by rw [List.map_append]; exact H_hrn.out), Lib.hid (by have h := H_hW7.out; rw [List.length_append] at h; exact h)⟩
            case measure => simp [intOf]; omega
    · obtain rfl : n = i := by omega
      have hre := readP_end (by rw [H_hn.out]; exact H_rd.out)
      cases right with
      | true =>
        rw [if_pos (.inl rfl)] at hre
        have H_hre := Lib.hid hre
        clear hre
        go_wp2_with fail
        go_region
        all_goals
          go_wp2_with fail
          with_reducible refine bodyPost_ret (res_read _ _ w.heap.size _ _ (.iface 330 (.pointer (some (ea 1)))) ?h2 ?h3 (two_set_d H_W.out.r _ _)) rfl ?_
          case h2 => simp
          case h3 => simp
          refine ⟨(two_bel H_W.out.bel _ _).drew, ?_⟩
          rw [H_hre.out]
      | false =>
        by_cases h5 : 5 < xs.length
        · have g5 : (5 : Int) < (xs.length : Int) := by omega
          rw [if_pos (.inr (by simpa using h5))] at hre
          have H_hre := Lib.hid hre
          clear hre
          go_wp2_with fail
          go_region
          all_goals
            go_wp2_with fail
            with_reducible refine bodyPost_ret (res_read _ _ w.heap.size _ _ (.iface 330 (.pointer (some (ea 1)))) ?h2 ?h3 (two_set_d H_W.out.r _ _)) rfl ?_
            case h2 => simp
            case h3 => simp
            refine ⟨(two_bel H_W.out.bel _ _).drew, ?_⟩
            rw [H_hre.out]
        · have g5 : ¬ (5 : Int) < (xs.length : Int) := by omega
          rw [if_neg (by simpa using h5)] at hre
          have H_hre := Lib.hid hre
          clear hre
          go_wp2_with fail
          with_reducible refine bodyPost_ret (res_read _ _ w.heap.size _ _ .nilIface ?h2 ?h3 (two_set H_W.out.r _ _)) rfl ?_
          case h2 => simp
          case h3 => simp
          refine ⟨two_bel H_W.out.bel _ _, ?_⟩
          rw [H_hre.out]
          exact ⟨_, by rw [H_hS.out], H_W.out.done rfl _ _⟩
end Go.Proofs.YteaipondofbecaaGreatDoor
