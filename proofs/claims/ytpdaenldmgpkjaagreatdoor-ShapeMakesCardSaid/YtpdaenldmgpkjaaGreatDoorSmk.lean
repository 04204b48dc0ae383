/-
  The walk over the statement ShapeMakes.
-/
import Derived.Test.YtpdaenldmgpkjaaGreatDoorSmw
import Derived.Test.YtpdaenldmgpkjaaGreatDoorSmB
import Derived.Test.YtpdaenldmgpkjaaGreatDoorShr
import Derived.Test.YtpdaenldmgpkjaaGreatDoorSmv
import Derived.Test.YtpdaenldmgpkjaaGreatDoorSix
import Derived.Test.YtpdaenldmgpkjaaGreatDoorSame
import Derived.Test.YtpdaenldmgpkjaaGreatDoorShape10
import Derived.Test.YtpdaenldmgpkjaaGreatDoorFaul
import Derived.Test.YtpdaenldmgpkjaaGreatDoorSmA
namespace Lead
open Go Go.RowKit
theorem readL_I {l : List UInt8} : ∀ p ∈ readL l, p.I := by
  intro p hp
  unfold readL at hp
  split at hp
  · cases hp
  · next h0 =>
    split at hp
    · next hc =>
      obtain ⟨x, hx, rfl⟩ := List.mem_map.1 hp
      refine ptV_I ?_
      cases hb : ptB x with
      | true => rfl
      | false => have h := (readC_bad h0 hx hb).1; rw [hc] at h; exact absurd (congrArg Prod.fst h) (by decide)
    · cases hp
theorem readC_le (l : List UInt8) : (readC l).1 ≤ 11 := by
  unfold readC
  split
  · decide
  · split
    · decide
    · exact shC_le _
theorem boxL_I {x y u h : Fr} (hx : x.I) (hy : y.I) : ∀ p ∈ boxL x y u h, p.I := by
  intro p hp
  unfold boxL at hp
  split at hp
  · next hc =>
    rcases boxC_cases x y u h with ⟨g1, g2⟩ | ⟨_, g1, g2⟩ | ⟨_, _, g1, g2⟩ | ⟨_, _, _, g1, g2⟩ | ⟨_, _, _, _, g1, g2⟩ | ⟨_, _, _, _, _, g1, g2⟩ | ⟨_, _, _, _, g1, g2, g3⟩
    · rw [hc] at g2; exact absurd (congrArg Prod.snd g2) (by simp)
    · rw [hc] at g2; exact absurd (congrArg Prod.snd g2) (by simp)
    · rw [hc] at g2; exact absurd (congrArg Prod.snd g2) (by simp)
    · rw [hc] at g2; exact absurd (congrArg Prod.snd g2) (by simp)
    · rw [hc] at g2; exact absurd (congrArg Prod.fst g2) (by simp)
    · rw [hc] at g2; exact absurd (congrArg Prod.fst g2) (by simp)
    · exact boxP_I hx hy g1 g2 p hp
  · cases hp
theorem boxC_le (x y u h : Fr) : (boxC x y u h).1 ≤ 11 := by
  have k := fun a : Fr => (show a.c ≤ 3 from chk_le3 a.n a.d)
  rcases boxC_cases x y u h with ⟨_, g2⟩ | ⟨_, _, g2⟩ | ⟨_, _, _, g2⟩ | ⟨_, _, _, _, g2⟩ | ⟨_, _, _, _, _, g2⟩ | ⟨_, _, _, _, _, _, g2⟩ | ⟨_, _, _, _, _, _, g2⟩
  · rw [g2]; show x.c ≤ 11; exact Nat.le_trans (k x) (by decide)
  · rw [g2]; show y.c ≤ 11; exact Nat.le_trans (k y) (by decide)
  · rw [g2]; show u.c ≤ 11; exact Nat.le_trans (k u) (by decide)
  · rw [g2]; show h.c ≤ 11; exact Nat.le_trans (k h) (by decide)
  · rw [g2]; decide
  · rw [g2]; decide
  · rw [g2]; exact shC_le _
theorem mvPt_I (m : Mv) (p : Pt) : (mvPt m p).I := by
  have tX : (toX 0 m p).I := dotV_I _ _ _ _ _ _
  have tY : (toY 0 m p).I := dotV_I _ _ _ _ _ _
  unfold mvPt
  generalize toX 0 m p = X at tX ⊢
  generalize toY 0 m p = Y at tY ⊢
  exact ⟨tX.n, tX.d, tY.n, tY.d⟩
theorem movL_I (m : Mv) (ps : List Pt) : ∀ p ∈ movL m ps, p.I := by
  intro p hp
  unfold movL at hp
  split at hp
  · obtain ⟨q, _, rfl⟩ := List.mem_map.1 hp
    exact mvPt_I m q
  · cases hp
theorem movF_le (m : Mv) : ∀ (ps : List Pt) (k : Nat), (movF m ps k).1 ≤ 11 := by
  intro ps
  induction ps with
  | nil => intro k; exact Nat.zero_le _
  | cons p r ih =>
    intro k
    unfold movF
    split
    · exact ih _
    · show 2 ≤ 11; decide
theorem movC_le (m : Mv) (ps : List Pt) : (movC m ps).1 ≤ 11 := by
  unfold movC
  split
  · split
    · exact movF_le _ _ _
    · exact shC_le _
  · exact firstF_le
theorem atZ_atI (o : Option Nat) : atZ o = atI o := by cases o <;> rfl
theorem movL_no {m : Mv} {ps : List Pt} (h : (movC m ps).1 ≠ 0) : movL m ps = [] := if_neg fun e => h (by rw [e])
end Lead
namespace Go.Proofs.YtpdaenldmgpkjaaGreatDoor
open Go.RowKit Lead
theorem sread_any (ea : Nat → Addr) (s : ByteArray) (w : World) (hs : s.size ≤ 10000) (hL : Libs w) (hText : w.cell? ⟨1, 0, none⟩ = some (.iface 308 (.pointer (some (ea 1))))) (hShape : w.cell? ⟨2, 0, none⟩ = some (.iface 308 (.pointer (some (ea 3))))) (hBound : w.cell? ⟨0, 0, none⟩ = some (.iface 308 (.pointer (some (ea 2))))) :
    Calls Tryz.prog 19 #[.string s] w (RetPE 308 119 ea 102 (readC s.data.toList) (readL s.data.toList) w) := by
  rcases tst2 s [] with ⟨k, h⟩ | ⟨k, h⟩
  · rw [h, show readC [] = (0, none) from if_pos rfl, show readL [] = [] from if_pos rfl]
    refine (sread_empty s w k).mono ?_
    rintro e w' ⟨rfl, hb⟩
    exact ⟨_, _, rfl, (evl_0 rfl).symm, OwnP.nil _ _ _, hb⟩
  · exact sread_some ea s w k hs hL hText hShape hBound
set_option maxHeartbeats 1000000 in
set_option maxRecDepth 100000 in
theorem makes_long (ea : Nat → Addr) (s : ByteArray) (x y u h : Fr) (ps : List Pt) (oa : Option Addr) (len cap : Nat) (m : Mv) (w : World) (hS : Sents ea w) (hlong : ¬ (s.size ≤ 500 ∧ len ≤ 40)) :
    Calls Tryz.prog 6 #[.string s, .agg #[.int .i64 x.n, .int .i64 x.d], .agg #[.int .i64 y.n, .int .i64 y.d], .agg #[.int .i64 u.n, .int .i64 u.d], .agg #[.int .i64 h.n, .int .i64 h.d], .slice oa len cap, .agg #[.int .i64 m.A.n, .int .i64 m.A.d, .int .i64 m.B.n, .int .i64 m.B.d, .int .i64 m.C.n, .int .i64 m.C.d, .int .i64 m.D.n, .int .i64 m.D.d, .int .i64 m.E.n, .int .i64 m.E.d, .int .i64 m.F.n, .int .i64 m.F.d]] w fun e w' => e = .returned (.bool true) ∧ Below w.heap.size w w' := by
  have H_hS := Lib.hid hS
  clear hS
  by_cases h5 : s.size ≤ 500
  · have g1 : ¬ (500 : Int) < (s.size : Int) := by omega
    have g2 : (40 : Int) < (len : Int) := by omega
    go_enter Tryz.func6, Tryz.ntmps6
    go_wp2_with fail
    refine call_bel (w := w) (by repeat' (first | (with_reducible first | exact bwR _ _ | assumption | refine bdn ?_ | refine bwA ?_ ?_ _ | refine bwD ?_ | refine bwS ?_ ?_ _) | omega | (simp <;> omega))) (fun HB => shaped_any ea _ (gkeep HB H_hS.out.c3 rfl) (gkeep HB H_hS.out.c2 rfl)) ?_
    intro w1 hb1 hz1 c1 d1 hW1
    have t1 := hb1.size
    try simp only [szA] at hz1 c1 d1
    try simp only [szD] at hz1 c1 d1
    try simp only [szS] at hz1 c1 d1
    try simp only [World.heap_drewN] at hz1 c1 d1
    try simp only [szA] at hz1 c1 d1
    try simp only [szD] at hz1 c1 d1
    try simp only [szS] at hz1 c1 d1
    have s1_0 : w.heap.size < w1.heap.size := by omega
    have o1_0 := fun j => c1 (w.heap.size) j (by omega)
    have f1_0 := fun j => d1 (w.heap.size) j (by omega)
    have s1_1 : w.heap.size + 1 < w1.heap.size := by omega
    have o1_1 := fun j => c1 (w.heap.size + 1) j (by omega)
    have f1_1 := fun j => d1 (w.heap.size + 1) j (by omega)
    have s1_2 : w.heap.size + 1 + 1 < w1.heap.size := by omega
    have o1_2 := fun j => c1 (w.heap.size + 1 + 1) j (by omega)
    have f1_2 := fun j => d1 (w.heap.size + 1 + 1) j (by omega)
    have s1_3 : w.heap.size + 1 + 1 + 1 < w1.heap.size := by omega
    have o1_3 := fun j => c1 (w.heap.size + 1 + 1 + 1) j (by omega)
    have f1_3 := fun j => d1 (w.heap.size + 1 + 1 + 1) j (by omega)
    have s1_4 : w.heap.size + 1 + 1 + 1 + 1 < w1.heap.size := by omega
    have o1_4 := fun j => c1 (w.heap.size + 1 + 1 + 1 + 1) j (by omega)
    have f1_4 := fun j => d1 (w.heap.size + 1 + 1 + 1 + 1) j (by omega)
    clear c1 d1 hz1 hW1
    go_wp2_with fail
    go_returns
    exact ⟨rfl, by repeat' (first | (with_reducible first | exact bwR _ _ | assumption | refine bdn ?_ | refine bwA ?_ ?_ _ | refine bwD ?_ | refine bwS ?_ ?_ _) | omega | (simp <;> omega))⟩
  · have g1 : (500 : Int) < (s.size : Int) := by omega
    go_enter Tryz.func6, Tryz.ntmps6
    go_wp2_with fail
    refine call_bel (w := w) (by repeat' (first | (with_reducible first | exact bwR _ _ | assumption | refine bdn ?_ | refine bwA ?_ ?_ _ | refine bwD ?_ | refine bwS ?_ ?_ _) | omega | (simp <;> omega))) (fun HB => shaped_any ea _ (gkeep HB H_hS.out.c3 rfl) (gkeep HB H_hS.out.c2 rfl)) ?_
    intro w1 hb1 hz1 c1 d1 hW1
    have t1 := hb1.size
    try simp only [szA] at hz1 c1 d1
    try simp only [szD] at hz1 c1 d1
    try simp only [szS] at hz1 c1 d1
    try simp only [World.heap_drewN] at hz1 c1 d1
    try simp only [szA] at hz1 c1 d1
    try simp only [szD] at hz1 c1 d1
    try simp only [szS] at hz1 c1 d1
    have s1_0 : w.heap.size < w1.heap.size := by omega
    have o1_0 := fun j => c1 (w.heap.size) j (by omega)
    have f1_0 := fun j => d1 (w.heap.size) j (by omega)
    have s1_1 : w.heap.size + 1 < w1.heap.size := by omega
    have o1_1 := fun j => c1 (w.heap.size + 1) j (by omega)
    have f1_1 := fun j => d1 (w.heap.size + 1) j (by omega)
    have s1_2 : w.heap.size + 1 + 1 < w1.heap.size := by omega
    have o1_2 := fun j => c1 (w.heap.size + 1 + 1) j (by omega)
    have f1_2 := fun j => d1 (w.heap.size + 1 + 1) j (by omega)
    have s1_3 : w.heap.size + 1 + 1 + 1 < w1.heap.size := by omega
    have o1_3 := fun j => c1 (w.heap.size + 1 + 1 + 1) j (by omega)
    have f1_3 := fun j => d1 (w.heap.size + 1 + 1 + 1) j (by omega)
    have s1_4 : w.heap.size + 1 + 1 + 1 + 1 < w1.heap.size := by omega
    have o1_4 := fun j => c1 (w.heap.size + 1 + 1 + 1 + 1) j (by omega)
    have f1_4 := fun j => d1 (w.heap.size + 1 + 1 + 1 + 1) j (by omega)
    clear c1 d1 hz1 hW1
    go_wp2_with fail
    go_returns
    exact ⟨rfl, by repeat' (first | (with_reducible first | exact bwR _ _ | assumption | refine bdn ?_ | refine bwA ?_ ?_ _ | refine bwD ?_ | refine bwS ?_ ?_ _) | omega | (simp <;> omega))⟩
theorem slp_of {w : World} {base : Nat} {e : TypeId} {o : Option Addr} {l c : Nat} {ps : List Pt} (h : OwnP w base e (.slice o l c) ps) (hI : ∀ p ∈ ps, p.I) : SlP w o l c ps := by
  obtain ⟨_, _, hv, hs⟩ := h.slp hI
  injection hv with h1 h2 h3
  subst h1 h2 h3
  exact hs
theorem one_set {w : World} {g : Nat} {u v : Value} (h : ∀ j, w.cell? ⟨g, j, none⟩ = (#[u] : Array Value)[j]?) : ∀ j, (w.setCell ⟨g, 0, none⟩ v).cell? ⟨g, j, none⟩ = (#[v] : Array Value)[j]? := fun j => by
  match j with
  | 0 => exact World.cell?_setCell_same' _ _ _ (by rw [h 0]; rfl)
  | j + 1 => rw [World.cell?_setCell_other _ _ _ _ (fun q => by injection q with _ q; omega)]; exact (h (j + 1)).trans (by simp)
theorem oth_set {w : World} {g b : Nat} {o : Nat} {v : Value} {xs : Array Value} (h : ∀ j, w.cell? ⟨g, j, none⟩ = xs[j]?) (hn : g ≠ b) : ∀ j, (w.setCell ⟨b, o, none⟩ v).cell? ⟨g, j, none⟩ = xs[j]? := fun j => by
  rw [World.cell?_setCell_other _ _ _ _ (fun q => hn (by injection q with q _; exact q.symm))]; exact h j
set_option maxHeartbeats 8000000 in
set_option maxRecDepth 100000 in
theorem makes_any {gz : Bool} (ea : Nat → Addr) (s : ByteArray) (x y u h : Fr) (ps : List Pt) (oa : Option Addr) (len cap : Nat) (m : Mv) (w : World) (ix : x.I) (iy : y.I) (iu : u.I) (ih : h.I) (hs : SlP w oa len cap ps) (hI : ∀ p ∈ ps, p.I) (im : m.I)
    (hL : Libs w) (hS : Sents ea w) (hG : Gs gz ea w) (hng : 20 ≤ w.heap.size) (h500 : s.size ≤ 500) (h40 : len ≤ 40) :
    Calls Tryz.prog 6 #[.string s, .agg #[.int .i64 x.n, .int .i64 x.d], .agg #[.int .i64 y.n, .int .i64 y.d], .agg #[.int .i64 u.n, .int .i64 u.d], .agg #[.int .i64 h.n, .int .i64 h.d], .slice oa len cap, .agg #[.int .i64 m.A.n, .int .i64 m.A.d, .int .i64 m.B.n, .int .i64 m.B.d, .int .i64 m.C.n, .int .i64 m.C.d, .int .i64 m.D.n, .int .i64 m.D.d, .int .i64 m.E.n, .int .i64 m.E.d, .int .i64 m.F.n, .int .i64 m.F.d]] w fun e w' => e = .returned (.bool true) ∧ Below w.heap.size w w' := by
  have g1 : ¬ (500 : Int) < (s.size : Int) := by omega
  have g2 : ¬ (40 : Int) < (len : Int) := by omega
  have hs10 : s.size ≤ 10000 := by omega
  have hlen := hs.1
  obtain ⟨cR, hcR⟩ : ∃ c, readC s.data.toList = c := ⟨_, rfl⟩
  obtain ⟨lR, hlR⟩ : ∃ c, readL s.data.toList = c := ⟨_, rfl⟩
  obtain ⟨cB, hcB⟩ : ∃ c, boxC x y u h = c := ⟨_, rfl⟩
  obtain ⟨lB, hlB⟩ : ∃ c, boxL x y u h = c := ⟨_, rfl⟩
  obtain ⟨cM, hcM⟩ : ∃ c, movC m ps = c := ⟨_, rfl⟩
  obtain ⟨lM, hlM⟩ : ∃ c, movL m ps = c := ⟨_, rfl⟩
  have iR : ∀ p ∈ lR, p.I := by rw [← hlR]; exact readL_I
  have iB : ∀ p ∈ lB, p.I := by rw [← hlB]; exact boxL_I ix iy
  have iM : ∀ p ∈ lM, p.I := by rw [← hlM]; exact movL_I m ps
  have zR : cR.1 ≤ 11 := by rw [← hcR]; exact readC_le _
  have zB : cB.1 ≤ 11 := by rw [← hcB]; exact boxC_le _ _ _ _
  have zM : cM.1 ≤ 11 := by rw [← hcM]; exact movC_le _ _
  have kR := fun (W : World) (a : Libs W) G2 G3 G4 => sread_any ea s W hs10 a G2 G3 G4
  have kS := fun (W : World) => rshapeof_any s W hs10
  have kB := fun (W : World) G3 G4 => shbox_any ea x y u h W ix iy iu ih G3 G4
  have kO := fun (W : World) => rbox_any x y u h W ix iy iu ih
  have kM := fun (W : World) (o : Option Addr) (l c : Nat) (a : SlP W o l c ps) (b : Gs gz ea W) (d : 20 ≤ W.heap.size) => shmove_any ea m ps o l c W im a b d
  simp only [hcR, hlR] at kR kS
  simp only [hcB, hlB] at kB kO
  simp only [hcM, hlM] at kM
  have H_hng := Lib.hid hng
  clear hng
  have H_hs := Lib.hid hs
  clear hs
  have H_hI := Lib.hid hI
  clear hI
  have H_im := Lib.hid im
  clear im
  have H_hL := Lib.hid hL
  clear hL
  have H_hS := Lib.hid hS
  clear hS
  have H_hG := Lib.hid hG
  clear hG
  have H_hs10 := Lib.hid hs10
  clear hs10
  have H_hlen := Lib.hid hlen
  clear hlen
  have H_hcR := Lib.hid hcR
  clear hcR
  have H_hlR := Lib.hid hlR
  clear hlR
  have H_hcB := Lib.hid hcB
  clear hcB
  have H_hlB := Lib.hid hlB
  clear hlB
  have H_hcM := Lib.hid hcM
  clear hcM
  have H_hlM := Lib.hid hlM
  clear hlM
  have H_iR := Lib.hid iR
  clear iR
  have H_iB := Lib.hid iB
  clear iB
  have H_iM := Lib.hid iM
  clear iM
  have H_zR := Lib.hid zR
  clear zR
  have H_zB := Lib.hid zB
  clear zB
  have H_zM := Lib.hid zM
  clear zM
  have H_kR := Lib.hid kR
  clear kR
  have H_kS := Lib.hid kS
  clear kS
  have H_kB := Lib.hid kB
  clear kB
  have H_kO := Lib.hid kO
  clear kO
  have H_kM := Lib.hid kM
  clear kM
  have H_ix := Lib.hid ix
  clear ix
  have H_iy := Lib.hid iy
  clear iy
  have H_iu := Lib.hid iu
  clear iu
  have H_ih := Lib.hid ih
  clear ih
  go_enter Tryz.func6, Tryz.ntmps6
  go_wp2_with fail
  refine call_bel (w := w) (by repeat' (first | (with_reducible first | exact bwR _ _ | assumption | refine bdn ?_ | refine bwA ?_ ?_ _ | refine bwD ?_ | refine bwS ?_ ?_ _) | omega | (simp <;> omega))) (fun HB => shaped_any ea _ (gkeep HB H_hS.out.c3 rfl) (gkeep HB H_hS.out.c2 rfl)) ?_
  intro w1 hb1 hz1 c1 d1 hW1
  have t1 := hb1.size
  try simp only [szA] at hz1 c1 d1
  try simp only [szD] at hz1 c1 d1
  try simp only [szS] at hz1 c1 d1
  try simp only [World.heap_drewN] at hz1 c1 d1
  try simp only [szA] at hz1 c1 d1
  try simp only [szD] at hz1 c1 d1
  try simp only [szS] at hz1 c1 d1
  have s1_0 : w.heap.size < w1.heap.size := by omega
  have o1_0 := fun j => c1 (w.heap.size) j (by omega)
  have f1_0 := fun j => d1 (w.heap.size) j (by omega)
  have s1_1 : w.heap.size + 1 < w1.heap.size := by omega
  have o1_1 := fun j => c1 (w.heap.size + 1) j (by omega)
  have f1_1 := fun j => d1 (w.heap.size + 1) j (by omega)
  have s1_2 : w.heap.size + 1 + 1 < w1.heap.size := by omega
  have o1_2 := fun j => c1 (w.heap.size + 1 + 1) j (by omega)
  have f1_2 := fun j => d1 (w.heap.size + 1 + 1) j (by omega)
  have s1_3 : w.heap.size + 1 + 1 + 1 < w1.heap.size := by omega
  have o1_3 := fun j => c1 (w.heap.size + 1 + 1 + 1) j (by omega)
  have f1_3 := fun j => d1 (w.heap.size + 1 + 1 + 1) j (by omega)
  have s1_4 : w.heap.size + 1 + 1 + 1 + 1 < w1.heap.size := by omega
  have o1_4 := fun j => c1 (w.heap.size + 1 + 1 + 1 + 1) j (by omega)
  have f1_4 := fun j => d1 (w.heap.size + 1 + 1 + 1 + 1) j (by omega)
  clear c1 d1 hz1 hW1
  have hQ : ∀ W, Below w1.heap.size w1 W → (∀ j, W.cell? ⟨w.heap.size, j, none⟩ = (#[Value.int .i64 x.n, .int .i64 x.d] : Array Value)[j]?) ∧ (∀ j, W.cell? ⟨w.heap.size + 1, j, none⟩ = (#[Value.int .i64 y.n, .int .i64 y.d] : Array Value)[j]?) ∧ (∀ j, W.cell? ⟨w.heap.size + 1 + 1, j, none⟩ = (#[Value.int .i64 u.n, .int .i64 u.d] : Array Value)[j]?) ∧ (∀ j, W.cell? ⟨w.heap.size + 1 + 1 + 1, j, none⟩ = (#[Value.int .i64 h.n, .int .i64 h.d] : Array Value)[j]?) ∧ (∀ j, W.cell? ⟨w.heap.size + 1 + 1 + 1 + 1, j, none⟩ = (#[.int .i64 m.A.n, .int .i64 m.A.d, .int .i64 m.B.n, .int .i64 m.B.d, .int .i64 m.C.n, .int .i64 m.C.d, .int .i64 m.D.n, .int .i64 m.D.d, .int .i64 m.E.n, .int .i64 m.E.d, .int .i64 m.F.n, .int .i64 m.F.d] : Array Value)[j]?) := fun W hW =>
    ⟨fun j => (hW.cell (p := ⟨w.heap.size, j, none⟩) s1_0).trans ((o1_0 j).trans ((World.cell?_alloc_past _ _ _ (by simp <;> omega)).trans ((World.cell?_alloc_past _ _ _ (by simp <;> omega)).trans ((World.cell?_alloc_past _ _ _ (by simp <;> omega)).trans ((World.cell?_alloc_past _ _ _ (by simp <;> omega)).trans (World.cell?_alloc_at _ _ _ _ (by simp))))))), fun j => (hW.cell (p := ⟨w.heap.size + 1, j, none⟩) s1_1).trans ((o1_1 j).trans ((World.cell?_alloc_past _ _ _ (by simp <;> omega)).trans ((World.cell?_alloc_past _ _ _ (by simp <;> omega)).trans ((World.cell?_alloc_past _ _ _ (by simp <;> omega)).trans (World.cell?_alloc_at _ _ _ _ (by simp)))))), fun j => (hW.cell (p := ⟨w.heap.size + 1 + 1, j, none⟩) s1_2).trans ((o1_2 j).trans ((World.cell?_alloc_past _ _ _ (by simp <;> omega)).trans ((World.cell?_alloc_past _ _ _ (by simp <;> omega)).trans (World.cell?_alloc_at _ _ _ _ (by simp))))), fun j => (hW.cell (p := ⟨w.heap.size + 1 + 1 + 1, j, none⟩) s1_3).trans ((o1_3 j).trans ((World.cell?_alloc_past _ _ _ (by simp <;> omega)).trans (World.cell?_alloc_at _ _ _ _ (by simp)))), fun j => (hW.cell (p := ⟨w.heap.size + 1 + 1 + 1 + 1, j, none⟩) s1_4).trans ((o1_4 j).trans (World.cell?_alloc_at _ _ _ _ (by simp)))⟩
  clear o1_0 o1_1 o1_2 o1_3 o1_4 f1_0 f1_1 f1_2 f1_3 f1_4
  have H_hQ := Lib.hid hQ
  clear hQ
  -- the text
  go_wp2_with fail
  refine call_pe (w := w) (by repeat' (first | (with_reducible first | exact bwR _ _ | assumption | refine bdn ?_ | refine bwA ?_ ?_ _ | refine bwD ?_ | refine bwS ?_ ?_ _) | omega | (simp <;> omega))) (fun HB => H_kR.out _ (H_hL.out.keep HB rfl) (gkeep HB H_hS.out.c1 rfl) (gkeep HB H_hS.out.c3 rfl) (gkeep HB H_hS.out.c2 rfl)) ?_
  intro v2 x2 w2 hx2 hb2 hz2 c2 d2 hW2
  have t2 := hb2.size
  have e2_1 : Below w1.heap.size w1 w2 := below_via (by repeat' (first | (with_reducible first | exact bwR _ _ | assumption | refine bdn ?_ | refine bwA ?_ ?_ _ | refine bwD ?_ | refine bwS ?_ ?_ _) | omega | (simp <;> omega))) hW2
  have te2_1 := e2_1.size
  clear c2 d2 hz2 hW2
  obtain ⟨hx2a, hx2b⟩ := hx2
  obtain ⟨oa2, cap2, rfl, hs2⟩ := hx2b.slp H_iR.out
  have H_hs2 := Lib.hid hs2
  clear hs2
  have H_hx2a := Lib.hid hx2a
  clear hx2a
  clear hx2b
  go_wp2_with fail
  refine (H_kS.out _).mono ?_
  rintro _ w3 ⟨v3, rfl, hv3, hW3⟩
  have hz3 := hW3.size
  obtain ⟨oa3, cap3, rfl, hs3⟩ := hv3.slp H_iR.out
  clear hv3
  have e3_1 : Below w1.heap.size w1 w3 := below_via (by repeat' (first | (with_reducible first | exact bwR _ _ | assumption | refine bdn ?_ | refine bwA ?_ ?_ _ | refine bwD ?_ | refine bwS ?_ ?_ _) | omega | (simp <;> omega))) hW3
  have e3_2 : Below w2.heap.size w2 w3 := below_via (by repeat' (first | (with_reducible first | exact bwR _ _ | assumption | refine bdn ?_ | refine bwA ?_ ?_ _ | refine bwD ?_ | refine bwS ?_ ?_ _) | omega | (simp <;> omega))) hW3
  have hb3 : Below w.heap.size w w3 := below_via (by repeat' (first | (with_reducible first | exact bwR _ _ | assumption | refine bdn ?_ | refine bwA ?_ ?_ _ | refine bwD ?_ | refine bwS ?_ ?_ _) | omega | (simp <;> omega))) hW3
  have A3 : ∀ j, w3.cell? ⟨w2.heap.size, j, none⟩ = (#[Value.slice oa2 lR.length cap2] : Array Value)[j]? := fun j => (hW3.cell (p := ⟨w2.heap.size, j, none⟩) (by simp)).trans (World.cell?_alloc_new _ _ _ _)
  have N3 : ∀ j, w3.frozen? ⟨w2.heap.size, j, none⟩ = false := fun j => (hW3.frozen (p := ⟨w2.heap.size, j, none⟩) (by simp)).trans (World.frozen?_alloc_at _ _ _ _ rfl)
  simp only [World.size_alloc] at hz3
  clear hW3
  have H_hs3 := Lib.hid hs3
  clear hs3
  -- the text: alike?
  go_wp2_with fail
  refine call_bel (w := w) (by repeat' (first | (with_reducible first | exact bwR _ _ | assumption | refine bdn ?_ | refine bwA ?_ ?_ _ | refine bwD ?_ | refine bwS ?_ ?_ _) | omega | (simp <;> omega))) (fun HB => faulted2_any ea cR _ _ _ (w1.heap.size) _ (H_hx2a.out.keep (e3_2.alloc e3_2.size _) rfl (Nat.le_refl _)) (H_hS.out.keep HB rfl) H_zR.out (rfl) (rfl)) ?_
  intro w4 hb4 hz4 c4 d4 hW4
  clear c4 d4
  simp only [World.size_alloc, World.size_setCell] at hz4
  have A4 := fun j => (hW4.cell (p := ⟨w2.heap.size, j, none⟩) (by show w2.heap.size < _; (try simp only [World.size_alloc, World.size_setCell]); omega)).trans ((World.cell?_alloc_past _ _ _ (by omega)).trans (A3 j))
  have N4 := fun j => (hW4.frozen (p := ⟨w2.heap.size, j, none⟩) (by show w2.heap.size < _; (try simp only [World.size_alloc, World.size_setCell]); omega)).trans ((World.frozen?_alloc_past _ _ _ (by omega)).trans (N3 j))
  have F4 := fun j => (hW4.cell (p := ⟨w3.heap.size, j, none⟩) (by show w3.heap.size < _; (try simp only [World.size_alloc, World.size_setCell]); omega)).trans (World.cell?_alloc_new _ _ _ _)
  have M4 := fun j => (hW4.frozen (p := ⟨w3.heap.size, j, none⟩) (by show w3.heap.size < _; (try simp only [World.size_alloc, World.size_setCell]); omega)).trans (World.frozen?_alloc_at _ _ _ _ rfl)
  have e4_1 : Below w1.heap.size w1 w4 := below_via (e3_1.alloc e3_1.size _) hW4
  have e4_2 : Below w2.heap.size w2 w4 := below_via (e3_2.alloc e3_2.size _) hW4
  have e4_3 : Below w3.heap.size w3 w4 := below_via (by repeat' (first | (with_reducible first | exact bwR _ _ | assumption | refine bdn ?_ | refine bwA ?_ ?_ _ | refine bwD ?_ | refine bwS ?_ ?_ _) | omega | (simp <;> omega))) hW4
  clear A3 N3 hW4
  go_wp2_with fail
  refine call_bel (w := w) (by repeat' (first | (with_reducible first | exact bwR _ _ | assumption | refine bdn ?_ | refine bwA ?_ ?_ _ | refine bwD ?_ | refine bwS ?_ ?_ _) | omega | (simp <;> omega))) (fun _ => same_any lR _ _ _ _ _ _ _ (H_hs2.out.keep e4_2 rfl) (H_hs3.out.keep e4_3 rfl)) ?_
  intro w5 hb5 hz5 c5 d5 hW5
  clear c5 d5
  have A5 := fun j => (hW5.cell (p := ⟨w2.heap.size, j, none⟩) (by show w2.heap.size < _; (try simp only [World.size_alloc, World.size_setCell]); omega)).trans (A4 j)
  have N5 := fun j => (hW5.frozen (p := ⟨w2.heap.size, j, none⟩) (by show w2.heap.size < _; (try simp only [World.size_alloc, World.size_setCell]); omega)).trans (N4 j)
  have F5 := fun j => (hW5.cell (p := ⟨w3.heap.size, j, none⟩) (by show w3.heap.size < _; (try simp only [World.size_alloc, World.size_setCell]); omega)).trans (F4 j)
  have M5 := fun j => (hW5.frozen (p := ⟨w3.heap.size, j, none⟩) (by show w3.heap.size < _; (try simp only [World.size_alloc, World.size_setCell]); omega)).trans (M4 j)
  clear A4 N4 F4 M4
  have e5_1 : Below w1.heap.size w1 w5 := below_via e4_1 hW5
  clear hW5 e4_1 e4_2 e4_3 hb4
  -- the box
  obtain ⟨b0, b1, b2, b3, b4⟩ := H_hQ.out w5 e5_1
  go_wp2_with fail
  refine call_pe (w := w) (by repeat' (first | (with_reducible first | exact bwR _ _ | assumption | refine bdn ?_ | refine bwA ?_ ?_ _ | refine bwD ?_ | refine bwS ?_ ?_ _) | omega | (simp <;> omega))) (fun HB => H_kB.out _ (gkeep HB H_hS.out.c3 rfl) (gkeep HB H_hS.out.c2 rfl)) ?_
  intro v6 x6 w6 hx6 hb6 hz6 c6 d6 hW6
  obtain ⟨hx6a, hx6b⟩ := hx6
  obtain ⟨oa6, cap6, rfl, hs6⟩ := hx6b.slp H_iB.out
  have H_hx6a := Lib.hid hx6a
  clear hx6a
  have H_hx6b := Lib.hid hx6b
  clear hx6b
  clear hs6 c6 d6
  have A6 := fun j => (hW6.cell (p := ⟨w2.heap.size, j, none⟩) (by show w2.heap.size < _; (try simp only [World.size_alloc, World.size_setCell]); omega)).trans (A5 j)
  have N6 := fun j => (hW6.frozen (p := ⟨w2.heap.size, j, none⟩) (by show w2.heap.size < _; (try simp only [World.size_alloc, World.size_setCell]); omega)).trans (N5 j)
  have F6 := fun j => (hW6.cell (p := ⟨w3.heap.size, j, none⟩) (by show w3.heap.size < _; (try simp only [World.size_alloc, World.size_setCell]); omega)).trans (F5 j)
  have M6 := fun j => (hW6.frozen (p := ⟨w3.heap.size, j, none⟩) (by show w3.heap.size < _; (try simp only [World.size_alloc, World.size_setCell]); omega)).trans (M5 j)
  clear A5 N5 F5 M5
  clear b0 b1 b2 b3 b4
  have e6_1 : Below w1.heap.size w1 w6 := below_via e5_1 hW6
  obtain ⟨b0, b1, b2, b3, b4⟩ := H_hQ.out (w6.setCell ⟨w2.heap.size, 0, none⟩ (.slice oa6 lB.length cap6)) (e6_1.setCell (p := ⟨w2.heap.size, 0, none⟩) te2_1 _)
  go_wp2_with fail
  refine (H_kO.out _).mono ?_
  rintro _ w7 ⟨v7, rfl, hv7, hW7⟩
  have hz7 := hW7.size
  simp only [World.size_alloc, World.size_setCell] at hz7
  obtain ⟨oa7, cap7, rfl, hs7⟩ := hv7.slp H_iB.out
  clear hs7 b0 b1 b2 b3 b4
  have hs6 : w5.heap.size ≤ w6.heap.size := hz6
  have e7_1 : Below w1.heap.size w1 w7 := below_via (e6_1.setCell (p := ⟨w2.heap.size, 0, none⟩) te2_1 _) hW7
  have hb7 : Below w.heap.size w w7 := below_via (hb6.setCell (p := ⟨w2.heap.size, 0, none⟩) t2 _) hW7
  have A7 := fun j => (hW7.cell (p := ⟨w2.heap.size, j, none⟩) (by show w2.heap.size < _; (try simp only [World.size_alloc, World.size_setCell]); omega)).trans (one_set A6 j)
  have N7 := fun j => (hW7.frozen (p := ⟨w2.heap.size, j, none⟩) (by show w2.heap.size < _; (try simp only [World.size_alloc, World.size_setCell]); omega)).trans ((World.frozen?_setCell _ _ _ _).trans (N6 j))
  have F7 := fun j => (hW7.cell (p := ⟨w3.heap.size, j, none⟩) (by show w3.heap.size < _; (try simp only [World.size_alloc, World.size_setCell]); omega)).trans (oth_set F6 (by omega) j)
  have M7 := fun j => (hW7.frozen (p := ⟨w3.heap.size, j, none⟩) (by show w3.heap.size < _; (try simp only [World.size_alloc, World.size_setCell]); omega)).trans ((World.frozen?_setCell _ _ _ _).trans (M6 j))
  have E7 : ErrAt 308 119 ea w5.heap.size w7 x6 cB := (H_hx6a.out.set ⟨w2.heap.size, 0, none⟩ _ (by show w2.heap.size < w5.heap.size; omega) (Nat.le_refl _)).keep hW7 rfl (Nat.le_refl _)
  have O7 : OwnP w7 w5.heap.size 102 (.slice oa6 lB.length cap6) lB := own_below (own_set H_hx6b.out ⟨w2.heap.size, 0, none⟩ (.slice oa6 lB.length cap6) (by show w2.heap.size < w5.heap.size; omega)) hW7
  have P7 := own_base hv7 (show w5.heap.size ≤ _ by rw [World.size_setCell]; exact hs6)
  clear A6 N6 F6 M6 hW6 hW7 hv7 H_hx6a H_hx6b hb6
  have hs7 : w5.heap.size ≤ w7.heap.size := by omega
  have E8 := (E7.set ⟨w3.heap.size, 0, none⟩ (.int .i64 cB.1) (by show w3.heap.size < w5.heap.size; omega) (Nat.le_refl _)).set ⟨w3.heap.size, 1, none⟩ (.int .i64 (atI cB.2)) (by show w3.heap.size < w5.heap.size; omega) (Nat.le_refl _)
  have O8 := own_set (own_set O7 ⟨w3.heap.size, 0, none⟩ (.int .i64 cB.1) (by show w3.heap.size < w5.heap.size; omega)) ⟨w3.heap.size, 1, none⟩ (.int .i64 (atI cB.2)) (by show w3.heap.size < w5.heap.size; omega)
  have P8 := own_set (own_set P7 ⟨w3.heap.size, 0, none⟩ (.int .i64 cB.1) (by show w3.heap.size < w5.heap.size; omega)) ⟨w3.heap.size, 1, none⟩ (.int .i64 (atI cB.2)) (by show w3.heap.size < w5.heap.size; omega)
  have G8 := ((e7_1.setCell (p := ⟨w3.heap.size, 0, none⟩) (by show w1.heap.size ≤ w3.heap.size; omega) (.int .i64 cB.1)).setCell (p := ⟨w3.heap.size, 1, none⟩) (by show w1.heap.size ≤ w3.heap.size; omega) (.int .i64 (atI cB.2)))
  clear E7 O7 P7
  have H_E8 := Lib.hid E8
  clear E8
  have H_O8 := Lib.hid O8
  clear O8
  have H_P8 := Lib.hid P8
  clear P8
  have H_G8 := Lib.hid G8
  clear G8
  go_wp2_with fail
  refine call_bel (w := w) (by repeat' (first | (with_reducible first | exact bwR _ _ | assumption | refine bdn ?_ | refine bwA ?_ ?_ _ | refine bwD ?_ | refine bwS ?_ ?_ _) | omega | (simp <;> omega))) (fun HB => faulted2_any ea cB _ _ _ (w5.heap.size) _ (H_E8.out) (H_hS.out.keep HB rfl) H_zB.out (rfl) (rfl)) ?_
  intro w8 hb8 hz8 c8 d8 hW8
  clear c8 d8
  simp only [World.size_alloc, World.size_setCell] at hz8
  have A8 := fun j => (hW8.cell (p := ⟨w2.heap.size, j, none⟩) (by show w2.heap.size < _; (try simp only [World.size_alloc, World.size_setCell]); omega)).trans (oth_set (oth_set A7 (by omega)) (by omega) j)
  have N8 := fun j => (hW8.frozen (p := ⟨w2.heap.size, j, none⟩) (by show w2.heap.size < _; (try simp only [World.size_alloc, World.size_setCell]); omega)).trans ((World.frozen?_setCell _ _ _ _).trans ((World.frozen?_setCell _ _ _ _).trans (N7 j)))
  have F8 := fun j => (hW8.cell (p := ⟨w3.heap.size, j, none⟩) (by show w3.heap.size < _; (try simp only [World.size_alloc, World.size_setCell]); omega)).trans (set2 F7 _ _ j)
  have M8 := fun j => (hW8.frozen (p := ⟨w3.heap.size, j, none⟩) (by show w3.heap.size < _; (try simp only [World.size_alloc, World.size_setCell]); omega)).trans ((World.frozen?_setCell _ _ _ _).trans ((World.frozen?_setCell _ _ _ _).trans (M7 j)))
  have e8_1 : Below w1.heap.size w1 w8 := below_via H_G8.out hW8
  have S8 := slp_of (own_below H_O8.out hW8) H_iB.out
  have T8 := slp_of (own_below H_P8.out hW8) H_iB.out
  clear A7 N7 F7 M7 hW8 H_E8 H_O8 H_P8 H_G8 hb7
  have H_S8 := Lib.hid S8
  clear S8
  have H_T8 := Lib.hid T8
  clear T8
  go_wp2_with fail
  refine call_bel (w := w) (by repeat' (first | (with_reducible first | exact bwR _ _ | assumption | refine bdn ?_ | refine bwA ?_ ?_ _ | refine bwD ?_ | refine bwS ?_ ?_ _) | omega | (simp <;> omega))) (fun _ => same_any lB _ _ _ _ _ _ _ (H_S8.out) (H_T8.out)) ?_
  intro w9 hb9 hz9 c9 d9 hW9
  clear c9 d9
  have A9 := fun j => (hW9.cell (p := ⟨w2.heap.size, j, none⟩) (by show w2.heap.size < _; (try simp only [World.size_alloc, World.size_setCell]); omega)).trans (A8 j)
  have N9 := fun j => (hW9.frozen (p := ⟨w2.heap.size, j, none⟩) (by show w2.heap.size < _; (try simp only [World.size_alloc, World.size_setCell]); omega)).trans (N8 j)
  have F9 := fun j => (hW9.cell (p := ⟨w3.heap.size, j, none⟩) (by show w3.heap.size < _; (try simp only [World.size_alloc, World.size_setCell]); omega)).trans (F8 j)
  have M9 := fun j => (hW9.frozen (p := ⟨w3.heap.size, j, none⟩) (by show w3.heap.size < _; (try simp only [World.size_alloc, World.size_setCell]); omega)).trans (M8 j)
  clear A8 N8 F8 M8
  have e9_1 : Below w1.heap.size w1 w9 := below_via e8_1 hW9
  clear hW9 e8_1 H_S8 H_T8 hb8
  -- moved
  go_wp2_with fail
  refine (ownpoints_any ps oa len cap _ (H_hs.out.keep hb9 rfl) (by omega)).mono ?_
  rintro _ w10 ⟨v10, rfl, hv10, hW10⟩
  have hz10 := hW10.size
  obtain ⟨oa10, cap10, rfl, hs10⟩ := hv10.slp H_hI.out
  have e10_1 : Below w1.heap.size w1 w10 := below_via e9_1 hW10
  have hb10 : Below w.heap.size w w10 := below_via hb9 hW10
  have A10 := fun j => (hW10.cell (p := ⟨w2.heap.size, j, none⟩) (by show w2.heap.size < _; (try simp only [World.size_alloc, World.size_setCell]); omega)).trans (A9 j)
  have N10 := fun j => (hW10.frozen (p := ⟨w2.heap.size, j, none⟩) (by show w2.heap.size < _; (try simp only [World.size_alloc, World.size_setCell]); omega)).trans (N9 j)
  have F10 := fun j => (hW10.cell (p := ⟨w3.heap.size, j, none⟩) (by show w3.heap.size < _; (try simp only [World.size_alloc, World.size_setCell]); omega)).trans (F9 j)
  have M10 := fun j => (hW10.frozen (p := ⟨w3.heap.size, j, none⟩) (by show w3.heap.size < _; (try simp only [World.size_alloc, World.size_setCell]); omega)).trans (M9 j)
  clear A9 N9 F9 M9
  clear hv10 hW10 hb9
  have S10 : SlP (w10.alloc (.cells #[.slice oa10 ps.length cap10] 54)) oa10 ps.length cap10 ps := hs10.keep (B := w10.heap.size) ((Below.refl _ _).alloc (Nat.le_refl _) _) rfl
  clear hs10
  have G10 := e10_1.alloc e10_1.size (.cells #[.slice oa10 ps.length cap10] 54)
  obtain ⟨b0, b1, b2, b3, b4⟩ := H_hQ.out _ G10
  have H_S10 := Lib.hid S10
  clear S10
  have H_G10 := Lib.hid G10
  clear G10
  go_wp2_with fail
  refine call_pe (w := w) (by repeat' (first | (with_reducible first | exact bwR _ _ | assumption | refine bdn ?_ | refine bwA ?_ ?_ _ | refine bwD ?_ | refine bwS ?_ ?_ _) | omega | (simp <;> omega))) (fun HB => H_kM.out _ _ _ _ H_S10.out (H_hG.out.keep HB rfl) (Nat.le_trans H_hng.out HB.size)) ?_
  intro v11 x11 w11 hx11 hb11 hz11 c11 d11 hW11
  obtain ⟨hx11a, hx11b⟩ := hx11
  obtain ⟨oa11, cap11, rfl, hs11⟩ := hx11b.slp H_iM.out
  have H_hx11a := Lib.hid hx11a
  clear hx11a
  have H_hx11b := Lib.hid hx11b
  clear hx11b
  clear hs11 c11 d11
  simp only [World.size_alloc, World.size_setCell] at hz11
  have A11 := fun j => (hW11.cell (p := ⟨w2.heap.size, j, none⟩) (by show w2.heap.size < _; (try simp only [World.size_alloc, World.size_setCell]); omega)).trans ((World.cell?_alloc_past _ _ _ (by omega)).trans (A10 j))
  have N11 := fun j => (hW11.frozen (p := ⟨w2.heap.size, j, none⟩) (by show w2.heap.size < _; (try simp only [World.size_alloc, World.size_setCell]); omega)).trans ((World.frozen?_alloc_past _ _ _ (by omega)).trans (N10 j))
  have F11 := fun j => (hW11.cell (p := ⟨w3.heap.size, j, none⟩) (by show w3.heap.size < _; (try simp only [World.size_alloc, World.size_setCell]); omega)).trans ((World.cell?_alloc_past _ _ _ (by omega)).trans (F10 j))
  have M11 := fun j => (hW11.frozen (p := ⟨w3.heap.size, j, none⟩) (by show w3.heap.size < _; (try simp only [World.size_alloc, World.size_setCell]); omega)).trans ((World.frozen?_alloc_past _ _ _ (by omega)).trans (M10 j))
  clear A10 N10 F10 M10 b0 b1 b2 b3 b4
  have e11_1 : Below w1.heap.size w1 w11 := below_via H_G10.out hW11
  clear H_G10 H_S10 hW11 hb10
  have G11 := e11_1.setCell (p := ⟨w2.heap.size, 0, none⟩) te2_1 (.slice oa11 lM.length cap11)
  obtain ⟨_, _, _, _, b4⟩ := H_hQ.out _ G11
  have H_G11 := Lib.hid G11
  clear G11
  obtain ⟨n, hn⟩ : ∃ n : Int, (m.c.1 : Int) = n := ⟨_, rfl⟩
  obtain ⟨a, ha⟩ : ∃ a : Int, atI m.c.2 = a := ⟨_, rfl⟩
  have cX := rsix_any m n a (w11.setCell ⟨w2.heap.size, 0, none⟩ (.slice oa11 lM.length cap11)) H_im.out hn ((atZ_atI _).trans ha)
  have H_hn := Lib.hid hn
  clear hn
  have H_ha := Lib.hid ha
  clear ha
  have H_cX := Lib.hid cX
  clear cX
  go_wp2_with fail
  refine (H_cX.out).mono ?_
  rintro _ w12 ⟨rfl, hW12⟩
  have hz12 := hW12.size
  simp only [World.size_alloc, World.size_setCell] at hz12
  have e12_1 : Below w1.heap.size w1 w12 := below_via H_G11.out hW12
  have hb12 : Below w.heap.size w w12 := below_via (hb11.setCell (p := ⟨w2.heap.size, 0, none⟩) t2 _) hW12
  have A12 := fun j => (hW12.cell (p := ⟨w2.heap.size, j, none⟩) (by show w2.heap.size < _; (try simp only [World.size_alloc, World.size_setCell]); omega)).trans (one_set A11 j)
  have N12 := fun j => (hW12.frozen (p := ⟨w2.heap.size, j, none⟩) (by show w2.heap.size < _; (try simp only [World.size_alloc, World.size_setCell]); omega)).trans ((World.frozen?_setCell _ _ _ _).trans (N11 j))
  have F12 := fun j => (hW12.cell (p := ⟨w3.heap.size, j, none⟩) (by show w3.heap.size < _; (try simp only [World.size_alloc, World.size_setCell]); omega)).trans (oth_set F11 (by omega) j)
  have M12 := fun j => (hW12.frozen (p := ⟨w3.heap.size, j, none⟩) (by show w3.heap.size < _; (try simp only [World.size_alloc, World.size_setCell]); omega)).trans ((World.frozen?_setCell _ _ _ _).trans (M11 j))
  have E12 : ErrAt 308 119 ea (w10.heap.size + 1) w12 x11 cM := by
    have h := (H_hx11a.out.set ⟨w2.heap.size, 0, none⟩ (.slice oa11 lM.length cap11) (by show w2.heap.size < _; rw [World.size_alloc]; omega) (Nat.le_refl _)).keep hW12 rfl (Nat.le_refl _)
    rwa [World.size_alloc] at h
  have O12 : OwnP w12 (w10.heap.size + 1) 102 (.slice oa11 lM.length cap11) lM := by
    have h := own_below (own_set H_hx11b.out ⟨w2.heap.size, 0, none⟩ (.slice oa11 lM.length cap11) (by show w2.heap.size < _; rw [World.size_alloc]; omega)) hW12
    rwa [World.size_alloc] at h
  clear A11 N11 F11 M11 b4 H_cX H_G11 hW12 H_hx11a H_hx11b hb11
  have q3 : w3.heap.size < w10.heap.size + 1 := by omega
  have q2 : w2.heap.size < w3.heap.size := by omega
  have E13 := (E12.set ⟨w3.heap.size, 0, none⟩ (.int .i64 n) q3 (Nat.le_refl _)).set ⟨w3.heap.size, 1, none⟩ (.int .i64 a) q3 (Nat.le_refl _)
  have O13 := own_set (own_set O12 ⟨w3.heap.size, 0, none⟩ (.int .i64 n) q3) ⟨w3.heap.size, 1, none⟩ (.int .i64 a) q3
  have G13 := (e12_1.setCell (p := ⟨w3.heap.size, 0, none⟩) (by show w1.heap.size ≤ w3.heap.size; omega) (.int .i64 n)).setCell (p := ⟨w3.heap.size, 1, none⟩) (by show w1.heap.size ≤ w3.heap.size; omega) (.int .i64 a)
  have B13 := (hb12.setCell (p := ⟨w3.heap.size, 0, none⟩) (by show w.heap.size ≤ w3.heap.size; omega) (.int .i64 n)).setCell (p := ⟨w3.heap.size, 1, none⟩) (by show w.heap.size ≤ w3.heap.size; omega) (.int .i64 a)
  have s12 : w10.heap.size + 1 ≤ w12.heap.size := by omega
  clear E12 O12
  have H_E13 := Lib.hid E13
  clear E13
  have H_O13 := Lib.hid O13
  clear O13
  have H_G13 := Lib.hid G13
  clear G13
  have H_B13 := Lib.hid B13
  clear B13
  by_cases hm : m.c.1 = 0
  · have hm0 : m.c = (0, none) := by
      rcases (firstF_some (l := m.l) (k := 0) : m.c = (0, none) ∨ m.c.1 ≠ 0) with k | k
      · exact k
      · exact absurd hm k
    obtain rfl : n = 0 := by rw [← H_hn.out, hm0]; rfl
    obtain rfl : a = -1 := by rw [← H_ha.out, hm0]; rfl
    obtain ⟨n2, hn2⟩ : ∃ n : Int, ((shC ps).1 : Int) = n := ⟨_, rfl⟩
    obtain ⟨a2, ha2⟩ : ∃ a : Int, atI (shC ps).2 = a := ⟨_, rfl⟩
    have cY := rshapefault_c ps oa len cap n2 a2 _ (H_hs.out.keep H_B13.out rfl) hn2 ha2
    have H_hm := Lib.hid hm
    clear hm
    have H_hm0 := Lib.hid hm0
    clear hm0
    have H_hn2 := Lib.hid hn2
    clear hn2
    have H_ha2 := Lib.hid ha2
    clear ha2
    have H_cY := Lib.hid cY
    clear cY
    go_wp2_with fail
    refine (H_cY.out).mono ?_
    rintro _ w14 ⟨rfl, hW14⟩
    have hz14 := hW14.size
    simp only [World.size_alloc, World.size_setCell] at hz14
    have e14_1 : Below w1.heap.size w1 w14 := below_via H_G13.out hW14
    have hb14 : Below w.heap.size w w14 := below_via H_B13.out hW14
    have A14 := fun j => (hW14.cell (p := ⟨w2.heap.size, j, none⟩) (by show w2.heap.size < _; (try simp only [World.size_alloc, World.size_setCell]); omega)).trans (oth_set (oth_set A12 (by omega)) (by omega) j)
    have N14 := fun j => (hW14.frozen (p := ⟨w2.heap.size, j, none⟩) (by show w2.heap.size < _; (try simp only [World.size_alloc, World.size_setCell]); omega)).trans ((World.frozen?_setCell _ _ _ _).trans ((World.frozen?_setCell _ _ _ _).trans (N12 j)))
    have F14 := fun j => (hW14.cell (p := ⟨w3.heap.size, j, none⟩) (by show w3.heap.size < _; (try simp only [World.size_alloc, World.size_setCell]); omega)).trans (set2 F12 _ _ j)
    have M14 := fun j => (hW14.frozen (p := ⟨w3.heap.size, j, none⟩) (by show w3.heap.size < _; (try simp only [World.size_alloc, World.size_setCell]); omega)).trans ((World.frozen?_setCell _ _ _ _).trans ((World.frozen?_setCell _ _ _ _).trans (M12 j)))
    have E14 := H_E13.out.keep hW14 rfl (Nat.le_refl _)
    have O14 := own_below H_O13.out hW14
    clear A12 N12 F12 M12 H_cY H_E13 H_O13 H_G13 H_B13 hW14 e12_1 hb12
    have E15 := (E14.set ⟨w3.heap.size, 0, none⟩ (.int .i64 n2) q3 (Nat.le_refl _)).set ⟨w3.heap.size, 1, none⟩ (.int .i64 a2) q3 (Nat.le_refl _)
    have O15 := own_set (own_set O14 ⟨w3.heap.size, 0, none⟩ (.int .i64 n2) q3) ⟨w3.heap.size, 1, none⟩ (.int .i64 a2) q3
    have G15 := (e14_1.setCell (p := ⟨w3.heap.size, 0, none⟩) (by show w1.heap.size ≤ w3.heap.size; omega) (.int .i64 n2)).setCell (p := ⟨w3.heap.size, 1, none⟩) (by show w1.heap.size ≤ w3.heap.size; omega) (.int .i64 a2)
    have B15 := (hb14.setCell (p := ⟨w3.heap.size, 0, none⟩) (by show w.heap.size ≤ w3.heap.size; omega) (.int .i64 n2)).setCell (p := ⟨w3.heap.size, 1, none⟩) (by show w.heap.size ≤ w3.heap.size; omega) (.int .i64 a2)
    clear E14 O14
    have H_E15 := Lib.hid E15
    clear E15
    have H_O15 := Lib.hid O15
    clear O15
    have H_G15 := Lib.hid G15
    clear G15
    have H_B15 := Lib.hid B15
    clear B15
    by_cases hs0 : (shC ps).1 = 0
    · have hs2 : shC ps = (0, none) := by
        rcases shC_some ps with k | k
        · exact k
        · exact absurd hs0 k
      obtain rfl : n2 = 0 := by rw [← H_hn2.out, hs2]; rfl
      obtain rfl : a2 = -1 := by rw [← H_ha2.out, hs2]; rfl
      have hcm : cM = movF m ps 0 := by rw [← H_hcM.out]; exact (if_pos H_hm0.out).trans (if_pos hs2)
      have hlm : lM = if movF m ps 0 = (0, none) then ps.map (mvPt m) else [] := by rw [← H_hlM.out, ← hcm, ← H_hcM.out]; rfl
      have cZ := rmoved_any m ps oa len cap _ (Mv.c_0 H_hm0.out) (H_hs.out.keep H_B15.out rfl) hs2
      rw [← hcm] at hlm
      rw [← hcm] at cZ
      rw [← hlm] at cZ
      obtain ⟨_, _, _, _, b4⟩ := H_hQ.out _ H_G15.out
      have H_hs0 := Lib.hid hs0
      clear hs0
      have H_hs2 := Lib.hid hs2
      clear hs2
      have H_hcm := Lib.hid hcm
      clear hcm
      have H_hlm := Lib.hid hlm
      clear hlm
      have H_cZ := Lib.hid cZ
      clear cZ
      go_wp2_with fail
      refine (H_cZ.out).mono ?_
      rintro _ w16 ⟨v16, rfl, hv16, hW16⟩
      have hz16 := hW16.size
      simp only [World.size_alloc, World.size_setCell] at hz16
      obtain ⟨oa16, cap16, rfl, hs16⟩ := hv16.slp H_iM.out
      clear hs16 b4
      have e16_1 : Below w1.heap.size w1 w16 := below_via H_G15.out hW16
      have hb16 : Below w.heap.size w w16 := below_via H_B15.out hW16
      have A16 := fun j => (hW16.cell (p := ⟨w2.heap.size, j, none⟩) (by show w2.heap.size < _; (try simp only [World.size_alloc, World.size_setCell]); omega)).trans (oth_set (oth_set A14 (by omega)) (by omega) j)
      have N16 := fun j => (hW16.frozen (p := ⟨w2.heap.size, j, none⟩) (by show w2.heap.size < _; (try simp only [World.size_alloc, World.size_setCell]); omega)).trans ((World.frozen?_setCell _ _ _ _).trans ((World.frozen?_setCell _ _ _ _).trans (N14 j)))
      have F16 := fun j => (hW16.cell (p := ⟨w3.heap.size, j, none⟩) (by show w3.heap.size < _; (try simp only [World.size_alloc, World.size_setCell]); omega)).trans (set2 F14 _ _ j)
      have M16 := fun j => (hW16.frozen (p := ⟨w3.heap.size, j, none⟩) (by show w3.heap.size < _; (try simp only [World.size_alloc, World.size_setCell]); omega)).trans ((World.frozen?_setCell _ _ _ _).trans ((World.frozen?_setCell _ _ _ _).trans (M14 j)))
      have E16 := H_E15.out.keep hW16 rfl (Nat.le_refl _)
      have O16 := own_below H_O15.out hW16
      have P16 := own_base hv16 (show w10.heap.size + 1 ≤ _ by rw [World.size_setCell, World.size_setCell]; omega)
      clear A14 N14 F14 M14 H_cZ H_E15 H_O15 H_G15 H_B15 hW16 e14_1 hb14 hv16
      have E17 := (E16.set ⟨w3.heap.size, 0, none⟩ (.int .i64 cM.1) q3 (Nat.le_refl _)).set ⟨w3.heap.size, 1, none⟩ (.int .i64 (atI cM.2)) q3 (Nat.le_refl _)
      have O17 := own_set (own_set O16 ⟨w3.heap.size, 0, none⟩ (.int .i64 cM.1) q3) ⟨w3.heap.size, 1, none⟩ (.int .i64 (atI cM.2)) q3
      have P17 := own_set (own_set P16 ⟨w3.heap.size, 0, none⟩ (.int .i64 cM.1) q3) ⟨w3.heap.size, 1, none⟩ (.int .i64 (atI cM.2)) q3
      clear E16 O16 P16
      have H_E17 := Lib.hid E17
      clear E17
      have H_O17 := Lib.hid O17
      clear O17
      have H_P17 := Lib.hid P17
      clear P17
      go_wp2_with fail
      refine call_bel (w := w) (by repeat' (first | (with_reducible first | exact bwR _ _ | assumption | refine bdn ?_ | refine bwA ?_ ?_ _ | refine bwD ?_ | refine bwS ?_ ?_ _) | omega | (simp <;> omega))) (fun HB => faulted2_any ea cM _ _ _ (w10.heap.size + 1) _ (H_E17.out) (H_hS.out.keep HB rfl) H_zM.out (rfl) (rfl)) ?_
      intro w18 hb18 hz18 c18 d18 hW18
      clear c18 d18
      simp only [World.size_alloc, World.size_setCell] at hz18
      have A18 := fun j => (hW18.cell (p := ⟨w2.heap.size, j, none⟩) (by show w2.heap.size < _; (try simp only [World.size_alloc, World.size_setCell]); omega)).trans (oth_set (oth_set A16 (by omega)) (by omega) j)
      have N18 := fun j => (hW18.frozen (p := ⟨w2.heap.size, j, none⟩) (by show w2.heap.size < _; (try simp only [World.size_alloc, World.size_setCell]); omega)).trans ((World.frozen?_setCell _ _ _ _).trans ((World.frozen?_setCell _ _ _ _).trans (N16 j)))
      have F18 := fun j => (hW18.cell (p := ⟨w3.heap.size, j, none⟩) (by show w3.heap.size < _; (try simp only [World.size_alloc, World.size_setCell]); omega)).trans (set2 F16 _ _ j)
      have M18 := fun j => (hW18.frozen (p := ⟨w3.heap.size, j, none⟩) (by show w3.heap.size < _; (try simp only [World.size_alloc, World.size_setCell]); omega)).trans ((World.frozen?_setCell _ _ _ _).trans ((World.frozen?_setCell _ _ _ _).trans (M16 j)))
      have S18 := slp_of (own_below H_O17.out hW18) H_iM.out
      have T18 := slp_of (own_below H_P17.out hW18) H_iM.out
      have H_S18 := Lib.hid S18
      clear S18
      have H_T18 := Lib.hid T18
      clear T18
      go_wp2_with fail
      refine call_bel (w := w) (by repeat' (first | (with_reducible first | exact bwR _ _ | assumption | refine bdn ?_ | refine bwA ?_ ?_ _ | refine bwD ?_ | refine bwS ?_ ?_ _) | omega | (simp <;> omega))) (fun _ => same_any lM _ _ _ _ _ _ _ (H_S18.out) (H_T18.out)) ?_
      intro w19 hb19 hz19 c19 d19 hW19
      clear c19 d19
      go_wp2_with fail
      go_returns
      exact ⟨rfl, by repeat' (first | (with_reducible first | exact bwR _ _ | assumption | refine bdn ?_ | refine bwA ?_ ?_ _ | refine bwD ?_ | refine bwS ?_ ?_ _) | omega | (simp <;> omega))⟩
    · have hcm : cM = shC ps := by rw [← H_hcM.out]; exact (if_pos H_hm0.out).trans (if_neg (fun k => hs0 (by rw [k])))
      have hl0 : lM = [] := by rw [← H_hlM.out]; exact movL_no (by rw [H_hcM.out, hcm]; exact hs0)
      have g3 : (n2 == 0) = false := by have := H_hn2.out; rw [beq_eq_false_iff_ne]; omega
      have H_hs0 := Lib.hid hs0
      clear hs0
      have H_hcm := Lib.hid hcm
      clear hcm
      have H_hl0 := Lib.hid hl0
      clear hl0
      go_wp2_with fail
      refine call_bel (w := w) (by repeat' (first | (with_reducible first | exact bwR _ _ | assumption | refine bdn ?_ | refine bwA ?_ ?_ _ | refine bwD ?_ | refine bwS ?_ ?_ _) | omega | (simp <;> omega))) (fun HB => faulted2_any ea cM _ _ _ (w10.heap.size + 1) _ (H_E15.out) (H_hS.out.keep HB rfl) H_zM.out (by rw [H_hcm.out]; exact H_hn2.out) (by rw [H_hcm.out]; exact H_ha2.out)) ?_
      intro w16 hb16 hz16 c16 d16 hW16
      clear c16 d16
      simp only [World.size_alloc, World.size_setCell] at hz16
      have A16 := fun j => (hW16.cell (p := ⟨w2.heap.size, j, none⟩) (by show w2.heap.size < _; (try simp only [World.size_alloc, World.size_setCell]); omega)).trans (oth_set (oth_set A14 (by omega)) (by omega) j)
      have N16 := fun j => (hW16.frozen (p := ⟨w2.heap.size, j, none⟩) (by show w2.heap.size < _; (try simp only [World.size_alloc, World.size_setCell]); omega)).trans ((World.frozen?_setCell _ _ _ _).trans ((World.frozen?_setCell _ _ _ _).trans (N14 j)))
      have F16 := fun j => (hW16.cell (p := ⟨w3.heap.size, j, none⟩) (by show w3.heap.size < _; (try simp only [World.size_alloc, World.size_setCell]); omega)).trans (set2 F14 _ _ j)
      have M16 := fun j => (hW16.frozen (p := ⟨w3.heap.size, j, none⟩) (by show w3.heap.size < _; (try simp only [World.size_alloc, World.size_setCell]); omega)).trans ((World.frozen?_setCell _ _ _ _).trans ((World.frozen?_setCell _ _ _ _).trans (M14 j)))
      have S16 := slp_of (own_below H_O15.out hW16) H_iM.out
      have T16 : SlP w16 none 0 0 lM := by rw [H_hl0.out]; exact slp_of (OwnP.nil w16 0 102) (fun q hq => by cases hq)
      have H_S16 := Lib.hid S16
      clear S16
      have H_T16 := Lib.hid T16
      clear T16
      go_wp2_with fail
      refine call_bel (w := w) (by repeat' (first | (with_reducible first | exact bwR _ _ | assumption | refine bdn ?_ | refine bwA ?_ ?_ _ | refine bwD ?_ | refine bwS ?_ ?_ _) | omega | (simp <;> omega))) (fun _ => same_any lM _ _ _ _ _ _ _ (H_S16.out) (H_T16.out)) ?_
      intro w17 hb17 hz17 c17 d17 hW17
      clear c17 d17
      go_wp2_with fail
      go_returns
      exact ⟨rfl, by repeat' (first | (with_reducible first | exact bwR _ _ | assumption | refine bdn ?_ | refine bwA ?_ ?_ _ | refine bwD ?_ | refine bwS ?_ ?_ _) | omega | (simp <;> omega))⟩
  · have hcm : cM = m.c := by rw [← H_hcM.out]; exact if_neg (fun k => hm (by rw [k]))
    have hl0 : lM = [] := by rw [← H_hlM.out]; exact movL_no (by rw [H_hcM.out, hcm]; exact hm)
    have g3 : (n == 0) = false := by have := H_hn.out; rw [beq_eq_false_iff_ne]; omega
    have H_hm := Lib.hid hm
    clear hm
    have H_hcm := Lib.hid hcm
    clear hcm
    have H_hl0 := Lib.hid hl0
    clear hl0
    go_wp2_with fail
    refine call_bel (w := w) (by repeat' (first | (with_reducible first | exact bwR _ _ | assumption | refine bdn ?_ | refine bwA ?_ ?_ _ | refine bwD ?_ | refine bwS ?_ ?_ _) | omega | (simp <;> omega))) (fun HB => faulted2_any ea cM _ _ _ (w10.heap.size + 1) _ (H_E13.out) (H_hS.out.keep HB rfl) H_zM.out (by rw [H_hcm.out]; exact H_hn.out) (by rw [H_hcm.out]; exact H_ha.out)) ?_
    intro w13 hb13 hz13 c13 d13 hW13
    clear c13 d13
    simp only [World.size_alloc, World.size_setCell] at hz13
    have A13 := fun j => (hW13.cell (p := ⟨w2.heap.size, j, none⟩) (by show w2.heap.size < _; (try simp only [World.size_alloc, World.size_setCell]); omega)).trans (oth_set (oth_set A12 (by omega)) (by omega) j)
    have N13 := fun j => (hW13.frozen (p := ⟨w2.heap.size, j, none⟩) (by show w2.heap.size < _; (try simp only [World.size_alloc, World.size_setCell]); omega)).trans ((World.frozen?_setCell _ _ _ _).trans ((World.frozen?_setCell _ _ _ _).trans (N12 j)))
    have F13 := fun j => (hW13.cell (p := ⟨w3.heap.size, j, none⟩) (by show w3.heap.size < _; (try simp only [World.size_alloc, World.size_setCell]); omega)).trans (set2 F12 _ _ j)
    have M13 := fun j => (hW13.frozen (p := ⟨w3.heap.size, j, none⟩) (by show w3.heap.size < _; (try simp only [World.size_alloc, World.size_setCell]); omega)).trans ((World.frozen?_setCell _ _ _ _).trans ((World.frozen?_setCell _ _ _ _).trans (M12 j)))
    have S13 := slp_of (own_below H_O13.out hW13) H_iM.out
    have T13 : SlP w13 none 0 0 lM := by rw [H_hl0.out]; exact slp_of (OwnP.nil w13 0 102) (fun q hq => by cases hq)
    have H_S13 := Lib.hid S13
    clear S13
    have H_T13 := Lib.hid T13
    clear T13
    go_wp2_with fail
    refine call_bel (w := w) (by repeat' (first | (with_reducible first | exact bwR _ _ | assumption | refine bdn ?_ | refine bwA ?_ ?_ _ | refine bwD ?_ | refine bwS ?_ ?_ _) | omega | (simp <;> omega))) (fun _ => same_any lM _ _ _ _ _ _ _ (H_S13.out) (H_T13.out)) ?_
    intro w14 hb14 hz14 c14 d14 hW14
    clear c14 d14
    go_wp2_with fail
    go_returns
    exact ⟨rfl, by repeat' (first | (with_reducible first | exact bwR _ _ | assumption | refine bdn ?_ | refine bwA ?_ ?_ _ | refine bwD ?_ | refine bwS ?_ ?_ _) | omega | (simp <;> omega))⟩
/-- The statement's call returns true. -/
theorem smk_any (ea : Nat → Addr) (s : ByteArray) (x y u h : Fr) (ps : List Pt) (oa : Option Addr) (len cap : Nat) (m : Mv) (w : World) (ix : x.I) (iy : y.I) (iu : u.I) (ih : h.I) (hs : SlP w oa len cap ps) (im : m.I)
    (hL : Libs w) (hS : Sents ea w) (hng : 20 ≤ w.heap.size) :
    Calls Tryz.prog 6 #[.string s, .agg #[.int .i64 x.n, .int .i64 x.d], .agg #[.int .i64 y.n, .int .i64 y.d], .agg #[.int .i64 u.n, .int .i64 u.d], .agg #[.int .i64 h.n, .int .i64 h.d], .slice oa len cap, .agg #[.int .i64 m.A.n, .int .i64 m.A.d, .int .i64 m.B.n, .int .i64 m.B.d, .int .i64 m.C.n, .int .i64 m.C.d, .int .i64 m.D.n, .int .i64 m.D.d, .int .i64 m.E.n, .int .i64 m.E.d, .int .i64 m.F.n, .int .i64 m.F.d]] w fun e w' => e = .returned (.bool true) ∧ Below w.heap.size w w' := by
  by_cases hb : s.size ≤ 500 ∧ len ≤ 40
  · exact makes_any (gz := true) ea s x y u h ps oa len cap m w ix iy iu ih hs hs.2.2.2.1 im hL hS ⟨hS.c2, hS.c3, fun _ => hS.c11⟩ hng hb.1 hb.2
  · exact makes_long ea s x y u h ps oa len cap m w hS hb
end Go.Proofs.YtpdaenldmgpkjaaGreatDoor
