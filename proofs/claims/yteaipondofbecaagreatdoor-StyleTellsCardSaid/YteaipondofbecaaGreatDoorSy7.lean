/-
  The laws' first lines over styles: styled.
-/
import Derived.Test.YteaipondofbecaaGreatDoorSy6
import Derived.Test.YteaipondofbecaaGreatDoorDq
namespace Lead.Sy
open Go Go.RowKit Lead Lead.Dc Lead.Pk
def sh1 : By := [97, 32, 123, 32, 102, 105, 108, 108, 58, 32, 114, 101, 100, 32, 125, 10]
def ln1 : By := [97, 32, 123, 32, 102, 105, 108, 108, 58, 32, 114, 101, 100, 32, 125]
def ru1 : Ru := ⟨[⟨[97], [], false⟩], [97], nFill, [114, 101, 100]⟩
theorem read_a : readP [97] = some [⟨[97], [], false⟩] := by
  have c1 : cutL 32 [97] = [[97]] := by decide
  have w1 : wantsP [] = some [] := by rw [wantsP]
  have s1 : stepP [97] = some ([97], []) := by
    unfold stepP
    rw [if_neg (by decide), show tailW [97] = [] from by decide, w1]; rfl
  unfold readP
  rw [c1]
  have t1 : rdT [[97]] 1 = some (false, [⟨[97], [], false⟩]) := by
    rw [rdT, rdT]
    show rdStep 0 (false, []) [97] = _
    rw [rdStep_yes (by decide) s1]; rfl
  show (match rdT [[97]] 1 with | none => none | some st => if st.1 = true ∨ 5 < st.2.length then none else some st.2) = _
  rw [t1]
  dsimp only
  rw [if_neg (by simp)]
theorem line_1 : lineP ln1 = some ru1 := by
  have h1 : hdP ln1 = [97] := by decide
  have h2 : lineOk ln1 = true := by decide
  have h3 : naP ln1 = nFill := by decide
  have h4 : vaP ln1 = [114, 101, 100] := by decide
  rw [lineP_yes h2 (by rw [h1]; exact read_a), h1, h3, h4]; rfl
theorem sheet_1 : shC sh1 = (0, none) ∧ shU sh1 = [ru1] := by
  have c1 : cutF 10 sh1 = ([ln1], []) := by decide
  have t1 : shT [ln1] 1 = some [ru1] := by
    have := shT_next (l := [ln1]) (i := 0) (us := []) (u := ru1) rfl (by show lineP ln1 = _; exact line_1)
    exact this
  have := shC_end (s := sh1) (us := [ru1]) (by decide) (by rw [c1]; exact t1) (by rw [c1])
  rw [if_neg (by decide)] at this
  exact this
def nt1 (b : Nat) : NT := .mk ⟨#[97]⟩ none 0 0 [] (some ⟨b, 0, none⟩) 1 1 [.mk ⟨#[98]⟩ none 0 0 [] none 0 0 []]
theorem nt1_ok (w : World) (b : Nat) (hb : b < w.heap.size) (hc : ∀ j, w.cell? ⟨b, j, none⟩ = (#[.string ⟨#[98]⟩, .slice none 0 0, .slice none 0 0] : Array Value)[j]?) : NodeOk w (nt1 b) := by
  refine .mk ⟨rfl, Nat.le_refl _, Nat.zero_le _, .inl rfl⟩ ⟨rfl, Nat.le_refl _, by unfold maxLen; decide, .inr ⟨b, 0, rfl, hb, row_one (vs := #[.string ⟨#[98]⟩, .slice none 0 0, .slice none 0 0]) rfl hc⟩⟩ (fun k hk => ?_)
  rw [List.mem_singleton.1 hk]
  exact .mk ⟨rfl, Nat.le_refl _, Nat.zero_le _, .inl rfl⟩ ⟨rfl, Nat.le_refl _, Nat.zero_le _, .inl rfl⟩ (fun k hk => by cases hk)
def E1 : Els := [(0, ⟨⟨#[97]⟩, [], -1, [1]⟩), (1, ⟨⟨#[98]⟩, [], 0, []⟩)]
theorem nt1_tree (b : Nat) : treeE (nt1 b).rt (-1) 0 = E1 := by
  unfold nt1
  rw [rt_eq]; rfl
theorem nt1_chk (b : Nat) : (chkN (nt1 b).rt 0 1).2 = 0 := by
  have : (nt1 b).rt = .mk ⟨#[97]⟩ [] [.mk ⟨#[98]⟩ [] []] := by unfold nt1; rw [rt_eq]; rfl
  rw [this]; decide
theorem of_1 : ofZ E1 [ru1] 1 nFill = bs [114, 101, 100] ∧ ofZ E1 [ru1] 1 nLevel = bs [48] := by decide
end Lead.Sy
namespace Go.Proofs.YteaipondofbecaaGreatDoor
open Go.RowKit Go.WideMaps Go.Maps Lead Lead.Dc Lead.Pk Lead.Sy
/-- The variables that these laws read. -/
structure SGs (ea : Nat → Addr) (m : Int) (w : World) : Prop where
  e1 : w.cell? ⟨8, 0, none⟩ = some (.iface 330 (.pointer (some (ea 1))))
  e2 : w.cell? ⟨1, 0, none⟩ = some (.iface 330 (.pointer (some (ea 2))))
  c : CGs ea w
  m : w.cell? ⟨12, 0, none⟩ = some (.int .i64 m)
theorem SGs.keep {ea : Nat → Addr} {m : Int} {w w' : World} (h : SGs ea m w) (hb : Below w.heap.size w w') : SGs ea m w' := ⟨gkeep hb h.e1 rfl, gkeep hb h.e2 rfl, h.c.keep hb rfl, gkeep hb h.m rfl⟩
theorem sread_sg (ea : Nat → Addr) (m : Int) (s : By) (w : World) (hl : s.length ≤ 100000) (hG : SGs ea m w) :
    Calls Tryz.prog 27 #[.string (bs s)] w (ReadSh 252 259 140 330 143 ea s w) := sread_any ea m s w hl hG.e1 hG.e2 hG.c.c7 hG.m
set_option maxHeartbeats 4000000 in
set_option maxRecDepth 100000 in
theorem styled_any (ea : Nat → Addr) (m : Int) (w : World) (hG : SGs ea m w) :
    Calls Tryz.prog 26 #[] w fun en w' => en = .returned (.bool true) ∧ Below w.heap.size w w' := by
  have cR := sread_sg ea m sh1 w (by decide) hG
  have hbs : bs sh1 = ⟨#[97, 32, 123, 32, 102, 105, 108, 108, 58, 32, 114, 101, 100, 32, 125, 10]⟩ := rfl
  rw [hbs] at cR
  have H_cR := Lib.hid cR
  clear cR
  have H_hbs := Lib.hid hbs
  clear hbs
  have H_hG := Lib.hid hG
  clear hG
  go_enter Tryz.func26, Tryz.ntmps26
  go_wp2_with fail
  refine (H_cR.out).mono ?_
  rintro en w1 ⟨v, x, rfl, hx, hok, _, hB1⟩
  have hs := sheet_1
  rw [hs.1] at hx hok
  rw [hs.2] at hok
  obtain rfl := hx.nil rfl
  have hv := hok rfl
  clear hx hok hs
  obtain ⟨o, c, rfl⟩ : ∃ o c, v = .slice o 1 c := by
    obtain ⟨xs, h1, _, h3⟩ := hv
    obtain ⟨o, c, h⟩ := ow_form h1
    have := congrArg List.length h3
    rw [List.length_map] at this
    exact ⟨o, c, by rw [h, this]; rfl⟩
  have hG1 := H_hG.out.keep hB1
  have z1 := hB1.size
  have cN := fun (W : World) (hb : Below w1.heap.size w1 W) h1 h2 => new_any ea (nt1 w1.heap.size) W (nt1_ok W w1.heap.size h1 h2) (hG1.c.keep hb rfl)
  have H_cN := Lib.hid cN
  clear cN
  have H_hv := Lib.hid hv
  clear hv
  have H_hG1 := Lib.hid hG1
  clear hG1
  go_wp2_with fail
  refine (H_cN.out _ (by repeat' (first | (with_reducible first | exact bwR _ _ | assumption | refine bdn ?_ | refine bwA ?_ ?_ _ | refine bwD ?_ | refine bwS ?_ ?_ _) | omega | (simp <;> omega))) (by simp) (fun j => World.cell?_alloc_new _ _ _ _)).mono ?_
  rintro en w2 ⟨hb2, hN⟩
  have hB2 : Below w1.heap.size w1 w2 := below_via (by repeat' (first | (with_reducible first | exact bwR _ _ | assumption | refine bdn ?_ | refine bwA ?_ ?_ _ | refine bwD ?_ | refine bwS ?_ ?_ _) | omega | (simp <;> omega))) hb2
  rw [if_pos (nt1_chk _)] at hN
  obtain ⟨bd, F, d, rfl, hF, hD, _⟩ := hN
  rw [nt1_tree] at hD
  clear hF hb2
  have hat : ∀ n e, elAt E1 n = some e → ∀ a ∈ e.attrs, a.2.size ≤ 100000 := fun n e he => by
    have hm := elAt_mem he
    simp only [E1, List.mem_cons, List.not_mem_nil, or_false] at hm
    rcases hm with h | h <;> (injection h with _ h; subst h; exact fun a ha => by cases ha)
  have hne : ∀ n e, elAt E1 n = some e → e.name ≠ ⟨#[]⟩ := fun n e he => by
    have hm := elAt_mem he
    simp only [E1, List.mem_cons, List.not_mem_nil, or_false] at hm
    rcases hm with h | h <;> (injection h with _ h; subst h; decide)
  have hus : RuOk [ru1] := fun u hu => by rw [List.mem_singleton.1 hu]; exact ⟨(fun h => by cases h), by decide⟩
  have cO := fun (nm : By) (W : World) (hb : Below w2.heap.size w2 W) => of_any m bd _ F E1 d w.heap.size (.slice o 1 c) [ru1] 1 nm W (hD.keep hb) hat hne (gkeep (hb) (gkeep hB2 H_hG1.out.m rfl) rfl) ((H_hv.out.keep hB2).keep hb) hus (by unfold I64; omega)
  have c1 := cO nFill
  have c2 := cO nLevel
  rw [of_1.1] at c1
  rw [of_1.2] at c2
  have b1 : bs nFill = ⟨#[102, 105, 108, 108]⟩ := rfl
  have b2 : bs nLevel = ⟨#[108, 101, 118, 101, 108]⟩ := rfl
  have b3 : bs [114, 101, 100] = ⟨#[114, 101, 100]⟩ := rfl
  have b4 : bs [48] = ⟨#[48]⟩ := rfl
  rw [b1, b3] at c1
  rw [b2, b4] at c2
  have q1 : ((ByteArray.mk #[114, 101, 100]).toList == [114, 101, 100]) = true := by rw [ByteArray.toList_eq]; rfl
  have q2 : ((ByteArray.mk #[48]).toList == [48]) = true := by rw [ByteArray.toList_eq]; rfl
  clear cO hat hne hus b1 b2 b3 b4 hD
  have H_c1 := Lib.hid c1
  clear c1
  have H_c2 := Lib.hid c2
  clear c2
  go_wp2_with fail
  refine (H_c1.out _ (by repeat' (first | (with_reducible first | exact bwR _ _ | assumption | refine bdn ?_ | refine bwA ?_ ?_ _ | refine bwD ?_ | refine bwS ?_ ?_ _) | omega | (simp <;> omega)))).mono ?_
  rintro _ w3 ⟨rfl, hb3⟩
  have hB3 : Below w2.heap.size w2 w3 := below_via (by repeat' (first | (with_reducible first | exact bwR _ _ | assumption | refine bdn ?_ | refine bwA ?_ ?_ _ | refine bwD ?_ | refine bwS ?_ ?_ _) | omega | (simp <;> omega))) hb3
  clear hb3
  go_wp2_with fail
  refine (H_c2.out _ hB3).mono ?_
  rintro _ w4 ⟨rfl, hb4⟩
  have hB4 : Below w.heap.size w w4 := below_via (below_via (below_via hB1 hB2) hB3) hb4
  clear hb4
  go_wp2_with fail
  go_returns
  exact ⟨rfl, hB4⟩
end Go.Proofs.YteaipondofbecaaGreatDoor
