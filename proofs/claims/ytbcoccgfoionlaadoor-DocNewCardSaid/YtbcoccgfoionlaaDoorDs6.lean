/-
  Plain: laying keeps the numbers apart; a node that the check lets pass is fine through and through.
-/
import Derived.Test.YtbcoccgfoionlaaDoorDs5
import Derived.Test.YtbcoccgfoionlaaDoorNd2
namespace Lead.Dc
/-- The numbers of a document that is being laid. -/
structure LOk (s : Els × Nat) : Prop where
  lt : ∀ x ∈ s.1.map (·.1), x < s.2
  nd : (s.1.map (·.1)).Nodup
theorem LOk.none {s : Els × Nat} (h : LOk s) {n : Nat} (hn : s.2 ≤ n) : elAt s.1 n = none := elAt_none fun hk => by have := h.lt n hk; omega
theorem LOk.nin {s : Els × Nat} (h : LOk s) : s.2 ∉ s.1.map (·.1) := fun hk => by have := h.lt _ hk; omega
theorem LOk.put {s : Els × Nat} (h : LOk s) (e : El) : LOk (s.1 ++ [(s.2, e)], s.2 + 1) := by
  refine ⟨fun x hx => ?_, ?_⟩
  · rw [List.map_append, List.mem_append] at hx
    rcases hx with hx | hx
    · have := h.lt x hx; show x < s.2 + 1; omega
    · have : x = s.2 := by simpa using hx
      show x < s.2 + 1; omega
  · rw [List.map_append]
    refine List.nodup_append.2 ⟨h.nd, by simp, fun a ha b hb => ?_⟩
    have : b = s.2 := by simpa using hb
    have := h.lt a ha; omega
theorem LOk.layN {s : Els × Nat} (h : LOk s) (n : RT) (p : Int) : LOk (layN n p s) ∧ (Dc.layN n p s).2 = s.2 + n.cnt ∧ ∀ x, x < s.2 → elAt (Dc.layN n p s).1 x = elAt s.1 x := by
  obtain ⟨E, next⟩ := s
  have h1 := layN_eq n p E next h.lt
  obtain ⟨_, tk⟩ := treeE_ok n p next 1
  rw [h1]
  refine ⟨⟨fun x hx => ?_, ?_⟩, rfl, fun x hx => ?_⟩
  · rw [List.map_append, List.mem_append, tk.keys, List.mem_range'_1] at hx
    rcases hx with hx | hx
    · have := h.lt x hx; show x < next + n.cnt; have h2 : x < next := this; omega
    · show x < next + n.cnt; omega
  · show ((E ++ treeE n p next).map (·.1)).Nodup
    rw [List.map_append, tk.keys]
    refine List.nodup_append.2 ⟨h.nd, List.nodup_range', fun a ha b hb => ?_⟩
    rw [List.mem_range'_1] at hb
    have : a < next := h.lt a ha
    omega
  · show elAt (E ++ treeE n p next) x = elAt E x
    rw [elAt_app]
    have : elAt (treeE n p next) x = Option.none := elAt_none fun hk => by
      rw [tk.keys, List.mem_range'_1] at hk
      have : x < next := hx
      omega
    rw [this]
    cases elAt E x <;> rfl
theorem LOk.upd {s : Els × Nat} (h : LOk s) (n : Nat) (f : El → El) : LOk (Dc.upd s.1 n f, s.2) := ⟨fun x hx => h.lt x (by rw [upd_keys] at hx; exact hx), by show ((Dc.upd s.1 n f).map (·.1)).Nodup; rw [upd_keys]; exact h.nd⟩
theorem LOk.layL : ∀ (l : List RT) (k : Nat) {s : Els × Nat}, LOk s → LOk (layL l k s) ∧ (Dc.layL l k s).2 = s.2 + RT.cntL l
  | [], k, s, h => ⟨h, rfl⟩
  | x :: r, k, s, h => by
    have h1 := h.layN x (k : Int)
    have h2 := LOk.layL r k (h1.1.upd k (fun e => { e with kids := e.kids ++ [s.2] }))
    refine ⟨h2.1, ?_⟩
    show (Dc.layL r k _).2 = _
    rw [h2.2]
    show (Dc.layN x (k : Int) s).2 + RT.cntL r = _
    rw [h1.2.1, RT.cntL]; omega
theorem cntL_take (l : List RT) (k : Nat) : RT.cntL (l.take k) ≤ RT.cntL l := by
  have h := cntL_app (l.take k) (l.drop k)
  rw [List.take_append_drop] at h
  omega
theorem cnt_kid {ks : List NT} {k : Nat} (h : k < ks.length) : RT.cntL (NT.rtL (ks.take k)) + ks[k].rt.cnt ≤ RT.cntL (NT.rtL ks) := by
  have h1 := cntL_take (NT.rtL ks) (k + 1)
  rw [← rtL_take, List.take_succ_eq_append_getElem h, rtL_map, List.map_append, List.map_cons, List.map_nil, cntL_app, ← rtL_map] at h1
  simp only [RT.cntL] at h1
  omega
/-- A node that is fine: its name, how many attributes. -/
inductive Fine : NT → Prop
  | mk {name : ByteArray} {ao : Option Go.Addr} {al ac : Nat} {attrs : List (ByteArray × ByteArray)} {ko : Option Go.Addr} {kl kc : Nat} {kids : List NT} :
      nmOk name = true → attrs.length ≤ 12 → (∀ k ∈ kids, Fine k) → Fine (.mk name ao al ac attrs ko kl kc kids)
theorem chkL_each : ∀ (ks : List NT) (i deep : Nat), (chkL (NT.rtL ks) i deep).2 = 0 → ∀ k ∈ ks, ∃ i', (chkN k.rt i' deep).2 = 0
  | [], _, _, _, k, hk => by cases hk
  | x :: r, i, deep, h, k, hk => by
    rw [NT.rtL, chkL] at h
    by_cases h0 : (chkN x.rt i deep).2 ≠ 0
    · rw [if_pos h0] at h; exact absurd h h0
    · rw [if_neg h0] at h
      rcases List.mem_cons.1 hk with rfl | hk
      · exact ⟨i, Decidable.not_not.1 h0⟩
      · exact chkL_each r _ deep h k hk
theorem fine_of : ∀ (s : Nat) (n : NT) (i deep : Nat), SizeOf.sizeOf n < s → (chkN n.rt i deep).2 = 0 → Fine n := by
  intro s
  induction s with
  | zero => intro n i deep h; omega
  | succ s ih =>
    intro n i deep hs h
    obtain ⟨nm, ao, al, ac, ats, ko, kl, kc, ks⟩ := n
    rw [rt_eq] at h
    show Fine (.mk nm ao al ac ats ko kl kc ks)
    rw [chkN] at h
    by_cases h0 : nodeE nm ats i deep ≠ 0
    · have : (if nodeE nm ats i deep ≠ 0 then (i, nodeE nm ats i deep) else chkL (NT.rtL ks) (i + 1) (deep + 1)).2 = 0 := h
      rw [if_pos h0] at this
      exact absurd this h0
    · have h1 : (if nodeE nm ats i deep ≠ 0 then (i, nodeE nm ats i deep) else chkL (NT.rtL ks) (i + 1) (deep + 1)).2 = 0 := h
      rw [if_neg h0] at h1
      have h2 := Decidable.not_not.1 h0
      unfold nodeE at h2
      have hN : nmOk nm = true := by
        by_cases hx : nmOk nm = false
        · split at h2
          · cases h2
          · split at h2
            · cases h2
            · first | cases h2 | (rw [if_pos hx] at h2; cases h2)
        · simpa using hx
      have hA : ats.length ≤ 12 := by
        rcases Nat.lt_or_ge 12 ats.length with hx | hx
        · split at h2
          · cases h2
          · split at h2
            · cases h2
            · try rw [if_neg (by rw [hN]; simp)] at h2
              unfold atE at h2
              rw [if_pos hx] at h2; cases h2
        · exact hx
      refine .mk hN hA fun k hk => ?_
      obtain ⟨i', hi'⟩ := chkL_each ks _ _ h1 k hk
      exact ih k i' (deep + 1) (by have := kid_less (n := .mk nm ao al ac ats ko kl kc ks) hk; omega) hi'
end Lead.Dc
