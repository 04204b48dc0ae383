/-
  Walks: the reference's FracMake; plain: what is read is the text.
-/
import Derived.Test.YthijgncjaophjaaDoorDec6
import Derived.Test.YthijgncjaophjaaDoorDec9
import Derived.Test.YthijgncjaophjaaDoorRef3
import Derived.Test.YthijgncjaophjaaDoorDec2
namespace Lead
open Go Go.RowKit
theorem rd_I {l : List UInt8} {n d : Int} (h : rdP l = some (n, d)) : I64 n ∧ I64 d := by
  rcases rdf_cases l with ⟨_, hP⟩ | ⟨m, hn, ⟨hb, hP⟩ | ⟨_, _, hP⟩ | ⟨_, _, hP⟩ | ⟨_, _, _, _, _, hP⟩ | ⟨e, hb, hd, hd1, hm, hne, hP⟩⟩
  · rw [hP] at h; cases h
  · rw [hP] at h
    obtain ⟨rfl, rfl⟩ := Prod.mk.inj (Option.some.inj h)
    have := (numS_itoa hn).2.2
    unfold I64; omega
  · rw [hP] at h; cases h
  · rw [hP] at h; cases h
  · rw [hP] at h; cases h
  · rw [hP] at h
    obtain ⟨rfl, rfl⟩ := Prod.mk.inj (Option.some.inj h)
    have := (numS_itoa hn).2.2
    have := (numS_itoa hd).2.2
    unfold I64; omega
theorem lowC_le2 (x y : Int) : lowC x y ≤ 11 := by
  rcases lowC_cases x y with ⟨_, h⟩ | ⟨_, _, h⟩ | ⟨_, _, h⟩ <;> omega
theorem chk_le11 (n d : Int) : chk n d ≤ 11 := by
  rcases chk_cases n d with ⟨_, h⟩ | ⟨_, _, h⟩ | ⟨_, _, _, h⟩ | ⟨_, _, _, _, h⟩ | ⟨_, _, _, _, h⟩ <;> omega
theorem mkC_le (n d : Int) : mkC n d ≤ 11 := by
  rcases mkC_cases n d with ⟨_, h⟩ | ⟨_, _, h⟩ | ⟨_, _, _, h⟩ | ⟨_, _, _, h⟩
  · omega
  · omega
  · omega
  · rw [h]; exact lowC_le2 _ _
theorem rdC_le (l : List UInt8) : rdC l ≤ 11 := by
  unfold rdC
  split
  · decide
  · exact chk_le11 _ _
theorem bothC_le11 (n d n' d' : Int) : bothC n d n' d' ≤ 11 := by
  unfold bothC; split
  · exact chk_le11 _ _
  · exact chk_le11 _ _
end Lead
namespace Go.Proofs.YthijgncjaophjaaDoor
open Go.RowKit Lead
theorem rd_text {l : List UInt8} {n d : Int} (h : rdP l = some (n, d)) : txtF n d = l := by
  rcases rdf_cases l with ⟨_, hP⟩ | ⟨m, hn, ⟨hb, hP⟩ | ⟨_, _, hP⟩ | ⟨_, _, hP⟩ | ⟨_, _, _, _, _, hP⟩ | ⟨e, hb, hd, hd1, hm, hne, hP⟩⟩
  · rw [hP] at h; cases h
  · rw [hP] at h
    obtain ⟨rfl, rfl⟩ := Prod.mk.inj (Option.some.inj h)
    rw [cut1_no 47 l hb] at hn
    unfold txtF
    rw [if_pos rfl]
    exact (numS_itoa hn).1.symm
  · rw [hP] at h; cases h
  · rw [hP] at h; cases h
  · rw [hP] at h; cases h
  · rw [hP] at h
    obtain ⟨rfl, rfl⟩ := Prod.mk.inj (Option.some.inj h)
    unfold txtF
    rw [if_neg hd1, ← (numS_itoa hn).1, ← (numS_itoa hd).1]
    exact (cut1_yes 47 l hb).symm

set_option maxHeartbeats 1000000 in
theorem rfracmake_any (n d : Int) (w : World) :
    Calls Tryd.prog 44 #[.int .i64 n, .int .i64 d] w fun e w' => e = .returned (frN (mkC n d) (lowN n d) (lowD n d)) ∧ Below w.heap.size w w' := by
  rcases mkC_cases n d with ⟨h1, hc⟩ | ⟨h1, h2, hc⟩ | ⟨h1, h2, h3, hc⟩ | ⟨h1, h2, h3, hc⟩
  · have h1' : (d == 0) = true := by simp [h1]
    rw [hc, frN_n (by decide)]
    have H_hc := Lib.hid hc
    clear hc
    have H_h1 := Lib.hid h1
    clear h1
    go_enter Tryd.func44, Tryd.ntmps44
    go_wp2_with fail
    refine bodyPost_ret (by simp [results, Tryd.results44, go_sem, *]; try rfl) rfl ?_
    exact ⟨rfl, by repeat' (first | (with_reducible exact Below.refl _ _) | (with_reducible assumption) | (with_reducible refine bdn ?_) | (with_reducible refine Below.alloc ?_ ?_ _) | (with_reducible refine Below.drew ?_) | (with_reducible refine Below.setCell ?_ ?_ _) | omega | (simp <;> omega))⟩
  · have h1' : (d == 0) = false := by simp [h1]
    rw [hc, frN_n (by decide)]
    obtain ⟨b, hb⟩ : ∃ b, sml d = b := ⟨_, rfl⟩
    have H_hc := Lib.hid hc
    clear hc
    have H_h1 := Lib.hid h1
    clear h1
    go_enter Tryd.func44, Tryd.ntmps44
    go_wp2_with fail
    refine (rsmall_b _ _ _ h2).mono ?_
    rintro _ _ ⟨rfl, rfl⟩
    go_wp2_with fail
    refine (rsmall_b _ _ _ hb).mono ?_
    rintro _ _ ⟨rfl, rfl⟩
    go_wp2_with fail
    refine bodyPost_ret (by simp [results, Tryd.results44, go_sem, *]; try rfl) rfl ?_
    exact ⟨rfl, by repeat' (first | (with_reducible exact Below.refl _ _) | (with_reducible assumption) | (with_reducible refine bdn ?_) | (with_reducible refine Below.alloc ?_ ?_ _) | (with_reducible refine Below.drew ?_) | (with_reducible refine Below.setCell ?_ ?_ _) | omega | (simp <;> omega))⟩
  · have h1' : (d == 0) = false := by simp [h1]
    rw [hc, frN_n (by decide)]
    have H_hc := Lib.hid hc
    clear hc
    have H_h1 := Lib.hid h1
    clear h1
    go_enter Tryd.func44, Tryd.ntmps44
    go_wp2_with fail
    refine (rsmall_b _ _ _ h2).mono ?_
    rintro _ _ ⟨rfl, rfl⟩
    go_wp2_with fail
    refine (rsmall_b _ _ _ h3).mono ?_
    rintro _ _ ⟨rfl, rfl⟩
    go_wp2_with fail
    refine bodyPost_ret (by simp [results, Tryd.results44, go_sem, *]; try rfl) rfl ?_
    exact ⟨rfl, by repeat' (first | (with_reducible exact Below.refl _ _) | (with_reducible assumption) | (with_reducible refine bdn ?_) | (with_reducible refine Below.alloc ?_ ?_ _) | (with_reducible refine Below.drew ?_) | (with_reducible refine Below.setCell ?_ ?_ _) | omega | (simp <;> omega))⟩
  · have h1' : (d == 0) = false := by simp [h1]
    have H1 := sml_b62 h2
    have H2 := sml_b62 h3
    rw [hc]
    have H_hc := Lib.hid hc
    clear hc
    have H_h1 := Lib.hid h1
    clear h1
    go_enter Tryd.func44, Tryd.ntmps44
    go_wp2_with fail
    refine (rsmall_b _ _ _ h2).mono ?_
    rintro _ _ ⟨rfl, rfl⟩
    go_wp2_with fail
    refine (rsmall_b _ _ _ h3).mono ?_
    rintro _ _ ⟨rfl, rfl⟩
    go_wp2_with fail
    refine call_bel (w := w) (by repeat' (first | (with_reducible exact Below.refl _ _) | (with_reducible assumption) | (with_reducible refine bdn ?_) | (with_reducible refine Below.alloc ?_ ?_ _) | (with_reducible refine Below.drew ?_) | (with_reducible refine Below.setCell ?_ ?_ _) | omega | (simp <;> omega))) (fun HB => rlowest_any n d _ H1 H2 H_h1.out) ?_
    intro w1 hb1 hz1 c1 d1 hW1
    have t1 := hb1.size
    try simp only [World.size_alloc] at hz1 c1 d1
    try simp only [World.size_drew] at hz1 c1 d1
    try simp only [World.size_setCell] at hz1 c1 d1
    try simp only [World.heap_drewN] at hz1 c1 d1
    try simp only [World.size_alloc] at hz1 c1 d1
    try simp only [World.size_drew] at hz1 c1 d1
    try simp only [World.size_setCell] at hz1 c1 d1
    have s1_0 : w.heap.size < w1.heap.size := by omega
    have o1_0 := fun j => c1 (w.heap.size) j (by omega)
    have f1_0 := fun j => d1 (w.heap.size) j (by omega)
    clear c1 d1 hz1 hW1
    rw [frN]
    go_wp2_with fail
    refine bodyPost_ret (by simp [results, Tryd.results44, go_sem, *]; try rfl) rfl ?_
    exact ⟨rfl, by repeat' (first | (with_reducible exact Below.refl _ _) | (with_reducible assumption) | (with_reducible refine bdn ?_) | (with_reducible refine Below.alloc ?_ ?_ _) | (with_reducible refine Below.drew ?_) | (with_reducible refine Below.setCell ?_ ?_ _) | omega | (simp <;> omega))⟩
end Go.Proofs.YthijgncjaophjaaDoor
