/-
  strings.IndexAny at any bytes, where what is looked for is ASCII: walked over what the library has for ASCII texts.
-/
import Derived.Test.YteaipondofbecaaGreatDoorShelf
import Derived.Test.YteaipondofbecaaGreatDoorChecked
import Derived.Test.YteaipondofbecaaGreatDoorPa
import Derived.Laws.RangeAny
import Derived.Lib.IndexAny
import Derived.WalkMore
import Derived.Lib.OthersKept
namespace Lead
open Go Go.RowKit
theorem decode_cont (s : ByteArray) (pos : Nat) (h : pos < s.size) : 1 ≤ (Utf8.decode s pos).2 ∧ pos + (Utf8.decode s pos).2 ≤ s.size ∧ ∀ j, 0 < j → j < (Utf8.decode s pos).2 → 128 ≤ (s.get! (pos + j)).toNat := by
  simp only [Utf8.decode]
  repeat' split
  all_goals simp_all
  all_goals first
    | omega
    | (refine ⟨by omega, fun j h1 h2 => ?_⟩
       rcases (show j = 1 ∨ j = 2 ∨ j = 3 by omega) with rfl | rfl | rfl <;> omega)
theorem decode_r (s : ByteArray) (pos : Nat) (h : pos < s.size) (ha : 128 ≤ (s[pos]'h).toNat) : 128 ≤ (Utf8.decode s pos).1 ∧ (Utf8.decode s pos).1 ≤ 1114111 := by
  refine ⟨(decode_high s pos h ha).1, ?_⟩
  simp only [Utf8.decode]
  have hb : ∀ k, (s.get! (pos + k)).toNat < 256 := fun k => (s.get! (pos + k)).toNat_lt
  have h0 := hb 0
  repeat' split
  all_goals simp_all [Utf8.runeError, Utf8.valid]
  all_goals omega
theorem noAny_skip {s : ByteArray} {chars : List UInt8} {i k : Nat} (h : Lib.NoAny s.data.toList chars i) (hc : ∀ c ∈ chars, c.toNat < 128) (hk : ∀ j, j < k → 128 ≤ (s.get! (i + j)).toNat) (hle : i + k ≤ s.size) : Lib.NoAny s.data.toList chars (i + k) := by
  intro j b hj hb
  by_cases hji : j < i
  · exact h j b hji hb
  · have h1 := hk (j - i) (by omega)
    have e : i + (j - i) = j := by omega
    rw [e] at h1
    have h2 : s.get! j = b := by
      have h3 : j < s.size := by omega
      have h4 : s.data.toList[j]? = some (s[j]'h3) := Lib.data_getElem? s j h3
      rw [h4] at hb
      injection hb with hb
      rw [← hb]
      have := get_at s j h3
      simpa using this
    rw [h2] at h1
    rw [Bool.eq_false_iff]
    intro h5
    have := hc b (by simpa using h5)
    omega
theorem below_iter (w : World) (s : ByteArray) (p : Nat) : Below w.heap.size w (w.iter s p) := (Below.refl _ _).alloc (Nat.le_refl _) _
/-- A rune's last byte, where it has several. -/
theorem encode_high {r : Nat} {rs : ByteArray} (h : 128 ≤ r) (hv : Utf8.valid (r : Int) = true) (e : Utf8.encode (r : Int) = rs) : 2 ≤ rs.size ∧ rs.size ≤ 4 ∧ ∀ (n : Nat) (hn : rs.size = n + 1), 128 ≤ (rs[n]'(by omega)).toNat := by
  have hr : r ≤ 1114111 := by
    simp [Utf8.valid] at hv; omega
  unfold Utf8.encode at e
  rw [hv] at e
  simp only [if_true, Int.toNat_natCast] at e
  subst e
  by_cases h1 : r < 128
  · omega
  rw [if_neg h1]
  by_cases h2 : r < 2048
  · rw [if_pos h2]
    refine ⟨Nat.le_refl 2, show 2 ≤ 4 by decide, fun n hn => ?_⟩
    obtain rfl : n = 1 := by have h : 2 = n + 1 := hn; omega
    show 128 ≤ (UInt8.ofNat (128 + r % 64)).toNat
    rw [UInt8.toNat_ofNat']; omega
  rw [if_neg h2]
  by_cases h3 : r < 65536
  · rw [if_pos h3]
    refine ⟨show 2 ≤ 3 by decide, show 3 ≤ 4 by decide, fun n hn => ?_⟩
    obtain rfl : n = 2 := by have h : 3 = n + 1 := hn; omega
    show 128 ≤ (UInt8.ofNat (128 + r % 64)).toNat
    rw [UInt8.toNat_ofNat']; omega
  rw [if_neg h3]
  refine ⟨show 2 ≤ 4 by decide, Nat.le_refl 4, fun n hn => ?_⟩
  obtain rfl : n = 3 := by have h : 4 = n + 1 := hn; omega
  show 128 ≤ (UInt8.ofNat (128 + r % 64)).toNat
  rw [UInt8.toNat_ofNat']; omega
theorem indexByte_no {l : List UInt8} {c : UInt8} (h : c ∉ l) : Lib.indexByte l c = -1 := by
  induction l with
  | nil => rfl
  | cons x r ih =>
    rw [List.mem_cons, not_or] at h
    unfold Lib.indexByte
    rw [ih h.2]
    have : ¬ x = c := fun e => h.1 e.symm
    simp [this]
end Lead
namespace Go.Proofs.YteaipondofbecaaGreatDoor
open Go.RowKit Lead
set_option maxHeartbeats 1000000 in
set_option maxRecDepth 100000 in
/-- The rune that stands for a fault is not in an ASCII text. -/
theorem irune_err (s : ByteArray) (w : World) (hs : ∀ c ∈ s.data.toList, c.toNat < 128) :
    Calls Tryz.prog 201 #[.string s, .int .i32 65533] w fun e w' => e = .returned (.int .i64 (-1)) ∧ Below w.heap.size w w' := by
  have H_hs := Lib.hid hs
  clear hs
  go_enter Tryz.func201, Tryz.ntmps201
  go_wp2_with fail
  go_loopg [5, 6] s.size (fun g _ _ wx => ∃ i : Nat, i + g = s.size ∧ wx = w.iter s i)
  case atStart => exact ⟨0, by omega, rfl⟩
  case round =>
    obtain ⟨i, hig, rfl⟩ := hrel
    cases gk with
    | zero =>
      obtain rfl : i = s.size := by omega
      have hnx := run_next_end (P := Tryz.prog) w s s.size
      go_wp2_with fail
      go_returns
      exact ⟨rfl, below_iter _ _ _⟩
    | succ g =>
      have hi : i < s.size := by omega
      have hc : (s[i]'hi).toNat < 128 := H_hs.out _ (by have h := Lib.data_getElem? s i hi; exact List.mem_of_getElem? h)
      have hnx := fun ty => run_next_ascii (P := Tryz.prog) w s i ty hi hc
      obtain ⟨c, hc'⟩ : ∃ u, (s[i]'hi).toNat = u := ⟨_, rfl⟩
      rw [hc'] at hnx hc
      have g1 : ((c : Int) == 65533) = false := by simp; omega
      clear hc'
      go_wp2_with fail
      go_roundg g
      case measure => omega
      case rel => exact ⟨i + 1, by omega, rfl⟩
set_option maxHeartbeats 1000000 in
set_option maxRecDepth 100000 in
theorem irune_bad (s : ByteArray) (r : Nat) (w : World) (hr : 128 ≤ r) (hr3 : r ≤ 1114111) (hne : r ≠ 65533) (hv : Utf8.valid (r : Int) = false) :
    Calls Tryz.prog 201 #[.string s, .int .i32 r] w fun e w' => e = .returned (.int .i64 (-1)) ∧ Below w.heap.size w w' := by
  have g0 : (0 : Int) ≤ (r : Int) := by omega
  have g1 : ¬ (r : Int) < 128 := by omega
  have g2 : ((r : Int) == 65533) = false := by simp; omega
  have g3 : Lib.validRune (r : Int) = false := by
    simp only [Utf8.valid, Bool.or_eq_false_iff, Bool.and_eq_false_iff, decide_eq_false_iff_not] at hv
    unfold Lib.validRune
    rw [decide_eq_false]
    omega
  clear hv hne
  go_enter Tryz.func201, Tryz.ntmps201
  go_wp2_with fail
  refine (Tryz.utf8_ValidRune _ _).mono ?_
  rintro _ _ ⟨rfl, rfl⟩
  go_wp2_with fail
  go_returns
  exact ⟨rfl, by repeat' (first | (with_reducible first | exact bwR _ _ | assumption | refine bdn ?_ | refine bwA ?_ ?_ _ | refine bwD ?_ | refine bwS ?_ ?_ _) | omega | (simp <;> omega))⟩
set_option maxHeartbeats 1000000 in
set_option maxRecDepth 100000 in
theorem irune_high (s : ByteArray) (r : Nat) (w : World) (hs : ∀ c ∈ s.data.toList, c.toNat < 128) (hsz : s.size ≤ 1000) (hr : 128 ≤ r) (hne : r ≠ 65533) (hv : Utf8.valid (r : Int) = true) :
    Calls Tryz.prog 201 #[.string s, .int .i32 r] w fun e w' => e = .returned (.int .i64 (-1)) ∧ Below w.heap.size w w' := by
  have hr3 : r ≤ 1114111 := by simp [Utf8.valid] at hv; omega
  have g0 : (0 : Int) ≤ (r : Int) := by omega
  have g1 : ¬ (r : Int) < 128 := by omega
  have g2 : ((r : Int) == 65533) = false := by simp; omega
  have g3 : Lib.validRune (r : Int) = true := by
    simp only [Utf8.valid, Bool.or_eq_true, Bool.and_eq_true, decide_eq_true_eq] at hv
    unfold Lib.validRune
    rw [decide_eq_true]
    omega
  obtain ⟨rs, hrs⟩ : ∃ u, Utf8.encode (r : Int) = u := ⟨_, rfl⟩
  obtain ⟨e1, e2, e3⟩ := encode_high hr hv hrs
  have hcv := fun W => run_convert_int_string (P := Tryz.prog) W 21 9 .i32 (r : Int) (by kernel_rfl) Tryz.underlying9
  rw [hrs] at hcv
  obtain ⟨n, hn⟩ : ∃ n, rs.size = n + 1 := ⟨rs.size - 1, by omega⟩
  have hnr : n < rs.size := by omega
  have gs : IntKind.i64.wrap ((rs.size : Int) - 1) = (n : Int) := by rw [hn]; refine (IntWalk.i64_in _ (by omega)).trans (by omega)
  have hy : 128 ≤ (rs[n]'hnr).toNat := e3 n hn
  have hn3 : n ≤ 3 := by omega
  clear e3 hv hne hrs
  obtain ⟨y, hyy⟩ : ∃ u, rs[n]'hnr = u := ⟨_, rfl⟩
  rw [hyy] at hy
  have gn : IntKind.i64.wrap ((n : Int) + 1) = ((n + 1 : Nat) : Int) := IntWalk.i64_in _ (by omega)
  have H_hs := Lib.hid hs
  clear hs
  have H_e1 := Lib.hid e1
  clear e1
  have H_e2 := Lib.hid e2
  clear e2
  have H_hn := Lib.hid hn
  clear hn
  have H_hr := Lib.hid hr
  clear hr
  have H_hr3 := Lib.hid hr3
  clear hr3
  have H_hsz := Lib.hid hsz
  clear hsz
  have H_hy := Lib.hid hy
  clear hy
  have H_hn3 := Lib.hid hn3
  clear hn3
  obtain ⟨wB, hwB⟩ : ∃ u, u = w := ⟨w, rfl⟩
  go_enter Tryz.func201, Tryz.ntmps201
  go_wp2_with fail
  refine (Tryz.utf8_ValidRune _ _).mono ?_
  rintro _ w1 ⟨rfl, hw1⟩
  subst hwB
  obtain rfl : w1 = wB := hw1
  go_wp2_with fail
  go_step3
  go_wp2_with fail
  go_loopw [9, 10] (fun t9 t10 wr => t9 = .int .i64 (n : Int) ∧ t10 = .int .i64 0 ∧ Below w1.heap.size w1 wr) (fun _ _ _ => 0)
  case atStart => exact ⟨rfl, rfl, Below.refl _ _⟩
  case round =>
    obtain ⟨rfl, rfl, hB⟩ := hrel
    clear hcv gs g0 g1 g2 g3
    by_cases hlt : n < s.size
    · have hx : (s[n]'hlt).toNat < 128 := H_hs.out _ (by have h := Lib.data_getElem? s n hlt; exact List.mem_of_getElem? h)
      obtain ⟨x, hxx⟩ : ∃ u, s[n]'hlt = u := ⟨_, rfl⟩
      rw [hxx] at hx
      have g5 : ((x.toNat : Int) == (y.toNat : Int)) = false := by have := H_hy.out; simp; omega
      have hib : Lib.indexByte (List.take (s.size - (n + 1)) (List.drop (n + 1) s.data.toList)) y = -1 := by
        refine indexByte_no fun h => ?_
        have := H_hs.out y (List.mem_of_mem_drop (List.mem_of_mem_take h))
        have := H_hy.out
        omega
      have gd1 : (0 : Int) ≤ (n : Int) + 1 := by omega
      have gd2 : (n : Int) + 1 ≤ (s.size : Int) := by omega
      clear hx
      go_wp2_with fail
      go_step3
      go_wp2_with fail
      go_region
      all_goals
        go_step
        go_step
        go_step
        go_step
        go_wp2_with fail
        go_region_law (first | (go_simp; go_at_call 205; ((refine (Tryz.strings_IndexByte _ _ _).mono ?_); rintro _ _ ⟨rfl, rfl⟩)))
        go_wp2_with fail
        go_simp
        go_wp2_with fail
        go_simp
        go_wp2_with fail
        go_returns
        exact ⟨rfl, by repeat' (first | (with_reducible first | exact bwR _ _ | assumption | refine bdn ?_ | refine bwA ?_ ?_ _ | refine bwD ?_ | refine bwS ?_ ?_ _) | omega | (simp <;> omega))⟩
    · go_wp2_with fail
      go_simp
      go_wp2_with fail
      go_returns
      exact ⟨rfl, by repeat' (first | (with_reducible first | exact bwR _ _ | assumption | refine bdn ?_ | refine bwA ?_ ?_ _ | refine bwD ?_ | refine bwS ?_ ?_ _) | omega | (simp <;> omega))⟩
theorem irune_any (s : ByteArray) (r : Nat) (w : World) (hs : ∀ c ∈ s.data.toList, c.toNat < 128) (hsz : s.size ≤ 1000) (hr : 128 ≤ r) (hr3 : r ≤ 1114111) :
    Calls Tryz.prog 201 #[.string s, .int .i32 r] w fun e w' => e = .returned (.int .i64 (-1)) ∧ Below w.heap.size w w' := by
  by_cases hne : r = 65533
  · subst hne; exact irune_err s w hs
  · cases hv : Utf8.valid (r : Int)
    · exact irune_bad s r w hr hr3 hne hv
    · exact irune_high s r w hs hsz hr hne hv
set_option maxHeartbeats 1000000 in
set_option maxRecDepth 100000 in
/-- A text of at most 8 bytes, whatever they are. -/
theorem iany_short (s chars : ByteArray) (w : World) (h2 : 2 ≤ chars.size) (h100 : chars.size ≤ 1000) (h8 : s.size ≤ 8) (hac : ∀ c ∈ chars.data.toList, c.toNat < 128) :
    Calls Tryz.prog 186 #[.string s, .string chars] w fun e w' => e = .returned (.int .i64 (Lib.indexAny s.data.toList chars.data.toList)) ∧ Below w.heap.size w w' := by
  have hemp : chars.toList.isEmpty = false := by
    rw [Lib.toList_data]
    cases h : chars.data.toList with
    | nil => have := Lib.size_eq chars; rw [h, List.length_nil] at this; omega
    | cons _ _ => rfl
  have hn1 : ((chars.size : Int) == 1) = false := beq_eq_false_iff_ne.2 (by omega)
  have h8z : decide ((8 : Int) < (s.size : Int)) = false := decide_eq_false (by omega)
  have hemp2 : (chars.toList == []) = false := by
    rw [Lib.toList_data]
    cases h : chars.data.toList with
    | nil => have := Lib.size_eq chars; rw [h, List.length_nil] at this; omega
    | cons _ _ => rfl
  have H_hac := Lib.hid hac
  clear hac
  have H_h100 := Lib.hid h100
  clear h100
  have H_h2 := Lib.hid h2
  clear h2
  have H_h8 := Lib.hid h8
  clear h8
  go_enter Tryz.func186, Tryz.ntmps186
  go_wp2_with fail
  refine (Tryz.strings_shouldUseASCIISet _ _).mono ?_
  rintro e w' ⟨rfl, hw⟩
  rw [hw, h8z]
  clear hw
  go_wp2_with fail
  go_loopg [9, 10] s.size (fun g _ _ wr => ∃ i : Nat, i + g = s.size ∧ Below w.heap.size w wr ∧ wr.heap[w.heap.size]? = some (.stringIter s i) ∧ RowKit.Hid (Lib.NoAny s.data.toList chars.data.toList i))
  case atStart => exact ⟨0, by omega, below_iter _ _ _, World.iter_heap _ _ _, Lib.hid (Lib.NoAny.zero _ _)⟩
  case round =>
    obtain ⟨i, hig, hB, hit, H_no⟩ := hrel
    cases gk with
    | zero =>
      obtain rfl : i = s.size := by omega
      have hnx := fun ty => Lib.run_next_end_at (P := Tryz.prog) wr w.heap.size s s.size ty hit (Nat.lt_irrefl _)
      have hres := Lib.indexAny_none (s := s.data.toList) (chars := chars.data.toList) (by rw [← Lib.size_eq]; exact H_no.out)
      clear hit
      have H_hres := Lib.hid hres
      clear hres
      go_wp2_with fail
      go_returns
      exact ⟨by rw [H_hres.out]; rfl, by repeat' (first | (with_reducible first | exact bwR _ _ | assumption | refine bdn ?_ | refine bwA ?_ ?_ _ | refine bwD ?_ | refine bwS ?_ ?_ _) | omega | (simp <;> omega))⟩
    | succ g =>
      have hi : i < s.size := by omega
      by_cases ha : (s[i]'hi).toNat < 128
      · have hnx := fun ty => Lib.run_next_ascii_at (P := Tryz.prog) wr w.heap.size s i ty hit hi ha
        have hit2 := Lib.iterAt_heap wr w.heap.size s i (i + 1) hit
        have hB2 := Lib.below_iterAt hB (k := w.heap.size) (Nat.le_refl _) s (i + 1)
        obtain ⟨x, hx⟩ : ∃ x : UInt8, s[i]'hi = x := ⟨_, rfl⟩
        have hxl : s.data.toList[i]? = some x := by rw [← hx]; exact Lib.data_getElem? s i hi
        rw [hx] at hnx ha
        have hcon := Lib.contains_iff_indexByte chars.data.toList x
        have hback : ((x.toNat : Int)).toNat.toUInt8 = x := by simp
        have hx0 : (0 : Int) ≤ (x.toNat : Int) := by omega
        have hx128 : (x.toNat : Int) < 128 := by omega
        clear hx hit ha
        cases hin : chars.data.toList.contains x
        · rw [hin] at hcon
          have hlt : ¬ ((0 : Int) ≤ Lib.indexByte chars.data.toList x) := of_decide_eq_false hcon.symm
          have hno2 := H_no.out.succ hxl hin
          clear hcon
          have H_hit2 := Lib.hid hit2
          clear hit2
          have H_hno2 := Lib.hid hno2
          clear hno2
          have H_hxl := Lib.hid hxl
          clear hxl
          go_wp2_with fail
          refine (Tryz.strings_IndexRune_ascii _ _ _ hx0 hx128).mono ?_
          rintro e w' ⟨rfl, hw⟩
          rw [hw, hback]
          go_wp2_with fail
          go_roundg g
          case measure => omega
          case rel => exact ⟨i + 1, by omega, hB2, H_hit2.out, H_hno2⟩
        · rw [hin] at hcon
          have hge : (0 : Int) ≤ Lib.indexByte chars.data.toList x := of_decide_eq_true hcon.symm
          have hres := Lib.indexAny_hit H_no.out hxl hin
          clear hcon
          have H_hit2 := Lib.hid hit2
          clear hit2
          have H_hxl := Lib.hid hxl
          clear hxl
          have H_hres := Lib.hid hres
          clear hres
          go_wp2_with fail
          refine (Tryz.strings_IndexRune_ascii _ _ _ hx0 hx128).mono ?_
          rintro e w' ⟨rfl, hw⟩
          rw [hw, hback]
          go_wp2_with fail
          go_returns
          exact ⟨by rw [H_hres.out]; rfl, hB2⟩
      · have hnx := fun ty => Lib.run_next_any_at (P := Tryz.prog) wr w.heap.size s i ty hit hi
        obtain ⟨d1, d2, d3⟩ := decode_cont s i hi
        obtain ⟨r1, r2⟩ := decode_r s i hi (by omega)
        have hno2 : Lib.NoAny s.data.toList chars.data.toList (i + (Utf8.decode s i).2) := noAny_skip H_no.out H_hac.out (fun j hj => by
          by_cases hj0 : j = 0
          · subst hj0
            have := get_at s i hi
            rw [this]; omega
          · exact d3 j (by omega) hj) d2
        have hit2 := Lib.iterAt_heap wr w.heap.size s i (i + (Utf8.decode s i).2) hit
        have hB2 := Lib.below_iterAt hB (k := w.heap.size) (Nat.le_refl _) s (i + (Utf8.decode s i).2)
        have hsz2 := Lib.iterAt_size wr w.heap.size s (i + (Utf8.decode s i).2)
        have hlt0 := (Array.getElem?_eq_some_iff.1 hit).1
        have cR := fun W => irune_any chars (Utf8.decode s i).1 W H_hac.out H_h100.out r1 r2
        obtain ⟨r, hr⟩ : ∃ u, (Utf8.decode s i).1 = u := ⟨_, rfl⟩
        obtain ⟨K, hK⟩ : ∃ u, (Utf8.decode s i).2 = u := ⟨_, rfl⟩
        rw [hr, hK] at hnx
        rw [hr] at cR
        rw [hK] at hit2 hB2 hno2 d1 d2 hsz2
        obtain ⟨W2, hW2⟩ : ∃ u, wr.iterAt w.heap.size s (i + K) = u := ⟨_, rfl⟩
        rw [hW2] at hnx hit2 hB2 hsz2
        clear d3 r1 r2 hr hK ha hit hW2
        have H_hit2 := Lib.hid hit2
        clear hit2
        have H_hno2 := Lib.hid hno2
        clear hno2
        have H_cR := Lib.hid cR
        clear cR
        have H_hsz2 := Lib.hid hsz2
        clear hsz2
        go_wp2_with fail
        refine (H_cR.out _).mono ?_
        rintro _ w3 ⟨rfl, hb3⟩
        have hB3 : Below w.heap.size w w3 := below_via hB2 hb3
        have hit3 := (hb3.block w.heap.size (by rw [H_hsz2.out]; exact hlt0)).trans H_hit2.out
        clear hb3
        have H_hit3 := Lib.hid hit3
        clear hit3
        go_wp2_with fail
        go_roundg (s.size - (i + K))
        case measure => omega
        case rel => exact ⟨i + K, by omega, hB3, H_hit3.out, H_hno2⟩
/-- strings.IndexAny, whatever the bytes of the text. -/
theorem iany_any (s chars : ByteArray) (w : World) (h2 : 2 ≤ chars.size) (h100 : chars.size ≤ 1000) (hs : s.size ≤ 100000) (hac : ∀ c ∈ chars.data.toList, c.toNat < 128) :
    Calls Tryz.prog 186 #[.string s, .string chars] w fun e w' => e = .returned (.int .i64 (Lib.indexAny s.data.toList chars.data.toList)) ∧ Below w.heap.size w w' := by
  by_cases h8 : s.size ≤ 8
  · exact iany_short s chars w h2 h100 h8 hac
  · refine (Tryz.strings_IndexAny_long (fun _ => by kernel_rfl) s chars w h2 (by omega) (by omega) (by omega) (fun j b hb => hac b (List.mem_of_getElem? hb))).mono ?_
    rintro e w' ⟨rfl, rfl⟩
    exact ⟨rfl, by repeat' (first | (with_reducible first | exact bwR _ _ | assumption | refine bdn ?_ | refine bwA ?_ ?_ _ | refine bwD ?_ | refine bwS ?_ ?_ _) | omega | (simp <;> omega))⟩
end Go.Proofs.YteaipondofbecaaGreatDoor
