/-
  Walks over the document's answer: a text cut by a byte.
-/
import Derived.Test.YtpdaenldmgpkjaaGreatDoorDa
import Derived.Test.YtpdaenldmgpkjaaGreatDoorPa
import Derived.Test.YtpdaenldmgpkjaaGreatDoorRows
namespace Lead
open Go Go.RowKit
/-- Texts in a row that the call owns. -/
def OwnS (w : World) (base : Nat) (e : TypeId) (v : Value) (ss : List (List UInt8)) : Prop := w.ownsRow base e 1 v ss.length (ss.map fun l => .string ⟨l.toArray⟩)
theorem OwnS.nil (w : World) (base : Nat) (e : TypeId) : OwnS w base e (.slice none 0 0) [] := World.ownsRow_nil _ _ _ _
/-- A call that answers own texts. -/
def RetSs (e : TypeId) (ss : List (List UInt8)) (w : World) (en : Ending) (w' : World) : Prop :=
  ∃ v, en = .returned v ∧ OwnS w' w.heap.size e v ss ∧ Below w.heap.size w w'
theorem ext_list (s : ByteArray) (a b : Nat) (_ : a ≤ b) : s.extract a b = ⟨((s.data.toList.take b).drop a).toArray⟩ := by
  apply ByteArray.ext
  rw [ByteArray.data_extract]
  apply Array.ext'
  rw [Array.toList_extract, List.extract_eq_take_drop, List.drop_take]
theorem own_snoc {w : World} {base : Nat} {e : TypeId} {v : Value} {ss : List (List UInt8)} {x : ByteArray} {cur l : List UInt8} (h : w.ownsRow base e 1 v (ss.length + 1) ((ss.map fun l => Value.string ⟨l.toArray⟩) ++ [.string x])) (hx : x = ⟨l.toArray⟩) (hc : cur = l) : OwnS w base e v (ss ++ [cur]) := by
  subst hc hx
  unfold OwnS
  rw [List.length_append, List.map_append]
  exact h
def CutRel (s : ByteArray) (y : UInt8) (base : Nat) (e : TypeId) (w0 : World) (v f i : Value) (w : World) : Prop :=
  ∃ k a : Nat, k ≤ s.size ∧ a ≤ k ∧ i = .int .i64 k ∧ f = .int .i64 a ∧ (cutF y (s.data.toList.take k)).2 = (s.data.toList.take k).drop a ∧ OwnS w base e v (cutF y (s.data.toList.take k)).1 ∧ Below w0.heap.size w0 w
end Lead
namespace Go.Proofs.YtpdaenldmgpkjaaGreatDoor
open Go.RowKit Lead

theorem infoS : (Tryz.prog.info? 9).map (fun i => (i.zero, i.size, i.bytes)) = some (some (.string ⟨#[]⟩), 1, 16) := by kernel_rfl

set_option maxHeartbeats 2000000 in
theorem rcut_any (s : ByteArray) (y : UInt8) (w : World) (hs : s.size ≤ 100000) :
    Calls Tryz.prog 52 #[.string s, .int .u8 (y.toNat : Int)] w (RetSs 9 (cutL y s.data.toList) w) := by
  have hlen : s.data.toList.length = s.size := by simp
  obtain ⟨i0, hi, hz0, hz1, hz2⟩ := info_parts infoS
  have H_hlen := Lib.hid hlen
  clear hlen
  have H_hi := Lib.hid hi
  clear hi
  have H_hz0 := Lib.hid hz0
  clear hz0
  have H_hz1 := Lib.hid hz1
  clear hz1
  have H_hz2 := Lib.hid hz2
  clear hz2
  go_enter Tryz.func52, Tryz.ntmps52
  go_wp2_with fail
  go_loopw [5, 6, 7] (fun v f i wr => CutRel s y w.heap.size 9 w v f i wr) (fun _ _ i _ => s.size - (intOf i).toNat)
  case atStart => exact ⟨0, 0, Nat.zero_le _, Nat.le_refl _, rfl, rfl, rfl, OwnS.nil _ _ _, Below.refl _ _⟩
  case round =>
    obtain ⟨k, a, hk, hak, rfl, rfl, hcur, hown, hB⟩ := hrel
    have hzr := hB.size
    have hnl := cutF_len y (s.data.toList.take k)
    have hnl2 : (s.data.toList.take k).length ≤ 100000 := by rw [List.length_take]; omega
    by_cases hlt : k < s.size
    · have hkl : k < s.data.toList.length := by have := H_hlen.out; omega
      have hst := cutF_take y s.data.toList k hkl
      have hex := ext_list s a k hak
      rw [show s.data.toList[k] = s[k] from rfl] at hst
      obtain ⟨c, hc⟩ : ∃ c : UInt8, s[k] = c := ⟨_, rfl⟩
      rw [hc] at hst
      by_cases hcy : c = y
      · have g1 : ((c.toNat : Int) == (y.toNat : Int)) = true := by rw [hcy]; simp
        unfold cutStep at hst
        rw [if_pos hcy] at hst
        have H_hst := Lib.hid hst
        clear hst
        have H_hcur := Lib.hid hcur
        clear hcur
        have H_hown := Lib.hid hown
        clear hown
        have H_hex := Lib.hid hex
        clear hex
        have H_hcy := Lib.hid hcy
        clear hcy
        have j2 : (a : Int) ≤ k := by omega
        have j3 : (k : Int) ≤ s.size := by omega
        go_wp2_with (at_builtin; refine wpList_append_own _ rfl (.tmp 19) (.tmp 24) 113 rfl w.heap.size 9 i0 _ 1 16 Tryz.underlying113 H_hi.out H_hz0.out H_hz1.out H_hz2.out rfl (by decide) _ _ _ rfl (World.ownsRow.alloc H_hown.out _) ⟨wr.heap.size, 0, none⟩ 1 1 [.string (s.extract a k)] rfl rfl ?c1 ?c2 ?c3 ?c4 ?c5 ?_)
        case c1 => exact cell_one_new _ _ _
        case c2 => intro u hu; simp at hu; subst hu; rfl
        case c3 => unfold maxLen; omega
        case c4 => omega
        case c5 => simp; omega
        intro v' w3 hown' hgrow _
        have hB3 : Below w.heap.size w w3 := (hB.alloc hzr _).grown hgrow (by simp; omega) (fun q hq => (World.ownsRow.lt H_hown.out q hq).1)
        have hown2 := own_snoc hown' H_hex.out H_hcur.out
        have H_hown2 := Lib.hid hown2
        clear hown' hgrow hown2
        go_wp2_with fail
        go_roundw
        case rel => exact ⟨k + 1, k + 1, by omega, Nat.le_refl _, by go_num, by go_num, by rw [H_hst.out]; simp, by rw [H_hst.out]; exact H_hown2.out, hB3⟩
        case measure => simp [intOf]; omega
      · have g1 : ((c.toNat : Int) == (y.toNat : Int)) = false := by
          rw [beq_eq_false_iff_ne]; intro e; exact hcy (UInt8.toNat_inj.1 (by omega))
        unfold cutStep at hst
        rw [if_neg hcy] at hst
        have H_hst := Lib.hid hst
        clear hst
        have H_hcur := Lib.hid hcur
        clear hcur
        have H_hown := Lib.hid hown
        clear hown
        have H_hex := Lib.hid hex
        clear hex
        have H_hcy := Lib.hid hcy
        clear hcy
        go_wp2_with fail
        go_roundw
        case rel => exact ⟨k + 1, a, by omega, by omega, by go_num, rfl, by rw [H_hst.out, List.take_succ_eq_append_getElem hkl, List.drop_append_of_le_length (by rw [List.length_take]; omega), H_hcur.out, show s.data.toList[k] = s[k] from rfl, hc], by rw [H_hst.out]; exact H_hown.out, hB⟩
        case measure => simp [intOf]; omega
    · obtain rfl : k = s.size := by omega
      have hex := ext_list s a s.size hak
      rw [List.take_of_length_le (by have := H_hlen.out; omega)] at hcur hown hnl hex
      have hnl3 : s.data.toList.length ≤ 100000 := by have := H_hlen.out; omega
      have j2 : (a : Int) ≤ s.size := by omega
      have H_hcur := Lib.hid hcur
      clear hcur
      have H_hown := Lib.hid hown
      clear hown
      have H_hex := Lib.hid hex
      clear hex
      go_wp2_with (at_builtin; refine wpList_append_own _ rfl (.tmp 28) (.tmp 32) 113 rfl w.heap.size 9 i0 _ 1 16 Tryz.underlying113 H_hi.out H_hz0.out H_hz1.out H_hz2.out rfl (by decide) _ _ _ rfl (World.ownsRow.alloc H_hown.out _) ⟨wr.heap.size, 0, none⟩ 1 1 [.string (s.extract a s.size)] rfl rfl ?c1 ?c2 ?c3 ?c4 ?c5 ?_)
      case c1 => exact cell_one_new _ _ _
      case c2 => intro u hu; simp at hu; subst hu; rfl
      case c3 => unfold maxLen; omega
      case c4 => omega
      case c5 => simp; omega
      intro v' w3 hown' hgrow _
      have hB3 : Below w.heap.size w w3 := (hB.alloc hzr _).grown hgrow (by simp; omega) (fun q hq => (World.ownsRow.lt H_hown.out q hq).1)
      have hown2 := own_snoc hown' H_hex.out H_hcur.out
      have H_hown2 := Lib.hid hown2
      clear hown' hgrow hown2
      go_wp2_with fail
      go_returns
      exact ⟨_, rfl, H_hown2.out, hB3⟩
end Go.Proofs.YtpdaenldmgpkjaaGreatDoor
