/-
  Walks over package doc: Attr.
-/
import Derived.Test.YteaipondofbecaaGreatDoorDq
namespace Lead.Dc
open Go Go.RowKit Lead
/-- An attribute's value. -/
def attrV (nm : ByteArray) : List (ByteArray × ByteArray) → Option ByteArray
  | [] => none
  | a :: r => if a.1 = nm then some a.2 else attrV nm r
theorem attrV_drop {nm : ByteArray} {l : List (ByteArray × ByteArray)} {k : Nat} (h : k < l.length) : attrV nm (l.drop k) = if l[k].1 = nm then some l[k].2 else attrV nm (l.drop (k + 1)) := by
  rw [List.drop_eq_getElem_cons h, attrV]
def attrEnd (o : Option ByteArray) : Value := match o with
  | some v => .tuple #[.string v, .bool true]
  | none => .tuple #[.string ⟨#[]⟩, .bool false]
end Lead.Dc
namespace Go.Proofs.YteaipondofbecaaGreatDoor
open Go.RowKit Go.WideMaps Go.Maps Lead Lead.Dc
set_option maxHeartbeats 1000000 in
theorem attr_any (bd next n : Nat) (nm : ByteArray) (F : Nat → Prop) (E : Els) (d : Nat → Nat) (e : El) (w : World) (hD : DokG Tryz.prog TT w bd F E next d) (he : elAt E n = some e) :
    Calls Tryz.prog 23 #[.pointer (some ⟨bd, 0, none⟩), .int .i64 (n : Int), .string nm] w fun en w' => en = .returned (attrEnd (attrV nm e.attrs)) ∧ Below w.heap.size w w' := by
  obtain ⟨⟨pl, bm, cnt, D, hA, hc, hF⟩, hg, hbig, hlen⟩ := hD
  have hz : I64 (n : Int) := i64_nat (by have := hg.lt n e he; omega)
  have c0 := hA.c0
  have hE := hA.els n e he
  have e1 := hE.e1
  obtain ⟨oa, len, cap, hav, hS⟩ := hE.attrs.sl
  rw [hav] at e1
  have hm : len ≤ 9223372036854775807 := by have h := hS.2.2.1; have h' := hS.2.1; unfold maxLen at h; omega
  have H_hA := Lib.hid hA
  clear hA
  have H_hE := Lib.hid hE
  clear hE
  have H_he := Lib.hid he
  clear he
  have H_hz := Lib.hid hz
  clear hz
  have H_hS := Lib.hid hS
  clear hS
  have H_hav := Lib.hid hav
  clear hav
  clear hc hF hg
  go_enter Tryz.func23, Tryz.ntmps23
  go_wp2_with (at_lookup; refine wp_hit_ok (T := TT) TK rfl _ _ rfl rfl rfl H_hA.out H_he.out H_hz.out ?_)
  go_loopw [27] (fun t27 wr => ∃ k : Nat, k ≤ len ∧ t27 = .int .i64 k ∧ RowKit.Hid (attrV nm e.attrs = attrV nm (e.attrs.drop k)) ∧ Below w.heap.size w wr) (fun t27 _ => len - (intOf t27).toNat)
  case atStart => exact ⟨0, Nat.zero_le _, rfl, Lib.hid (by rw [List.drop_zero]), Below.refl _ _⟩
  case round =>
    obtain ⟨k, hk, rfl, H_at, hB⟩ := hrel
    have hzr := hB.size
    by_cases hlt : k < len
    · have hk' : k < e.attrs.length := by have := H_hS.out.1; omega
      obtain ⟨b, off, rfl, hbw, hr⟩ := H_hS.out.2.2.2.resolve_left (by intro h; rw [h] at hk'; simp at hk')
      have hrr := hr.keep hB hbw
      have q0 : wr.cell? ⟨b, off + k * 2, none⟩ = some (.string e.attrs[k].1) := by
        have h := hrr k hk' 0 _ rfl
        simpa [EAt] using h
      have q1 : wr.cell? ⟨b, off + k * 2 + 1, none⟩ = some (.string e.attrs[k].2) := by
        have h := hrr k hk' 1 _ rfl
        simpa [EAt] using h
      have hst := attrV_drop (nm := nm) hk'
      have hat := H_at.out
      obtain ⟨a, ha⟩ : ∃ a, e.attrs[k] = a := ⟨_, rfl⟩
      rw [ha] at q0 q1 hst
      obtain ⟨an, av⟩ := a
      by_cases hn : an = nm
      · have g1 : (an.toList == nm.toList) = true := by rw [hn]; simp
        rw [if_pos hn] at hst
        have hfin := hat.trans hst
        have H_hst := Lib.hid hst
        clear hst
        have H_hat := Lib.hid hat
        clear hat
        have H_hfin := Lib.hid hfin
        clear hfin
        have H_ha := Lib.hid ha
        clear ha
        have H_hrr := Lib.hid hrr
        clear hrr
        have H_hr := Lib.hid hr
        clear hr
        have H_hn := Lib.hid hn
        clear hn
        go_wp2_with fail
        go_returns
        exact ⟨by rw [H_hfin.out]; rfl, by repeat' (first | (with_reducible first | exact bwR _ _ | assumption | refine bdn ?_ | refine bwA ?_ ?_ _ | refine bwD ?_ | refine bwS ?_ ?_ _) | omega | (simp <;> omega))⟩
      · have g1 : (an.toList == nm.toList) = false := by
          rw [beq_eq_false_iff_ne, ByteArray.toList_eq, ByteArray.toList_eq]
          intro h
          exact hn (ByteArray.ext (Array.ext' h))
        rw [if_neg hn] at hst
        have hfin := hat.trans hst
        have H_hst := Lib.hid hst
        clear hst
        have H_hat := Lib.hid hat
        clear hat
        have H_hfin := Lib.hid hfin
        clear hfin
        have H_ha := Lib.hid ha
        clear ha
        have H_hrr := Lib.hid hrr
        clear hrr
        have H_hr := Lib.hid hr
        clear hr
        have H_hn := Lib.hid hn
        clear hn
        go_wp2_with fail
        go_roundw
        case rel => exact ⟨k + 1, by omega, by go_num, H_hfin, by repeat' (first | (with_reducible first | exact bwR _ _ | assumption | refine bdn ?_ | refine bwA ?_ ?_ _ | refine bwD ?_ | refine bwS ?_ ?_ _) | omega | (simp <;> omega))⟩
        case measure => simp [intOf]; omega
    · obtain rfl : k = len := by omega
      have hat := H_at.out
      rw [List.drop_of_length_le (by have := H_hS.out.1; omega)] at hat
      have H_hat := Lib.hid hat
      clear hat
      go_wp2_with fail
      go_returns
      exact ⟨by rw [H_hat.out]; rfl, hB⟩
end Go.Proofs.YteaipondofbecaaGreatDoor
