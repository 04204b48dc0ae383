/-
  Walks over package paint: row. What it asks of shapes.
-/
import Derived.Test.YtaidgecpglikpaaDoorPn3
import Derived.Test.YtaidgecpglikpaaDoorShape8
namespace Lead
open Go Go.RowKit
def strs (ss : List ByteArray) : Array Value := (ss.map Value.string).toArray
theorem strs_size (ss : List ByteArray) : (strs ss).size = ss.length := by simp [strs]
theorem strs_at {ss : List ByteArray} {i : Nat} (h : i < ss.length) : (strs ss)[i]? = some (.string ss[i]) := by
  unfold strs
  rw [List.getElem?_toArray, List.getElem?_map, List.getElem?_eq_getElem h]; rfl
theorem strs_dots (n : Nat) : strs (dots n) = (List.replicate n (Value.string ⟨#[46]⟩)).toArray := by
  unfold strs dots; rw [List.map_replicate]
theorem strs_set (ss : List ByteArray) (i : Nat) (s : ByteArray) : (strs ss).set! i (.string s) = strs (ss.set i s) := by
  unfold strs; simp [List.map_set]
theorem heap_set {w : World} {g i : Nat} {vs : Array Value} {t : TypeId} {v : Value} (h : w.heap[g]? = some (.cells vs t (0, 0))) :
    (w.setCell ⟨g, i, none⟩ v).heap[g]? = some (.cells (vs.set! i v) t (0, 0)) := by
  simp [World.setCell, Array.getElem?_modify, h]
theorem heap_free {w : World} {g i : Nat} {vs : Array Value} {t : TypeId} (h : w.heap[g]? = some (.cells vs t (0, 0))) : w.frozen? ⟨g, i, none⟩ = false := by
  simp [World.frozen?, h]
theorem mid_ok (x y : Nat) (hx : x < 40) (hy : y < 40) : PtOk (cen x y) := by
  refine ⟨chk_0 (mk_mid x hx).2.2.2, chk_0 (mk_mid y hy).2.2.2, ?_, ?_⟩ <;> simp [cen] <;> omega
theorem rule_of {r : ByteArray} (h : ruleB r = true) : r = ⟨#[119, 105, 110, 100]⟩ ∨ r = ⟨#[101, 118, 101, 110]⟩ := by
  unfold ruleB bWind bEven at h
  rw [Bool.or_eq_true, beq_iff_eq, beq_iff_eq] at h
  rcases h with h | h
  · left; rw [ByteArray.toList_eq] at h; cases r; rename_i a; cases a; simp at h; subst h; rfl
  · right; rw [ByteArray.toList_eq] at h; cases r; rename_i a; cases a; simp at h; subst h; rfl
theorem hit_wind (ps : List Pt) (fill : ByteArray) (pt : Pt) : hitB ⟨ps, fill, ⟨#[119, 105, 110, 100]⟩⟩ pt = ((crL ps pt).sum != 0) := by
  unfold hitB; rw [if_pos (by rw [ByteArray.toList_eq]; rfl)]
theorem hit_even (ps : List Pt) (fill : ByteArray) (pt : Pt) : hitB ⟨ps, fill, ⟨#[101, 118, 101, 110]⟩⟩ pt = (((crL ps pt).length : Int) % 2 == 1) := by
  unfold hitB; rw [if_neg (by rw [ByteArray.toList_eq]; show ¬ ([101, 118, 101, 110] == bWind) = true; decide)]
theorem pk_ok {x : Pk} (h : pkC x = 0) : shC x.ps = (0, none) ∧ ruleB x.rule = true := by
  unfold pkC at h
  by_cases k : (shC x.ps).1 = 0
  · rw [if_pos k] at h
    refine ⟨?_, ?_⟩
    · rcases shC_some x.ps with e | e
      · exact e
      · exact absurd k e
    · by_cases r : ruleB x.rule = true
      · exact r
      · rw [if_neg r] at h; cases h
  · rw [if_neg k] at h; exact absurd h k
end Lead
namespace Go.Proofs.YtaidgecpglikpaaDoor
open Go.RowKit Lead
theorem holds_ok (ea : Nat → Addr) (ps : List Pt) (oa : Option Addr) (len cap : Nat) (rule : ByteArray) (fill : ByteArray) (pt : Pt) (b : Bool) (w : World) (hs : SlP w oa len cap ps) (hk : pkC ⟨ps, fill, rule⟩ = 0) (hpt : PtOk pt) (hShape : w.cell? ⟨3, 0, none⟩ = some (.iface 181 (.pointer (some (ea 3))))) (hBound : w.cell? ⟨0, 0, none⟩ = some (.iface 181 (.pointer (some (ea 2))))) (hb : hitB ⟨ps, fill, rule⟩ pt = b) :
    Calls Tryd.prog 44 #[.agg #[.slice oa len cap], .agg #[.int .i64 pt.xn, .int .i64 pt.xd, .int .i64 pt.yn, .int .i64 pt.yd], .string rule] w fun e w' => e = .returned (.tuple #[.bool b, .nilIface]) ∧ Below w.heap.size w w' := by
  obtain ⟨h1, h2⟩ := pk_ok hk
  obtain ⟨h30, _, hall⟩ := shC_ok h1
  have hc := crC_ok hall hpt h30
  rcases rule_of h2 with rfl | rfl
  · refine (shholds_wind ea ps oa len cap pt w hs hpt.I hShape hBound).mono ?_
    rintro e w' ⟨x, rfl, hx, hbb⟩
    obtain rfl := hx.nil hc
    refine ⟨?_, hbb⟩
    rw [← hb, hit_wind]
  · refine (shholds_even ea ps oa len cap pt w hs hpt.I hShape hBound).mono ?_
    rintro e w' ⟨x, rfl, hx, hbb⟩
    obtain rfl := hx.nil hc
    refine ⟨?_, hbb⟩
    rw [← hb, hit_even]
end Go.Proofs.YtaidgecpglikpaaDoor
