/-
  Plain: quarters of a turn: what the statement MoveTurns asks.
-/
import Derived.Test.YtogfphojfkdcgaaDoorRd
import Derived.Test.YtogfphojfkdcgaaDoorMa
namespace Lead
open Go Go.RowKit
theorem mv_ext {m n : Mv} (h : (m.A.n = n.A.n ∧ m.A.d = n.A.d ∧ m.B.n = n.B.n ∧ m.B.d = n.B.d ∧ m.C.n = n.C.n ∧ m.C.d = n.C.d) ∧ m.D.n = n.D.n ∧ m.D.d = n.D.d ∧ m.E.n = n.E.n ∧ m.E.d = n.E.d ∧ m.F.n = n.F.n ∧ m.F.d = n.F.d) : m = n := by
  obtain ⟨⟨a1, a2, b1, b2, c1, c2⟩, d1, d2, e1, e2, f1, f2⟩ := h
  cases m with
  | mk A B C D E F =>
    cases n with
    | mk A' B' C' D' E' F' =>
      cases A; cases B; cases C; cases D; cases E; cases F
      cases A'; cases B'; cases C'; cases D'; cases E'; cases F'
      simp only at a1 a2 b1 b2 c1 c2 d1 d2 e1 e2 f1 f2
      subst a1 a2 b1 b2 c1 c2 d1 d2 e1 e2 f1 f2
      rfl
def turnM : Mv := ⟨⟨0, 1⟩, ⟨1, 1⟩, ⟨-1, 1⟩, ⟨0, 1⟩, ⟨0, 1⟩, ⟨0, 1⟩⟩
def halfM : Mv := ⟨⟨-1, 1⟩, ⟨0, 1⟩, ⟨0, 1⟩, ⟨-1, 1⟩, ⟨0, 1⟩, ⟨0, 1⟩⟩
def oneL : Mv := ⟨⟨1, 1⟩, ⟨0, 1⟩, ⟨0, 1⟩, ⟨1, 1⟩, ⟨0, 1⟩, ⟨0, 1⟩⟩
def tTurn1 : List UInt8 := [116, 117, 114, 110, 32, 49]
def tTurn2 : List UInt8 := [116, 117, 114, 110, 32, 50]
def tTurn4 : List UInt8 := [116, 117, 114, 110, 32, 49, 32, 116, 117, 114, 110, 32, 49, 32, 116, 117, 114, 110, 32, 49, 32, 116, 117, 114, 110, 32, 49]
def tTurn31 : List UInt8 := [116, 117, 114, 110, 32, 51, 32, 116, 117, 114, 110, 32, 49]
def tScale : List UInt8 := [115, 99, 97, 108, 101, 32, 45, 49, 32, 45, 49]
theorem val_turn1 : moveC tTurn1 = 0 ∧ moveV tTurn1 = turnM := ⟨by decide +kernel, mv_ext (by decide +kernel)⟩
theorem val_turn2 : moveC tTurn2 = 0 ∧ moveV tTurn2 = halfM := ⟨by decide +kernel, mv_ext (by decide +kernel)⟩
theorem val_turn4 : moveC tTurn4 = 0 ∧ moveV tTurn4 = oneL := ⟨by decide +kernel, mv_ext (by decide +kernel)⟩
theorem val_turn31 : moveC tTurn31 = 0 ∧ moveV tTurn31 = oneL := ⟨by decide +kernel, mv_ext (by decide +kernel)⟩
theorem val_scale : moveC tScale = 0 ∧ moveV tScale = halfM := ⟨by decide +kernel, mv_ext (by decide +kernel)⟩
theorem turnM_R : turnM.R := ⟨w_R (x := 0) (by omega), w_R (x := 1) (by omega), w_R (x := -1) (by omega), w_R (x := 0) (by omega), w_R (x := 0) (by omega), w_R (x := 0) (by omega)⟩
theorem turn_at {p : Pt} (h : atC turnM p = (0, none)) : atV turnM p = ⟨-p.yn, p.yd, p.xn, p.xd⟩ ∧ I64 (-p.yn) := by
  obtain ⟨_, hp, h0, hv⟩ := at_ok h
  obtain ⟨hr, hx, hy⟩ := mvPt_val turnM_R hp h0
  have v0 : (turnM.A).v = 0 := w_v 0
  have v1 : (turnM.B).v = 1 := w_v 1
  have v2 : (turnM.C).v = -1 := w_v (-1)
  have v3 : (turnM.D).v = 0 := w_v 0
  have v4 : (turnM.E).v = 0 := w_v 0
  have v5 : (turnM.F).v = 0 := w_v 0
  have hX : (mvPt turnM p).X = p.Y.neg := v_inj hr.x (neg_R hp.y) (by rw [hx, neg_v, v0, v2, v4]; grind)
  have hY : (mvPt turnM p).Y = p.X := v_inj hr.y hp.x (by rw [hy, v1, v3, v5]; grind)
  refine ⟨?_, ?_⟩
  · rw [hv]
    exact pt_ext hX hY
  · have := hp.y.n0
    have := hp.y.n1
    unfold I64
    show _ ≤ -p.Y.n ∧ -p.Y.n ≤ _
    omega
end Lead
