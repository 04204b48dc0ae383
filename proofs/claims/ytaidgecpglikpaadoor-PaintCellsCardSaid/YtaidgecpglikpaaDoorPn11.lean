/-
  Walks over the statements' helpers: OwnPoints of an empty slice of any address; asPieces.
-/
import Derived.Test.YtaidgecpglikpaaDoorPn10
namespace Lead
open Go Go.RowKit
/-- What two lists of pieces have in common. -/
def sameK (l l' : List Pc) : Prop := l.map Pc.k = l'.map Pc.k
end Lead
namespace Go.Proofs.YtaidgecpglikpaaDoor
open Go.RowKit Lead
set_option maxHeartbeats 1000000 in
theorem ownpoints_zero (oa : Option Addr) (cap : Nat) (w : World) :
    Calls Tryd.prog 26 #[.slice oa 0 cap] w (RetP 80 [] w) := by
  obtain ⟨i0, hi, hz0, hz1, hz2⟩ := info_parts info26
  rcases oa with _ | a
  · have H_hi := Lib.hid hi
    clear hi
    have H_hz0 := Lib.hid hz0
    clear hz0
    have H_hz1 := Lib.hid hz1
    clear hz1
    have H_hz2 := Lib.hid hz2
    clear hz2
    go_enter Tryd.func26, Tryd.ntmps26
    go_wp2_with fail
    go_returns
    exact ⟨_, rfl, OwnP.nil _ _ _, Below.refl _ _⟩
  · have H_hi := Lib.hid hi
    clear hi
    have H_hz0 := Lib.hid hz0
    clear hz0
    have H_hz1 := Lib.hid hz1
    clear hz1
    have H_hz2 := Lib.hid hz2
    clear hz2
    go_enter Tryd.func26, Tryd.ntmps26
    go_wp2_with (at_builtin; refine wpList_append_own _ rfl (.tmp 4) (.tmp 5) 46 rfl w.heap.size 80 i0 _ 4 32 Tryd.underlying46 H_hi.out H_hz0.out H_hz1.out H_hz2.out rfl (by decide) _ 0 [] rfl (World.ownsRow_nil _ _ _ _) a 0 cap [] rfl ?c0 ?c1 ?c2 ?c3 ?c4 ?c5 ?_)
    case c0 => rfl
    case c1 => intro j u h; simp at h
    case c2 => intro v hv; cases hv
    case c3 => unfold maxLen; omega
    case c4 => omega
    case c5 => exact Nat.le_refl _
    intro v' w1 hown' hgrow _
    have hB := (Below.refl w.heap.size w).grown hgrow (Nat.le_refl _) (fun q hq => by cases hq)
    have H_own := Lib.hid hown'
    clear hown' hgrow
    go_wp2_with fail
    go_returns
    exact ⟨_, rfl, H_own.out, hB⟩
theorem ownpoints_q (ps : List Pt) (oa : Option Addr) (len cap : Nat) (w : World) (hs : SlQ w oa len cap ps) (hlen : len ≤ 1000) :
    Calls Tryd.prog 26 #[.slice oa len cap] w (RetP 80 ps w) := by
  rcases hs with h | ⟨rfl, rfl⟩
  · exact ownpoints_any ps oa len cap w h hlen
  · exact ownpoints_zero oa cap w
end Go.Proofs.YtaidgecpglikpaaDoor
