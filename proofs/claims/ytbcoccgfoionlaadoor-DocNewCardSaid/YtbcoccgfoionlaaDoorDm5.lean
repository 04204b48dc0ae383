/-
  Plain: what mark.Check says of a node; a node that it lets pass is neither too deep nor too great; a node's flats, with the bound at which they stop.
-/
import Derived.Test.YtbcoccgfoionlaaDoorDm4
namespace Lead.Dc
/-- A byte of a name. -/
def nmC (c : UInt8) : Bool := (decide (97 ≤ c) && decide (c ≤ 122)) || (decide (48 ≤ c) && decide (c ≤ 57)) || decide (c = 45)
def nmL : List UInt8 → Bool
  | [] => false
  | c :: r => decide ((c :: r).length ≤ 12) && decide (97 ≤ c) && decide (c ≤ 122) && (c :: r).all nmC
def nmOk (s : ByteArray) : Bool := nmL s.data.toList
def vlC (c : UInt8) : Bool := decide (32 ≤ c) && decide (c ≤ 126)
def vlOk (s : ByteArray) : Bool := decide (s.size ≤ 200) && s.data.toList.all vlC
/-- Attributes behind others: 0, or the first one's error. -/
def atC : List (ByteArray × ByteArray) → List (ByteArray × ByteArray) → Nat
  | _, [] => 0
  | l, a :: r => if nmOk a.1 = false then 4 else if l.any (fun b => decide (b.1 = a.1)) then 6 else if vlOk a.2 = false then 10 else atC (l ++ [a]) r
def atE (l : List (ByteArray × ByteArray)) : Nat := if 12 < l.length then 7 else atC [] l
def nodeE (nm : ByteArray) (ats : List (ByteArray × ByteArray)) (i deep : Nat) : Nat :=
  if 10 < deep then 8 else if 100 ≤ i then 7 else if nmOk nm = false then 4 else atE ats
mutual
/-- A node and all below: how many there were, and the error, or 0. -/
def chkN : RT → Nat → Nat → Nat × Nat
  | .mk nm ats ks, i, deep => if nodeE nm ats i deep ≠ 0 then (i, nodeE nm ats i deep) else chkL ks (i + 1) (deep + 1)
def chkL : List RT → Nat → Nat → Nat × Nat
  | [], i, _ => (i, 0)
  | x :: r, i, deep => if (chkN x i deep).2 ≠ 0 then chkN x i deep else chkL r (chkN x i deep).1 deep
end
theorem nodeE_ok {nm : ByteArray} {ats : List (ByteArray × ByteArray)} {i deep : Nat} (h : nodeE nm ats i deep = 0) : deep ≤ 10 ∧ i < 100 := by
  unfold nodeE at h
  split at h
  · exact absurd h (by decide)
  · split at h
    · exact absurd h (by decide)
    · omega
mutual
theorem chkN_ok : ∀ (n : RT) (i deep : Nat), (chkN n i deep).2 = 0 → (chkN n i deep).1 = i + n.cnt ∧ deep + n.hgt ≤ 11 ∧ i + n.cnt ≤ 100
  | .mk nm ats ks, i, deep, h => by
    simp only [chkN, RT.cnt, RT.hgt] at h ⊢
    split at h
    · next hc => exact absurd h hc
    · next hc =>
      have h0 := nodeE_ok (Decidable.not_not.1 hc)
      have := chkL_ok ks (i + 1) (deep + 1) (by omega) (by omega) h
      rw [if_neg hc]; omega
theorem chkL_ok : ∀ (ks : List RT) (i deep : Nat), i ≤ 100 → deep ≤ 11 → (chkL ks i deep).2 = 0 → (chkL ks i deep).1 = i + RT.cntL ks ∧ deep + RT.hgtL ks ≤ 11 ∧ i + RT.cntL ks ≤ 100
  | [], i, deep, hi, hd, h => by simp only [chkL, RT.cntL, RT.hgtL]; omega
  | x :: r, i, deep, hi, hd, h => by
    simp only [chkL, RT.cntL, RT.hgtL] at h ⊢
    split at h
    · next hc => exact absurd h hc
    · next hc =>
      have h1 := chkN_ok x i deep (Decidable.not_not.1 hc)
      have h2 := chkL_ok r (chkN x i deep).1 deep (by omega) hd h
      rw [if_neg hc]; omega
end
/-- A node of a list. -/
structure FlatV where
  name : ByteArray
  attrs : List (ByteArray × ByteArray)
  parent : Int
  deep : Int
def flat0 : FlatV := ⟨⟨#[]⟩, [], 0, 0⟩
mutual
def flN : RT → Int → Nat → List FlatV → List FlatV
  | .mk nm ats ks, p, deep, l => if 150 < l.length ∨ 15 < deep then List.replicate 151 flat0 else flL ks l.length (deep + 1) (l ++ [⟨nm, ats, p, deep⟩])
def flL : List RT → Nat → Nat → List FlatV → List FlatV
  | [], _, _, out => out
  | x :: r, k, deep, out => if 150 < (flN x (k : Int) deep out).length then flN x (k : Int) deep out else flL r k deep (flN x (k : Int) deep out)
end
mutual
theorem flN_len : ∀ (n : RT) (p : Int) (deep : Nat) (l : List FlatV), 0 < (flN n p deep l).length ∧ (flN n p deep l).length ≤ 151
  | .mk nm ats ks, p, deep, l => by
    simp only [flN]
    split
    · rw [List.length_replicate]; omega
    · next hc =>
      have hl : (l ++ [(⟨nm, ats, p, deep⟩ : FlatV)]).length = l.length + 1 := by simp
      exact flL_len ks l.length (deep + 1) _ (by omega) (by omega)
theorem flL_len : ∀ (ks : List RT) (k deep : Nat) (out : List FlatV), 0 < out.length → out.length ≤ 151 → 0 < (flL ks k deep out).length ∧ (flL ks k deep out).length ≤ 151
  | [], _, _, out, h0, h => ⟨h0, h⟩
  | x :: r, k, deep, out, h0, h => by
    have h1 := flN_len x (k : Int) deep out
    simp only [flL]
    split
    · exact h1
    · exact flL_len r k deep _ h1.1 h1.2
end
mutual
/-- The flats without a bound. -/
def allF : RT → Int → Nat → Nat → List FlatV
  | .mk nm ats ks, p, deep, k => ⟨nm, ats, p, deep⟩ :: allFs ks k (deep + 1) (k + 1)
def allFs : List RT → Nat → Nat → Nat → List FlatV
  | [], _, _, _ => []
  | x :: r, p, deep, k => allF x (p : Int) deep k ++ allFs r p deep (k + x.cnt)
end
mutual
theorem allF_len : ∀ (n : RT) (p : Int) (deep k : Nat), (allF n p deep k).length = n.cnt
  | .mk nm ats ks, p, deep, k => by simp only [allF, RT.cnt, List.length_cons]; rw [allFs_len ks]
theorem allFs_len : ∀ (ks : List RT) (p deep k : Nat), (allFs ks p deep k).length = RT.cntL ks
  | [], _, _, _ => rfl
  | x :: r, p, deep, k => by simp only [allFs, RT.cntL, List.length_append]; rw [allF_len x, allFs_len r]
end
mutual
/-- Below the bound they are all of them. -/
theorem flN_all : ∀ (n : RT) (p : Int) (deep : Nat) (l : List FlatV), (flN n p deep l).length ≤ 150 → flN n p deep l = l ++ allF n p deep l.length ∧ deep + n.hgt ≤ 16
  | .mk nm ats ks, p, deep, l, h => by
    simp only [flN] at h ⊢
    split at h
    · rw [List.length_replicate] at h; omega
    · next hc =>
      have hl : (l ++ [(⟨nm, ats, p, deep⟩ : FlatV)]).length = l.length + 1 := by simp
      have := flL_all ks l.length (deep + 1) _ (by omega) h
      rw [if_neg hc, this.1]
      simp only [allF, RT.hgt]
      rw [hl, List.append_assoc, List.singleton_append]
      exact ⟨rfl, by omega⟩
theorem flL_all : ∀ (ks : List RT) (k deep : Nat) (out : List FlatV), deep ≤ 16 → (flL ks k deep out).length ≤ 150 → flL ks k deep out = out ++ allFs ks k deep out.length ∧ deep + RT.hgtL ks ≤ 16
  | [], k, deep, out, hd, h => by simp only [flL, allFs, RT.hgtL, List.append_nil]; exact ⟨trivial, by omega⟩
  | x :: r, k, deep, out, hd, h => by
    simp only [flL] at h ⊢
    split at h
    · omega
    · next hc =>
      have h1 := flN_all x (k : Int) deep out (by omega)
      have h2 := flL_all r k deep _ hd h
      rw [if_neg hc, h2.1]
      simp only [allFs, RT.hgtL]
      have hn : (flN x (k : Int) deep out).length = out.length + x.cnt := by rw [h1.1, List.length_append, allF_len]
      rw [hn, h1.1, List.append_assoc]
      exact ⟨rfl, by omega⟩
end
end Lead.Dc
