/-
  Plain: a move out of a text, word by word.
-/
import Derived.Test.YtlhadgnpkooiaaaGreatDoorRd
namespace Lead
open Go Go.RowKit
/-- What is left from word k on. -/
def rdK (ws : List (List UInt8)) (k : Nat) : Nat × List Mv := rdW (ws.length - k) (ws.drop k)
theorem rdK_all (ws : List (List UInt8)) : rdK ws 0 = rdW ws.length ws := rfl
theorem rdK_end {ws : List (List UInt8)} {k : Nat} (h : ws.length ≤ k) : rdK ws k = (0, []) := by
  unfold rdK
  rw [List.drop_eq_nil_of_le h]
  cases ws.length - k <;> rfl
theorem getD_drop' (ws : List (List UInt8)) (k i : Nat) : (ws.drop k).getD i [] = ws.getD (k + i) [] := by
  rw [List.getD_eq_getElem?_getD, List.getD_eq_getElem?_getD, List.getElem?_drop]
theorem rdK_unfold {ws : List (List UInt8)} {k : Nat} (h : k < ws.length) :
    rdK ws k = if manyW (ws.getD k []) = 0 ∨ ws.length - (k + 1) < manyW (ws.getD k []) then (1, []) else
      if oneC (ws.getD k []) (ws.getD (k + 1) []) (ws.getD (k + manyW (ws.getD k [])) []) ≠ 0 then (oneC (ws.getD k []) (ws.getD (k + 1) []) (ws.getD (k + manyW (ws.getD k [])) []), []) else
      ((rdK ws (k + 1 + manyW (ws.getD k []))).1, oneV (ws.getD k []) (ws.getD (k + 1) []) (ws.getD (k + manyW (ws.getD k [])) []) :: (rdK ws (k + 1 + manyW (ws.getD k []))).2) := by
  have hg : ws.getD k [] = ws[k] := by rw [List.getD_eq_getElem?_getD, List.getElem?_eq_getElem h]; rfl
  unfold rdK
  rw [List.drop_eq_getElem_cons h, hg]
  obtain ⟨f, hf⟩ : ∃ f, ws.length - k = f + 1 := ⟨ws.length - k - 1, by omega⟩
  rw [hf, rdW]
  have e1 : (ws.drop (k + 1)).length = ws.length - (k + 1) := by rw [List.length_drop]
  rw [e1]
  by_cases h1 : manyW ws[k] = 0 ∨ ws.length - (k + 1) < manyW ws[k]
  · rw [if_pos h1, if_pos h1]
  · rw [if_neg h1, if_neg h1]
    have h2 : 1 ≤ manyW ws[k] := by omega
    have e2 : (ws.drop (k + 1)).getD 0 [] = ws.getD (k + 1) [] := by rw [getD_drop', Nat.add_zero]
    have e3 : (ws.drop (k + 1)).getD (manyW ws[k] - 1) [] = ws.getD (k + manyW ws[k]) [] := by rw [getD_drop']; congr 1; omega
    have e4 : (ws.drop (k + 1)).drop (manyW ws[k]) = ws.drop (k + 1 + manyW ws[k]) := by rw [List.drop_drop]
    have e5 : rdW f (ws.drop (k + 1 + manyW ws[k])) = rdW (ws.length - (k + 1 + manyW ws[k])) (ws.drop (k + 1 + manyW ws[k])) :=
      rdW_fuel _ _ _ (by rw [List.length_drop]; omega) (by rw [List.length_drop]; exact Nat.le_refl _)
    rw [e2, e3, e4, e5]
/-- The state of the loop over the words: k words are done, acc is what they made. -/
structure RdAt (ws : List (List UInt8)) (k : Nat) (acc : List Mv) : Prop where
  le : k ≤ ws.length
  code : (rdK ws 0).1 = (rdK ws k).1
  vals : (rdK ws 0).2 = acc ++ (rdK ws k).2
theorem RdAt.start (ws : List (List UInt8)) : RdAt ws 0 [] := ⟨Nat.zero_le _, rfl, rfl⟩
theorem RdAt.stop {ws : List (List UInt8)} {k : Nat} {acc : List Mv} (h : RdAt ws k acc) (hk : k < ws.length) (hs : manyW (ws.getD k []) = 0 ∨ ws.length - (k + 1) < manyW (ws.getD k [])) : (rdW ws.length ws).1 = 1 := by
  rw [← rdK_all, h.code, rdK_unfold hk, if_pos hs]
theorem RdAt.err {ws : List (List UInt8)} {k : Nat} {acc : List Mv} (h : RdAt ws k acc) (hk : k < ws.length) (hs : ¬ (manyW (ws.getD k []) = 0 ∨ ws.length - (k + 1) < manyW (ws.getD k [])))
    (hc : oneC (ws.getD k []) (ws.getD (k + 1) []) (ws.getD (k + manyW (ws.getD k [])) []) ≠ 0) : (rdW ws.length ws).1 = oneC (ws.getD k []) (ws.getD (k + 1) []) (ws.getD (k + manyW (ws.getD k [])) []) := by
  rw [← rdK_all, h.code, rdK_unfold hk, if_neg hs, if_pos hc]
theorem RdAt.next {ws : List (List UInt8)} {k : Nat} {acc : List Mv} (h : RdAt ws k acc) (hk : k < ws.length) (hs : ¬ (manyW (ws.getD k []) = 0 ∨ ws.length - (k + 1) < manyW (ws.getD k [])))
    (hc : oneC (ws.getD k []) (ws.getD (k + 1) []) (ws.getD (k + manyW (ws.getD k [])) []) = 0) :
    RdAt ws (k + 1 + manyW (ws.getD k [])) (acc ++ [oneV (ws.getD k []) (ws.getD (k + 1) []) (ws.getD (k + manyW (ws.getD k [])) [])]) := by
  have e := rdK_unfold hk
  rw [if_neg hs, if_neg (fun x => x hc)] at e
  refine ⟨by omega, ?_, ?_⟩
  · rw [h.code, e]
  · rw [h.vals, e, List.append_assoc]; rfl
theorem RdAt.done {ws : List (List UInt8)} {k : Nat} {acc : List Mv} (h : RdAt ws k acc) (hk : ws.length ≤ k) : rdW ws.length ws = (0, acc) := by
  have h1 := h.code
  have h2 := h.vals
  rw [rdK_end hk, rdK_all] at h1 h2
  rw [List.append_nil] at h2
  exact Prod.ext h1 h2
end Lead
