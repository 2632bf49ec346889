/-
  OctRef: the places at which the reference's loops over a field stand still. No program is needed here.
-/
import Derived.Test.YtjchaogfmnabfaaDoorOctLaw
namespace Go.Proofs.YtjchaogfmnabfaaDoor
open Go.ChangeShapes Go.WideShapes Go.ChangeAt Go.RowKit
/-- where a walk from the left stands still -/
theorem while_at {p : UInt8 → Bool} (m : List UInt8) (k : Nat) (hk : k ≤ m.length) (h1 : (m.take k).all p = true) (h2 : k < m.length → p (m.getD k 0) = false) : m.takeWhile p = m.take k ∧ m.dropWhile p = m.drop k := by
  have hd : m.dropWhile p = m.drop k := by
    have e := dropWhile_pass (p := p) (m.take k) (m.drop k) h1
    rw [List.take_append_drop] at e
    rw [e]
    by_cases hlt : k < m.length
    · have hg : m.getD k 0 = m[k] := by simp [List.getD, List.getElem?_eq_getElem hlt]
      rw [List.drop_eq_getElem_cons hlt, List.dropWhile_cons_of_neg]
      have := h2 hlt
      rw [hg] at this
      rw [this]; exact Bool.false_ne_true
    · rw [List.drop_of_length_le (by omega)]; rfl
  refine ⟨?_, hd⟩
  have e1 : m.takeWhile p ++ m.dropWhile p = m := List.takeWhile_append_dropWhile
  have e2 : m.take k ++ m.drop k = m := List.take_append_drop k m
  rw [hd] at e1
  exact List.append_cancel_right (e1.trans e2.symm)
theorem all_step {p : UInt8 → Bool} (l : List UInt8) (k : Nat) (h : k < l.length) (ih : (l.take k).all p = true) (hd : p (l.getD k 0) = true) : (l.take (k + 1)).all p = true := by
  have hg : l.getD k 0 = l[k] := by simp [List.getD, List.getElem?_eq_getElem h]
  rw [List.take_succ_eq_append_getElem h, List.all_append, ih, ← hg, List.all_cons, hd]; rfl
theorem all_no {p : UInt8 → Bool} (l : List UInt8) (k : Nat) (h : k < l.length) (hd : p (l.getD k 0) = false) : l.all p = false := by
  have hg : l.getD k 0 = l[k] := by simp [List.getD, List.getElem?_eq_getElem h]
  cases ha : l.all p with
  | false => rfl
  | true =>
    have := (List.all_eq_true.1 ha) l[k] (List.getElem_mem h)
    rw [← hg, hd] at this
    cases this
/-- the last k digits -/
theorem octAcc_last (D : List UInt8) (k : Nat) (h : k < D.length) : octAcc 0 (D.drop (D.length - (k + 1))) = ((D.getD (D.length - (k + 1)) 0).toNat - 48) * 8 ^ k + octAcc 0 (D.drop (D.length - k)) := by
  have hi : D.length - (k + 1) < D.length := by omega
  have hg : D.getD (D.length - (k + 1)) 0 = D[D.length - (k + 1)] := by simp [List.getD, List.getElem?_eq_getElem hi]
  rw [List.drop_eq_getElem_cons hi, octAcc_cons, octAcc_pow, ← hg, List.length_drop, show D.length - (k + 1) + 1 = D.length - k by omega, show D.length - (D.length - k) = k by omega]
  simp only [Nat.zero_mul, Nat.zero_add]
theorem octAcc_drop_le (D : List UInt8) (k : Nat) : octAcc 0 (D.drop k) ≤ octAcc 0 D := by
  have h := octAcc_app 0 (D.take k) (D.drop k)
  rw [List.take_append_drop, octAcc_pow (D.drop k) (octAcc 0 (D.take k))] at h
  rw [h]
  exact Nat.le_add_left _ _
end Go.Proofs.YtjchaogfmnabfaaDoor
