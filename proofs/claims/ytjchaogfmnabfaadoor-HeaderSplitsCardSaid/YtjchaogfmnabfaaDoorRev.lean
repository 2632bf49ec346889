/-
  Rev: a list of bytes turned about by swapping from both ends. No program is needed here.
-/
import Derived.Test.YtjchaogfmnabfaaDoorBase
namespace Go.Proofs.YtjchaogfmnabfaaDoor
open Go.ChangeShapes Go.WideShapes Go.ChangeAt Go.RowKit
def swapK (D : List UInt8) (k : Nat) : List UInt8 := (List.range D.length).map fun x => if x < k ∨ D.length - k ≤ x then D.getD (D.length - 1 - x) 0 else D.getD x 0
theorem swapK_len (D : List UInt8) (k : Nat) : (swapK D k).length = D.length := by simp [swapK]
theorem swapK_at (D : List UInt8) (k x : Nat) (h : x < D.length) : (swapK D k)[x]'(by rw [swapK_len]; exact h) = if x < k ∨ D.length - k ≤ x then D.getD (D.length - 1 - x) 0 else D.getD x 0 := by
  simp [swapK]
theorem getD_at (D : List UInt8) (x : Nat) (h : x < D.length) : D[x] = D.getD x 0 := by simp [List.getD, List.getElem?_eq_getElem h]
theorem swapK_zero (D : List UInt8) : swapK D 0 = D := by
  refine List.ext_getElem (swapK_len D 0) fun x h1 h2 => ?_
  rw [swapK_at D 0 x h2, if_neg (by omega), getD_at D x h2]
theorem swapK_end (D : List UInt8) (k m : Nat) (h : m + k + 1 = D.length) (hk : ¬ k < m) : swapK D k = D.reverse := by
  refine List.ext_getElem (by rw [swapK_len, List.length_reverse]) fun x h1 h2 => ?_
  have hx : x < D.length := by rw [swapK_len] at h1; exact h1
  rw [swapK_at D k x hx, List.getElem_reverse, getD_at D _ (by omega)]
  by_cases hc : x < k ∨ D.length - k ≤ x
  · rw [if_pos hc]
  · rw [if_neg hc]; congr 1; omega
theorem swapK_one (D : List UInt8) (k m : Nat) (h : m + k + 1 = D.length) (hk : k < m) : ((swapK D k).set k (D.getD m 0)).set m (D.getD k 0) = swapK D (k + 1) := by
  refine List.ext_getElem (by simp [swapK_len]) fun x h1 h2 => ?_
  have hx : x < D.length := by rw [swapK_len] at h2; exact h2
  rw [swapK_at D (k + 1) x hx, List.getElem_set, List.getElem_set]
  by_cases e1 : m = x
  · subst e1; rw [if_pos rfl, if_pos (by omega)]; congr 1; omega
  · rw [if_neg e1]
    by_cases e2 : k = x
    · subst e2; rw [if_pos rfl, if_pos (by omega)]; congr 1; omega
    · rw [if_neg e2, swapK_at D k x hx]
      by_cases hc : x < k ∨ D.length - k ≤ x
      · rw [if_pos hc, if_pos (by omega)]
      · rw [if_neg hc, if_neg (by omega)]
theorem swapK_lo (D : List UInt8) (k m : Nat) (h : m + k + 1 = D.length) (hk : k < m) : (swapK D k).getD k 0 = D.getD k 0 := by
  have h1 : k < (swapK D k).length := by rw [swapK_len]; omega
  rw [← getD_at _ k h1, swapK_at D k k (by omega), if_neg (by omega)]
theorem swapK_hi (D : List UInt8) (k m : Nat) (h : m + k + 1 = D.length) (hk : k < m) : (swapK D k).getD m 0 = D.getD m 0 := by
  have h1 : m < (swapK D k).length := by rw [swapK_len]; omega
  rw [← getD_at _ m h1, swapK_at D k m (by omega), if_neg (by omega)]
theorem own_block {w : World} {base : Nat} {e : TypeId} {sz : Nat} {a : Option Addr} {n c : Nat} {xs : List Value} (h : w.ownsRow base e sz (.slice a n c) n xs) (hn : 0 < n) : ∃ g, a = some ⟨g, 0, none⟩ ∧ base ≤ g := by
  rcases h.2 with ⟨hv, h0⟩ | ⟨g, cap, cur, hv, hb, _⟩
  · omega
  · simp only [Value.slice.injEq] at hv
    exact ⟨g, hv.1, hb⟩
theorem own_cell {w : World} {base : Nat} {e : TypeId} {g n c : Nat} {l : List UInt8} (h : w.ownsRow base e 1 (.slice (some ⟨g, 0, none⟩) n c) n (l.map u8v)) (j : Nat) (hj : j < l.length) : w.cell? ⟨g, j, none⟩ = some (.int .u8 ((l.getD j 0).toNat : Int)) := by
  have hl : l.length = n := by have := h.1; simpa using this
  rw [h.cellAt j (by omega), List.getElem?_map, List.getElem?_eq_getElem hj, ← getD_at l j hj]
  rfl
end Go.Proofs.YtjchaogfmnabfaaDoor
