/-
  Oct: octal numerals, in plain Lean. No program is needed here.
-/
import Derived.Test.YtjchaogfmnabfaaDoorBase
namespace Go.Proofs.YtjchaogfmnabfaaDoor
open Go.ChangeShapes Go.WideShapes Go.ChangeAt Go.RowKit
def isOct (c : UInt8) : Bool := decide (48 ≤ c.toNat ∧ c.toNat ≤ 55)
theorem isOct_iff (c : UInt8) : isOct c = true ↔ 48 ≤ c.toNat ∧ c.toNat ≤ 55 := by simp [isOct]
/-- the number that octal digits say, behind the number v -/
def octAcc (v : Nat) (l : List UInt8) : Nat := l.foldl (fun v c => v * 8 + (c.toNat - 48)) v
theorem octAcc_cons (v : Nat) (c : UInt8) (l : List UInt8) : octAcc v (c :: l) = octAcc (v * 8 + (c.toNat - 48)) l := by simp only [octAcc, List.foldl_cons]
theorem octAcc_nil (v : Nat) : octAcc v [] = v := by simp only [octAcc, List.foldl_nil]
theorem octAcc_app (v : Nat) (a b : List UInt8) : octAcc v (a ++ b) = octAcc (octAcc v a) b := by simp [octAcc, List.foldl_append]
theorem octAcc_one (v : Nat) (a : List UInt8) (c : UInt8) : octAcc v (a ++ [c]) = octAcc v a * 8 + (c.toNat - 48) := by rw [octAcc_app, octAcc_cons, octAcc_nil]
theorem octAcc_pow : ∀ (l : List UInt8) (v : Nat), octAcc v l = v * 8 ^ l.length + octAcc 0 l
  | [], v => by rw [octAcc_nil, octAcc_nil]; simp
  | c :: l, v => by
    rw [octAcc_cons, octAcc_cons, octAcc_pow l (v * 8 + (c.toNat - 48)), octAcc_pow l (0 * 8 + (c.toNat - 48)), List.length_cons, Nat.pow_succ]
    have e : (v * 8 + (c.toNat - 48)) * 8 ^ l.length = v * (8 ^ l.length * 8) + (c.toNat - 48) * 8 ^ l.length := by
      rw [Nat.add_mul, Nat.mul_assoc, Nat.mul_comm 8 (8 ^ l.length)]
    rw [e]
    simp only [Nat.zero_mul, Nat.zero_add]
    omega
theorem octAcc_le (l : List UInt8) (v : Nat) : v ≤ octAcc v l := by
  rw [octAcc_pow]
  have h1 : 1 ≤ 8 ^ l.length := Nat.one_le_pow _ _ (by decide)
  have h2 := Nat.mul_le_mul_left v h1
  omega
theorem octAcc_take_le (l : List UInt8) (k : Nat) : octAcc 0 (l.take k) ≤ octAcc 0 l := by
  have h := octAcc_app 0 (l.take k) (l.drop k)
  rw [List.take_append_drop] at h
  rw [h]
  exact octAcc_le _ _
theorem octAcc_lt : ∀ (l : List UInt8), l.all isOct = true → octAcc 0 l < 8 ^ l.length
  | [], _ => by rw [octAcc_nil]; decide
  | c :: l, h => by
    rw [List.all_cons, Bool.and_eq_true, isOct_iff] at h
    have ih := octAcc_lt l h.2
    rw [octAcc_cons, octAcc_pow, List.length_cons, Nat.pow_succ]
    have h7 : 0 * 8 + (c.toNat - 48) ≤ 7 := by omega
    have := Nat.mul_le_mul_right (8 ^ l.length) h7
    omega
/-- noughts ahead change nothing -/
theorem octAcc_zeros : ∀ (l : List UInt8), octAcc 0 (l.dropWhile (· == 48)) = octAcc 0 l
  | [] => rfl
  | c :: l => by
    by_cases h : c = 48
    · subst h
      rw [List.dropWhile_cons_of_pos (by rfl), octAcc_zeros l, octAcc_cons]
      rfl
    · rw [List.dropWhile_cons_of_neg (by simpa using h)]
theorem octAcc_step (l : List UInt8) (k : Nat) (h : k < l.length) : octAcc 0 (l.take (k + 1)) = octAcc 0 (l.take k) * 8 + ((l.getD k 0).toNat - 48) := by
  have hg : l.getD k 0 = l[k] := by simp [List.getD, List.getElem?_eq_getElem h]
  rw [List.take_succ_eq_append_getElem h, octAcc_one, hg]
theorem oct_at (l : List UInt8) (k : Nat) (h : k < l.length) (ha : l.all isOct = true) : 48 ≤ (l.getD k 0).toNat ∧ (l.getD k 0).toNat ≤ 55 := by
  have hg : l.getD k 0 = l[k] := by simp [List.getD, List.getElem?_eq_getElem h]
  rw [hg, ← isOct_iff]
  exact (List.all_eq_true.1 ha) l[k] (List.getElem_mem h)
end Go.Proofs.YtjchaogfmnabfaaDoor
