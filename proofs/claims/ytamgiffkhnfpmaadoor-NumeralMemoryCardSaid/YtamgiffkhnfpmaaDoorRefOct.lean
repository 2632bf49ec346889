/-
  RefOct: the reference's Octal.
-/
import Derived.Test.YtamgiffkhnfpmaaDoorOctRef
import Derived.Test.YtamgiffkhnfpmaaDoorDec
import Derived.Test.YtamgiffkhnfpmaaDoorProg
import Derived.Deep.CutBlock
import Derived.Deep.DeepCutAuto
import Derived.Outline
namespace Go.Proofs.YtamgiffkhnfpmaaDoor
set_option linter.unusedVariables false
set_option linter.unusedSimpArgs false
open Go.ChangeShapes Go.WideShapes Go.ChangeAt Go.RowKit
theorem Plain.octal_at (l : List UInt8) (f e : Nat) (hf : l.dropWhile (· == 32) = l.drop f) (hd : octHead (l.drop f) = (l.drop f).take (e - f)) (ht : octTail (l.drop f) = l.drop e) :
    Plain.octal l = if (l.drop e).all isGap then (if octAcc 0 ((l.drop f).take (e - f)) ≤ 9223372036854775807 then (((octAcc 0 ((l.drop f).take (e - f)) : Nat) : Int), 0) else (0, 11)) else (0, 10) := by
  unfold Plain.octal
  simp only [hf, hd, ht]
/-- a step of the reference's sum: the digit's place is k -/
structure OctStep (D : List UInt8) (e f k A : Nat) (g : UInt8) (r : Int × Int) : Prop where
  dig : 48 ≤ g.toNat ∧ g.toNat ≤ 55
  zero : g.toNat = 48 → octAcc 0 (D.drop (e - f - (k + 1))) = A
  far : g.toNat ≠ 48 → 21 ≤ k → r = (0, 11)
  near : k ≤ 20 → octAcc 0 (D.drop (e - f - (k + 1))) = (g.toNat - 48) * 8 ^ k + A ∧ (g.toNat - 48) * 8 ^ k + A ≤ 9223372036854775807
theorem OctStep.of (D : List UInt8) (e f k A j : Nat) (g : UInt8) (r : Int × Int) (hl : D.length = e - f) (ho : D.all isOct = true) (hk : k < e - f) (hj : j = e - 1 - k) (hg : D.getD (j - f) 0 = g) (hA : octAcc 0 (D.drop (e - f - k)) = A)
    (hr : r = if octAcc 0 D ≤ 9223372036854775807 then (((octAcc 0 D : Nat) : Int), 0) else (0, 11)) : OctStep D e f k A g r := by
  have hlast := octAcc_last D k (by omega)
  rw [hl, show e - f - (k + 1) = j - f by omega, hg, hA] at hlast
  have hd := oct_at D (j - f) (by omega) ho
  rw [hg] at hd
  have hall : (D.drop (j - f)).all isOct = true := by
    rw [List.all_eq_true] at ho ⊢
    exact fun x hx => ho x (List.mem_of_mem_drop hx)
  have hlt := octAcc_lt _ hall
  rw [List.length_drop, hl, show e - f - (j - f) = k + 1 by omega] at hlt
  have hle := octAcc_drop_le D (j - f)
  have ej : e - f - (k + 1) = j - f := by omega
  rw [← ej] at hlast hle hlt
  refine ⟨hd, fun h => by rw [hlast, h, Nat.sub_self, Nat.zero_mul, Nat.zero_add], fun h h21 => ?_, fun h20 => ⟨hlast, ?_⟩⟩
  · rw [hr, if_neg]
    have h1 : 8 ^ 21 ≤ 8 ^ k := Nat.pow_le_pow_right (by decide) h21
    have h2 : 1 * 8 ^ k ≤ (g.toNat - 48) * 8 ^ k := Nat.mul_le_mul_right _ (by omega)
    have h3 : (8 : Nat) ^ 21 = 9223372036854775808 := rfl
    omega
  · have h1 : 8 ^ (k + 1) ≤ 8 ^ 21 := Nat.pow_le_pow_right (by decide) (by omega)
    have h3 : (8 : Nat) ^ 21 = 9223372036854775808 := rfl
    rw [hlast] at hlt
    omega
theorem two_pow8 (k : Nat) (P : Int) (h : P = 3 * k) : (2 : Int) ^ P.toNat = ((8 ^ k : Nat) : Int) := by
  have e : P.toNat = 3 * k := by omega
  rw [e, Int.pow_mul, Int.natCast_pow]; rfl
end Go.Proofs.YtamgiffkhnfpmaaDoor
