/-
  BinRef: the reference's Base256.
-/
import Derived.Test.YtamgiffkhnfpmaaDoorBinWalk
import Derived.Test.YtamgiffkhnfpmaaDoorArrs
import Derived.Deep.CutBlock
import Derived.Deep.DeepCutAuto
namespace Go.Proofs.YtamgiffkhnfpmaaDoor
open Go.ChangeShapes Go.WideShapes Go.ChangeAt Go.RowKit
set_option maxRecDepth 100000 in
theorem head_bits (c : UInt8) (h : 128 ≤ c.toNat) : bits .or .u8 (bits .and .u8 (c.toNat : Int) 127) (bits .and .u8 ((fillOf c).toNat : Int) 128) = ((headB c).toNat : Int) := by
  have key : ∀ x : Fin 256, 128 ≤ x.1 → ((x.1 &&& 127) ||| ((if 192 ≤ x.1 then 255 else 0) &&& 128)) = (if 192 ≤ x.1 then x.1 else x.1 - 128) := by decide
  have hx := key ⟨c.toNat, c.toNat_lt⟩ h
  simp only at hx
  have hc := c.toNat_lt
  have e1 : bits .and .u8 (c.toNat : Int) 127 = ((c.toNat &&& 127 : Nat) : Int) := u8_and_nat c.toNat 127 hc (by decide)
  have e2 : bits .and .u8 ((fillOf c).toNat : Int) 128 = (((fillOf c).toNat &&& 128 : Nat) : Int) := u8_and_nat (fillOf c).toNat 128 (fillOf c).toNat_lt (by decide)
  have l1 : c.toNat &&& 127 < 256 := Nat.lt_of_le_of_lt Nat.and_le_left hc
  have l2 : (fillOf c).toNat &&& 128 < 256 := Nat.lt_of_le_of_lt Nat.and_le_left (fillOf c).toNat_lt
  rw [e1, e2, u8_or_nat _ _ l1 l2]
  have e3 : (fillOf c).toNat = if 192 ≤ c.toNat then 255 else 0 := by unfold fillOf; split <;> rfl
  have e4 : (headB c).toNat = if 192 ≤ c.toNat then c.toNat else c.toNat - 128 := by
    unfold headB; split
    · rfl
    · rw [UInt8.toNat_ofNat']; omega
  rw [e3, e4, hx]
theorem farFill_step (l : List UInt8) (k : Nat) (h : farFill l k) (hk : k + 8 < l.length → (binRow l).getD (8 + k) 0 = fillOf (l.getD 0 0)) : farFill l (k + 1) := fun j hj hj2 => by
  by_cases e : j = k
  · subst e; exact hk hj2
  · exact h j (by omega) hj2
set_option maxRecDepth 100000 in
theorem and128 (c : UInt8) : bits .and .u8 (c.toNat : Int) 128 = (if 128 ≤ c.toNat then 128 else 0) := by
  have key : ∀ x : Fin 256, (x.1 &&& 128) = (if 128 ≤ x.1 then 128 else 0) := by decide
  have hx := key ⟨c.toNat, c.toNat_lt⟩
  simp only at hx
  have e1 : bits .and .u8 (c.toNat : Int) 128 = ((c.toNat &&& 128 : Nat) : Int) := u8_and_nat c.toNat 128 c.toNat_lt (by decide)
  rw [e1, hx]
  split <;> rfl
/-- what the last eight bytes say, where the others fill up -/
theorem last_res (l : List UInt8) (r : Int × Int) (h1 : 128 ≤ (l.getD 0 0).toNat) (h : 0 < l.length) (hf : farFill l l.length) (hr : Plain.base256 l = r) :
    ((128 ≤ ((lastK l l.length).getD 0 0).toNat ↔ 192 ≤ (l.getD 0 0).toNat) → r = (IntKind.i64.wrap (binAcc 0 (lastK l l.length)), 0)) ∧ (¬ (128 ≤ ((lastK l l.length).getD 0 0).toNat ↔ 192 ≤ (l.getD 0 0).toNat) → r = (0, 11)) := by
  have hv := far_good l h h1 hf
  have hlen := lastK_len l l.length
  rw [← hr, Plain.base256_at l h (by omega), hv]
  generalize lastK l l.length = m at *
  obtain ⟨c, t, rfl⟩ : ∃ c t, m = c :: t := by
    cases m with
    | nil => simp at hlen
    | cons c t => exact ⟨c, t, rfl⟩
  have hg : (c :: t).getD 0 0 = c := rfl
  have htl : t.length = 7 := by simpa using hlen
  have hb := binAcc_bd t
  rw [htl] at hb
  have e7 : (256 : Int) ^ 7 = 72057594037927936 := by rfl
  rw [hg, binAcc_cons, binAcc_pow, htl]
  rw [e7] at hb ⊢
  have hc := u8_lt c
  generalize binAcc 0 t = u at *
  unfold signOf
  constructor
  · intro he
    rw [if_pos]
    · rw [IntKind.wrap_i64]
      by_cases h2 : 192 ≤ (l.getD 0 0).toNat
      · rw [if_pos h2]
        have := he.2 h2
        congr 1; omega
      · rw [if_neg h2]
        have : ¬ 128 ≤ c.toNat := fun h3 => h2 (he.1 h3)
        congr 1; omega
    · rw [inI64_iff]
      by_cases h2 : 192 ≤ (l.getD 0 0).toNat
      · rw [if_pos h2]
        have := he.2 h2
        omega
      · rw [if_neg h2]
        have : ¬ 128 ≤ c.toNat := fun h3 => h2 (he.1 h3)
        omega
  · intro he
    rw [if_neg]
    rw [inI64_iff]
    by_cases h2 : 192 ≤ (l.getD 0 0).toNat
    · rw [if_pos h2]
      have : ¬ 128 ≤ c.toNat := fun h3 => he ⟨fun _ => h2, fun _ => h3⟩
      omega
    · rw [if_neg h2]
      have : 128 ≤ c.toNat := Classical.byContradiction fun h3 => he ⟨fun h4 => absurd h4 h3, fun h4 => absurd h4 h2⟩
      omega
end Go.Proofs.YtamgiffkhnfpmaaDoor
