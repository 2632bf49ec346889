/-
  Bin: numbers in binary form, in plain Lean. No program is needed here.
-/
import Derived.Test.YtjchaogfmnabfaaDoorBase
namespace Go.Proofs.YtjchaogfmnabfaaDoor
open Go.ChangeShapes Go.WideShapes Go.ChangeAt Go.RowKit
/-- the number that bytes say, behind the number v -/
def binAcc (v : Int) (l : List UInt8) : Int := l.foldl (fun v b => v * 256 + (b.toNat : Int)) v
theorem binAcc_nil (v : Int) : binAcc v [] = v := by simp only [binAcc, List.foldl_nil]
theorem binAcc_cons (v : Int) (c : UInt8) (l : List UInt8) : binAcc v (c :: l) = binAcc (v * 256 + (c.toNat : Int)) l := by simp only [binAcc, List.foldl_cons]
theorem binAcc_app (v : Int) (a b : List UInt8) : binAcc v (a ++ b) = binAcc (binAcc v a) b := by simp [binAcc, List.foldl_append]
theorem binAcc_step (v : Int) (l : List UInt8) (k : Nat) (h : k < l.length) : binAcc v (l.take (k + 1)) = binAcc v (l.take k) * 256 + ((l.getD k 0).toNat : Int) := by
  have hg : l.getD k 0 = l[k] := by simp [List.getD, List.getElem?_eq_getElem h]
  rw [List.take_succ_eq_append_getElem h, binAcc_app, binAcc_cons, binAcc_nil, hg]
theorem binAcc_pow : ∀ (l : List UInt8) (v : Int), binAcc v l = v * 256 ^ l.length + binAcc 0 l
  | [], v => by rw [binAcc_nil, binAcc_nil]; simp
  | c :: l, v => by
    rw [binAcc_cons, binAcc_cons, binAcc_pow l (v * 256 + (c.toNat : Int)), binAcc_pow l (0 * 256 + (c.toNat : Int)), List.length_cons, Int.pow_succ]
    have e : (v * 256 + (c.toNat : Int)) * 256 ^ l.length = v * (256 ^ l.length * 256) + (c.toNat : Int) * 256 ^ l.length := by
      rw [Int.add_mul, Int.mul_assoc, Int.mul_comm 256 (256 ^ l.length)]
    rw [e]
    simp only [Int.zero_mul, Int.zero_add]
    omega
theorem binAcc_bd : ∀ (l : List UInt8), 0 ≤ binAcc 0 l ∧ binAcc 0 l < 256 ^ l.length
  | [] => by rw [binAcc_nil]; decide
  | c :: l => by
    have ih := binAcc_bd l
    have hc := u8_lt c
    rw [binAcc_cons, binAcc_pow, List.length_cons, Int.pow_succ]
    simp only [Int.zero_mul, Int.zero_add]
    generalize (256 : Int) ^ l.length = p at *
    have h1 : (c.toNat : Int) * p ≤ 255 * p := Int.mul_le_mul_of_nonneg_right (by omega) (by omega)
    have h2 : 0 ≤ (c.toNat : Int) * p := Int.mul_nonneg (by omega) (by omega)
    omega
theorem binAcc_hi : ∀ (l : List UInt8) (v K : Int), 0 ≤ K → K ≤ v → K ≤ binAcc v l
  | [], v, K, _, h => by rw [binAcc_nil]; exact h
  | c :: l, v, K, h0, h => by
    rw [binAcc_cons]
    have hc := u8_lt c
    exact binAcc_hi l _ K h0 (by omega)
theorem binAcc_lo : ∀ (l : List UInt8) (v K : Int), K ≤ -1 → v ≤ K → binAcc v l ≤ K
  | [], v, K, _, h => by rw [binAcc_nil]; exact h
  | c :: l, v, K, h0, h => by
    rw [binAcc_cons]
    have hc := u8_lt c
    exact binAcc_lo l _ K h0 (by omega)
def inI64 (v : Int) : Bool := decide (-9223372036854775808 ≤ v ∧ v ≤ 9223372036854775807)
theorem inI64_iff (v : Int) : inI64 v = true ↔ -9223372036854775808 ≤ v ∧ v ≤ 9223372036854775807 := by simp [inI64]
theorem inI64_no (v : Int) : inI64 v = false ↔ v < -9223372036854775808 ∨ 9223372036854775807 < v := by
  rw [← Bool.not_eq_true, inI64_iff]; omega
/-- out of bounds with bytes to come: the number is too great -/
theorem binAcc_out (v : Int) (l : List UInt8) (k : Nat) (h : k < l.length) (ho : binAcc v (l.take k) < -36028797018963968 ∨ 36028797018963967 < binAcc v (l.take k)) : inI64 (binAcc v l) = false := by
  have e : binAcc v l = binAcc (binAcc v (l.take (k + 1))) (l.drop (k + 1)) := by rw [← binAcc_app, List.take_append_drop]
  have hc := u8_lt (l.getD k 0)
  rw [e, binAcc_step v l k h, inI64_no]
  generalize binAcc v (l.take k) = p at *
  rcases ho with ho | ho
  · left
    have := binAcc_lo (l.drop (k + 1)) (p * 256 + ((l.getD k 0).toNat : Int)) (-9223372036854775809) (by omega) (by omega)
    omega
  · right
    have := binAcc_hi (l.drop (k + 1)) (p * 256 + ((l.getD k 0).toNat : Int)) 9223372036854775808 (by omega) (by omega)
    omega
/-- the first byte, its bit 6 the sign -/
def binHead (c : UInt8) : Int := if 192 ≤ c.toNat then (c.toNat : Int) - 256 else (c.toNat : Int) - 128
/-- the document's answer -/
def Plain.base256 : List UInt8 → Int × Int
  | [] => (0, 10)
  | c :: r => if c.toNat < 128 then (0, 10) else if inI64 (binAcc (binHead c) r) = true then (binAcc (binHead c) r, 0) else (0, 11)
theorem Plain.base256_low (l : List UInt8) (h : l = [] ∨ (l.getD 0 0).toNat < 128) : Plain.base256 l = (0, 10) := by
  cases l with
  | nil => rfl
  | cons c r =>
    rcases h with h | h
    · cases h
    · exact if_pos h
theorem Plain.base256_at (l : List UInt8) (h : 0 < l.length) (h1 : ¬ (l.getD 0 0).toNat < 128) : Plain.base256 l = if inI64 (binAcc (binHead (l.getD 0 0)) (l.drop 1)) = true then (binAcc (binHead (l.getD 0 0)) (l.drop 1), 0) else (0, 11) := by
  cases l with
  | nil => simp at h
  | cons c r => exact if_neg h1
/-- the byte that fills up, and its number -/
def fillOf (c : UInt8) : UInt8 := if 192 ≤ c.toNat then 255 else 0
def signOf (c : UInt8) : Int := if 192 ≤ c.toNat then -1 else 0
theorem binAcc_fill (c : UInt8) : ∀ n, binAcc (signOf c) (List.replicate n (fillOf c)) = signOf c
  | 0 => by rw [List.replicate_zero, binAcc_nil]
  | n + 1 => by
    rw [List.replicate_succ, binAcc_cons]
    have : signOf c * 256 + ((fillOf c).toNat : Int) = signOf c := by
      unfold signOf fillOf
      by_cases h : 192 ≤ c.toNat
      · rw [if_pos h, if_pos h]; decide
      · rw [if_neg h, if_neg h]; decide
    rw [this]; exact binAcc_fill c n
theorem binAcc_notfill (c : UInt8) : ∀ (x : List UInt8), (¬ ∀ b ∈ x, b = fillOf c) → 1 ≤ binAcc (signOf c) x ∨ binAcc (signOf c) x ≤ -2
  | [], h => absurd (fun b hb => by cases hb) h
  | b :: x, h => by
    rw [binAcc_cons]
    by_cases hb : b = fillOf c
    · have e : signOf c * 256 + (b.toNat : Int) = signOf c := by
        have := binAcc_fill c 1
        rw [List.replicate_one, binAcc_cons, binAcc_nil] at this
        rw [hb]; exact this
      rw [e]
      exact binAcc_notfill c x (fun hx => h (fun b' hb' => by
        rcases List.mem_cons.1 hb' with h1 | h1
        · rw [h1]; exact hb
        · exact hx b' h1))
    · have hbl := u8_lt b
      by_cases hc : 192 ≤ c.toNat
      · right
        have hne : b.toNat ≠ 255 := fun e => hb (by unfold fillOf; rw [if_pos hc]; exact UInt8.toNat_inj.1 e)
        have hs : signOf c = -1 := by unfold signOf; rw [if_pos hc]
        rw [hs]
        exact binAcc_lo x _ (-2) (by omega) (by omega)
      · left
        have hne : b.toNat ≠ 0 := fun e => hb (by unfold fillOf; rw [if_neg hc]; exact UInt8.toNat_inj.1 e)
        have hs : signOf c = 0 := by unfold signOf; rw [if_neg hc]
        rw [hs]
        exact binAcc_hi x _ 1 (by omega) (by omega)
/-- the first byte as the reference takes it -/
def headB (c : UInt8) : UInt8 := if 192 ≤ c.toNat then c else UInt8.ofNat (c.toNat - 128)
theorem headB_val (c : UInt8) (h : 128 ≤ c.toNat) : signOf c * 256 + ((headB c).toNat : Int) = binHead c := by
  unfold signOf headB binHead
  have := u8_lt c
  by_cases hc : 192 ≤ c.toNat
  · rw [if_pos hc, if_pos hc, if_pos hc]; omega
  · rw [if_neg hc, if_neg hc, if_neg hc, UInt8.toNat_ofNat']; omega
/-- eight bytes that fill up, and the field's bytes -/
def binRow (l : List UInt8) : List UInt8 := List.replicate 8 (fillOf (l.getD 0 0)) ++ (headB (l.getD 0 0) :: l.drop 1)
theorem binRow_len (l : List UInt8) (h : 0 < l.length) : (binRow l).length = l.length + 8 := by
  unfold binRow; rw [List.length_append, List.length_replicate, List.length_cons, List.length_drop]; omega
theorem binRow_val (l : List UInt8) (h1 : 128 ≤ (l.getD 0 0).toNat) : binAcc (signOf (l.getD 0 0)) (binRow l) = binAcc (binHead (l.getD 0 0)) (l.drop 1) := by
  unfold binRow; rw [binAcc_app, binAcc_fill, binAcc_cons, headB_val _ h1]
theorem binRow_fill (l : List UInt8) (k : Nat) (h : k < 8) : (binRow l).getD k 0 = fillOf (l.getD 0 0) := by
  unfold binRow
  rw [List.getD, List.getElem?_append_left (by rw [List.length_replicate]; exact h), List.getElem?_replicate_of_lt h]; rfl
theorem binRow_at (l : List UInt8) (i : Nat) : (binRow l).getD (8 + i) 0 = if i = 0 then headB (l.getD 0 0) else l.getD i 0 := by
  unfold binRow
  rw [List.getD, List.getElem?_append_right (by simp), List.length_replicate, show 8 + i - 8 = i by omega]
  cases i with
  | zero => rw [if_pos rfl, List.getElem?_cons_zero]; rfl
  | succ i => rw [if_neg (by omega), List.getElem?_cons_succ, List.getElem?_drop, Nat.add_comm 1 i]; rfl
/-- the last eight bytes behind i of the field's -/
def lastK (l : List UInt8) (i : Nat) : List UInt8 := (List.range 8).map fun p => if l.length + p < 8 + i then (binRow l).getD (l.length + p) 0 else fillOf (l.getD 0 0)
theorem lastK_len (l : List UInt8) (i : Nat) : (lastK l i).length = 8 := by simp [lastK]
theorem lastK_zero (l : List UInt8) : lastK l 0 = List.replicate 8 (fillOf (l.getD 0 0)) := by
  apply List.ext_getElem
  · simp [lastK]
  · intro p h1 h2
    simp only [lastK, List.getElem_map, List.getElem_range, List.getElem_replicate]
    split
    · exact binRow_fill l _ (by omega)
    · rfl
theorem lastK_far (l : List UInt8) (i : Nat) (h : i + 8 < l.length) : lastK l (i + 1) = lastK l i := by
  unfold lastK
  apply List.map_congr_left
  intro p hp
  rw [if_neg (by omega), if_neg (by omega)]
theorem lastK_near (l : List UInt8) (i : Nat) (h : l.length ≤ i + 8) (hi : i < l.length) : lastK l (i + 1) = (lastK l i).set (8 + i - l.length) ((binRow l).getD (8 + i) 0) := by
  apply List.ext_getElem
  · simp [lastK]
  · intro p h1 h2
    rw [List.getElem_set]
    simp only [lastK, List.getElem_map, List.getElem_range]
    by_cases hp : 8 + i - l.length = p
    · rw [if_pos hp, if_pos (by omega), show l.length + p = 8 + i by omega]
    · rw [if_neg hp]
      by_cases h3 : l.length + p < 8 + i
      · rw [if_pos h3, if_pos (by omega)]
      · rw [if_neg h3, if_neg (by omega)]
theorem lastK_end (l : List UInt8) (h : 0 < l.length) : lastK l l.length = (binRow l).drop l.length := by
  have hl := binRow_len l h
  apply List.ext_getElem
  · rw [lastK_len, List.length_drop, hl]; omega
  · intro p h1 h2
    rw [lastK_len] at h1
    simp only [lastK, List.getElem_map, List.getElem_range, List.getElem_drop]
    rw [if_pos (by omega)]
    simp [List.getD, List.getElem?_eq_getElem (show l.length + p < (binRow l).length by omega)]
/-- the bytes ahead of the last eight all fill up -/
def farFill (l : List UInt8) (i : Nat) : Prop := ∀ k, k < i → k + 8 < l.length → (binRow l).getD (8 + k) 0 = fillOf (l.getD 0 0)
theorem farFill_bad (l : List UInt8) (k : Nat) (h : k + 8 < l.length) (h1 : 128 ≤ (l.getD 0 0).toNat) (hb : (binRow l).getD (8 + k) 0 ≠ fillOf (l.getD 0 0)) : Plain.base256 l = (0, 11) := by
  have hl := binRow_len l (by omega)
  rw [Plain.base256_at l (by omega) (by omega), if_neg]
  rw [← binRow_val l h1, Bool.not_eq_true, inI64_no]
  have e : binRow l = (binRow l).take (l.length) ++ (binRow l).drop l.length := (List.take_append_drop _ _).symm
  have hn := binAcc_notfill (l.getD 0 0) ((binRow l).take l.length) (fun hall => hb (by
    have hm : (binRow l)[8 + k]'(by omega) ∈ (binRow l).take l.length := by
      rw [List.mem_take_iff_getElem]
      exact ⟨8 + k, by omega, rfl⟩
    have := hall _ hm
    simpa [List.getD, List.getElem?_eq_getElem (show 8 + k < (binRow l).length by omega)] using this))
  rw [e, binAcc_app, binAcc_pow, List.length_drop, hl, show l.length + 8 - l.length = 8 by omega]
  have hb2 := binAcc_bd ((binRow l).drop l.length)
  rw [List.length_drop, hl, show l.length + 8 - l.length = 8 by omega] at hb2
  generalize binAcc 0 ((binRow l).drop l.length) = u at *
  generalize binAcc (signOf (l.getD 0 0)) ((binRow l).take l.length) = p at *
  omega
theorem far_good (l : List UInt8) (h : 0 < l.length) (h1 : 128 ≤ (l.getD 0 0).toNat) (hf : farFill l l.length) :
    binAcc (binHead (l.getD 0 0)) (l.drop 1) = signOf (l.getD 0 0) * 18446744073709551616 + binAcc 0 (lastK l l.length) := by
  have hl := binRow_len l h
  rw [lastK_end l h, ← binRow_val l h1]
  have hrep : (binRow l).take l.length = List.replicate l.length (fillOf (l.getD 0 0)) := by
    apply List.ext_getElem
    · rw [List.length_take, List.length_replicate]; omega
    · intro k h2 h3
      rw [List.length_replicate] at h3
      rw [List.getElem_take, List.getElem_replicate]
      have hg : (binRow l)[k]'(by omega) = (binRow l).getD k 0 := by simp [List.getD, List.getElem?_eq_getElem (show k < (binRow l).length by omega)]
      rw [hg]
      by_cases h8 : k < 8
      · exact binRow_fill l k h8
      · have := hf (k - 8) (by omega) (by omega)
        rwa [show 8 + (k - 8) = k by omega] at this
  have e : binAcc (signOf (l.getD 0 0)) (binRow l) = binAcc (signOf (l.getD 0 0)) ((binRow l).take l.length ++ (binRow l).drop l.length) := by rw [List.take_append_drop]
  rw [e, binAcc_app, hrep, binAcc_fill, binAcc_pow, List.length_drop, hl, show l.length + 8 - l.length = 8 by omega]
  rfl
end Go.Proofs.YtjchaogfmnabfaaDoor
