/-
  Place: rows of digits by their places, in plain Lean. No program is needed here.
-/
import Derived.Test.YtjchaogfmnabfaaDoorOct
import Derived.Test.YtjchaogfmnabfaaDoorBin
namespace Go.Proofs.YtjchaogfmnabfaaDoor
open Go.ChangeShapes Go.WideShapes Go.ChangeAt Go.RowKit
/-- n digits, the last one's place is 0 -/
def placeRow (f : Nat → UInt8) : Nat → List UInt8
  | 0 => []
  | n + 1 => f n :: placeRow f n
theorem placeRow_zero (f : Nat → UInt8) : placeRow f 0 = [] := rfl
theorem placeRow_succ (f : Nat → UInt8) (n : Nat) : placeRow f (n + 1) = f n :: placeRow f n := rfl
theorem placeRow_len (f : Nat → UInt8) : ∀ n, (placeRow f n).length = n
  | 0 => rfl
  | n + 1 => by rw [placeRow_succ, List.length_cons, placeRow_len f n]
theorem placeRow_at (f : Nat → UInt8) : ∀ (n i : Nat), i < n → (placeRow f n).getD i 0 = f (n - 1 - i)
  | 0, i, h => absurd h (Nat.not_lt_zero i)
  | n + 1, 0, _ => by rw [placeRow_succ]; rfl
  | n + 1, i + 1, h => by
    have ih := placeRow_at f n i (by omega)
    rw [placeRow_succ, show n + 1 - 1 - (i + 1) = n - 1 - i by omega, ← ih]
    simp [List.getD]
/-- a row of noughts that is filled from its end -/
def fillRow (z : UInt8) (f : Nat → UInt8) (n k : Nat) (tail : List UInt8) : List UInt8 := List.replicate (n - k) z ++ placeRow f k ++ tail
theorem fillRow_zero (z : UInt8) (f : Nat → UInt8) (n : Nat) (tail : List UInt8) : fillRow z f n 0 tail = List.replicate n z ++ tail := by
  unfold fillRow; rw [placeRow_zero, Nat.sub_zero, List.append_nil]
theorem fillRow_len (z : UInt8) (f : Nat → UInt8) (n k : Nat) (tail : List UInt8) (h : k ≤ n) : (fillRow z f n k tail).length = n + tail.length := by
  unfold fillRow; rw [List.length_append, List.length_append, List.length_replicate, placeRow_len]; omega
theorem fillRow_full (z : UInt8) (f : Nat → UInt8) (n : Nat) (tail : List UInt8) : fillRow z f n n tail = placeRow f n ++ tail := by
  unfold fillRow; rw [Nat.sub_self, List.replicate_zero, List.nil_append]
theorem fillRow_set (z : UInt8) (f : Nat → UInt8) (n k : Nat) (tail : List UInt8) (h : k < n) : (fillRow z f n k tail).set (n - 1 - k) (f k) = fillRow z f n (k + 1) tail := by
  unfold fillRow
  have e : n - k = (n - (k + 1)) + 1 := by omega
  rw [e, List.replicate_succ', placeRow_succ, List.append_assoc, List.append_assoc, List.append_assoc, List.set_append_right _ _ (by rw [List.length_replicate]; omega), List.length_replicate, show n - 1 - k - (n - (k + 1)) = 0 by omega]
  rfl
theorem fillRow_drop (z : UInt8) (f : Nat → UInt8) (n k : Nat) (tail : List UInt8) : (fillRow z f n k tail).drop (n - k) = placeRow f k ++ tail := by
  unfold fillRow
  rw [List.append_assoc, List.drop_append_of_le_length (by rw [List.length_replicate]; exact Nat.le_refl _), List.drop_of_length_le (by rw [List.length_replicate]; exact Nat.le_refl _), List.nil_append]
/-- a row that is filled from its head -/
def headRow (l : List UInt8) (k : Nat) : List UInt8 := l.take k ++ List.replicate (l.length - k) 0
theorem headRow_zero (l : List UInt8) : headRow l 0 = List.replicate l.length 0 := by unfold headRow; rw [List.take_zero, List.nil_append, Nat.sub_zero]
theorem headRow_len (l : List UInt8) (k : Nat) (h : k ≤ l.length) : (headRow l k).length = l.length := by unfold headRow; rw [List.length_append, List.length_replicate, List.length_take]; omega
theorem headRow_full (l : List UInt8) : headRow l l.length = l := by unfold headRow; rw [List.take_length, Nat.sub_self, List.replicate_zero, List.append_nil]
theorem headRow_set (l : List UInt8) (k : Nat) (h : k < l.length) : (headRow l k).set k (l.getD k 0) = headRow l (k + 1) := by
  have e : l.length - k = (l.length - (k + 1)) + 1 := by omega
  have hl : (l.take k).length = k := by simp; omega
  rw [headRow, headRow, e, List.replicate_succ, List.set_append_right _ _ (by omega), hl, Nat.sub_self, List.set_cons_zero, List.take_succ_eq_append_getElem h, List.append_assoc]
  simp [List.getD, List.getElem?_eq_getElem h]
/-- an octal digit by its place -/
def octDig (v : Nat) (j : Nat) : UInt8 := UInt8.ofNat (48 + v / 8 ^ j % 8)
theorem octDig_val (v j : Nat) : (octDig v j).toNat = 48 + v / 8 ^ j % 8 := by
  unfold octDig; rw [UInt8.toNat_ofNat']; have := Nat.mod_lt (v / 8 ^ j) (show 0 < 8 by decide); omega
theorem octDig_oct (v j : Nat) : isOct (octDig v j) = true := by
  rw [isOct_iff, octDig_val]; have := Nat.mod_lt (v / 8 ^ j) (show 0 < 8 by decide); omega
theorem octDig_high (v j : Nat) (h : v < 8 ^ j) : octDig v j = 48 := by
  unfold octDig; rw [Nat.div_eq_of_lt h]; rfl
def octRow (v n : Nat) : List UInt8 := placeRow (octDig v) n
theorem octRow_all (v : Nat) : ∀ n, (octRow v n).all isOct = true
  | 0 => rfl
  | n + 1 => by
    have ih := octRow_all v n
    unfold octRow at *
    rw [placeRow_succ, List.all_cons, octDig_oct, ih]; rfl
theorem octRow_val (v : Nat) : ∀ n, octAcc 0 (octRow v n) = v % 8 ^ n
  | 0 => by unfold octRow; rw [placeRow_zero, octAcc_nil, Nat.pow_zero, Nat.mod_one]
  | n + 1 => by
    have ih := octRow_val v n
    unfold octRow at *
    rw [placeRow_succ, octAcc_cons, octAcc_pow, ih, placeRow_len, octDig_val, Nat.pow_succ, Nat.mod_mul, Nat.zero_mul, Nat.zero_add, show 48 + v / 8 ^ n % 8 - 48 = v / 8 ^ n % 8 by omega, Nat.mul_comm, Nat.add_comm]
theorem octRow_pad (v d : Nat) (h : v < 8 ^ d) : ∀ k, octRow v (d + k) = List.replicate k 48 ++ octRow v d
  | 0 => by rw [Nat.add_zero, List.replicate_zero, List.nil_append]
  | k + 1 => by
    have ih := octRow_pad v d h k
    unfold octRow at *
    have hk : v < 8 ^ (d + k) := Nat.lt_of_lt_of_le h (Nat.pow_le_pow_right (by decide) (by omega))
    rw [← Nat.add_assoc, placeRow_succ, octDig_high v _ hk, ih, List.replicate_succ, List.cons_append]
/-- how many octal digits v has -/
def nd8 (v : Nat) : Nat := if v < 8 then 1 else nd8 (v / 8) + 1
theorem nd8_pos (v : Nat) : 1 ≤ nd8 v := by unfold nd8; split <;> omega
theorem nd8_spec : ∀ v, v < 8 ^ nd8 v := by
  intro v
  induction v using Nat.strongRecOn with
  | ind v ih =>
    unfold nd8
    by_cases h : v < 8
    · rw [if_pos h]; simpa using h
    · rw [if_neg h, Nat.pow_succ]
      have := ih (v / 8) (by omega)
      omega
theorem nd8_le : ∀ v n, 1 ≤ n → v < 8 ^ n → nd8 v ≤ n := by
  intro v
  induction v using Nat.strongRecOn with
  | ind v ih =>
    intro n hn h
    unfold nd8
    by_cases h8 : v < 8
    · rw [if_pos h8]; exact hn
    · rw [if_neg h8]
      obtain ⟨m, rfl⟩ : ∃ m, n = m + 1 := ⟨n - 1, by omega⟩
      have hm : 1 ≤ m := by
        rcases Nat.eq_zero_or_pos m with h0 | h0
        · subst h0; simp at h; omega
        · exact h0
      rw [Nat.pow_succ] at h
      have := ih (v / 8) (by omega) m hm (by omega)
      omega
theorem nd8_iff (v n : Nat) (hn : 1 ≤ n) : nd8 v ≤ n ↔ v < 8 ^ n :=
  ⟨fun h => Nat.lt_of_lt_of_le (nd8_spec v) (Nat.pow_le_pow_right (by decide) h), nd8_le v n hn⟩
/-- a byte of a number's binary form by its place -/
def binByte (v : Int) (j : Nat) : UInt8 := UInt8.ofNat (v / 256 ^ j % 256).toNat
theorem binByte_val (v : Int) (j : Nat) : ((binByte v j).toNat : Int) = v / 256 ^ j % 256 := by
  unfold binByte
  have h1 := Int.emod_nonneg (v / 256 ^ j) (show (256 : Int) ≠ 0 by decide)
  have h2 := Int.emod_lt_of_pos (v / 256 ^ j) (show (0 : Int) < 256 by decide)
  rw [UInt8.toNat_ofNat']; omega
def bin256 (v : Int) (n : Nat) : List UInt8 := placeRow (binByte v) n
theorem bin256_len (v : Int) (n : Nat) : (bin256 v n).length = n := placeRow_len _ n
theorem bin256_val (v : Int) : ∀ n, binAcc 0 (bin256 v n) = v % 256 ^ n
  | 0 => by unfold bin256; rw [placeRow_zero, binAcc_nil, Int.pow_zero, Int.emod_one]
  | n + 1 => by
    have ih := bin256_val v n
    unfold bin256 at *
    rw [placeRow_succ, binAcc_cons, binAcc_pow, ih, placeRow_len, binByte_val, Int.zero_mul, Int.zero_add, Int.pow_succ]
    have hp : (0 : Int) < 256 ^ n := Int.pow_pos (by decide)
    generalize (256 : Int) ^ n = p at *
    have e1 := Int.emod_add_mul_ediv v p
    have e2 := Int.emod_add_mul_ediv (v / p) 256
    have e3 : v / (p * 256) = v / p / 256 := by rw [Int.ediv_ediv_of_nonneg (by omega)]
    have e4 := Int.emod_add_mul_ediv v (p * 256)
    rw [e3] at e4
    have e5 : p * (v / p) = p * (v / p % 256) + p * 256 * (v / p / 256) := by
      rw [Int.mul_assoc, ← Int.mul_add, e2]
    rw [Int.mul_comm (v / p % 256) p]
    omega
end Go.Proofs.YtjchaogfmnabfaaDoor
