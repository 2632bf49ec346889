/-
  PutLaw: what the writers of numerals answer, and that it is read again, in plain Lean. No program is needed here.
-/
import Derived.Test.YtjchaogfmnabfaaDoorPlace
import Derived.Test.YtjchaogfmnabfaaDoorOctLaw
namespace Go.Proofs.YtjchaogfmnabfaaDoor
set_option linter.unusedVariables false
set_option linter.unusedSimpArgs false
open Go.ChangeShapes Go.WideShapes Go.ChangeAt Go.RowKit
/-- the top bit set -/
def top1 (c : UInt8) : UInt8 := if c.toNat < 128 then UInt8.ofNat (c.toNat + 128) else c
theorem top1_val (c : UInt8) : (top1 c).toNat = if c.toNat < 128 then c.toNat + 128 else c.toNat := by
  unfold top1
  have := u8_lt c
  split
  · rw [UInt8.toNat_ofNat']; omega
  · rfl
/-- v in binary form -/
def topRow (l : List UInt8) : List UInt8 := l.set 0 (top1 (l.getD 0 0))
/-- does v fit into a field of fewer than nine bytes? -/
def fits256 (v : Int) (n : Nat) : Prop := -64 ≤ v / 256 ^ (n - 1) ∧ v / 256 ^ (n - 1) ≤ 63
instance (v : Int) (n : Nat) : Decidable (fits256 v n) := by unfold fits256; infer_instance
def Plain.putOctal (v : Int) (n : Int) : List UInt8 × Int :=
  if n < 2 ∨ 64 < n then ([], 12) else if v < 0 then ([], 11) else if v.toNat < 8 ^ (n.toNat - 1) then (octRow v.toNat (n.toNat - 1) ++ [0], 0) else ([], 11)
def Plain.put256 (v : Int) (n : Int) : List UInt8 × Int :=
  if n < 2 ∨ 64 < n then ([], 12) else if n < 9 ∧ ¬ fits256 v n.toNat then ([], 11) else (topRow (bin256 v n.toNat), 0)
def Plain.put (v : Int) (n : Int) : List UInt8 × Int :=
  if (Plain.putOctal v n).2 = 0 then Plain.putOctal v n else Plain.put256 v n
def Plain.number (l : List UInt8) : Int × Int := if 0 < l.length ∧ 128 ≤ (l.getD 0 0).toNat then Plain.base256 l else Plain.octal l
theorem octal_row (v n : Nat) (hn : 1 ≤ n) (hv : v < 8 ^ n) (h63 : v ≤ 9223372036854775807) (tail : List UInt8) (ht : tail.all isGap = true) : Plain.octal (octRow v n ++ tail) = ((v : Int), 0) := by
  have hall := octRow_all v n
  obtain ⟨m, rfl⟩ : ∃ m, n = m + 1 := ⟨n - 1, by omega⟩
  have hd : (octRow v (m + 1) ++ tail).dropWhile (· == 32) = octRow v (m + 1) ++ tail := by
    unfold octRow
    rw [placeRow_succ, List.cons_append, List.dropWhile_cons_of_neg]
    have := (isOct_iff _).1 (octDig_oct v m)
    intro h
    rw [beq_iff_eq] at h
    rw [h] at this
    simp at this
  have htl : octTail (octRow v (m + 1) ++ tail) = tail := by
    unfold octTail
    rw [dropWhile_pass _ _ hall]
    cases tail with
    | nil => rfl
    | cons c r =>
      rw [List.all_cons, Bool.and_eq_true] at ht
      have : isOct c = false := by
        cases h : isOct c with
        | false => rfl
        | true => rw [oct_no_gap c h] at ht; cases ht.1
      exact List.dropWhile_cons_of_neg (by rw [this]; exact Bool.false_ne_true)
  have hhd : octHead (octRow v (m + 1) ++ tail) = octRow v (m + 1) := by
    have := oct_split (octRow v (m + 1) ++ tail)
    rw [htl] at this
    exact List.append_cancel_right this
  unfold Plain.octal
  simp only [hd, htl, hhd, ht, if_true, octRow_val, Nat.mod_eq_of_lt hv, h63]
theorem head256 (v : Int) (m : Nat) (h1 : -64 ≤ v / 256 ^ m) (h2 : v / 256 ^ m ≤ 63) : 128 ≤ (top1 (binByte v m)).toNat ∧ binHead (top1 (binByte v m)) = v / 256 ^ m := by
  have hb := binByte_val v m
  have ht := top1_val (binByte v m)
  generalize binByte v m = c at *
  generalize v / 256 ^ m = t at *
  have hc := u8_lt c
  rcases Int.lt_or_le t 0 with h | h
  · have e : t % 256 = t + 256 := by omega
    rw [e] at hb
    rw [if_neg (by omega)] at ht
    refine ⟨by omega, ?_⟩
    unfold binHead; rw [if_pos (by omega)]; omega
  · have e : t % 256 = t := by omega
    rw [e] at hb
    rw [if_pos (by omega)] at ht
    refine ⟨by omega, ?_⟩
    unfold binHead; rw [if_neg (by omega)]; omega
theorem base256_row (v : Int) (n : Nat) (hn : 1 ≤ n) (hf : fits256 v n) (h63 : inI64 v = true) : Plain.base256 (topRow (bin256 v n)) = (v, 0) ∧ 0 < (topRow (bin256 v n)).length ∧ 128 ≤ ((topRow (bin256 v n)).getD 0 0).toNat := by
  obtain ⟨m, rfl⟩ : ∃ m, n = m + 1 := ⟨n - 1, by omega⟩
  obtain ⟨h1, h2⟩ := hf
  rw [Nat.add_sub_cancel] at h1 h2
  obtain ⟨h3, h4⟩ := head256 v m h1 h2
  have e : topRow (bin256 v (m + 1)) = top1 (binByte v m) :: bin256 v m := by
    unfold topRow bin256; rw [placeRow_succ]; rfl
  rw [e]
  refine ⟨?_, by simp, h3⟩
  show (if _ then _ else _) = _
  have hv : binAcc (binHead (top1 (binByte v m))) (bin256 v m) = v := by
    rw [h4, binAcc_pow, bin256_val, bin256_len]
    have := Int.mul_ediv_add_emod v (256 ^ m)
    rw [Int.mul_comm]; exact this
  rw [if_neg (by omega), hv, if_pos h63]
theorem fits_wide (v : Int) (n : Nat) (h : 9 ≤ n) (h63 : inI64 v = true) : fits256 v n := by
  rw [inI64_iff] at h63
  have hp : (256 : Int) ^ 8 ≤ 256 ^ (n - 1) := by
    have h1 : (256 : Nat) ^ 8 ≤ 256 ^ (n - 1) := Nat.pow_le_pow_right (by decide) (by omega)
    have h2 : (((256 : Nat) ^ 8 : Nat) : Int) ≤ ((256 ^ (n - 1) : Nat) : Int) := Int.ofNat_le.2 h1
    rw [Int.natCast_pow, Int.natCast_pow] at h2
    exact h2
  have h8 : (256 : Int) ^ 8 = 18446744073709551616 := by rfl
  rw [h8] at hp
  unfold fits256
  generalize (256 : Int) ^ (n - 1) = p at *
  constructor
  · have : -1 ≤ v / p := by
      rw [Int.le_ediv_iff_mul_le (by omega)]; omega
    omega
  · have : v / p < 1 := by
      rw [Int.ediv_lt_iff_lt_mul (by omega)]; omega
    omega
theorem putOctal_cases (v n : Int) : ((n < 2 ∨ 64 < n) ∧ Plain.putOctal v n = ([], 12)) ∨ (2 ≤ n ∧ n ≤ 64 ∧ (v < 0 ∨ ¬ v.toNat < 8 ^ (n.toNat - 1)) ∧ Plain.putOctal v n = ([], 11)) ∨ (2 ≤ n ∧ n ≤ 64 ∧ 0 ≤ v ∧ v.toNat < 8 ^ (n.toNat - 1) ∧ Plain.putOctal v n = (octRow v.toNat (n.toNat - 1) ++ [0], 0)) := by
  unfold Plain.putOctal
  by_cases h1 : n < 2 ∨ 64 < n
  · exact .inl ⟨h1, if_pos h1⟩
  · rw [if_neg h1]
    by_cases h2 : v < 0
    · exact .inr (.inl ⟨by omega, by omega, .inl h2, if_pos h2⟩)
    · rw [if_neg h2]
      by_cases h3 : v.toNat < 8 ^ (n.toNat - 1)
      · exact .inr (.inr ⟨by omega, by omega, by omega, h3, if_pos h3⟩)
      · exact .inr (.inl ⟨by omega, by omega, .inr h3, if_neg h3⟩)
theorem put256_cases (v n : Int) : ((n < 2 ∨ 64 < n) ∧ Plain.put256 v n = ([], 12)) ∨ (2 ≤ n ∧ n < 9 ∧ ¬ fits256 v n.toNat ∧ Plain.put256 v n = ([], 11)) ∨ (2 ≤ n ∧ n ≤ 64 ∧ (n < 9 → fits256 v n.toNat) ∧ Plain.put256 v n = (topRow (bin256 v n.toNat), 0)) := by
  unfold Plain.put256
  by_cases h1 : n < 2 ∨ 64 < n
  · exact .inl ⟨h1, if_pos h1⟩
  · rw [if_neg h1]
    by_cases h3 : n < 9 ∧ ¬ fits256 v n.toNat
    · exact .inr (.inl ⟨by omega, h3.1, h3.2, if_pos h3⟩)
    · exact .inr (.inr ⟨by omega, by omega, fun h9 => Classical.byContradiction fun hc => h3 ⟨h9, hc⟩, if_neg h3⟩)
theorem put_code (v n : Int) (h : (Plain.put v n).2 ≠ 0) : (Plain.put v n).1 = [] ∧ (n < 9 ∨ 64 < n) := by
  unfold Plain.put at *
  by_cases h0 : (Plain.putOctal v n).2 = 0
  · rw [if_pos h0] at h; exact absurd h0 h
  · rw [if_neg h0] at h ⊢
    rcases put256_cases v n with ⟨h1, e⟩ | ⟨h1, h2, h3, e⟩ | ⟨h1, h2, h3, e⟩
    · rw [e]; exact ⟨rfl, by omega⟩
    · rw [e]; exact ⟨rfl, .inl h2⟩
    · rw [e] at h; exact absurd rfl h
theorem put_read (v n : Int) (h63 : inI64 v = true) (h : (Plain.put v n).2 = 0) : Plain.number (Plain.put v n).1 = (v, 0) ∧ ((Plain.put v n).1.length : Int) = n := by
  have hI := h63
  rw [inI64_iff] at hI
  unfold Plain.put at *
  rcases putOctal_cases v n with ⟨h1, e⟩ | ⟨h1, h2, h3, e⟩ | ⟨h1, h2, h3, h4, e⟩
  · have e2 : Plain.put256 v n = ([], 12) := if_pos h1
    rw [e, if_neg (by decide), e2] at h
    cases h
  · rw [e, if_neg (by decide)] at h ⊢
    rcases put256_cases v n with ⟨g1, f⟩ | ⟨g1, g2, g3, f⟩ | ⟨g1, g2, g3, f⟩
    · omega
    · rw [f] at h; cases h
    · rw [f]
      have hf : fits256 v n.toNat := by
        by_cases h9 : n < 9
        · exact g3 h9
        · exact fits_wide v n.toNat (by omega) h63
      obtain ⟨a, b, c⟩ := base256_row v n.toNat (by omega) hf h63
      refine ⟨?_, by simp only [topRow, List.length_set, bin256_len]; omega⟩
      unfold Plain.number
      rw [if_pos ⟨b, c⟩, a]
  · rw [e, if_pos rfl]
    have hlen : (octRow v.toNat (n.toNat - 1)).length = n.toNat - 1 := placeRow_len _ _
    have hg : (octRow v.toNat (n.toNat - 1) ++ [0]).getD 0 0 = octDig v.toNat (n.toNat - 1 - 1) := by
      have := placeRow_at (octDig v.toNat) (n.toNat - 1) 0 (by omega)
      rw [Nat.sub_zero] at this
      rw [← this]
      unfold octRow at hlen ⊢
      simp [List.getD, List.getElem?_append_left, hlen, show 0 < n.toNat - 1 by omega]
    have hod := (isOct_iff _).1 (octDig_oct v.toNat (n.toNat - 1 - 1))
    refine ⟨?_, by simp only [List.length_append, hlen, List.length_singleton]; omega⟩
    unfold Plain.number
    rw [if_neg (by rw [hg]; omega), octal_row v.toNat (n.toNat - 1) (by omega) h4 (by omega) [0] (by decide)]
    rw [Int.toNat_of_nonneg (by omega)]
end Go.Proofs.YtjchaogfmnabfaaDoor
