/-
  Dec: decimal numerals, in plain Lean: the number a text says, and the text of a number. No program is needed here.
-/
import Derived.Test.YtjchaogfmnabfaaDoorBase
import Derived.Lib.ItoaMem
import Derived.Lib.ParseIntB
namespace Go.Proofs.YtjchaogfmnabfaaDoor
open Go.Lib
def isDig (c : UInt8) : Bool := decide (48 ≤ c.toNat ∧ c.toNat ≤ 57)
theorem isDig_iff (c : UInt8) : isDig c = true ↔ 48 ≤ c.toNat ∧ c.toNat ≤ 57 := by simp [isDig]
/-- the number that digits say, behind the number v -/
def decAcc (v : Nat) (l : List UInt8) : Nat := l.foldl (fun v c => v * 10 + (c.toNat - 48)) v
theorem decAcc_cons (v : Nat) (c : UInt8) (l : List UInt8) : decAcc v (c :: l) = decAcc (v * 10 + (c.toNat - 48)) l := by simp only [decAcc, List.foldl_cons]
theorem decAcc_nil (v : Nat) : decAcc v [] = v := by simp only [decAcc, List.foldl_nil]
theorem decAcc_app (v : Nat) (a b : List UInt8) : decAcc v (a ++ b) = decAcc (decAcc v a) b := by simp [decAcc, List.foldl_append]
theorem decAcc_one (v : Nat) (a : List UInt8) (c : UInt8) : decAcc v (a ++ [c]) = decAcc v a * 10 + (c.toNat - 48) := by rw [decAcc_app, decAcc_cons, decAcc_nil]
theorem decAcc_le : ∀ (l : List UInt8) (v : Nat), v ≤ decAcc v l
  | [], v => by rw [decAcc_nil]; exact Nat.le_refl v
  | c :: l, v => by rw [decAcc_cons]; have := decAcc_le l (v * 10 + (c.toNat - 48)); omega
theorem parseUintM_digits (M : Nat) (hM : M = 18446744073709551615) (l : List UInt8) : ∀ (acc : Nat), l.all isDig = true → acc ≤ M → parseUintM M acc l = if decAcc acc l ≤ M then .ok (decAcc acc l) else .range := by
  induction l with
  | nil =>
    intro acc _ h
    rw [parseUintM, decAcc_nil, if_pos h]
  | cons c l ih =>
    intro acc hd h
    rw [List.all_cons, Bool.and_eq_true, isDig_iff] at hd
    have hle := decAcc_le l (acc * 10 + (c.toNat - 48))
    rw [parseUintM, if_pos hd.1, decAcc_cons]
    by_cases h1 : 1844674407370955162 ≤ acc
    · rw [if_pos h1, if_neg (by omega)]
    · rw [if_neg h1]
      by_cases h2 : M < acc * 10 + (c.toNat - 48)
      · rw [if_pos h2, if_neg (by omega)]
      · rw [if_neg h2]
        exact ih _ hd.2 (by omega)
theorem parseIntB_digits (l : List UInt8) (hne : l ≠ []) (hd : l.all isDig = true) :
    parseIntB 64 l = if decAcc 0 l ≤ 9223372036854775807 then .ok ((decAcc 0 l : Nat) : Int) else .range := by
  cases l with
  | nil => exact absurd rfl hne
  | cons c r =>
    have hc := hd
    rw [List.all_cons, Bool.and_eq_true, isDig_iff] at hc
    have n1 : ¬ (c.toNat = 43 ∨ c.toNat = 45) := by omega
    have n2 : ¬ c.toNat = 45 := by omega
    have hu : parseUintB 64 (c :: r) = if decAcc 0 (c :: r) ≤ 18446744073709551615 then .ok (decAcc 0 (c :: r)) else .range := by
      rw [parseUintB, if_neg (by simp)]
      exact parseUintM_digits (2 ^ 64 - 1) (by decide) (c :: r) 0 hd (Nat.zero_le _)
    unfold parseIntB
    simp only [if_neg n1, hu]
    by_cases h1 : decAcc 0 (c :: r) ≤ 18446744073709551615
    · simp only [if_pos h1]
      by_cases h2 : decAcc 0 (c :: r) ≤ 9223372036854775807
      · rw [if_pos h2, if_neg (by omega), if_neg (by omega), if_neg n2]
      · rw [if_neg h2, if_pos (by omega)]
    · simp only [if_neg h1]
      rw [if_neg (by omega)]
/-- the document's answer: the number that a decimal text says, and the error's number -/
def Plain.decimal (l : List UInt8) : Int × Int :=
  if l = [] ∨ (l.getD 0 0 = 48 ∧ 1 < l.length) ∨ l.all isDig = false then (0, 10)
  else if decAcc 0 l ≤ 9223372036854775807 then (((decAcc 0 l : Nat) : Int), 0) else (0, 11)
theorem decDigits_all : ∀ u : Nat, (decDigits u).all isDig = true := by
  intro u
  induction u using Nat.strongRecOn with
  | ind u ih =>
    rw [decDigits]
    by_cases h : u < 10
    · rw [dif_pos h]
      have e : (UInt8.ofNat (48 + u)).toNat = 48 + u := by simp; omega
      simp only [List.all_cons, List.all_nil, Bool.and_true, isDig_iff, e]; omega
    · rw [dif_neg h, List.all_append, ih (u / 10) (by omega)]
      have e : (UInt8.ofNat (48 + u % 10)).toNat = 48 + u % 10 := by simp; omega
      simp only [List.all_cons, List.all_nil, Bool.and_true, Bool.true_and, isDig_iff, e]; omega
theorem decAcc_decDigits : ∀ u : Nat, decAcc 0 (decDigits u) = u := by
  intro u
  induction u using Nat.strongRecOn with
  | ind u ih =>
    rw [decDigits]
    by_cases h : u < 10
    · rw [dif_pos h]
      have e : (UInt8.ofNat (48 + u)).toNat = 48 + u := by simp; omega
      rw [decAcc_cons, decAcc_nil, e]; omega
    · have e : (UInt8.ofNat (48 + u % 10)).toNat = 48 + u % 10 := by simp; omega
      rw [dif_neg h, decAcc_one, ih (u / 10) (by omega), e]; omega
theorem decDigits_ne (u : Nat) : decDigits u ≠ [] := by
  rw [decDigits]; split <;> simp
/-- the first digit of a number above 0 is not 0 -/
theorem decDigits_head : ∀ u : Nat, 1 ≤ u → (decDigits u).getD 0 0 ≠ 48 := by
  intro u
  induction u using Nat.strongRecOn with
  | ind u ih =>
    intro h1 h48
    rw [decDigits] at h48
    by_cases h : u < 10
    · rw [dif_pos h] at h48
      have e : (UInt8.ofNat (48 + u)).toNat = 48 + u := by simp; omega
      have h48' : UInt8.ofNat (48 + u) = 48 := h48
      rw [h48'] at e
      have : (48 : UInt8).toNat = 48 := rfl
      omega
    · rw [dif_neg h] at h48
      have hne := decDigits_ne (u / 10)
      have : (decDigits (u / 10) ++ [UInt8.ofNat (48 + u % 10)]).getD 0 0 = (decDigits (u / 10)).getD 0 0 := by
        cases hd : decDigits (u / 10) with
        | nil => exact absurd hd hne
        | cons c r => rfl
      rw [this] at h48
      exact ih (u / 10) (by omega) (by omega) h48
/-- what Show writes of a number not below 0, Decimal reads -/
theorem decimal_itoa (v : Nat) (h : v ≤ 9223372036854775807) : Plain.decimal (itoa (v : Int)) = ((v : Int), 0) := by
  rw [itoa_nonneg]
  unfold Plain.decimal
  have h0 : ¬ (decDigits v = [] ∨ ((decDigits v).getD 0 0 = 48 ∧ 1 < (decDigits v).length) ∨ (decDigits v).all isDig = false) := by
    rintro (hn | ⟨h48, hl⟩ | ha)
    · exact decDigits_ne v hn
    · by_cases hv : 1 ≤ v
      · exact decDigits_head v hv h48
      · obtain rfl : v = 0 := by omega
        rw [decDigits, dif_pos (by omega)] at hl
        simp at hl
    · rw [decDigits_all] at ha; cases ha
  rw [if_neg h0, decAcc_decDigits, if_pos h]
/-- no other text says that number -/
theorem decDigits_decAcc : ∀ (n : Nat) (s : List UInt8), s.length = n → s ≠ [] → s.all isDig = true → s.getD 0 0 ≠ 48 → decDigits (decAcc 0 s) = s ∧ 1 ≤ decAcc 0 s := by
  intro n
  induction n with
  | zero => intro s hl hne; exact absurd (List.eq_nil_of_length_eq_zero hl) hne
  | succ n ih =>
    intro s hl hne hd h48
    obtain ⟨t, c, rfl⟩ : ∃ t c, s = t ++ [c] := ⟨s.dropLast, s.getLast hne, (List.dropLast_concat_getLast hne).symm⟩
    rw [List.all_append, Bool.and_eq_true] at hd
    have hc : 48 ≤ c.toNat ∧ c.toNat ≤ 57 := by simpa [isDig] using hd.2
    rw [decAcc_one]
    by_cases ht : t = []
    · subst ht
      have hc48 : c ≠ 48 := by simpa using h48
      have hcn : c.toNat ≠ 48 := fun h => hc48 (UInt8.toNat_inj.1 h)
      have e : decAcc 0 [] * 10 + (c.toNat - 48) = c.toNat - 48 := by simp [decAcc]
      rw [e, decDigits, dif_pos (by omega), show 48 + (c.toNat - 48) = c.toNat by omega]
      exact ⟨by simp, by omega⟩
    · have hh : t.getD 0 0 ≠ 48 := by
        cases t with
        | nil => exact absurd rfl ht
        | cons x r => simpa using h48
      obtain ⟨h1, h2⟩ := ih t (by simpa using hl) ht hd.1 hh
      rw [decDigits, dif_neg (by omega), show (decAcc 0 t * 10 + (c.toNat - 48)) / 10 = decAcc 0 t by omega, h1,
        show 48 + (decAcc 0 t * 10 + (c.toNat - 48)) % 10 = c.toNat by omega]
      exact ⟨by simp, by omega⟩
theorem itoa_decimal (s : List UInt8) (v : Int) (h : Plain.decimal s = (v, 0)) : itoa v = s := by
  unfold Plain.decimal at h
  split at h
  · cases h
  · rename_i h0
    split at h
    · simp only [Prod.mk.injEq, and_true] at h
      subst h
      rw [itoa_nonneg]
      have hne : s ≠ [] := fun h => h0 (.inl h)
      have hall : s.all isDig = true := by
        cases hs : s.all isDig with
        | true => rfl
        | false => exact absurd (.inr (.inr hs)) h0
      by_cases h48 : s.getD 0 0 = 48
      · have hl : ¬ 1 < s.length := fun hl => h0 (.inr (.inl ⟨h48, hl⟩))
        cases s with
        | nil => exact absurd rfl hne
        | cons c r =>
          have hr : r = [] := List.eq_nil_of_length_eq_zero (by rw [List.length_cons] at hl; omega)
          subst hr
          obtain rfl : c = 48 := by simpa using h48
          decide +kernel
      · exact (decDigits_decAcc _ s rfl hne hall h48).1
    · cases h
/-- a number and an error's number -/
def decV (r : Int × Int) : Value := .tuple #[.int .i64 r.1, .int .i64 r.2]
end Go.Proofs.YtjchaogfmnabfaaDoor
