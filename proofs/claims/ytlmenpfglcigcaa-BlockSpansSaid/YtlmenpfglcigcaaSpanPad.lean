/-
  SpanPad: block.Span, block.Pad and their references, and the law BlockSpans.
-/
import Derived.Test.YtlmenpfglcigcaaBase
import Derived.Test.YtlmenpfglcigcaaProg
namespace Go.Proofs.Ytlmenpfglcigcaa
open Go.ChangeShapes Go.WideShapes Go.ChangeAt Go.RowKit
namespace Plain
def span (n : Int) : Int := if n ≤ 0 then 0 else (n - 1) / 512 + 1
def pad (n : Int) : Int := if n ≤ 0 then 0 else (-n) % 512
end Plain
theorem i64_and511 (n : Int) : bits .and .i64 n 511 = n % 512 := by
  have h511 : (BitVec.ofInt 64 511).toNat = 2 ^ 9 - 1 := by decide
  have key : (BitVec.ofInt 64 n &&& BitVec.ofInt 64 511).toNat = (n % ((2 ^ 64 : Nat) : Int)).toNat % 2 ^ 9 := by
    rw [BitVec.toNat_and, BitVec.toNat_ofInt, h511, Nat.and_two_pow_sub_one_eq_mod]
  show IntKind.i64.wrap ((BitVec.ofInt 64 n &&& BitVec.ofInt 64 511).toNat : Nat) = n % 512
  rw [key, IntKind.wrap_i64]
  omega
theorem Span_any (n : Int) (h1 : n < 9223372036854775808) (w : World) :
    Calls Try.prog 26 #[.int .i64 n] w fun e w' => e = .returned (.int .i64 (Plain.span n)) ∧ w = w' := by
  by_cases h0 : n ≤ 0
  · have hs : Plain.span n = 0 := by simp [Plain.span, h0]
    rw [hs]; clear hs
    go_enter Try.func26, Try.ntmps26
    go_wp2
    go_ret
    exact ⟨rfl, rfl⟩
  · have hs : Plain.span n = (n - 1) / 512 + 1 := by simp [Plain.span, h0]
    rw [hs]; clear hs
    go_enter Try.func26, Try.ntmps26
    go_wp2
    all_goals
      go_ret
      exact ⟨ret_int (by omega), rfl⟩
theorem RefSpan_any (n : Int) (h1 : n < 9223372036854775808) (w : World) :
    Calls Try.prog 28 #[.int .i64 n] w fun e w' => e = .returned (.int .i64 (Plain.span n)) ∧ w = w' := by
  by_cases h0 : n ≤ 0
  · have hs : Plain.span n = 0 := by simp [Plain.span, h0]
    rw [hs]; clear hs
    go_enter Try.func28, Try.ntmps28
    go_wp2
    go_ret
    exact ⟨rfl, rfl⟩
  · have hs : Plain.span n = (n - 1) / 512 + 1 := by simp [Plain.span, h0]
    rw [hs]; clear hs
    go_enter Try.func28, Try.ntmps28
    go_wp2
    go_ret
    exact ⟨rfl, rfl⟩
theorem Pad_any (n : Int) (h1 : n < 9223372036854775808) (w : World) :
    Calls Try.prog 27 #[.int .i64 n] w fun e w' => e = .returned (.int .i64 (Plain.pad n)) ∧ w = w' := by
  by_cases h0 : n ≤ 0
  · have hs : Plain.pad n = 0 := by simp [Plain.pad, h0]
    rw [hs]; clear hs
    go_enter Try.func27, Try.ntmps27
    go_wp2
    go_ret
    exact ⟨rfl, rfl⟩
  · have hs : Plain.pad n = (-n) % 512 := by simp [Plain.pad, h0]
    rw [hs]; clear hs
    go_enter Try.func27, Try.ntmps27
    go_wp2
    go_ret
    exact ⟨ret_int (i64_and511 _), rfl⟩
theorem RefPad_any (n : Int) (h1 : n < 9223372036854775808) (w : World) :
    Calls Try.prog 29 #[.int .i64 n] w fun e w' => e = .returned (.int .i64 (Plain.pad n)) ∧ w = w' := by
  by_cases h0 : n ≤ 0
  · have hs : Plain.pad n = 0 := by simp [Plain.pad, h0]
    rw [hs]; clear hs
    go_enter Try.func29, Try.ntmps29
    go_wp2
    go_ret
    exact ⟨rfl, rfl⟩
  · have hs : Plain.pad n = (-n) % 512 := by simp [Plain.pad, h0]
    rw [hs]; clear hs
    by_cases hz : n % 512 = 0
    · have hb : (n % 512 == 0) = true := beq_t hz
      have HZ := Lib.hid hz; clear hz
      go_enter Try.func29, Try.ntmps29
      go_wp2
      go_ret
      exact ⟨ret_int (by have := HZ.out; omega), rfl⟩
    · have hb : (n % 512 == 0) = false := beq_f hz
      go_enter Try.func29, Try.ntmps29
      go_wp2
      go_ret
      exact ⟨ret_int (by omega), rfl⟩
theorem BlockSpans_walk (n : Int) (w : World) (_h0 : -9223372036854775808 ≤ n) (h1 : n < 9223372036854775808) :
    Calls Try.prog 8 #[.int .i64 n] w fun e w' => e = .returned (.bool true) ∧ Below w.heap.size w w' := by
  have e1 : Plain.span 513 = 2 := by decide
  have e2 : Plain.pad 513 = 511 := by decide
  generalize hs : Plain.span n = s
  generalize hp : Plain.pad n = p
  have HS := Lib.hid hs; have HP := Lib.hid hp; clear hs hp
  go_enter Try.func8, Try.ntmps8
  go_wp2_with (first | (go_at_call 26; refine (Span_any _ (by omega) _).mono ?_; rintro e w1 ⟨rfl, rfl⟩) | (go_at_call 28; refine (RefSpan_any _ (by omega) _).mono ?_; rintro e w1 ⟨rfl, rfl⟩) | (go_at_call 27; refine (Pad_any _ (by omega) _).mono ?_; rintro e w1 ⟨rfl, rfl⟩) | (go_at_call 29; refine (RefPad_any _ (by omega) _).mono ?_; rintro e w1 ⟨rfl, rfl⟩))
  go_ret
  exact ⟨ret_bool (by simp), Below.refl _ _⟩
end Go.Proofs.Ytlmenpfglcigcaa
