/-
  Valid: stamp.Valid and its reference; the texts' test of scribe and of its reference.
-/
import Derived.Test.YtpdkdhcbibcifaaBase
import Derived.Test.YtpdkdhcbibcifaaShelf
namespace Go.Proofs.Ytpdkdhcbibcifaa
open Go.ChangeShapes Go.WideShapes Go.ChangeAt Go.RowKit
namespace Plain
/-- is it a valid time? -/
def valid (sec nano : Int) : Bool := decide (0 ≤ nano) && decide (nano < 1000000000) && decide (-1099511627777 ≤ sec) && decide (sec ≤ 1099511627776) && !(decide (sec = -1099511627777) && decide (nano = 0))
end Plain
theorem Valid_any (s n : Int) (w : World) : Calls Try.prog 36 #[.agg #[.int .i64 s, .int .i64 n]] w fun e w' => e = .returned (.bool (Plain.valid s n)) ∧ Below w.heap.size w w' := by
  generalize hr : Plain.valid s n = r
  have HR := Lib.hid hr; clear hr
  go_enter Try.func36, Try.ntmps36
  go_wp2
  all_goals
    go_ret
    refine ⟨ret_bool ?_, (Below.refl _ _).alloc (Nat.le_refl _) _⟩
    rw [← HR.out, Bool.eq_iff_iff]
    try simp only [beq_iff_eq, beq_eq_false_iff_ne, ne_eq] at *
    simp [Plain.valid]
    try omega
theorem RefValid_any (s n : Int) (w : World) : Calls Try.prog 69 #[.agg #[.int .i64 s, .int .i64 n]] w fun e w' => e = .returned (.bool (Plain.valid s n)) ∧ Below w.heap.size w w' := by
  generalize hr : Plain.valid s n = r
  have HR := Lib.hid hr; clear hr
  go_enter Try.func69, Try.ntmps69
  go_wp2
  all_goals
    go_ret
    refine ⟨ret_bool ?_, (Below.refl _ _).alloc (Nat.le_refl _) _⟩
    rw [← HR.out, Bool.eq_iff_iff]
    try simp only [beq_iff_eq, beq_eq_false_iff_ne, ne_eq] at *
    simp [Plain.valid]
    try omega
end Go.Proofs.Ytpdkdhcbibcifaa
