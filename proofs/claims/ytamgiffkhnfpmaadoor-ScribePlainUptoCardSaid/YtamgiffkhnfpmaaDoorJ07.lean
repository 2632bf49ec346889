/-
  LawZeros: the law BlockZeros, walked.
-/
import Derived.Test.YtamgiffkhnfpmaaDoorJ02
namespace Go.Proofs.YtamgiffkhnfpmaaDoor
set_option linter.unusedVariables false
set_option linter.unusedSimpArgs false
open Go.ChangeShapes Go.WideShapes Go.ChangeAt Go.RowKit
theorem all_take (m : List UInt8) (k : Nat) (h : k < m.length) : (m.take (k + 1)).all (· == 0) = ((m.take k).all (· == 0) && (m.getD k 0 == 0)) := by
  rw [List.take_succ_eq_append_getElem h, List.all_append]
  simp [List.getD, List.getElem?_eq_getElem h]
theorem all_zblk (m : List UInt8) (h : m.length = 512) : m.all (· == 0) = decide (m = zblk) := by
  rw [Bool.eq_iff_iff, List.all_eq_true, decide_eq_true_eq]
  unfold zblk
  rw [List.eq_replicate_iff]
  simp [h]
end Go.Proofs.YtamgiffkhnfpmaaDoor
