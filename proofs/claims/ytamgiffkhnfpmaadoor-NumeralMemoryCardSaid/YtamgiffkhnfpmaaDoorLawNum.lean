/-
  LawNum: the laws NumeralOctals and NumeralBases, walked.
-/
import Derived.Test.YtamgiffkhnfpmaaDoorLawOct
import Derived.Test.YtamgiffkhnfpmaaDoorNumWalk
import Derived.Test.YtamgiffkhnfpmaaDoorUseBytes
namespace Go.Proofs.YtamgiffkhnfpmaaDoor
open Go.ChangeShapes Go.WideShapes Go.ChangeAt Go.RowKit
theorem cut_marks {w : World} {a2 : Option Addr} {n k : Nat} {l : List UInt8} (hl : l.length = n) (hx : Bs w a2 (n - 0) k (((l ++ marks).take n).drop 0)) : Bs w a2 n k l := by
  rw [List.drop_zero, List.take_append_of_le_length (by rw [hl]; exact Nat.le_refl _), List.take_of_length_le (by rw [hl]; exact Nat.le_refl _)] at hx
  exact hx
end Go.Proofs.YtamgiffkhnfpmaaDoor
