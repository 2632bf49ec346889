/-
  HdrRef: the reference's Read.
-/
import Derived.Test.YtamgiffkhnfpmaaDoorJ05
import Derived.Test.YtamgiffkhnfpmaaDoorJ07
namespace Go.Proofs.YtamgiffkhnfpmaaDoor
set_option linter.unusedVariables false
set_option linter.unusedSimpArgs false
open Go.ChangeShapes Go.WideShapes Go.ChangeAt Go.RowKit
theorem ret_ib {n : Int} {a b : Bool} (h : a = b) : Ending.returned (.tuple #[.int .i64 n, .bool a]) = .returned (.tuple #[.int .i64 n, .bool b]) := by rw [h]
/-- the flags' cells -/
def bC (bs : List Bool) : Array Value := (bs.map Value.bool).toArray
theorem bC_set (bs : List Bool) (k : Nat) (b : Bool) : (bC bs).setIfInBounds k (.bool b) = bC (bs.set k b) := by simp [bC, List.map_set]
theorem bC_at (bs : List Bool) (k : Nat) (h : k < bs.length) : (bC bs)[k]? = some (.bool (bs.getD k false)) := by simp [bC, List.getD, List.getElem?_eq_getElem h]
theorem getD345 (l : List UInt8) : l.getD 345 0 = 0 ↔ Plain.text (fld l 345 500) = [] := by
  have hg := fld_getD l 345 500 0 (by decide)
  rw [Nat.add_zero] at hg
  rw [← hg]
  cases fld l 345 500 with
  | nil => simp [Plain.text]
  | cons c r =>
    simp only [List.getD_cons_zero]
    constructor
    · intro h; exact Plain.text_zero c r h
    · intro h
      by_cases e : c = 0
      · exact e
      · rw [Plain.text_cons c r e] at h; cases h
end Go.Proofs.YtamgiffkhnfpmaaDoor
