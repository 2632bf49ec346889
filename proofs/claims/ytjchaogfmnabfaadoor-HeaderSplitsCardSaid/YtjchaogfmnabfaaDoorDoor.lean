/-
  Door: what a row's listed variables hold: from the row's list to the facts that the walks want; a world for the witness.
-/
import Derived.Test.YtjchaogfmnabfaaDoorRows
import Derived.Test.YtjchaogfmnabfaaDoorDecs
import Derived.Test.YtjchaogfmnabfaaDoorShow
import Derived.Deep.DeepHandedRow
import Derived.Lib.LaidTab
import Derived.LaidSub
import Derived.Stop.LaidErr
namespace Go.Proofs.YtjchaogfmnabfaaDoor
open Go.ChangeShapes Go.WideShapes Go.ChangeAt Go.RowKit
theorem pow10_of {laid : List (String × DataW Unit)} {W : World} (h : laidMetH Tryd.prog laid W) (hl : (laid.filter fun x => x.1 == "internal/strconv.uint64pow10") = [("internal/strconv.uint64pow10", Rows.laid_internal_strconv_uint64pow10)]) : Pow10 W := by
  have h1 := h.filter (fun x => x.1 == "internal/strconv.uint64pow10")
  rw [hl] at h1
  exact Lib.tabIs_of_head (rest := []) (n := 20) gPow10 (by kernel_rfl) Tryd.underlying146 Tryd.underlying122 (by kernel_rfl) (by kernel_rfl) h1
theorem starErr : "*" ++ "errors.errorString" = "*errors.errorString" := by decide
theorem rowErr (u : TypeId) (h : Tryd.prog.typeName? 3 u = some "*errors.errorString") : u = 160 :=
  typeName_ptr_named (nm := "errors.errorString") (by rw [starErr]; kernel_rfl) (by kernel_rfl) (by decide) u (by rw [starErr]; exact h)
theorem gErrRange : Tryd.prog.globalNamed "strconv.ErrRange" = some 3 := by kernel_rfl
theorem err_of {laid : List (String × DataW Unit)} {W : World} (h : laidMetH Tryd.prog laid W) (hl : (laid.filter fun x => x.1 == "strconv.ErrRange") = [("strconv.ErrRange", Rows.laid_strconv_ErrRange)]) : ∃ ev, ErrIs W ev := by
  have h1 := h.filter (fun x => x.1 == "strconv.ErrRange")
  rw [hl] at h1
  obtain ⟨a, s, hv, _⟩ := laid_sentinel (r := []) h1 gErrRange (by kernel_rfl) Tryd.underlying96 rowErr Tryd.underlying160 Tryd.underlying162 rfl rfl Tryd.underlying9 (by kernel_rfl) (by kernel_rfl)
  exact ⟨_, by simpa using World.var?_cell gErrRange hv 0, _, _, rfl⟩
/-- the cells of plain data -/
def cellsF : Nat → DataW Unit → List Value
  | 0, _ => []
  | _ + 1, .lit (.int k z) => [.int k z]
  | k + 1, .agg ps => ps.flatMap (cellsF k)
  | _, _ => []
def layAt (h : Array Obj) (g : Nat) (vs : List Value) : Array Obj := h.modify g fun
  | .cells _ t frozen => .cells vs.toArray t frozen
  | o => o
noncomputable def low : Nat := (World.holding Tryd.prog default ⟨#[], #[], []⟩).heap.size
noncomputable def laidWorld (os : Os) : World :=
  let w0 := World.holding Tryd.prog os ⟨#[.cells #[.string ⟨#[118, 97, 108, 117, 101, 32, 111, 117, 116, 32, 111, 102, 32, 114, 97, 110, 103, 101]⟩] 162, .cells #[.string ⟨#[105, 110, 118, 97, 108, 105, 100, 32, 115, 121, 110, 116, 97, 120]⟩] 162], #[], []⟩
  let h := layAt w0.heap 6 (cellsF 3 Rows.laid_math_bits_deBruijn32tab)
  let h := layAt h 7 (cellsF 3 Rows.laid_math_bits_deBruijn64tab)
  let h := layAt h 1 (cellsF 3 Rows.laid_internal_strconv_uint64pow10)
  let h := layAt h 3 [.iface 160 (.pointer (some ⟨low, 0, none⟩))]
  let h := layAt h 2 [.iface 160 (.pointer (some ⟨low + 1, 0, none⟩))]
  let h := layAt h 4 (cellsF 4 Rows.laid_unicode_utf8_first)
  let h := layAt h 5 (cellsF 4 Rows.laid_unicode_utf8_acceptRanges)
  { w0 with heap := h }
end Go.Proofs.YtjchaogfmnabfaaDoor
