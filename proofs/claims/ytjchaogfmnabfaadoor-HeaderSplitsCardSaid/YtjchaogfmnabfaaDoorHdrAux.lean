/-
  HdrAux: slices of arrays as the run has them; the numbers that have been read.
-/
import Derived.Test.YtjchaogfmnabfaaDoorHdrNum
import Derived.Deep.RegionHeld3
namespace Go.Proofs.YtjchaogfmnabfaaDoor
set_option linter.unusedVariables false
set_option linter.unusedSimpArgs false
open Go.ChangeShapes Go.WideShapes Go.ChangeAt Go.RowKit
def hFT (F : Int) (T : UInt8) : Hd := { Hd.zero with form := F, ty := T }
/-- x[lo:hi] of an array of bytes in memory, as the run has it -/
theorem run_slice_arr {P : Program} (t : TypeId) {e : TypeId} {n : Nat} (ht : P.underlying t = some (.array n e)) (hsz : (P.info? e).map (·.size) = some 1) (g : Nat) (lo hi : Option Int) (L M : Nat)
    (hL : match lo with | some p => p = (L : Int) | none => L = 0) (hM : match hi with | some p => p = (M : Int) | none => M = n) (h1 : L ≤ M) (h2 : M ≤ n) (h3 : L < n) (w : World) :
    (Instr.sliceAt t (.pointer (some ⟨g, 0, none⟩)) (lo.map (Value.int .i64)) (hi.map (Value.int .i64)) none).run P w = .ok (.slice (some ⟨g, L, none⟩) (M - L) (n - L)) w := by
  obtain ⟨i, hi', hs'⟩ := Option.map_eq_some_iff.1 hsz
  have hne : ¬ n = L := by omega
  have e1 : (L : Int) ≤ M := by omega
  have e2 : (M : Int) ≤ n := by omega
  have e3 : (L : Int) ≤ n := by omega
  have f3 : L ≤ n := by omega
  have ha : (Addr.add ⟨g, 0, none⟩ L) = (⟨g, L, none⟩ : Addr) := by rw [Addr.add_lit, Nat.zero_add]
  cases lo <;> cases hi <;> simp only at hL hM
  all_goals first | subst hL | skip
  all_goals first | subst hM | skip
  all_goals simp [Instr.sliceAt, Instr.sureAddr, Instr.sliceBounds, Instr.sliceBound, run_underlying ht, sizeOf, typeInfo, hi', hs', asIntOf, hne, Result.andThen, *]
end Go.Proofs.YtjchaogfmnabfaaDoor
