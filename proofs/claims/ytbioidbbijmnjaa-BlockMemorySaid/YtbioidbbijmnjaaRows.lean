/-
  No cell of these rows narrows 'for every input' (looked for: loops, veiled, ifaces, maps, wideKeys, modest, calm, conditions, laid).
  DERIVED. THE GIVEN ROWS OF THIS SEAT. 3 by the template 'for every input the law returns true; each argument reads behind the call as it read before'; 0 by the template 'total and deterministic' (their statements: YtbioidbbijmnjaaTotals.lean).
  GIVEN WITH THE SEED: the statements are not yours to turn. If you find one false, say at which input.
  Laid BY PROGRAM, IN A SANDBOX (cutbox-rows.mjs): the forced cells as the released guide's own fill.sh prints them over the translation 88abd0be2eaf76fb… (all of the seat's roots in one cut). By AI agents, Wed Nov 11 2026. No macro, syntax, notation, axiom, sorry.
-/
import Derived.Test.YtbioidbbijmnjaaChecked
import GoSem.Claim
import GoSem.ClaimJoined
import GoSem.ClaimMapViews
import Derived.JoinedTies
import Derived.KernelRfl
namespace Go.Proofs.Ytbioidbbijmnjaa
/- THE CELL 'sum', in the pinned program and in every row, IS THE sha256 OF THE DUMP (.gsa) THAT YtbioidbbijmnjaaProg.lean LOADS. Nothing in Lean hashes anything: it is a label: what it is worth is what the hold of that sum in a sandbox is worth. -/
noncomputable def Try.pinned : Pinned := { name := "ytbioidbbijmnjaa", sum := "88abd0be2eaf76fb018d43fadd9bea40f536001190f7140101cc935e5dfdd1c8", checked := Try.checked }
namespace Rows
def none {H : Type} : Left H := { results := [], args := [] }

/-- 'valiselaw03.BlockCuts': WHATEVER THE INPUT: true; the input reads as it did. -/
def blockCutsSpec : ChangeSpec := { name := "blockCuts", fn := fun _ => fun
  | [d] => { results := [.lit (.bool true)], args := [d] }
  | _ => none }
def blockCutsRow : OpenClaim := { program := "ytbioidbbijmnjaa", sum := "88abd0be2eaf76fb018d43fadd9bea40f536001190f7140101cc935e5dfdd1c8", func := "valise/valiselaw03.BlockCuts", spec := "blockCuts", leaving := true, apart := false }
def BlockCutsSaid : Prop := blockCutsRow.holds Try.pinned (OpenSpec.ofChange blockCutsSpec)

/-- ITS FALSE NEIGHBOUR: 'it returns false'. Refute it at one input. -/
def blockCutsWrong : ChangeSpec := { name := "blockCuts", fn := fun _ => fun
  | [d] => { results := [.lit (.bool false)], args := [d] }
  | _ => none }
def BlockCutsWrongFalsely : Prop := blockCutsRow.holds Try.pinned (OpenSpec.ofChange blockCutsWrong)

/-- 'valiselaw03.BlockRound': WHATEVER THE INPUT: true; the input reads as it did. -/
def blockRoundSpec : ChangeSpec := { name := "blockRound", fn := fun _ => fun
  | [d] => { results := [.lit (.bool true)], args := [d] }
  | _ => none }
def blockRoundRow : OpenClaim := { program := "ytbioidbbijmnjaa", sum := "88abd0be2eaf76fb018d43fadd9bea40f536001190f7140101cc935e5dfdd1c8", func := "valise/valiselaw03.BlockRound", spec := "blockRound", leaving := true, apart := false }
def BlockRoundSaid : Prop := blockRoundRow.holds Try.pinned (OpenSpec.ofChange blockRoundSpec)

/-- ITS FALSE NEIGHBOUR: 'it returns false'. Refute it at one input. -/
def blockRoundWrong : ChangeSpec := { name := "blockRound", fn := fun _ => fun
  | [d] => { results := [.lit (.bool false)], args := [d] }
  | _ => none }
def BlockRoundWrongFalsely : Prop := blockRoundRow.holds Try.pinned (OpenSpec.ofChange blockRoundWrong)

/-- 'valiselaw03.BlockMemory': WHATEVER THE INPUT: true; the input reads as it did. -/
def blockMemorySpec : ChangeSpec := { name := "blockMemory", fn := fun _ => fun
  | [d1, d2] => { results := [.lit (.bool true)], args := [d1, d2] }
  | _ => none }
def blockMemoryRow : OpenClaim := { program := "ytbioidbbijmnjaa", sum := "88abd0be2eaf76fb018d43fadd9bea40f536001190f7140101cc935e5dfdd1c8", func := "valise/valiselaw03.BlockMemory", spec := "blockMemory", leaving := true, apart := false }
def BlockMemorySaid : Prop := blockMemoryRow.holds Try.pinned (OpenSpec.ofChange blockMemorySpec)

/-- ITS FALSE NEIGHBOUR: 'it returns false'. Refute it at one input. -/
def blockMemoryWrong : ChangeSpec := { name := "blockMemory", fn := fun _ => fun
  | [d1, d2] => { results := [.lit (.bool false)], args := [d1, d2] }
  | _ => none }
def BlockMemoryWrongFalsely : Prop := blockMemoryRow.holds Try.pinned (OpenSpec.ofChange blockMemoryWrong)

/- THE SECOND FORM. 'bulk': how many values and letters a reading holds, each counted each time it is reached (what is shared counts as often as it is met; a slice's spare places count too). A statement '..UptoSaid' is the law's where the arguments, and the package variables that the reading takes, are together of bulk at most 1048576: NARROWER than '..Said'. Prove '..Said' where nothing that the law and all that it calls make is longer than what came in: it says more and counts as full. Else prove '..UptoSaid'. A law counts once. -/
mutual
def uptoBulk {H : Type} : DataW H → Nat
  | .lit (.string bytes) => bytes.length + 1
  | .lit _ => 1
  | .nil => 1
  | .ptr d => uptoBulk d + 1
  | .slice elems spare => uptoBulkAll elems + uptoBulkAll spare + 1
  | .agg parts => uptoBulkAll parts + 1
  | .iface _ d => uptoBulk d + 1
  | .map entries => uptoBulkEntries entries + 1
  | .held _ => 1
def uptoBulkAll {H : Type} : List (DataW H) → Nat
  | [] => 0
  | d :: r => uptoBulk d + uptoBulkAll r
def uptoBulkEntries {H : Type} : List (Lit × DataW H) → Nat
  | [] => 0
  | x :: r => uptoBulkEntry x + uptoBulkEntries r
def uptoBulkEntry {H : Type} : Lit × DataW H → Nat
  | (.string bytes, d) => bytes.length + uptoBulk d + 1
  | (_, d) => uptoBulk d + 1
 end
def uptoSmall : (H : Type) → List (DataW H) → Bool := fun _ ds => decide (uptoBulkAll ds ≤ 1048576)
def OpenSpec.upto (s : _root_.Go.ChangeSpec) : _root_.Go.OpenSpec := { _root_.Go.OpenSpec.ofChange s with cond := some uptoSmall }

/-- 'valiselaw03.BlockCuts', WHERE WHAT IT READS IS OF BULK AT MOST 1048576: true; the input reads as it did. -/
def blockCutsUptoRow : OpenClaim := { program := "ytbioidbbijmnjaa", sum := "88abd0be2eaf76fb018d43fadd9bea40f536001190f7140101cc935e5dfdd1c8", func := "valise/valiselaw03.BlockCuts", spec := "blockCuts", leaving := true, apart := false, narrowed := true }
def BlockCutsUptoSaid : Prop := blockCutsUptoRow.holds Try.pinned (OpenSpec.upto blockCutsSpec)

/-- 'valiselaw03.BlockRound', WHERE WHAT IT READS IS OF BULK AT MOST 1048576: true; the input reads as it did. -/
def blockRoundUptoRow : OpenClaim := { program := "ytbioidbbijmnjaa", sum := "88abd0be2eaf76fb018d43fadd9bea40f536001190f7140101cc935e5dfdd1c8", func := "valise/valiselaw03.BlockRound", spec := "blockRound", leaving := true, apart := false, narrowed := true }
def BlockRoundUptoSaid : Prop := blockRoundUptoRow.holds Try.pinned (OpenSpec.upto blockRoundSpec)

/-- 'valiselaw03.BlockMemory', WHERE WHAT IT READS IS OF BULK AT MOST 1048576: true; the input reads as it did. -/
def blockMemoryUptoRow : OpenClaim := { program := "ytbioidbbijmnjaa", sum := "88abd0be2eaf76fb018d43fadd9bea40f536001190f7140101cc935e5dfdd1c8", func := "valise/valiselaw03.BlockMemory", spec := "blockMemory", leaving := true, apart := false, narrowed := true }
def BlockMemoryUptoSaid : Prop := blockMemoryUptoRow.holds Try.pinned (OpenSpec.upto blockMemorySpec)

end Rows
end Go.Proofs.Ytbioidbbijmnjaa
