/-
  No cell of these rows narrows 'for every input' (looked for: loops, veiled, ifaces, maps, wideKeys, modest, calm, conditions, laid).
  DERIVED. THE GIVEN ROWS OF THIS SEAT. 10 by the template 'for every input the law returns true; each argument reads behind the call as it read before'; 0 by the template 'total and deterministic' (their statements: YtlmenpfglcigcaaTotals.lean).
  GIVEN WITH THE SEED: the statements are not yours to turn. If you find one false, say at which input.
  Laid BY PROGRAM, IN A SANDBOX (cutbox-rows.mjs): the forced cells as the released guide's own fill.sh prints them over the translation 674a24df99809002… (all of the seat's roots in one cut). By AI agents, Wed Nov 11 2026. No macro, syntax, notation, axiom, sorry.
-/
import Derived.Test.YtlmenpfglcigcaaChecked
import GoSem.Claim
import GoSem.ClaimJoined
import GoSem.ClaimMapViews
import Derived.JoinedTies
import Derived.KernelRfl
namespace Go.Proofs.Ytlmenpfglcigcaa
/- THE CELL 'sum', in the pinned program and in every row, IS THE sha256 OF THE DUMP (.gsa) THAT YtlmenpfglcigcaaProg.lean LOADS. Nothing in Lean hashes anything: it is a label: what it is worth is what the hold of that sum in a sandbox is worth. -/
noncomputable def Try.pinned : Pinned := { name := "ytlmenpfglcigcaa", sum := "674a24df99809002c832ed52d72822bc6aa79b967022abf60cfe81a1631aae79", checked := Try.checked }
namespace Rows
def none {H : Type} : Left H := { results := [], args := [] }

/-- 'valiselaw03.BlockZeros': WHATEVER THE INPUT: true; the input reads as it did. -/
def blockZerosSpec : ChangeSpec := { name := "blockZeros", fn := fun _ => fun
  | [d] => { results := [.lit (.bool true)], args := [d] }
  | _ => none }
def blockZerosRow : OpenClaim := { program := "ytlmenpfglcigcaa", sum := "674a24df99809002c832ed52d72822bc6aa79b967022abf60cfe81a1631aae79", func := "valise/valiselaw03.BlockZeros", spec := "blockZeros", apart := false }
def BlockZerosSaid : Prop := blockZerosRow.holds Try.pinned (OpenSpec.ofChange blockZerosSpec)

/-- ITS FALSE NEIGHBOUR: 'it returns false'. Refute it at one input. -/
def blockZerosWrong : ChangeSpec := { name := "blockZeros", fn := fun _ => fun
  | [d] => { results := [.lit (.bool false)], args := [d] }
  | _ => none }
def BlockZerosWrongFalsely : Prop := blockZerosRow.holds Try.pinned (OpenSpec.ofChange blockZerosWrong)

/-- 'valiselaw05.RecordLatests': WHATEVER THE INPUT: true; the input reads as it did. -/
def recordLatestsSpec : ChangeSpec := { name := "recordLatests", fn := fun _ => fun
  | [d1, d2] => { results := [.lit (.bool true)], args := [d1, d2] }
  | _ => none }
def recordLatestsRow : OpenClaim := { program := "ytlmenpfglcigcaa", sum := "674a24df99809002c832ed52d72822bc6aa79b967022abf60cfe81a1631aae79", func := "valise/valiselaw05.RecordLatests", spec := "recordLatests", apart := false }
def RecordLatestsSaid : Prop := recordLatestsRow.holds Try.pinned (OpenSpec.ofChange recordLatestsSpec)

/-- ITS FALSE NEIGHBOUR: 'it returns false'. Refute it at one input. -/
def recordLatestsWrong : ChangeSpec := { name := "recordLatests", fn := fun _ => fun
  | [d1, d2] => { results := [.lit (.bool false)], args := [d1, d2] }
  | _ => none }
def RecordLatestsWrongFalsely : Prop := recordLatestsRow.holds Try.pinned (OpenSpec.ofChange recordLatestsWrong)

/-- 'valiselaw03.BlockTexts': WHATEVER THE INPUT: true; the input reads as it did. -/
def blockTextsSpec : ChangeSpec := { name := "blockTexts", fn := fun _ => fun
  | [d] => { results := [.lit (.bool true)], args := [d] }
  | _ => none }
def blockTextsRow : OpenClaim := { program := "ytlmenpfglcigcaa", sum := "674a24df99809002c832ed52d72822bc6aa79b967022abf60cfe81a1631aae79", func := "valise/valiselaw03.BlockTexts", spec := "blockTexts", inPlace := ["internal/bytealg.IndexByte"], apart := false }
def BlockTextsSaid : Prop := blockTextsRow.holds Try.pinned (OpenSpec.ofChange blockTextsSpec)

/-- ITS FALSE NEIGHBOUR: 'it returns false'. Refute it at one input. -/
def blockTextsWrong : ChangeSpec := { name := "blockTexts", fn := fun _ => fun
  | [d] => { results := [.lit (.bool false)], args := [d] }
  | _ => none }
def BlockTextsWrongFalsely : Prop := blockTextsRow.holds Try.pinned (OpenSpec.ofChange blockTextsWrong)

/-- 'valiselaw03.BlockJoins': WHATEVER THE INPUT: true; the input reads as it did. -/
def blockJoinsSpec : ChangeSpec := { name := "blockJoins", fn := fun _ => fun
  | [d1, d2] => { results := [.lit (.bool true)], args := [d1, d2] }
  | _ => none }
def blockJoinsRow : OpenClaim := { program := "ytlmenpfglcigcaa", sum := "674a24df99809002c832ed52d72822bc6aa79b967022abf60cfe81a1631aae79", func := "valise/valiselaw03.BlockJoins", spec := "blockJoins", apart := false }
def BlockJoinsSaid : Prop := blockJoinsRow.holds Try.pinned (OpenSpec.ofChange blockJoinsSpec)

/-- ITS FALSE NEIGHBOUR: 'it returns false'. Refute it at one input. -/
def blockJoinsWrong : ChangeSpec := { name := "blockJoins", fn := fun _ => fun
  | [d1, d2] => { results := [.lit (.bool false)], args := [d1, d2] }
  | _ => none }
def BlockJoinsWrongFalsely : Prop := blockJoinsRow.holds Try.pinned (OpenSpec.ofChange blockJoinsWrong)

/-- 'valiselaw03.BlockCuts': WHATEVER THE INPUT: true; the input reads as it did. -/
def blockCutsSpec : ChangeSpec := { name := "blockCuts", fn := fun _ => fun
  | [d] => { results := [.lit (.bool true)], args := [d] }
  | _ => none }
def blockCutsRow : OpenClaim := { program := "ytlmenpfglcigcaa", sum := "674a24df99809002c832ed52d72822bc6aa79b967022abf60cfe81a1631aae79", func := "valise/valiselaw03.BlockCuts", spec := "blockCuts", leaving := true, apart := false }
def BlockCutsSaid : Prop := blockCutsRow.holds Try.pinned (OpenSpec.ofChange blockCutsSpec)

/-- ITS FALSE NEIGHBOUR: 'it returns false'. Refute it at one input. -/
def blockCutsWrong : ChangeSpec := { name := "blockCuts", fn := fun _ => fun
  | [d] => { results := [.lit (.bool false)], args := [d] }
  | _ => none }
def BlockCutsWrongFalsely : Prop := blockCutsRow.holds Try.pinned (OpenSpec.ofChange blockCutsWrong)

/-- 'valiselaw03.BlockSpans': WHATEVER THE INPUT: true; the input reads as it did. -/
def blockSpansSpec : ChangeSpec := { name := "blockSpans", fn := fun _ => fun
  | [d] => { results := [.lit (.bool true)], args := [d] }
  | _ => none }
def blockSpansRow : OpenClaim := { program := "ytlmenpfglcigcaa", sum := "674a24df99809002c832ed52d72822bc6aa79b967022abf60cfe81a1631aae79", func := "valise/valiselaw03.BlockSpans", spec := "blockSpans", apart := false }
def BlockSpansSaid : Prop := blockSpansRow.holds Try.pinned (OpenSpec.ofChange blockSpansSpec)

/-- ITS FALSE NEIGHBOUR: 'it returns false'. Refute it at one input. -/
def blockSpansWrong : ChangeSpec := { name := "blockSpans", fn := fun _ => fun
  | [d] => { results := [.lit (.bool false)], args := [d] }
  | _ => none }
def BlockSpansWrongFalsely : Prop := blockSpansRow.holds Try.pinned (OpenSpec.ofChange blockSpansWrong)

/-- 'valiselaw03.BlockRound': WHATEVER THE INPUT: true; the input reads as it did. -/
def blockRoundSpec : ChangeSpec := { name := "blockRound", fn := fun _ => fun
  | [d] => { results := [.lit (.bool true)], args := [d] }
  | _ => none }
def blockRoundRow : OpenClaim := { program := "ytlmenpfglcigcaa", sum := "674a24df99809002c832ed52d72822bc6aa79b967022abf60cfe81a1631aae79", func := "valise/valiselaw03.BlockRound", spec := "blockRound", leaving := true, apart := false }
def BlockRoundSaid : Prop := blockRoundRow.holds Try.pinned (OpenSpec.ofChange blockRoundSpec)

/-- ITS FALSE NEIGHBOUR: 'it returns false'. Refute it at one input. -/
def blockRoundWrong : ChangeSpec := { name := "blockRound", fn := fun _ => fun
  | [d] => { results := [.lit (.bool false)], args := [d] }
  | _ => none }
def BlockRoundWrongFalsely : Prop := blockRoundRow.holds Try.pinned (OpenSpec.ofChange blockRoundWrong)

/-- 'valiselaw03.BlockMemory': WHATEVER THE INPUT: true; the input reads as it did. -/
def blockMemorySpec : ChangeSpec := { name := "blockMemory", fn := fun _ => fun
  | [d1, d2] => { results := [.lit (.bool true)], args := [d1, d2] }
  | _ => none }
def blockMemoryRow : OpenClaim := { program := "ytlmenpfglcigcaa", sum := "674a24df99809002c832ed52d72822bc6aa79b967022abf60cfe81a1631aae79", func := "valise/valiselaw03.BlockMemory", spec := "blockMemory", leaving := true, apart := false }
def BlockMemorySaid : Prop := blockMemoryRow.holds Try.pinned (OpenSpec.ofChange blockMemorySpec)

/-- ITS FALSE NEIGHBOUR: 'it returns false'. Refute it at one input. -/
def blockMemoryWrong : ChangeSpec := { name := "blockMemory", fn := fun _ => fun
  | [d1, d2] => { results := [.lit (.bool false)], args := [d1, d2] }
  | _ => none }
def BlockMemoryWrongFalsely : Prop := blockMemoryRow.holds Try.pinned (OpenSpec.ofChange blockMemoryWrong)

/-- 'valiselaw04.HeaderSplitJoins': WHATEVER THE INPUT: true; the input reads as it did. -/
def headerSplitJoinsSpec : ChangeSpec := { name := "headerSplitJoins", fn := fun _ => fun
  | [d] => { results := [.lit (.bool true)], args := [d] }
  | _ => none }
def headerSplitJoinsRow : OpenClaim := { program := "ytlmenpfglcigcaa", sum := "674a24df99809002c832ed52d72822bc6aa79b967022abf60cfe81a1631aae79", func := "valise/valiselaw04.HeaderSplitJoins", spec := "headerSplitJoins", inPlace := ["internal/bytealg.IndexByteString"], apart := false }
def HeaderSplitJoinsSaid : Prop := headerSplitJoinsRow.holds Try.pinned (OpenSpec.ofChange headerSplitJoinsSpec)

/-- ITS FALSE NEIGHBOUR: 'it returns false'. Refute it at one input. -/
def headerSplitJoinsWrong : ChangeSpec := { name := "headerSplitJoins", fn := fun _ => fun
  | [d] => { results := [.lit (.bool false)], args := [d] }
  | _ => none }
def HeaderSplitJoinsWrongFalsely : Prop := headerSplitJoinsRow.holds Try.pinned (OpenSpec.ofChange headerSplitJoinsWrong)

/-- 'valiselaw08.ScribeFits': WHATEVER THE INPUT: true; the input reads as it did. -/
def scribeFitsSpec : ChangeSpec := { name := "scribeFits", fn := fun _ => fun
  | [d] => { results := [.lit (.bool true)], args := [d] }
  | _ => none }
def scribeFitsRow : OpenClaim := { program := "ytlmenpfglcigcaa", sum := "674a24df99809002c832ed52d72822bc6aa79b967022abf60cfe81a1631aae79", func := "valise/valiselaw08.ScribeFits", spec := "scribeFits", inPlace := ["internal/bytealg.IndexByteString"], apart := false }
def ScribeFitsSaid : Prop := scribeFitsRow.holds Try.pinned (OpenSpec.ofChange scribeFitsSpec)

/-- ITS FALSE NEIGHBOUR: 'it returns false'. Refute it at one input. -/
def scribeFitsWrong : ChangeSpec := { name := "scribeFits", fn := fun _ => fun
  | [d] => { results := [.lit (.bool false)], args := [d] }
  | _ => none }
def ScribeFitsWrongFalsely : Prop := scribeFitsRow.holds Try.pinned (OpenSpec.ofChange scribeFitsWrong)

/- THE SECOND FORM. 'bulk': how many values and letters a reading holds, each counted each time it is reached (what is shared counts as often as it is met; a slice's spare places count too). A statement '..UptoSaid' is the law's where the arguments, and the package variables that the reading takes, are together of bulk at most 1048576: NARROWER than '..Said'. Prove '..Said' where nothing that the law and all that it calls make is longer than what came in: it says more and counts as full. Else prove '..UptoSaid'. A law counts once. -/
mutual
def uptoBulk {H : Type} : DataW H → Nat
  | .lit (.string bytes) => bytes.length + 1
  | .lit _ => 1
  | .nil => 1
  | .ptr d => uptoBulk d + 1
  | .slice elems spare => uptoBulkAll elems + uptoBulkAll spare + 1
  | .agg parts => uptoBulkAll parts + 1
  | .iface _ d => uptoBulk d + 1
  | .map entries => uptoBulkEntries entries + 1
  | .held _ => 1
def uptoBulkAll {H : Type} : List (DataW H) → Nat
  | [] => 0
  | d :: r => uptoBulk d + uptoBulkAll r
def uptoBulkEntries {H : Type} : List (Lit × DataW H) → Nat
  | [] => 0
  | x :: r => uptoBulkEntry x + uptoBulkEntries r
def uptoBulkEntry {H : Type} : Lit × DataW H → Nat
  | (.string bytes, d) => bytes.length + uptoBulk d + 1
  | (_, d) => uptoBulk d + 1
 end
def uptoSmall : (H : Type) → List (DataW H) → Bool := fun _ ds => decide (uptoBulkAll ds ≤ 1048576)
def OpenSpec.upto (s : _root_.Go.ChangeSpec) : _root_.Go.OpenSpec := { _root_.Go.OpenSpec.ofChange s with cond := some uptoSmall }

/-- 'valiselaw03.BlockZeros', WHERE WHAT IT READS IS OF BULK AT MOST 1048576: true; the input reads as it did. -/
def blockZerosUptoRow : OpenClaim := { program := "ytlmenpfglcigcaa", sum := "674a24df99809002c832ed52d72822bc6aa79b967022abf60cfe81a1631aae79", func := "valise/valiselaw03.BlockZeros", spec := "blockZeros", apart := false, narrowed := true }
def BlockZerosUptoSaid : Prop := blockZerosUptoRow.holds Try.pinned (OpenSpec.upto blockZerosSpec)

/-- 'valiselaw05.RecordLatests', WHERE WHAT IT READS IS OF BULK AT MOST 1048576: true; the input reads as it did. -/
def recordLatestsUptoRow : OpenClaim := { program := "ytlmenpfglcigcaa", sum := "674a24df99809002c832ed52d72822bc6aa79b967022abf60cfe81a1631aae79", func := "valise/valiselaw05.RecordLatests", spec := "recordLatests", apart := false, narrowed := true }
def RecordLatestsUptoSaid : Prop := recordLatestsUptoRow.holds Try.pinned (OpenSpec.upto recordLatestsSpec)

/-- 'valiselaw03.BlockTexts', WHERE WHAT IT READS IS OF BULK AT MOST 1048576: true; the input reads as it did. -/
def blockTextsUptoRow : OpenClaim := { program := "ytlmenpfglcigcaa", sum := "674a24df99809002c832ed52d72822bc6aa79b967022abf60cfe81a1631aae79", func := "valise/valiselaw03.BlockTexts", spec := "blockTexts", inPlace := ["internal/bytealg.IndexByte"], apart := false, narrowed := true }
def BlockTextsUptoSaid : Prop := blockTextsUptoRow.holds Try.pinned (OpenSpec.upto blockTextsSpec)

/-- 'valiselaw03.BlockJoins', WHERE WHAT IT READS IS OF BULK AT MOST 1048576: true; the input reads as it did. -/
def blockJoinsUptoRow : OpenClaim := { program := "ytlmenpfglcigcaa", sum := "674a24df99809002c832ed52d72822bc6aa79b967022abf60cfe81a1631aae79", func := "valise/valiselaw03.BlockJoins", spec := "blockJoins", apart := false, narrowed := true }
def BlockJoinsUptoSaid : Prop := blockJoinsUptoRow.holds Try.pinned (OpenSpec.upto blockJoinsSpec)

/-- 'valiselaw03.BlockCuts', WHERE WHAT IT READS IS OF BULK AT MOST 1048576: true; the input reads as it did. -/
def blockCutsUptoRow : OpenClaim := { program := "ytlmenpfglcigcaa", sum := "674a24df99809002c832ed52d72822bc6aa79b967022abf60cfe81a1631aae79", func := "valise/valiselaw03.BlockCuts", spec := "blockCuts", leaving := true, apart := false, narrowed := true }
def BlockCutsUptoSaid : Prop := blockCutsUptoRow.holds Try.pinned (OpenSpec.upto blockCutsSpec)

/-- 'valiselaw03.BlockSpans', WHERE WHAT IT READS IS OF BULK AT MOST 1048576: true; the input reads as it did. -/
def blockSpansUptoRow : OpenClaim := { program := "ytlmenpfglcigcaa", sum := "674a24df99809002c832ed52d72822bc6aa79b967022abf60cfe81a1631aae79", func := "valise/valiselaw03.BlockSpans", spec := "blockSpans", apart := false, narrowed := true }
def BlockSpansUptoSaid : Prop := blockSpansUptoRow.holds Try.pinned (OpenSpec.upto blockSpansSpec)

/-- 'valiselaw03.BlockRound', WHERE WHAT IT READS IS OF BULK AT MOST 1048576: true; the input reads as it did. -/
def blockRoundUptoRow : OpenClaim := { program := "ytlmenpfglcigcaa", sum := "674a24df99809002c832ed52d72822bc6aa79b967022abf60cfe81a1631aae79", func := "valise/valiselaw03.BlockRound", spec := "blockRound", leaving := true, apart := false, narrowed := true }
def BlockRoundUptoSaid : Prop := blockRoundUptoRow.holds Try.pinned (OpenSpec.upto blockRoundSpec)

/-- 'valiselaw03.BlockMemory', WHERE WHAT IT READS IS OF BULK AT MOST 1048576: true; the input reads as it did. -/
def blockMemoryUptoRow : OpenClaim := { program := "ytlmenpfglcigcaa", sum := "674a24df99809002c832ed52d72822bc6aa79b967022abf60cfe81a1631aae79", func := "valise/valiselaw03.BlockMemory", spec := "blockMemory", leaving := true, apart := false, narrowed := true }
def BlockMemoryUptoSaid : Prop := blockMemoryUptoRow.holds Try.pinned (OpenSpec.upto blockMemorySpec)

/-- 'valiselaw04.HeaderSplitJoins', WHERE WHAT IT READS IS OF BULK AT MOST 1048576: true; the input reads as it did. -/
def headerSplitJoinsUptoRow : OpenClaim := { program := "ytlmenpfglcigcaa", sum := "674a24df99809002c832ed52d72822bc6aa79b967022abf60cfe81a1631aae79", func := "valise/valiselaw04.HeaderSplitJoins", spec := "headerSplitJoins", inPlace := ["internal/bytealg.IndexByteString"], apart := false, narrowed := true }
def HeaderSplitJoinsUptoSaid : Prop := headerSplitJoinsUptoRow.holds Try.pinned (OpenSpec.upto headerSplitJoinsSpec)

/-- 'valiselaw08.ScribeFits', WHERE WHAT IT READS IS OF BULK AT MOST 1048576: true; the input reads as it did. -/
def scribeFitsUptoRow : OpenClaim := { program := "ytlmenpfglcigcaa", sum := "674a24df99809002c832ed52d72822bc6aa79b967022abf60cfe81a1631aae79", func := "valise/valiselaw08.ScribeFits", spec := "scribeFits", inPlace := ["internal/bytealg.IndexByteString"], apart := false, narrowed := true }
def ScribeFitsUptoSaid : Prop := scribeFitsUptoRow.holds Try.pinned (OpenSpec.upto scribeFitsSpec)

end Rows
end Go.Proofs.Ytlmenpfglcigcaa
