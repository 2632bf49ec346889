/-
  No cell of these rows narrows 'for every input' (looked for: loops, veiled, ifaces, maps, wideKeys, modest, calm, conditions, laid).
  DERIVED. THE GIVEN ROWS OF THIS SEAT. 6 by the template 'for every input the law returns true; each argument reads behind the call as it read before'; 0 by the template 'total and deterministic' (their statements: YtpdkdhcbibcifaaTotals.lean).
  GIVEN WITH THE SEED: the statements are not yours to turn. If you find one false, say at which input.
  Laid BY PROGRAM, IN A SANDBOX (cutbox-rows.mjs): the forced cells as the released guide's own fill.sh prints them over the translation afbeaa6e4e5d84fa… (all of the seat's roots in one cut). By AI agents, Wed Nov 11 2026. No macro, syntax, notation, axiom, sorry.
-/
import Derived.Test.YtpdkdhcbibcifaaChecked
import GoSem.Claim
import GoSem.ClaimJoined
import GoSem.ClaimMapViews
import Derived.JoinedTies
import Derived.KernelRfl
namespace Go.Proofs.Ytpdkdhcbibcifaa
/- THE CELL 'sum', in the pinned program and in every row, IS THE sha256 OF THE DUMP (.gsa) THAT YtpdkdhcbibcifaaProg.lean LOADS. Nothing in Lean hashes anything: it is a label: what it is worth is what the hold of that sum in a sandbox is worth. -/
noncomputable def Try.pinned : Pinned := { name := "ytpdkdhcbibcifaa", sum := "afbeaa6e4e5d84fa50f700b52d0c02bd86bd51bd9fb828777aba69263c1e4931", checked := Try.checked }
namespace Rows
def none {H : Type} : Left H := { results := [], args := [] }

/-- 'valiselaw16.GatherEntries': WHATEVER THE INPUT: true; the input reads as it did. -/
def gatherEntriesSpec : ChangeSpec := { name := "gatherEntries", fn := fun _ => fun
  | [d] => { results := [.lit (.bool true)], args := [d] }
  | _ => none }
def gatherEntriesRow : OpenClaim := { program := "ytpdkdhcbibcifaa", sum := "afbeaa6e4e5d84fa50f700b52d0c02bd86bd51bd9fb828777aba69263c1e4931", func := "valise/valiselaw16.GatherEntries", spec := "gatherEntries", inPlace := ["internal/bytealg.IndexByteString", "internal/bytealg.IndexString"], unfollowed := true, recurses := true, named := ["internal/bytealg.MaxLen"], apart := false }
def GatherEntriesSaid : Prop := gatherEntriesRow.holds Try.pinned (OpenSpec.ofChange gatherEntriesSpec)

/-- ITS FALSE NEIGHBOUR: 'it returns false'. Refute it at one input. -/
def gatherEntriesWrong : ChangeSpec := { name := "gatherEntries", fn := fun _ => fun
  | [d] => { results := [.lit (.bool false)], args := [d] }
  | _ => none }
def GatherEntriesWrongFalsely : Prop := gatherEntriesRow.holds Try.pinned (OpenSpec.ofChange gatherEntriesWrong)

/-- 'valiselaw16.GatherEach': WHATEVER THE INPUT: true; the input reads as it did. -/
def gatherEachSpec : ChangeSpec := { name := "gatherEach", fn := fun _ => fun
  | [d1, d2] => { results := [.lit (.bool true)], args := [d1, d2] }
  | _ => none }
def gatherEachRow : OpenClaim := { program := "ytpdkdhcbibcifaa", sum := "afbeaa6e4e5d84fa50f700b52d0c02bd86bd51bd9fb828777aba69263c1e4931", func := "valise/valiselaw16.GatherEach", spec := "gatherEach", inPlace := ["internal/bytealg.IndexByteString", "internal/bytealg.IndexString"], unfollowed := true, recurses := true, named := ["internal/bytealg.MaxLen"], apart := false }
def GatherEachSaid : Prop := gatherEachRow.holds Try.pinned (OpenSpec.ofChange gatherEachSpec)

/-- ITS FALSE NEIGHBOUR: 'it returns false'. Refute it at one input. -/
def gatherEachWrong : ChangeSpec := { name := "gatherEach", fn := fun _ => fun
  | [d1, d2] => { results := [.lit (.bool false)], args := [d1, d2] }
  | _ => none }
def GatherEachWrongFalsely : Prop := gatherEachRow.holds Try.pinned (OpenSpec.ofChange gatherEachWrong)

/-- 'valiselaw16.GatherFits': WHATEVER THE INPUT: true; the input reads as it did. -/
def gatherFitsSpec : ChangeSpec := { name := "gatherFits", fn := fun _ => fun
  | [d1, d2] => { results := [.lit (.bool true)], args := [d1, d2] }
  | _ => none }
def gatherFitsRow : OpenClaim := { program := "ytpdkdhcbibcifaa", sum := "afbeaa6e4e5d84fa50f700b52d0c02bd86bd51bd9fb828777aba69263c1e4931", func := "valise/valiselaw16.GatherFits", spec := "gatherFits", inPlace := ["internal/bytealg.IndexByteString", "internal/bytealg.IndexString"], unfollowed := true, recurses := true, named := ["internal/bytealg.MaxLen"], apart := false }
def GatherFitsSaid : Prop := gatherFitsRow.holds Try.pinned (OpenSpec.ofChange gatherFitsSpec)

/-- ITS FALSE NEIGHBOUR: 'it returns false'. Refute it at one input. -/
def gatherFitsWrong : ChangeSpec := { name := "gatherFits", fn := fun _ => fun
  | [d1, d2] => { results := [.lit (.bool false)], args := [d1, d2] }
  | _ => none }
def GatherFitsWrongFalsely : Prop := gatherFitsRow.holds Try.pinned (OpenSpec.ofChange gatherFitsWrong)

/-- 'valiselaw16.GatherLines': WHATEVER THE INPUT: true; the input reads as it did. -/
def gatherLinesSpec : ChangeSpec := { name := "gatherLines", fn := fun _ => fun
  | [d] => { results := [.lit (.bool true)], args := [d] }
  | _ => none }
def gatherLinesRow : OpenClaim := { program := "ytpdkdhcbibcifaa", sum := "afbeaa6e4e5d84fa50f700b52d0c02bd86bd51bd9fb828777aba69263c1e4931", func := "valise/valiselaw16.GatherLines", spec := "gatherLines", inPlace := ["internal/bytealg.IndexByteString", "internal/bytealg.IndexString"], unfollowed := true, recurses := true, named := ["internal/bytealg.MaxLen"], apart := false }
def GatherLinesSaid : Prop := gatherLinesRow.holds Try.pinned (OpenSpec.ofChange gatherLinesSpec)

/-- ITS FALSE NEIGHBOUR: 'it returns false'. Refute it at one input. -/
def gatherLinesWrong : ChangeSpec := { name := "gatherLines", fn := fun _ => fun
  | [d] => { results := [.lit (.bool false)], args := [d] }
  | _ => none }
def GatherLinesWrongFalsely : Prop := gatherLinesRow.holds Try.pinned (OpenSpec.ofChange gatherLinesWrong)

/-- 'valiselaw16.GatherRound': WHATEVER THE INPUT: true; the input reads as it did. -/
def gatherRoundSpec : ChangeSpec := { name := "gatherRound", fn := fun _ => fun
  | [d1, d2] => { results := [.lit (.bool true)], args := [d1, d2] }
  | _ => none }
def gatherRoundRow : OpenClaim := { program := "ytpdkdhcbibcifaa", sum := "afbeaa6e4e5d84fa50f700b52d0c02bd86bd51bd9fb828777aba69263c1e4931", func := "valise/valiselaw16.GatherRound", spec := "gatherRound", inPlace := ["internal/bytealg.IndexByteString", "internal/bytealg.IndexString"], unfollowed := true, recurses := true, named := ["internal/bytealg.MaxLen"], apart := false }
def GatherRoundSaid : Prop := gatherRoundRow.holds Try.pinned (OpenSpec.ofChange gatherRoundSpec)

/-- ITS FALSE NEIGHBOUR: 'it returns false'. Refute it at one input. -/
def gatherRoundWrong : ChangeSpec := { name := "gatherRound", fn := fun _ => fun
  | [d1, d2] => { results := [.lit (.bool false)], args := [d1, d2] }
  | _ => none }
def GatherRoundWrongFalsely : Prop := gatherRoundRow.holds Try.pinned (OpenSpec.ofChange gatherRoundWrong)

/-- 'valiselaw16.GatherMemory': WHATEVER THE INPUT: true; the input reads as it did. -/
def gatherMemorySpec : ChangeSpec := { name := "gatherMemory", fn := fun _ => fun
  | [d] => { results := [.lit (.bool true)], args := [d] }
  | _ => none }
def gatherMemoryRow : OpenClaim := { program := "ytpdkdhcbibcifaa", sum := "afbeaa6e4e5d84fa50f700b52d0c02bd86bd51bd9fb828777aba69263c1e4931", func := "valise/valiselaw16.GatherMemory", spec := "gatherMemory", inPlace := ["internal/bytealg.IndexByteString", "internal/bytealg.IndexString"], unfollowed := true, recurses := true, named := ["internal/bytealg.MaxLen"], apart := false }
def GatherMemorySaid : Prop := gatherMemoryRow.holds Try.pinned (OpenSpec.ofChange gatherMemorySpec)

/-- ITS FALSE NEIGHBOUR: 'it returns false'. Refute it at one input. -/
def gatherMemoryWrong : ChangeSpec := { name := "gatherMemory", fn := fun _ => fun
  | [d] => { results := [.lit (.bool false)], args := [d] }
  | _ => none }
def GatherMemoryWrongFalsely : Prop := gatherMemoryRow.holds Try.pinned (OpenSpec.ofChange gatherMemoryWrong)

/- THE SECOND FORM. 'bulk': how many values and letters a reading holds, each counted each time it is reached (what is shared counts as often as it is met; a slice's spare places count too). A statement '..UptoSaid' is the law's where the arguments, and the package variables that the reading takes, are together of bulk at most 1048576: NARROWER than '..Said'. Prove '..Said' where nothing that the law and all that it calls make is longer than what came in: it says more and counts as full. Else prove '..UptoSaid'. A law counts once. -/
mutual
def uptoBulk {H : Type} : DataW H → Nat
  | .lit (.string bytes) => bytes.length + 1
  | .lit _ => 1
  | .nil => 1
  | .ptr d => uptoBulk d + 1
  | .slice elems spare => uptoBulkAll elems + uptoBulkAll spare + 1
  | .agg parts => uptoBulkAll parts + 1
  | .iface _ d => uptoBulk d + 1
  | .map entries => uptoBulkEntries entries + 1
  | .held _ => 1
def uptoBulkAll {H : Type} : List (DataW H) → Nat
  | [] => 0
  | d :: r => uptoBulk d + uptoBulkAll r
def uptoBulkEntries {H : Type} : List (Lit × DataW H) → Nat
  | [] => 0
  | x :: r => uptoBulkEntry x + uptoBulkEntries r
def uptoBulkEntry {H : Type} : Lit × DataW H → Nat
  | (.string bytes, d) => bytes.length + uptoBulk d + 1
  | (_, d) => uptoBulk d + 1
 end
def uptoSmall : (H : Type) → List (DataW H) → Bool := fun _ ds => decide (uptoBulkAll ds ≤ 1048576)
def OpenSpec.upto (s : _root_.Go.ChangeSpec) : _root_.Go.OpenSpec := { _root_.Go.OpenSpec.ofChange s with cond := some uptoSmall }

/-- 'valiselaw16.GatherEntries', WHERE WHAT IT READS IS OF BULK AT MOST 1048576: true; the input reads as it did. -/
def gatherEntriesUptoRow : OpenClaim := { program := "ytpdkdhcbibcifaa", sum := "afbeaa6e4e5d84fa50f700b52d0c02bd86bd51bd9fb828777aba69263c1e4931", func := "valise/valiselaw16.GatherEntries", spec := "gatherEntries", inPlace := ["internal/bytealg.IndexByteString", "internal/bytealg.IndexString"], unfollowed := true, recurses := true, named := ["internal/bytealg.MaxLen"], apart := false, narrowed := true }
def GatherEntriesUptoSaid : Prop := gatherEntriesUptoRow.holds Try.pinned (OpenSpec.upto gatherEntriesSpec)

/-- 'valiselaw16.GatherEach', WHERE WHAT IT READS IS OF BULK AT MOST 1048576: true; the input reads as it did. -/
def gatherEachUptoRow : OpenClaim := { program := "ytpdkdhcbibcifaa", sum := "afbeaa6e4e5d84fa50f700b52d0c02bd86bd51bd9fb828777aba69263c1e4931", func := "valise/valiselaw16.GatherEach", spec := "gatherEach", inPlace := ["internal/bytealg.IndexByteString", "internal/bytealg.IndexString"], unfollowed := true, recurses := true, named := ["internal/bytealg.MaxLen"], apart := false, narrowed := true }
def GatherEachUptoSaid : Prop := gatherEachUptoRow.holds Try.pinned (OpenSpec.upto gatherEachSpec)

/-- 'valiselaw16.GatherFits', WHERE WHAT IT READS IS OF BULK AT MOST 1048576: true; the input reads as it did. -/
def gatherFitsUptoRow : OpenClaim := { program := "ytpdkdhcbibcifaa", sum := "afbeaa6e4e5d84fa50f700b52d0c02bd86bd51bd9fb828777aba69263c1e4931", func := "valise/valiselaw16.GatherFits", spec := "gatherFits", inPlace := ["internal/bytealg.IndexByteString", "internal/bytealg.IndexString"], unfollowed := true, recurses := true, named := ["internal/bytealg.MaxLen"], apart := false, narrowed := true }
def GatherFitsUptoSaid : Prop := gatherFitsUptoRow.holds Try.pinned (OpenSpec.upto gatherFitsSpec)

/-- 'valiselaw16.GatherLines', WHERE WHAT IT READS IS OF BULK AT MOST 1048576: true; the input reads as it did. -/
def gatherLinesUptoRow : OpenClaim := { program := "ytpdkdhcbibcifaa", sum := "afbeaa6e4e5d84fa50f700b52d0c02bd86bd51bd9fb828777aba69263c1e4931", func := "valise/valiselaw16.GatherLines", spec := "gatherLines", inPlace := ["internal/bytealg.IndexByteString", "internal/bytealg.IndexString"], unfollowed := true, recurses := true, named := ["internal/bytealg.MaxLen"], apart := false, narrowed := true }
def GatherLinesUptoSaid : Prop := gatherLinesUptoRow.holds Try.pinned (OpenSpec.upto gatherLinesSpec)

/-- 'valiselaw16.GatherRound', WHERE WHAT IT READS IS OF BULK AT MOST 1048576: true; the input reads as it did. -/
def gatherRoundUptoRow : OpenClaim := { program := "ytpdkdhcbibcifaa", sum := "afbeaa6e4e5d84fa50f700b52d0c02bd86bd51bd9fb828777aba69263c1e4931", func := "valise/valiselaw16.GatherRound", spec := "gatherRound", inPlace := ["internal/bytealg.IndexByteString", "internal/bytealg.IndexString"], unfollowed := true, recurses := true, named := ["internal/bytealg.MaxLen"], apart := false, narrowed := true }
def GatherRoundUptoSaid : Prop := gatherRoundUptoRow.holds Try.pinned (OpenSpec.upto gatherRoundSpec)

/-- 'valiselaw16.GatherMemory', WHERE WHAT IT READS IS OF BULK AT MOST 1048576: true; the input reads as it did. -/
def gatherMemoryUptoRow : OpenClaim := { program := "ytpdkdhcbibcifaa", sum := "afbeaa6e4e5d84fa50f700b52d0c02bd86bd51bd9fb828777aba69263c1e4931", func := "valise/valiselaw16.GatherMemory", spec := "gatherMemory", inPlace := ["internal/bytealg.IndexByteString", "internal/bytealg.IndexString"], unfollowed := true, recurses := true, named := ["internal/bytealg.MaxLen"], apart := false, narrowed := true }
def GatherMemoryUptoSaid : Prop := gatherMemoryUptoRow.holds Try.pinned (OpenSpec.upto gatherMemorySpec)

end Rows
end Go.Proofs.Ytpdkdhcbibcifaa
