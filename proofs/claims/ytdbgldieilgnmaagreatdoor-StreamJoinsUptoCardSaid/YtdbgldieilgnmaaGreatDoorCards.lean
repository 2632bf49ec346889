/-
  DERIVED. GIVEN WITH THE SEED: THE CARDS: each row of YtdbgldieilgnmaaGreatDoorRows.lean that lists a variable, with what it lists TIED to the program's text (the seventh form; the later family's looks); each row that meets fmt, with fmt's text TOLD by the authors' own Lean function (tested against real Go, not proved from fmt's source: count such statements apart). THE CARD IS WHAT COUNTS. Prove the row's statement (the work); the ties are given (YtdbgldieilgnmaaGreatDoorTie.lean); close each card by the builder's one call (the guide's Derived/Test/ToyasCard.lean, 'card_holds'). Laid BY PROGRAM, IN A SANDBOX (cutbox-door.mjs). By AI agents, Wed Nov 11 2026. No macro, syntax, notation, axiom, sorry.
-/
import Derived.Test.YtdbgldieilgnmaaGreatDoorRows
import GoSem.ClaimSeven
namespace Go.Proofs.YtdbgldieilgnmaaGreatDoor
namespace Rows

/-- THE TIED CARD OF 'valiselaw07.StreamParses'. -/
def streamParsesCard : Claim7 := { stood := { row := streamParsesRow, standIns := [], harness := (true, "3f13a2f07df97e5f98d476edf467f31f667cd3f4011c5ee878d8a0d839e5ca91"), looks := true }, kinds := [], alts := [], goes := true, laidByText := true, laidKinds := [.data, .data, .data, .data, .sentinel, .sentinel, .pinned], laidTests := true, laidLooks := .later }
def StreamParsesCardSaid : Prop := Claim7.holds Tryz.pinned (.plain (OpenSpec.ofChange streamParsesSpec)) streamParsesCard

/-- THE TIED CARD OF 'valiselaw07.StreamCuts'. -/
def streamCutsCard : Claim7 := { stood := { row := streamCutsRow, standIns := [], harness := (true, "3f13a2f07df97e5f98d476edf467f31f667cd3f4011c5ee878d8a0d839e5ca91"), looks := true }, kinds := [], alts := [], goes := true, laidByText := true, laidKinds := [.data, .data, .data, .data, .sentinel, .sentinel, .pinned], laidTests := true, laidLooks := .later }
def StreamCutsCardSaid : Prop := Claim7.holds Tryz.pinned (.plain (OpenSpec.ofChange streamCutsSpec)) streamCutsCard

/-- THE TIED CARD OF 'valiselaw07.StreamBehind'. -/
def streamBehindCard : Claim7 := { stood := { row := streamBehindRow, standIns := [], harness := (true, "3f13a2f07df97e5f98d476edf467f31f667cd3f4011c5ee878d8a0d839e5ca91"), looks := true }, kinds := [], alts := [], goes := true, laidByText := true, laidKinds := [.data, .data, .data, .data, .sentinel, .sentinel, .pinned], laidTests := true, laidLooks := .later }
def StreamBehindCardSaid : Prop := Claim7.holds Tryz.pinned (.plain (OpenSpec.ofChange streamBehindSpec)) streamBehindCard

/-- THE TIED CARD OF 'valiselaw07.StreamJoins'. -/
def streamJoinsCard : Claim7 := { stood := { row := streamJoinsRow, standIns := [], harness := (true, "3f13a2f07df97e5f98d476edf467f31f667cd3f4011c5ee878d8a0d839e5ca91"), looks := true }, kinds := [], alts := [], goes := true, laidByText := true, laidKinds := [.data, .data, .data, .data, .sentinel, .sentinel, .pinned], laidTests := true, laidLooks := .later }
def StreamJoinsCardSaid : Prop := Claim7.holds Tryz.pinned (.plain (OpenSpec.ofChange streamJoinsSpec)) streamJoinsCard

/-- THE TIED CARD OF 'valiselaw07.StreamBounds'. -/
def streamBoundsCard : Claim7 := { stood := { row := streamBoundsRow, standIns := [], harness := (true, "3f13a2f07df97e5f98d476edf467f31f667cd3f4011c5ee878d8a0d839e5ca91"), looks := true }, kinds := [], alts := [], goes := true, laidByText := true, laidKinds := [.data, .data, .data, .data, .sentinel, .sentinel, .pinned], laidTests := true, laidLooks := .later }
def StreamBoundsCardSaid : Prop := Claim7.holds Tryz.pinned (.plain (OpenSpec.ofChange streamBoundsSpec)) streamBoundsCard

/-- THE TIED CARD OF 'valiselaw07.StreamWider'. -/
def streamWiderCard : Claim7 := { stood := { row := streamWiderRow, standIns := [], harness := (true, "3f13a2f07df97e5f98d476edf467f31f667cd3f4011c5ee878d8a0d839e5ca91"), looks := true }, kinds := [], alts := [], goes := true, laidByText := true, laidKinds := [.data, .data, .data, .data, .sentinel, .sentinel, .pinned], laidTests := true, laidLooks := .later }
def StreamWiderCardSaid : Prop := Claim7.holds Tryz.pinned (.plain (OpenSpec.ofChange streamWiderSpec)) streamWiderCard

/-- THE TIED CARD OF 'valiselaw07.StreamMemory'. -/
def streamMemoryCard : Claim7 := { stood := { row := streamMemoryRow, standIns := [], harness := (true, "3f13a2f07df97e5f98d476edf467f31f667cd3f4011c5ee878d8a0d839e5ca91"), looks := true }, kinds := [], alts := [], goes := true, laidByText := true, laidKinds := [.data, .data, .data, .data, .sentinel, .sentinel, .pinned], laidTests := true, laidLooks := .later }
def StreamMemoryCardSaid : Prop := Claim7.holds Tryz.pinned (.plain (OpenSpec.ofChange streamMemorySpec)) streamMemoryCard

/-- THE TIED CARD OF 'valiselaw07.StreamAll'. -/
def streamAllCard : Claim7 := { stood := { row := streamAllRow, standIns := [], harness := (true, "3f13a2f07df97e5f98d476edf467f31f667cd3f4011c5ee878d8a0d839e5ca91"), looks := true }, kinds := [], alts := [], goes := true, laidByText := true, laidKinds := [.data, .data, .data, .data, .sentinel, .sentinel, .pinned], laidTests := true, laidLooks := .later }
def StreamAllCardSaid : Prop := Claim7.holds Tryz.pinned (.plain (OpenSpec.ofChange streamAllSpec)) streamAllCard

/-- THE TIED CARD OF 'valiselaw08.ScribeRound'. -/
def scribeRoundCard : Claim7 := { stood := { row := scribeRoundRow, standIns := [], harness := (true, "3f13a2f07df97e5f98d476edf467f31f667cd3f4011c5ee878d8a0d839e5ca91"), looks := true }, kinds := [], alts := [], goes := true, laidByText := true, laidKinds := [.data, .data, .data, .data, .sentinel, .sentinel, .pinned], laidTests := true, laidLooks := .later }
def ScribeRoundCardSaid : Prop := Claim7.holds Tryz.pinned (.plain (OpenSpec.ofChange scribeRoundSpec)) scribeRoundCard

/-- THE TIED CARD OF 'valiselaw08.ScribeAgain'. -/
def scribeAgainCard : Claim7 := { stood := { row := scribeAgainRow, standIns := [], harness := (true, "3f13a2f07df97e5f98d476edf467f31f667cd3f4011c5ee878d8a0d839e5ca91"), looks := true }, kinds := [], alts := [], goes := true, laidByText := true, laidKinds := [.data, .data, .data, .data, .sentinel, .sentinel, .pinned], laidTests := true, laidLooks := .later }
def ScribeAgainCardSaid : Prop := Claim7.holds Tryz.pinned (.plain (OpenSpec.ofChange scribeAgainSpec)) scribeAgainCard

/-- THE TIED CARD OF 'valiselaw16.GatherArchive'. -/
def gatherArchiveCard : Claim7 := { stood := { row := gatherArchiveRow, standIns := [], harness := (true, "3f13a2f07df97e5f98d476edf467f31f667cd3f4011c5ee878d8a0d839e5ca91"), looks := true }, kinds := [], alts := [], goes := true, laidByText := true, laidKinds := [.data, .data, .data, .data, .sentinel, .sentinel, .pinned], laidTests := true, laidLooks := .later }
def GatherArchiveCardSaid : Prop := Claim7.holds Tryz.pinned (.plain (OpenSpec.ofChange gatherArchiveSpec)) gatherArchiveCard

/-- THE SECOND FORM's CARD OF 'valiselaw07.StreamParses'. -/
def streamParsesUptoCard : Claim7 := { stood := { row := streamParsesUptoRow, standIns := [], harness := (true, "3f13a2f07df97e5f98d476edf467f31f667cd3f4011c5ee878d8a0d839e5ca91"), looks := true }, kinds := [], alts := [], goes := true, laidByText := true, laidKinds := [.data, .data, .data, .data, .sentinel, .sentinel, .pinned], laidTests := true, laidLooks := .later }
def StreamParsesUptoCardSaid : Prop := Claim7.holds Tryz.pinned (.plain (OpenSpec.upto streamParsesSpec)) streamParsesUptoCard

/-- THE SECOND FORM's CARD OF 'valiselaw07.StreamCuts'. -/
def streamCutsUptoCard : Claim7 := { stood := { row := streamCutsUptoRow, standIns := [], harness := (true, "3f13a2f07df97e5f98d476edf467f31f667cd3f4011c5ee878d8a0d839e5ca91"), looks := true }, kinds := [], alts := [], goes := true, laidByText := true, laidKinds := [.data, .data, .data, .data, .sentinel, .sentinel, .pinned], laidTests := true, laidLooks := .later }
def StreamCutsUptoCardSaid : Prop := Claim7.holds Tryz.pinned (.plain (OpenSpec.upto streamCutsSpec)) streamCutsUptoCard

/-- THE SECOND FORM's CARD OF 'valiselaw07.StreamBehind'. -/
def streamBehindUptoCard : Claim7 := { stood := { row := streamBehindUptoRow, standIns := [], harness := (true, "3f13a2f07df97e5f98d476edf467f31f667cd3f4011c5ee878d8a0d839e5ca91"), looks := true }, kinds := [], alts := [], goes := true, laidByText := true, laidKinds := [.data, .data, .data, .data, .sentinel, .sentinel, .pinned], laidTests := true, laidLooks := .later }
def StreamBehindUptoCardSaid : Prop := Claim7.holds Tryz.pinned (.plain (OpenSpec.upto streamBehindSpec)) streamBehindUptoCard

/-- THE SECOND FORM's CARD OF 'valiselaw07.StreamJoins'. -/
def streamJoinsUptoCard : Claim7 := { stood := { row := streamJoinsUptoRow, standIns := [], harness := (true, "3f13a2f07df97e5f98d476edf467f31f667cd3f4011c5ee878d8a0d839e5ca91"), looks := true }, kinds := [], alts := [], goes := true, laidByText := true, laidKinds := [.data, .data, .data, .data, .sentinel, .sentinel, .pinned], laidTests := true, laidLooks := .later }
def StreamJoinsUptoCardSaid : Prop := Claim7.holds Tryz.pinned (.plain (OpenSpec.upto streamJoinsSpec)) streamJoinsUptoCard

/-- THE SECOND FORM's CARD OF 'valiselaw07.StreamBounds'. -/
def streamBoundsUptoCard : Claim7 := { stood := { row := streamBoundsUptoRow, standIns := [], harness := (true, "3f13a2f07df97e5f98d476edf467f31f667cd3f4011c5ee878d8a0d839e5ca91"), looks := true }, kinds := [], alts := [], goes := true, laidByText := true, laidKinds := [.data, .data, .data, .data, .sentinel, .sentinel, .pinned], laidTests := true, laidLooks := .later }
def StreamBoundsUptoCardSaid : Prop := Claim7.holds Tryz.pinned (.plain (OpenSpec.upto streamBoundsSpec)) streamBoundsUptoCard

/-- THE SECOND FORM's CARD OF 'valiselaw07.StreamWider'. -/
def streamWiderUptoCard : Claim7 := { stood := { row := streamWiderUptoRow, standIns := [], harness := (true, "3f13a2f07df97e5f98d476edf467f31f667cd3f4011c5ee878d8a0d839e5ca91"), looks := true }, kinds := [], alts := [], goes := true, laidByText := true, laidKinds := [.data, .data, .data, .data, .sentinel, .sentinel, .pinned], laidTests := true, laidLooks := .later }
def StreamWiderUptoCardSaid : Prop := Claim7.holds Tryz.pinned (.plain (OpenSpec.upto streamWiderSpec)) streamWiderUptoCard

/-- THE SECOND FORM's CARD OF 'valiselaw07.StreamMemory'. -/
def streamMemoryUptoCard : Claim7 := { stood := { row := streamMemoryUptoRow, standIns := [], harness := (true, "3f13a2f07df97e5f98d476edf467f31f667cd3f4011c5ee878d8a0d839e5ca91"), looks := true }, kinds := [], alts := [], goes := true, laidByText := true, laidKinds := [.data, .data, .data, .data, .sentinel, .sentinel, .pinned], laidTests := true, laidLooks := .later }
def StreamMemoryUptoCardSaid : Prop := Claim7.holds Tryz.pinned (.plain (OpenSpec.upto streamMemorySpec)) streamMemoryUptoCard

/-- THE SECOND FORM's CARD OF 'valiselaw07.StreamAll'. -/
def streamAllUptoCard : Claim7 := { stood := { row := streamAllUptoRow, standIns := [], harness := (true, "3f13a2f07df97e5f98d476edf467f31f667cd3f4011c5ee878d8a0d839e5ca91"), looks := true }, kinds := [], alts := [], goes := true, laidByText := true, laidKinds := [.data, .data, .data, .data, .sentinel, .sentinel, .pinned], laidTests := true, laidLooks := .later }
def StreamAllUptoCardSaid : Prop := Claim7.holds Tryz.pinned (.plain (OpenSpec.upto streamAllSpec)) streamAllUptoCard

/-- THE SECOND FORM's CARD OF 'valiselaw08.ScribeRound'. -/
def scribeRoundUptoCard : Claim7 := { stood := { row := scribeRoundUptoRow, standIns := [], harness := (true, "3f13a2f07df97e5f98d476edf467f31f667cd3f4011c5ee878d8a0d839e5ca91"), looks := true }, kinds := [], alts := [], goes := true, laidByText := true, laidKinds := [.data, .data, .data, .data, .sentinel, .sentinel, .pinned], laidTests := true, laidLooks := .later }
def ScribeRoundUptoCardSaid : Prop := Claim7.holds Tryz.pinned (.plain (OpenSpec.upto scribeRoundSpec)) scribeRoundUptoCard

/-- THE SECOND FORM's CARD OF 'valiselaw08.ScribeAgain'. -/
def scribeAgainUptoCard : Claim7 := { stood := { row := scribeAgainUptoRow, standIns := [], harness := (true, "3f13a2f07df97e5f98d476edf467f31f667cd3f4011c5ee878d8a0d839e5ca91"), looks := true }, kinds := [], alts := [], goes := true, laidByText := true, laidKinds := [.data, .data, .data, .data, .sentinel, .sentinel, .pinned], laidTests := true, laidLooks := .later }
def ScribeAgainUptoCardSaid : Prop := Claim7.holds Tryz.pinned (.plain (OpenSpec.upto scribeAgainSpec)) scribeAgainUptoCard

/-- THE SECOND FORM's CARD OF 'valiselaw16.GatherArchive'. -/
def gatherArchiveUptoCard : Claim7 := { stood := { row := gatherArchiveUptoRow, standIns := [], harness := (true, "3f13a2f07df97e5f98d476edf467f31f667cd3f4011c5ee878d8a0d839e5ca91"), looks := true }, kinds := [], alts := [], goes := true, laidByText := true, laidKinds := [.data, .data, .data, .data, .sentinel, .sentinel, .pinned], laidTests := true, laidLooks := .later }
def GatherArchiveUptoCardSaid : Prop := Claim7.holds Tryz.pinned (.plain (OpenSpec.upto gatherArchiveSpec)) gatherArchiveUptoCard
end Rows
end Go.Proofs.YtdbgldieilgnmaaGreatDoor
