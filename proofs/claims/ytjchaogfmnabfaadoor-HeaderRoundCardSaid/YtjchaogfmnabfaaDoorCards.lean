/-
  DERIVED. GIVEN WITH THE SEED: THE CARDS: each row of YtjchaogfmnabfaaDoorRows.lean that lists a variable, with what it lists TIED to the program's text (the seventh form; the later family's looks); each row that meets fmt, with fmt's text TOLD by the authors' own Lean function (tested against real Go, not proved from fmt's source: count such statements apart). THE CARD IS WHAT COUNTS. Prove the row's statement (the work); the ties are given (YtjchaogfmnabfaaDoorTie.lean); close each card by the builder's one call (the guide's Derived/Test/ToyasCard.lean, 'card_holds'). Laid BY PROGRAM, IN A SANDBOX (cutbox-door.mjs). By AI agents, Wed Nov 11 2026. No macro, syntax, notation, axiom, sorry.
-/
import Derived.Test.YtjchaogfmnabfaaDoorRows
import GoSem.ClaimSeven
namespace Go.Proofs.YtjchaogfmnabfaaDoor
namespace Rows

/-- THE TIED CARD OF 'valiselaw05.RecordReads'. -/
def recordReadsCard : Claim7 := { stood := { row := recordReadsRow, standIns := [], harness := (true, "8bc44efe46f73cb5832b15b4ebb8b4ebba9e27578e367243d2ef428c0a764ecf"), looks := true }, kinds := [], alts := [], laidByText := true, laidKinds := [.data, .data, .data, .sentinel, .sentinel], laidTests := true, laidLooks := .later }
def RecordReadsCardSaid : Prop := Claim7.holds Tryd.pinned (.plain (OpenSpec.ofChange recordReadsSpec)) recordReadsCard

/-- THE TIED CARD OF 'valiselaw05.RecordJoins'. -/
def recordJoinsCard : Claim7 := { stood := { row := recordJoinsRow, standIns := [], harness := (true, "8bc44efe46f73cb5832b15b4ebb8b4ebba9e27578e367243d2ef428c0a764ecf"), looks := true }, kinds := [], alts := [], laidByText := true, laidKinds := [.data, .data, .data, .sentinel, .sentinel], laidTests := true, laidLooks := .later }
def RecordJoinsCardSaid : Prop := Claim7.holds Tryd.pinned (.plain (OpenSpec.ofChange recordJoinsSpec)) recordJoinsCard

/-- THE TIED CARD OF 'valiselaw05.RecordCuts'. -/
def recordCutsCard : Claim7 := { stood := { row := recordCutsRow, standIns := [], harness := (true, "8bc44efe46f73cb5832b15b4ebb8b4ebba9e27578e367243d2ef428c0a764ecf"), looks := true }, kinds := [], alts := [], laidByText := true, laidKinds := [.data, .data, .data, .sentinel, .sentinel], laidTests := true, laidLooks := .later }
def RecordCutsCardSaid : Prop := Claim7.holds Tryd.pinned (.plain (OpenSpec.ofChange recordCutsSpec)) recordCutsCard

/-- THE TIED CARD OF 'valiselaw05.RecordWrites'. -/
def recordWritesCard : Claim7 := { stood := { row := recordWritesRow, standIns := [], harness := (true, "8bc44efe46f73cb5832b15b4ebb8b4ebba9e27578e367243d2ef428c0a764ecf"), looks := true }, kinds := [], alts := [], laidByText := true, laidKinds := [.data, .data, .data, .sentinel, .sentinel], laidTests := true, laidLooks := .later }
def RecordWritesCardSaid : Prop := Claim7.holds Tryd.pinned (.plain (OpenSpec.ofChange recordWritesSpec)) recordWritesCard

/-- THE TIED CARD OF 'valiselaw05.RecordRound'. -/
def recordRoundCard : Claim7 := { stood := { row := recordRoundRow, standIns := [], harness := (true, "8bc44efe46f73cb5832b15b4ebb8b4ebba9e27578e367243d2ef428c0a764ecf"), looks := true }, kinds := [], alts := [], laidByText := true, laidKinds := [.data, .data, .data, .sentinel, .sentinel], laidTests := true, laidLooks := .later }
def RecordRoundCardSaid : Prop := Claim7.holds Tryd.pinned (.plain (OpenSpec.ofChange recordRoundSpec)) recordRoundCard

/-- THE TIED CARD OF 'valiselaw05.RecordMemory'. -/
def recordMemoryCard : Claim7 := { stood := { row := recordMemoryRow, standIns := [], harness := (true, "8bc44efe46f73cb5832b15b4ebb8b4ebba9e27578e367243d2ef428c0a764ecf"), looks := true }, kinds := [], alts := [], laidByText := true, laidKinds := [.data, .data, .data, .sentinel, .sentinel], laidTests := true, laidLooks := .later }
def RecordMemoryCardSaid : Prop := Claim7.holds Tryd.pinned (.plain (OpenSpec.ofChange recordMemorySpec)) recordMemoryCard

/-- THE TIED CARD OF 'valiselaw04.HeaderReads'. -/
def headerReadsCard : Claim7 := { stood := { row := headerReadsRow, standIns := [], harness := (true, "8bc44efe46f73cb5832b15b4ebb8b4ebba9e27578e367243d2ef428c0a764ecf"), looks := true }, kinds := [], alts := [], laidByText := true, laidKinds := [.data, .data, .data, .data, .sentinel, .sentinel, .pinned], laidTests := true, laidLooks := .later }
def HeaderReadsCardSaid : Prop := Claim7.holds Tryd.pinned (.plain (OpenSpec.ofChange headerReadsSpec)) headerReadsCard

/-- THE TIED CARD OF 'valiselaw04.HeaderForms'. -/
def headerFormsCard : Claim7 := { stood := { row := headerFormsRow, standIns := [], harness := (true, "8bc44efe46f73cb5832b15b4ebb8b4ebba9e27578e367243d2ef428c0a764ecf"), looks := true }, kinds := [], alts := [], laidByText := true, laidKinds := [.data, .data, .data, .data, .sentinel, .sentinel, .pinned], laidTests := true, laidLooks := .later }
def HeaderFormsCardSaid : Prop := Claim7.holds Tryd.pinned (.plain (OpenSpec.ofChange headerFormsSpec)) headerFormsCard

/-- THE TIED CARD OF 'valiselaw04.HeaderKeeps'. -/
def headerKeepsCard : Claim7 := { stood := { row := headerKeepsRow, standIns := [], harness := (true, "8bc44efe46f73cb5832b15b4ebb8b4ebba9e27578e367243d2ef428c0a764ecf"), looks := true }, kinds := [], alts := [], laidByText := true, laidKinds := [.data, .data, .data, .data, .sentinel, .sentinel, .pinned], laidTests := true, laidLooks := .later }
def HeaderKeepsCardSaid : Prop := Claim7.holds Tryd.pinned (.plain (OpenSpec.ofChange headerKeepsSpec)) headerKeepsCard

/-- THE TIED CARD OF 'valiselaw04.HeaderSplits'. -/
def headerSplitsCard : Claim7 := { stood := { row := headerSplitsRow, standIns := [], harness := (true, "8bc44efe46f73cb5832b15b4ebb8b4ebba9e27578e367243d2ef428c0a764ecf"), looks := true }, kinds := [], alts := [], laidByText := true, laidKinds := [.data, .data, .data, .data, .sentinel, .sentinel, .pinned], laidTests := true, laidLooks := .later }
def HeaderSplitsCardSaid : Prop := Claim7.holds Tryd.pinned (.plain (OpenSpec.ofChange headerSplitsSpec)) headerSplitsCard

/-- THE TIED CARD OF 'valiselaw04.HeaderRound'. -/
def headerRoundCard : Claim7 := { stood := { row := headerRoundRow, standIns := [], harness := (true, "8bc44efe46f73cb5832b15b4ebb8b4ebba9e27578e367243d2ef428c0a764ecf"), looks := true }, kinds := [], alts := [], laidByText := true, laidKinds := [.data, .data, .data, .data, .sentinel, .sentinel, .pinned], laidTests := true, laidLooks := .later }
def HeaderRoundCardSaid : Prop := Claim7.holds Tryd.pinned (.plain (OpenSpec.ofChange headerRoundSpec)) headerRoundCard

/-- THE SECOND FORM's CARD OF 'valiselaw05.RecordReads'. -/
def recordReadsUptoCard : Claim7 := { stood := { row := recordReadsUptoRow, standIns := [], harness := (true, "8bc44efe46f73cb5832b15b4ebb8b4ebba9e27578e367243d2ef428c0a764ecf"), looks := true }, kinds := [], alts := [], laidByText := true, laidKinds := [.data, .data, .data, .sentinel, .sentinel], laidTests := true, laidLooks := .later }
def RecordReadsUptoCardSaid : Prop := Claim7.holds Tryd.pinned (.plain (OpenSpec.upto recordReadsSpec)) recordReadsUptoCard

/-- THE SECOND FORM's CARD OF 'valiselaw05.RecordJoins'. -/
def recordJoinsUptoCard : Claim7 := { stood := { row := recordJoinsUptoRow, standIns := [], harness := (true, "8bc44efe46f73cb5832b15b4ebb8b4ebba9e27578e367243d2ef428c0a764ecf"), looks := true }, kinds := [], alts := [], laidByText := true, laidKinds := [.data, .data, .data, .sentinel, .sentinel], laidTests := true, laidLooks := .later }
def RecordJoinsUptoCardSaid : Prop := Claim7.holds Tryd.pinned (.plain (OpenSpec.upto recordJoinsSpec)) recordJoinsUptoCard

/-- THE SECOND FORM's CARD OF 'valiselaw05.RecordCuts'. -/
def recordCutsUptoCard : Claim7 := { stood := { row := recordCutsUptoRow, standIns := [], harness := (true, "8bc44efe46f73cb5832b15b4ebb8b4ebba9e27578e367243d2ef428c0a764ecf"), looks := true }, kinds := [], alts := [], laidByText := true, laidKinds := [.data, .data, .data, .sentinel, .sentinel], laidTests := true, laidLooks := .later }
def RecordCutsUptoCardSaid : Prop := Claim7.holds Tryd.pinned (.plain (OpenSpec.upto recordCutsSpec)) recordCutsUptoCard

/-- THE SECOND FORM's CARD OF 'valiselaw05.RecordWrites'. -/
def recordWritesUptoCard : Claim7 := { stood := { row := recordWritesUptoRow, standIns := [], harness := (true, "8bc44efe46f73cb5832b15b4ebb8b4ebba9e27578e367243d2ef428c0a764ecf"), looks := true }, kinds := [], alts := [], laidByText := true, laidKinds := [.data, .data, .data, .sentinel, .sentinel], laidTests := true, laidLooks := .later }
def RecordWritesUptoCardSaid : Prop := Claim7.holds Tryd.pinned (.plain (OpenSpec.upto recordWritesSpec)) recordWritesUptoCard

/-- THE SECOND FORM's CARD OF 'valiselaw05.RecordRound'. -/
def recordRoundUptoCard : Claim7 := { stood := { row := recordRoundUptoRow, standIns := [], harness := (true, "8bc44efe46f73cb5832b15b4ebb8b4ebba9e27578e367243d2ef428c0a764ecf"), looks := true }, kinds := [], alts := [], laidByText := true, laidKinds := [.data, .data, .data, .sentinel, .sentinel], laidTests := true, laidLooks := .later }
def RecordRoundUptoCardSaid : Prop := Claim7.holds Tryd.pinned (.plain (OpenSpec.upto recordRoundSpec)) recordRoundUptoCard

/-- THE SECOND FORM's CARD OF 'valiselaw05.RecordMemory'. -/
def recordMemoryUptoCard : Claim7 := { stood := { row := recordMemoryUptoRow, standIns := [], harness := (true, "8bc44efe46f73cb5832b15b4ebb8b4ebba9e27578e367243d2ef428c0a764ecf"), looks := true }, kinds := [], alts := [], laidByText := true, laidKinds := [.data, .data, .data, .sentinel, .sentinel], laidTests := true, laidLooks := .later }
def RecordMemoryUptoCardSaid : Prop := Claim7.holds Tryd.pinned (.plain (OpenSpec.upto recordMemorySpec)) recordMemoryUptoCard

/-- THE SECOND FORM's CARD OF 'valiselaw04.HeaderReads'. -/
def headerReadsUptoCard : Claim7 := { stood := { row := headerReadsUptoRow, standIns := [], harness := (true, "8bc44efe46f73cb5832b15b4ebb8b4ebba9e27578e367243d2ef428c0a764ecf"), looks := true }, kinds := [], alts := [], laidByText := true, laidKinds := [.data, .data, .data, .data, .sentinel, .sentinel, .pinned], laidTests := true, laidLooks := .later }
def HeaderReadsUptoCardSaid : Prop := Claim7.holds Tryd.pinned (.plain (OpenSpec.upto headerReadsSpec)) headerReadsUptoCard

/-- THE SECOND FORM's CARD OF 'valiselaw04.HeaderForms'. -/
def headerFormsUptoCard : Claim7 := { stood := { row := headerFormsUptoRow, standIns := [], harness := (true, "8bc44efe46f73cb5832b15b4ebb8b4ebba9e27578e367243d2ef428c0a764ecf"), looks := true }, kinds := [], alts := [], laidByText := true, laidKinds := [.data, .data, .data, .data, .sentinel, .sentinel, .pinned], laidTests := true, laidLooks := .later }
def HeaderFormsUptoCardSaid : Prop := Claim7.holds Tryd.pinned (.plain (OpenSpec.upto headerFormsSpec)) headerFormsUptoCard

/-- THE SECOND FORM's CARD OF 'valiselaw04.HeaderKeeps'. -/
def headerKeepsUptoCard : Claim7 := { stood := { row := headerKeepsUptoRow, standIns := [], harness := (true, "8bc44efe46f73cb5832b15b4ebb8b4ebba9e27578e367243d2ef428c0a764ecf"), looks := true }, kinds := [], alts := [], laidByText := true, laidKinds := [.data, .data, .data, .data, .sentinel, .sentinel, .pinned], laidTests := true, laidLooks := .later }
def HeaderKeepsUptoCardSaid : Prop := Claim7.holds Tryd.pinned (.plain (OpenSpec.upto headerKeepsSpec)) headerKeepsUptoCard

/-- THE SECOND FORM's CARD OF 'valiselaw04.HeaderSplits'. -/
def headerSplitsUptoCard : Claim7 := { stood := { row := headerSplitsUptoRow, standIns := [], harness := (true, "8bc44efe46f73cb5832b15b4ebb8b4ebba9e27578e367243d2ef428c0a764ecf"), looks := true }, kinds := [], alts := [], laidByText := true, laidKinds := [.data, .data, .data, .data, .sentinel, .sentinel, .pinned], laidTests := true, laidLooks := .later }
def HeaderSplitsUptoCardSaid : Prop := Claim7.holds Tryd.pinned (.plain (OpenSpec.upto headerSplitsSpec)) headerSplitsUptoCard

/-- THE SECOND FORM's CARD OF 'valiselaw04.HeaderRound'. -/
def headerRoundUptoCard : Claim7 := { stood := { row := headerRoundUptoRow, standIns := [], harness := (true, "8bc44efe46f73cb5832b15b4ebb8b4ebba9e27578e367243d2ef428c0a764ecf"), looks := true }, kinds := [], alts := [], laidByText := true, laidKinds := [.data, .data, .data, .data, .sentinel, .sentinel, .pinned], laidTests := true, laidLooks := .later }
def HeaderRoundUptoCardSaid : Prop := Claim7.holds Tryd.pinned (.plain (OpenSpec.upto headerRoundSpec)) headerRoundUptoCard
end Rows
end Go.Proofs.YtjchaogfmnabfaaDoor
