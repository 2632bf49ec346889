/-
  DERIVED. GIVEN WITH THE SEED: THE CARDS: each row of YtccochopiaojnaaDoorRows.lean that lists a variable, with what it lists TIED to the program's text (the seventh form; the later family's looks); each row that meets fmt, with fmt's text TOLD by the authors' own Lean function (tested against real Go, not proved from fmt's source: count such statements apart). THE CARD IS WHAT COUNTS. Prove the row's statement (the work); the ties are given (YtccochopiaojnaaDoorTie.lean); close each card by the builder's one call (the guide's Derived/Test/ToyasCard.lean, 'card_holds'). Laid BY PROGRAM, IN A SANDBOX (cutbox-door.mjs). By AI agents, Wed Nov 11 2026. No macro, syntax, notation, axiom, sorry.
-/
import Derived.Test.YtccochopiaojnaaDoorRows
import GoSem.ClaimSeven
namespace Go.Proofs.YtccochopiaojnaaDoor
namespace Rows

/-- THE TIED CARD OF 'valiselaw01.NumeralDecimals'. -/
def numeralDecimalsCard : Claim7 := { stood := { row := numeralDecimalsRow, standIns := [], harness := (true, "164f934ffa9d9228f11537c14ac7d9c4c899c3eccb7e2fdc548640cb97c0170a"), looks := true }, kinds := [], alts := [], laidByText := true, laidKinds := [.data, .data, .data, .sentinel, .sentinel], laidTests := true, laidLooks := .later }
def NumeralDecimalsCardSaid : Prop := Claim7.holds Tryd.pinned (.plain (OpenSpec.ofChange numeralDecimalsSpec)) numeralDecimalsCard

/-- THE TIED CARD OF 'valiselaw01.NumeralShown'. -/
def numeralShownCard : Claim7 := { stood := { row := numeralShownRow, standIns := [], harness := (true, "164f934ffa9d9228f11537c14ac7d9c4c899c3eccb7e2fdc548640cb97c0170a"), looks := true }, kinds := [], alts := [], laidByText := true, laidKinds := [.data, .data, .data, .sentinel, .sentinel], laidTests := true, laidLooks := .later }
def NumeralShownCardSaid : Prop := Claim7.holds Tryd.pinned (.plain (OpenSpec.ofChange numeralShownSpec)) numeralShownCard

/-- THE TIED CARD OF 'valiselaw01.NumeralNames'. -/
def numeralNamesCard : Claim7 := { stood := { row := numeralNamesRow, standIns := [], harness := (true, "164f934ffa9d9228f11537c14ac7d9c4c899c3eccb7e2fdc548640cb97c0170a"), looks := true }, kinds := [], alts := [], laidByText := true, laidKinds := [.data, .data, .data, .data, .sentinel, .sentinel, .pinned], laidTests := true, laidLooks := .later }
def NumeralNamesCardSaid : Prop := Claim7.holds Tryd.pinned (.plain (OpenSpec.ofChange numeralNamesSpec)) numeralNamesCard

/-- THE TIED CARD OF 'valiselaw01.NumeralOctals'. -/
def numeralOctalsCard : Claim7 := { stood := { row := numeralOctalsRow, standIns := [], harness := (true, "164f934ffa9d9228f11537c14ac7d9c4c899c3eccb7e2fdc548640cb97c0170a"), looks := true }, kinds := [], alts := [], laidByText := true, laidKinds := [.data, .data, .data, .data, .sentinel, .sentinel, .pinned], laidTests := true, laidLooks := .later }
def NumeralOctalsCardSaid : Prop := Claim7.holds Tryd.pinned (.plain (OpenSpec.ofChange numeralOctalsSpec)) numeralOctalsCard

/-- THE TIED CARD OF 'valiselaw01.NumeralBlanks'. -/
def numeralBlanksCard : Claim7 := { stood := { row := numeralBlanksRow, standIns := [], harness := (true, "164f934ffa9d9228f11537c14ac7d9c4c899c3eccb7e2fdc548640cb97c0170a"), looks := true }, kinds := [], alts := [], laidByText := true, laidKinds := [.data, .data, .data, .data, .sentinel, .sentinel, .pinned], laidTests := true, laidLooks := .later }
def NumeralBlanksCardSaid : Prop := Claim7.holds Tryd.pinned (.plain (OpenSpec.ofChange numeralBlanksSpec)) numeralBlanksCard

/-- THE TIED CARD OF 'valiselaw01.NumeralBases'. -/
def numeralBasesCard : Claim7 := { stood := { row := numeralBasesRow, standIns := [], harness := (true, "164f934ffa9d9228f11537c14ac7d9c4c899c3eccb7e2fdc548640cb97c0170a"), looks := true }, kinds := [], alts := [], laidByText := true, laidKinds := [.data, .data, .data, .data, .sentinel, .sentinel, .pinned], laidTests := true, laidLooks := .later }
def NumeralBasesCardSaid : Prop := Claim7.holds Tryd.pinned (.plain (OpenSpec.ofChange numeralBasesSpec)) numeralBasesCard

/-- THE TIED CARD OF 'valiselaw01.NumeralPuts'. -/
def numeralPutsCard : Claim7 := { stood := { row := numeralPutsRow, standIns := [], harness := (true, "164f934ffa9d9228f11537c14ac7d9c4c899c3eccb7e2fdc548640cb97c0170a"), looks := true }, kinds := [], alts := [], laidByText := true, laidKinds := [.data, .data, .data, .data, .sentinel, .sentinel, .pinned], laidTests := true, laidLooks := .later }
def NumeralPutsCardSaid : Prop := Claim7.holds Tryd.pinned (.plain (OpenSpec.ofChange numeralPutsSpec)) numeralPutsCard

/-- THE TIED CARD OF 'valiselaw01.NumeralMemory'. -/
def numeralMemoryCard : Claim7 := { stood := { row := numeralMemoryRow, standIns := [], harness := (true, "164f934ffa9d9228f11537c14ac7d9c4c899c3eccb7e2fdc548640cb97c0170a"), looks := true }, kinds := [], alts := [], laidByText := true, laidKinds := [.data, .data, .data, .data, .sentinel, .sentinel, .pinned], laidTests := true, laidLooks := .later }
def NumeralMemoryCardSaid : Prop := Claim7.holds Tryd.pinned (.plain (OpenSpec.ofChange numeralMemorySpec)) numeralMemoryCard

/-- THE TIED CARD OF 'valiselaw01.NumeralRound'. -/
def numeralRoundCard : Claim7 := { stood := { row := numeralRoundRow, standIns := [], harness := (true, "164f934ffa9d9228f11537c14ac7d9c4c899c3eccb7e2fdc548640cb97c0170a"), looks := true }, kinds := [], alts := [], laidByText := true, laidKinds := [.data, .data, .data, .data, .sentinel, .sentinel, .pinned], laidTests := true, laidLooks := .later }
def NumeralRoundCardSaid : Prop := Claim7.holds Tryd.pinned (.plain (OpenSpec.ofChange numeralRoundSpec)) numeralRoundCard

/-- THE TIED CARD OF 'valiselaw03.BlockSums'. -/
def blockSumsCard : Claim7 := { stood := { row := blockSumsRow, standIns := [], harness := (true, "164f934ffa9d9228f11537c14ac7d9c4c899c3eccb7e2fdc548640cb97c0170a"), looks := true }, kinds := [], alts := [], laidByText := true, laidKinds := [.data, .data, .data, .data, .sentinel, .sentinel, .pinned], laidTests := true, laidLooks := .later }
def BlockSumsCardSaid : Prop := Claim7.holds Tryd.pinned (.plain (OpenSpec.ofChange blockSumsSpec)) blockSumsCard

/-- THE TIED CARD OF 'valiselaw03.BlockSeals'. -/
def blockSealsCard : Claim7 := { stood := { row := blockSealsRow, standIns := [], harness := (true, "164f934ffa9d9228f11537c14ac7d9c4c899c3eccb7e2fdc548640cb97c0170a"), looks := true }, kinds := [], alts := [], laidByText := true, laidKinds := [.data, .data, .data, .data, .sentinel, .sentinel, .pinned], laidTests := true, laidLooks := .later }
def BlockSealsCardSaid : Prop := Claim7.holds Tryd.pinned (.plain (OpenSpec.ofChange blockSealsSpec)) blockSealsCard

/-- THE TIED CARD OF 'valiselaw05.RecordSizes'. -/
def recordSizesCard : Claim7 := { stood := { row := recordSizesRow, standIns := [], harness := (true, "164f934ffa9d9228f11537c14ac7d9c4c899c3eccb7e2fdc548640cb97c0170a"), looks := true }, kinds := [], alts := [], laidByText := true, laidKinds := [.data, .data, .data], laidTests := true, laidLooks := .later }
def RecordSizesCardSaid : Prop := Claim7.holds Tryd.pinned (.plain (OpenSpec.ofChange recordSizesSpec)) recordSizesCard

/-- THE SECOND FORM's CARD OF 'valiselaw01.NumeralDecimals'. -/
def numeralDecimalsUptoCard : Claim7 := { stood := { row := numeralDecimalsUptoRow, standIns := [], harness := (true, "164f934ffa9d9228f11537c14ac7d9c4c899c3eccb7e2fdc548640cb97c0170a"), looks := true }, kinds := [], alts := [], laidByText := true, laidKinds := [.data, .data, .data, .sentinel, .sentinel], laidTests := true, laidLooks := .later }
def NumeralDecimalsUptoCardSaid : Prop := Claim7.holds Tryd.pinned (.plain (OpenSpec.upto numeralDecimalsSpec)) numeralDecimalsUptoCard

/-- THE SECOND FORM's CARD OF 'valiselaw01.NumeralShown'. -/
def numeralShownUptoCard : Claim7 := { stood := { row := numeralShownUptoRow, standIns := [], harness := (true, "164f934ffa9d9228f11537c14ac7d9c4c899c3eccb7e2fdc548640cb97c0170a"), looks := true }, kinds := [], alts := [], laidByText := true, laidKinds := [.data, .data, .data, .sentinel, .sentinel], laidTests := true, laidLooks := .later }
def NumeralShownUptoCardSaid : Prop := Claim7.holds Tryd.pinned (.plain (OpenSpec.upto numeralShownSpec)) numeralShownUptoCard

/-- THE SECOND FORM's CARD OF 'valiselaw01.NumeralNames'. -/
def numeralNamesUptoCard : Claim7 := { stood := { row := numeralNamesUptoRow, standIns := [], harness := (true, "164f934ffa9d9228f11537c14ac7d9c4c899c3eccb7e2fdc548640cb97c0170a"), looks := true }, kinds := [], alts := [], laidByText := true, laidKinds := [.data, .data, .data, .data, .sentinel, .sentinel, .pinned], laidTests := true, laidLooks := .later }
def NumeralNamesUptoCardSaid : Prop := Claim7.holds Tryd.pinned (.plain (OpenSpec.upto numeralNamesSpec)) numeralNamesUptoCard

/-- THE SECOND FORM's CARD OF 'valiselaw01.NumeralOctals'. -/
def numeralOctalsUptoCard : Claim7 := { stood := { row := numeralOctalsUptoRow, standIns := [], harness := (true, "164f934ffa9d9228f11537c14ac7d9c4c899c3eccb7e2fdc548640cb97c0170a"), looks := true }, kinds := [], alts := [], laidByText := true, laidKinds := [.data, .data, .data, .data, .sentinel, .sentinel, .pinned], laidTests := true, laidLooks := .later }
def NumeralOctalsUptoCardSaid : Prop := Claim7.holds Tryd.pinned (.plain (OpenSpec.upto numeralOctalsSpec)) numeralOctalsUptoCard

/-- THE SECOND FORM's CARD OF 'valiselaw01.NumeralBlanks'. -/
def numeralBlanksUptoCard : Claim7 := { stood := { row := numeralBlanksUptoRow, standIns := [], harness := (true, "164f934ffa9d9228f11537c14ac7d9c4c899c3eccb7e2fdc548640cb97c0170a"), looks := true }, kinds := [], alts := [], laidByText := true, laidKinds := [.data, .data, .data, .data, .sentinel, .sentinel, .pinned], laidTests := true, laidLooks := .later }
def NumeralBlanksUptoCardSaid : Prop := Claim7.holds Tryd.pinned (.plain (OpenSpec.upto numeralBlanksSpec)) numeralBlanksUptoCard

/-- THE SECOND FORM's CARD OF 'valiselaw01.NumeralBases'. -/
def numeralBasesUptoCard : Claim7 := { stood := { row := numeralBasesUptoRow, standIns := [], harness := (true, "164f934ffa9d9228f11537c14ac7d9c4c899c3eccb7e2fdc548640cb97c0170a"), looks := true }, kinds := [], alts := [], laidByText := true, laidKinds := [.data, .data, .data, .data, .sentinel, .sentinel, .pinned], laidTests := true, laidLooks := .later }
def NumeralBasesUptoCardSaid : Prop := Claim7.holds Tryd.pinned (.plain (OpenSpec.upto numeralBasesSpec)) numeralBasesUptoCard

/-- THE SECOND FORM's CARD OF 'valiselaw01.NumeralPuts'. -/
def numeralPutsUptoCard : Claim7 := { stood := { row := numeralPutsUptoRow, standIns := [], harness := (true, "164f934ffa9d9228f11537c14ac7d9c4c899c3eccb7e2fdc548640cb97c0170a"), looks := true }, kinds := [], alts := [], laidByText := true, laidKinds := [.data, .data, .data, .data, .sentinel, .sentinel, .pinned], laidTests := true, laidLooks := .later }
def NumeralPutsUptoCardSaid : Prop := Claim7.holds Tryd.pinned (.plain (OpenSpec.upto numeralPutsSpec)) numeralPutsUptoCard

/-- THE SECOND FORM's CARD OF 'valiselaw01.NumeralMemory'. -/
def numeralMemoryUptoCard : Claim7 := { stood := { row := numeralMemoryUptoRow, standIns := [], harness := (true, "164f934ffa9d9228f11537c14ac7d9c4c899c3eccb7e2fdc548640cb97c0170a"), looks := true }, kinds := [], alts := [], laidByText := true, laidKinds := [.data, .data, .data, .data, .sentinel, .sentinel, .pinned], laidTests := true, laidLooks := .later }
def NumeralMemoryUptoCardSaid : Prop := Claim7.holds Tryd.pinned (.plain (OpenSpec.upto numeralMemorySpec)) numeralMemoryUptoCard

/-- THE SECOND FORM's CARD OF 'valiselaw01.NumeralRound'. -/
def numeralRoundUptoCard : Claim7 := { stood := { row := numeralRoundUptoRow, standIns := [], harness := (true, "164f934ffa9d9228f11537c14ac7d9c4c899c3eccb7e2fdc548640cb97c0170a"), looks := true }, kinds := [], alts := [], laidByText := true, laidKinds := [.data, .data, .data, .data, .sentinel, .sentinel, .pinned], laidTests := true, laidLooks := .later }
def NumeralRoundUptoCardSaid : Prop := Claim7.holds Tryd.pinned (.plain (OpenSpec.upto numeralRoundSpec)) numeralRoundUptoCard

/-- THE SECOND FORM's CARD OF 'valiselaw03.BlockSums'. -/
def blockSumsUptoCard : Claim7 := { stood := { row := blockSumsUptoRow, standIns := [], harness := (true, "164f934ffa9d9228f11537c14ac7d9c4c899c3eccb7e2fdc548640cb97c0170a"), looks := true }, kinds := [], alts := [], laidByText := true, laidKinds := [.data, .data, .data, .data, .sentinel, .sentinel, .pinned], laidTests := true, laidLooks := .later }
def BlockSumsUptoCardSaid : Prop := Claim7.holds Tryd.pinned (.plain (OpenSpec.upto blockSumsSpec)) blockSumsUptoCard

/-- THE SECOND FORM's CARD OF 'valiselaw03.BlockSeals'. -/
def blockSealsUptoCard : Claim7 := { stood := { row := blockSealsUptoRow, standIns := [], harness := (true, "164f934ffa9d9228f11537c14ac7d9c4c899c3eccb7e2fdc548640cb97c0170a"), looks := true }, kinds := [], alts := [], laidByText := true, laidKinds := [.data, .data, .data, .data, .sentinel, .sentinel, .pinned], laidTests := true, laidLooks := .later }
def BlockSealsUptoCardSaid : Prop := Claim7.holds Tryd.pinned (.plain (OpenSpec.upto blockSealsSpec)) blockSealsUptoCard

/-- THE SECOND FORM's CARD OF 'valiselaw05.RecordSizes'. -/
def recordSizesUptoCard : Claim7 := { stood := { row := recordSizesUptoRow, standIns := [], harness := (true, "164f934ffa9d9228f11537c14ac7d9c4c899c3eccb7e2fdc548640cb97c0170a"), looks := true }, kinds := [], alts := [], laidByText := true, laidKinds := [.data, .data, .data], laidTests := true, laidLooks := .later }
def RecordSizesUptoCardSaid : Prop := Claim7.holds Tryd.pinned (.plain (OpenSpec.upto recordSizesSpec)) recordSizesUptoCard
end Rows
end Go.Proofs.YtccochopiaojnaaDoor
