/-
  DERIVED. GIVEN WITH THE SEED: THE CARDS: each row of YtamgiffkhnfpmaaDoorRows.lean that lists a variable, with what it lists TIED to the program's text (the seventh form; the later family's looks); each row that meets fmt, with fmt's text TOLD by the authors' own Lean function (tested against real Go, not proved from fmt's source: count such statements apart). THE CARD IS WHAT COUNTS. Prove the row's statement (the work); the ties are given (YtamgiffkhnfpmaaDoorTie.lean); close each card by the builder's one call (the guide's Derived/Test/ToyasCard.lean, 'card_holds'). Laid BY PROGRAM, IN A SANDBOX (cutbox-door.mjs). By AI agents, Wed Nov 11 2026. No macro, syntax, notation, axiom, sorry.
-/
import Derived.Test.YtamgiffkhnfpmaaDoorRows
import GoSem.ClaimSeven
namespace Go.Proofs.YtamgiffkhnfpmaaDoor
namespace Rows

/-- THE TIED CARD OF 'valiselaw01.NumeralMemory'. -/
def numeralMemoryCard : Claim7 := { stood := { row := numeralMemoryRow, standIns := [], harness := (true, "8c35cae1bfaae212d44466662518d0b5717e2b1622cd2cd4e7a53790cb15b694"), looks := true }, kinds := [], alts := [], laidByText := true, laidKinds := [.data, .data, .data, .data, .sentinel, .sentinel, .pinned], laidTests := true, laidLooks := .later }
def NumeralMemoryCardSaid : Prop := Claim7.holds Tryd.pinned (.plain (OpenSpec.ofChange numeralMemorySpec)) numeralMemoryCard

/-- THE TIED CARD OF 'valiselaw08.ScribeJoins'. -/
def scribeJoinsCard : Claim7 := { stood := { row := scribeJoinsRow, standIns := [], harness := (true, "8c35cae1bfaae212d44466662518d0b5717e2b1622cd2cd4e7a53790cb15b694"), looks := true }, kinds := [], alts := [], laidByText := true, laidKinds := [.data, .data, .data, .data, .pinned], laidTests := true, laidLooks := .later }
def ScribeJoinsCardSaid : Prop := Claim7.holds Tryd.pinned (.plain (OpenSpec.ofChange scribeJoinsSpec)) scribeJoinsCard

/-- THE TIED CARD OF 'valiselaw08.ScribePlain'. -/
def scribePlainCard : Claim7 := { stood := { row := scribePlainRow, standIns := [], harness := (true, "8c35cae1bfaae212d44466662518d0b5717e2b1622cd2cd4e7a53790cb15b694"), looks := true }, kinds := [], alts := [], laidByText := true, laidKinds := [.data, .data, .data, .data, .pinned], laidTests := true, laidLooks := .later }
def ScribePlainCardSaid : Prop := Claim7.holds Tryd.pinned (.plain (OpenSpec.ofChange scribePlainSpec)) scribePlainCard

/-- THE TIED CARD OF 'valiselaw04.HeaderSealed'. -/
def headerSealedCard : Claim7 := { stood := { row := headerSealedRow, standIns := [], harness := (true, "8c35cae1bfaae212d44466662518d0b5717e2b1622cd2cd4e7a53790cb15b694"), looks := true }, kinds := [], alts := [], laidByText := true, laidKinds := [.data, .data, .data, .data, .sentinel, .sentinel, .pinned], laidTests := true, laidLooks := .later }
def HeaderSealedCardSaid : Prop := Claim7.holds Tryd.pinned (.plain (OpenSpec.ofChange headerSealedSpec)) headerSealedCard

/-- THE SECOND FORM's CARD OF 'valiselaw01.NumeralMemory'. -/
def numeralMemoryUptoCard : Claim7 := { stood := { row := numeralMemoryUptoRow, standIns := [], harness := (true, "8c35cae1bfaae212d44466662518d0b5717e2b1622cd2cd4e7a53790cb15b694"), looks := true }, kinds := [], alts := [], laidByText := true, laidKinds := [.data, .data, .data, .data, .sentinel, .sentinel, .pinned], laidTests := true, laidLooks := .later }
def NumeralMemoryUptoCardSaid : Prop := Claim7.holds Tryd.pinned (.plain (OpenSpec.upto numeralMemorySpec)) numeralMemoryUptoCard

/-- THE SECOND FORM's CARD OF 'valiselaw08.ScribeJoins'. -/
def scribeJoinsUptoCard : Claim7 := { stood := { row := scribeJoinsUptoRow, standIns := [], harness := (true, "8c35cae1bfaae212d44466662518d0b5717e2b1622cd2cd4e7a53790cb15b694"), looks := true }, kinds := [], alts := [], laidByText := true, laidKinds := [.data, .data, .data, .data, .pinned], laidTests := true, laidLooks := .later }
def ScribeJoinsUptoCardSaid : Prop := Claim7.holds Tryd.pinned (.plain (OpenSpec.upto scribeJoinsSpec)) scribeJoinsUptoCard

/-- THE SECOND FORM's CARD OF 'valiselaw08.ScribePlain'. -/
def scribePlainUptoCard : Claim7 := { stood := { row := scribePlainUptoRow, standIns := [], harness := (true, "8c35cae1bfaae212d44466662518d0b5717e2b1622cd2cd4e7a53790cb15b694"), looks := true }, kinds := [], alts := [], laidByText := true, laidKinds := [.data, .data, .data, .data, .pinned], laidTests := true, laidLooks := .later }
def ScribePlainUptoCardSaid : Prop := Claim7.holds Tryd.pinned (.plain (OpenSpec.upto scribePlainSpec)) scribePlainUptoCard

/-- THE SECOND FORM's CARD OF 'valiselaw04.HeaderSealed'. -/
def headerSealedUptoCard : Claim7 := { stood := { row := headerSealedUptoRow, standIns := [], harness := (true, "8c35cae1bfaae212d44466662518d0b5717e2b1622cd2cd4e7a53790cb15b694"), looks := true }, kinds := [], alts := [], laidByText := true, laidKinds := [.data, .data, .data, .data, .sentinel, .sentinel, .pinned], laidTests := true, laidLooks := .later }
def HeaderSealedUptoCardSaid : Prop := Claim7.holds Tryd.pinned (.plain (OpenSpec.upto headerSealedSpec)) headerSealedUptoCard
end Rows
end Go.Proofs.YtamgiffkhnfpmaaDoor
