/-
  DERIVED. GIVEN WITH THE SEED: THE CARDS: each row of YtamgiffkhnfpmaaGreatDoorRows.lean that lists a variable, with what it lists TIED to the program's text (the seventh form; the later family's looks); each row that meets fmt, with fmt's text TOLD by the authors' own Lean function (tested against real Go, not proved from fmt's source: count such statements apart). THE CARD IS WHAT COUNTS. Prove the row's statement (the work); the ties are given (YtamgiffkhnfpmaaGreatDoorTie.lean); close each card by the builder's one call (the guide's Derived/Test/ToyasCard.lean, 'card_holds'). Laid BY PROGRAM, IN A SANDBOX (cutbox-door.mjs). By AI agents, Wed Nov 11 2026. No macro, syntax, notation, axiom, sorry.
-/
import Derived.Test.YtamgiffkhnfpmaaGreatDoorRows
import GoSem.ClaimSeven
namespace Go.Proofs.YtamgiffkhnfpmaaGreatDoor
namespace Rows

/-- THE TIED CARD OF 'valiselaw08.ScribeWrites'. -/
def scribeWritesCard : Claim7 := { stood := { row := scribeWritesRow, standIns := [], harness := (true, "bc49ae3304b0b4d675a7af67377734cb0542f622ef1231dd9f5a2ba784e6d9f2"), looks := false }, kinds := [], alts := [], laidByText := true, laidKinds := [.data, .data, .data, .data, .pinned], laidTests := true, laidLooks := .later }
def ScribeWritesCardSaid : Prop := Claim7.holds Tryz.pinned (.plain (OpenSpec.ofChange scribeWritesSpec)) scribeWritesCard

/-- THE TIED CARD OF 'valiselaw08.ScribeMemory'. -/
def scribeMemoryCard : Claim7 := { stood := { row := scribeMemoryRow, standIns := [], harness := (true, "bc49ae3304b0b4d675a7af67377734cb0542f622ef1231dd9f5a2ba784e6d9f2"), looks := false }, kinds := [], alts := [], laidByText := true, laidKinds := [.data, .data, .data, .data, .pinned], laidTests := true, laidLooks := .later }
def ScribeMemoryCardSaid : Prop := Claim7.holds Tryz.pinned (.plain (OpenSpec.ofChange scribeMemorySpec)) scribeMemoryCard

/-- THE SECOND FORM's CARD OF 'valiselaw08.ScribeWrites'. -/
def scribeWritesUptoCard : Claim7 := { stood := { row := scribeWritesUptoRow, standIns := [], harness := (true, "bc49ae3304b0b4d675a7af67377734cb0542f622ef1231dd9f5a2ba784e6d9f2"), looks := false }, kinds := [], alts := [], laidByText := true, laidKinds := [.data, .data, .data, .data, .pinned], laidTests := true, laidLooks := .later }
def ScribeWritesUptoCardSaid : Prop := Claim7.holds Tryz.pinned (.plain (OpenSpec.upto scribeWritesSpec)) scribeWritesUptoCard

/-- THE SECOND FORM's CARD OF 'valiselaw08.ScribeMemory'. -/
def scribeMemoryUptoCard : Claim7 := { stood := { row := scribeMemoryUptoRow, standIns := [], harness := (true, "bc49ae3304b0b4d675a7af67377734cb0542f622ef1231dd9f5a2ba784e6d9f2"), looks := false }, kinds := [], alts := [], laidByText := true, laidKinds := [.data, .data, .data, .data, .pinned], laidTests := true, laidLooks := .later }
def ScribeMemoryUptoCardSaid : Prop := Claim7.holds Tryz.pinned (.plain (OpenSpec.upto scribeMemorySpec)) scribeMemoryUptoCard
end Rows
end Go.Proofs.YtamgiffkhnfpmaaGreatDoor
