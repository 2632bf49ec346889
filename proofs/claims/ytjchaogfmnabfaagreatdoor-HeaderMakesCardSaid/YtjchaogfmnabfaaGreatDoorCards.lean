/-
  DERIVED. GIVEN WITH THE SEED: THE CARDS: each row of YtjchaogfmnabfaaGreatDoorRows.lean that lists a variable, with what it lists TIED to the program's text (the seventh form; the later family's looks); each row that meets fmt, with fmt's text TOLD by the authors' own Lean function (tested against real Go, not proved from fmt's source: count such statements apart). THE CARD IS WHAT COUNTS. Prove the row's statement (the work); the ties are given (YtjchaogfmnabfaaGreatDoorTie.lean); close each card by the builder's one call (the guide's Derived/Test/ToyasCard.lean, 'card_holds'). Laid BY PROGRAM, IN A SANDBOX (cutbox-door.mjs). By AI agents, Wed Nov 11 2026. No macro, syntax, notation, axiom, sorry.
-/
import Derived.Test.YtjchaogfmnabfaaGreatDoorRows
import GoSem.ClaimSeven
namespace Go.Proofs.YtjchaogfmnabfaaGreatDoor
namespace Rows

/-- THE TIED CARD OF 'valiselaw04.HeaderMakes'. -/
def headerMakesCard : Claim7 := { stood := { row := headerMakesRow, standIns := [], harness := (true, "3b051ab3bbb095cc5841962abb4adfa384246ac3a8a4ea6b95e0afe6aab8407d"), looks := true }, kinds := [], alts := [], laidByText := true, laidKinds := [.data, .data, .data, .data, .sentinel, .sentinel, .pinned], laidTests := true, laidLooks := .later }
def HeaderMakesCardSaid : Prop := Claim7.holds Tryz.pinned (.plain (OpenSpec.ofChange headerMakesSpec)) headerMakesCard

/-- THE SECOND FORM's CARD OF 'valiselaw04.HeaderMakes'. -/
def headerMakesUptoCard : Claim7 := { stood := { row := headerMakesUptoRow, standIns := [], harness := (true, "3b051ab3bbb095cc5841962abb4adfa384246ac3a8a4ea6b95e0afe6aab8407d"), looks := true }, kinds := [], alts := [], laidByText := true, laidKinds := [.data, .data, .data, .data, .sentinel, .sentinel, .pinned], laidTests := true, laidLooks := .later }
def HeaderMakesUptoCardSaid : Prop := Claim7.holds Tryz.pinned (.plain (OpenSpec.upto headerMakesSpec)) headerMakesUptoCard
end Rows
end Go.Proofs.YtjchaogfmnabfaaGreatDoor
