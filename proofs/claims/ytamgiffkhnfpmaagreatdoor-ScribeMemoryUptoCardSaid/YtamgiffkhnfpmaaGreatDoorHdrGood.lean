/-
  HdrGood: header.Read, behind the checksum.
-/
import Derived.Test.YtamgiffkhnfpmaaGreatDoorJ05
import Derived.Deep.RegionHeld3
namespace Go.Proofs.YtamgiffkhnfpmaaGreatDoor
set_option linter.unusedVariables false
set_option linter.unusedSimpArgs false
open Go.ChangeShapes Go.WideShapes Go.ChangeAt Go.RowKit
end Go.Proofs.YtamgiffkhnfpmaaGreatDoor
