/- A host's log that does not run (its disk fell, or was started since): what its acts answer: walked. -/
import Derived.Test.YtdacanghbepjpaaGreatDoorM7
namespace Go.Proofs.YtdacanghbepjpaaGreatDoor
set_option linter.unusedSimpArgs false
set_option linter.unusedVariables false
set_option maxRecDepth 100000
open Go.RowKit Go.Maps
open Dsk
section
variable {w0 w w':World} {X H:Nat→Prop} {v:Value} {d:Dk} {j:Nat} {h:Hl}
end
end Go.Proofs.YtdacanghbepjpaaGreatDoor
