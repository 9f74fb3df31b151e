/- Contracts: two terms are the same, cell by cell; questions. -/
import Derived.Test.YtenigopoknajgaaGreatDoorCa
import Derived.Test.YtenigopoknajgaaGreatDoorF3
import Derived.Test.YtenigopoknajgaaGreatDoorI1
namespace Go.Proofs.YtenigopoknajgaaGreatDoor
open Go.RowKit
set_option linter.unusedVariables false
set_option maxRecDepth 100000
end Go.Proofs.YtenigopoknajgaaGreatDoor
