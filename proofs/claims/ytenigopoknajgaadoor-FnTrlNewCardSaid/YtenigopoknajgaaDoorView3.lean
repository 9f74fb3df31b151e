/- Contracts: TrlView of the reference. -/
import Derived.Test.YtenigopoknajgaaDoorView2
namespace Go.Proofs.YtenigopoknajgaaDoor
open Go.RowKit
set_option linter.unusedVariables false
set_option maxRecDepth 100000

end Go.Proofs.YtenigopoknajgaaDoor
