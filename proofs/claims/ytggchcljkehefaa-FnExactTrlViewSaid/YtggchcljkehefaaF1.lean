/- Contracts: the reference's functions on terms. -/
import Derived.Test.YtggchcljkehefaaKinds
import Derived.Test.YtggchcljkehefaaTerm
import Derived.Outline
import Derived.KernelRfl
import Derived.WalkLawsBesides
import Derived.Deep.LoopGhost
namespace Go.Proofs.Ytggchcljkehefaa
open Go.RowKit
set_option linter.unusedVariables false
set_option maxRecDepth 100000
end Go.Proofs.Ytggchcljkehefaa
