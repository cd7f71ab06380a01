import Derived.Test.YtjgdajeoeagggaaGreatYGoP
import Derived.Test.YtjgdajeoeagggaaGreatYPtS
import Derived.Test.YtjgdajeoeagggaaGreatYK10
import Derived.Test.YtjgdajeoeagggaaGreatYK2
import Derived.Test.YtjgdajeoeagggaaGreatYRegX
set_option linter.unusedSimpArgs false
set_option linter.unusedVariables false
namespace Go.Proofs.YtjgdajeoeagggaaGreat
open Go.RowKit
/-! ### points modulo a prime -/
end Go.Proofs.YtjgdajeoeagggaaGreat
