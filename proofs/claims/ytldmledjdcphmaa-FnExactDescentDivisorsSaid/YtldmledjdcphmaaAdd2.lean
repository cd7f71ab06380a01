import Derived.Test.YtldmledjdcphmaaAdd
import Derived.Test.YtldmledjdcphmaaBits
set_option linter.unusedSimpArgs false
set_option linter.unusedVariables false
namespace Go.Proofs.Ytldmledjdcphmaa
open Go.RowKit
/-! ### sums of wholes -/

end Go.Proofs.Ytldmledjdcphmaa
