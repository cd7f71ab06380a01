import Derived.Test.YtldmledjdcphmaaMarkI
import Derived.Test.YtldmledjdcphmaaMk
set_option linter.unusedSimpArgs false
set_option linter.unusedVariables false
namespace Go.Proofs.Ytldmledjdcphmaa
open Go.RowKit
/-! ### marks on wholes -/

end Go.Proofs.Ytldmledjdcphmaa
