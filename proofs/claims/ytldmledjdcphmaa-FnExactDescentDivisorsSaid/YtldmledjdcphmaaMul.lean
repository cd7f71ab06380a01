import Derived.Test.YtldmledjdcphmaaAdd3
set_option linter.unusedSimpArgs false
set_option linter.unusedVariables false
namespace Go.Proofs.Ytldmledjdcphmaa
open Go.RowKit
/-! ### products of wholes -/

end Go.Proofs.Ytldmledjdcphmaa
