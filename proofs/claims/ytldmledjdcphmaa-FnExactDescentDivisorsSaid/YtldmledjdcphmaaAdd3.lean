import Derived.Test.YtldmledjdcphmaaAdd2
set_option linter.unusedSimpArgs false
set_option linter.unusedVariables false
namespace Go.Proofs.Ytldmledjdcphmaa
open Go.RowKit
/-! ### sums of wholes in the reference -/

end Go.Proofs.Ytldmledjdcphmaa
