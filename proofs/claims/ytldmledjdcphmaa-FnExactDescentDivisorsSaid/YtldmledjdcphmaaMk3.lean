import Derived.Test.YtldmledjdcphmaaQd
set_option linter.unusedSimpArgs false
set_option linter.unusedVariables false
namespace Go.Proofs.Ytldmledjdcphmaa
open Go.RowKit
/-! ### division of wholes by numbers -/

end Go.Proofs.Ytldmledjdcphmaa
