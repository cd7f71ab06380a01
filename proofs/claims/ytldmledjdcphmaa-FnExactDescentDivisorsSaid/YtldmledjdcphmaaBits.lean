import Derived.Test.YtldmledjdcphmaaHgt2
set_option linter.unusedSimpArgs false
set_option linter.unusedVariables false
namespace Go.Proofs.Ytldmledjdcphmaa
open Go.RowKit
/-! ### heights in bits -/

end Go.Proofs.Ytldmledjdcphmaa
