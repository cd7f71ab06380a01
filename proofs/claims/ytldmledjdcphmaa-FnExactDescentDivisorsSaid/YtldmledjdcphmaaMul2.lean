import Derived.Test.YtldmledjdcphmaaMul
set_option linter.unusedSimpArgs false
set_option linter.unusedVariables false
namespace Go.Proofs.Ytldmledjdcphmaa
open Go.RowKit
/-! ### products of wholes in the reference -/

end Go.Proofs.Ytldmledjdcphmaa
