import Derived.Test.YtldmledjdcphmaaMul2
import Derived.Test.YtldmledjdcphmaaLawR
set_option linter.unusedSimpArgs false
set_option linter.unusedVariables false
namespace Go.Proofs.Ytldmledjdcphmaa
open Go.RowKit
/-! ### wholes are compared, signs and all -/

end Go.Proofs.Ytldmledjdcphmaa
