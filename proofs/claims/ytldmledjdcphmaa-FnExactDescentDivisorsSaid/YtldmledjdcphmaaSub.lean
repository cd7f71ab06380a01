import Derived.Test.YtldmledjdcphmaaSum
import Derived.Test.YtldmledjdcphmaaCmpZ
set_option linter.unusedSimpArgs false
set_option linter.unusedVariables false
namespace Go.Proofs.Ytldmledjdcphmaa
open Go.RowKit
/-! ### opposites, differences, products with numbers -/

end Go.Proofs.Ytldmledjdcphmaa
