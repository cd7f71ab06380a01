import Derived.Test.YtldmledjdcphmaaCmp
set_option linter.unusedSimpArgs false
set_option linter.unusedVariables false
namespace Go.Proofs.Ytldmledjdcphmaa
open Go.RowKit
/-! ### CompareSizes -/

end Go.Proofs.Ytldmledjdcphmaa
