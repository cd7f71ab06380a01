import Derived.Test.YtldmledjdcphmaaOwnX
import Derived.Laws.AppendOwnNone
set_option linter.unusedSimpArgs false
set_option linter.unusedVariables false
namespace Go.Proofs.Ytldmledjdcphmaa
open Go.RowKit
/-! ### slices of points that the call makes -/

end Go.Proofs.Ytldmledjdcphmaa
