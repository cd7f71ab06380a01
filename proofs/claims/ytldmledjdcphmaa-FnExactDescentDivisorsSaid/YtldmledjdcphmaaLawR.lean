import Derived.Test.YtldmledjdcphmaaLawW2
import Derived.Test.YtldmledjdcphmaaRatio
set_option linter.unusedSimpArgs false
set_option linter.unusedVariables false
namespace Go.Proofs.Ytldmledjdcphmaa
open Go.RowKit

end Go.Proofs.Ytldmledjdcphmaa
