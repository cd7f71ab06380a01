import Derived.Test.YtldmledjdcphmaaLawW
import Derived.Test.YtldmledjdcphmaaBits
set_option linter.unusedSimpArgs false
set_option linter.unusedVariables false
namespace Go.Proofs.Ytldmledjdcphmaa
open Go.RowKit

end Go.Proofs.Ytldmledjdcphmaa
