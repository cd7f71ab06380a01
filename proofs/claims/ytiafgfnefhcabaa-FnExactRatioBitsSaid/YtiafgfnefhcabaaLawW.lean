import Derived.Test.YtiafgfnefhcabaaCmp
set_option linter.unusedSimpArgs false
set_option linter.unusedVariables false
namespace Go.Proofs.Ytiafgfnefhcabaa
open Go.RowKit
/-! ### CompareSizes -/

end Go.Proofs.Ytiafgfnefhcabaa
