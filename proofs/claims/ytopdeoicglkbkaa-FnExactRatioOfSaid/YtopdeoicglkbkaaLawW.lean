import Derived.Test.YtopdeoicglkbkaaCmp
set_option linter.unusedSimpArgs false
set_option linter.unusedVariables false
namespace Go.Proofs.Ytopdeoicglkbkaa
open Go.RowKit
/-! ### CompareSizes -/

end Go.Proofs.Ytopdeoicglkbkaa
