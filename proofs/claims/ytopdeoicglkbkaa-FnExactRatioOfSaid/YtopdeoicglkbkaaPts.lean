import Derived.Test.YtopdeoicglkbkaaOwnX
import Derived.Laws.AppendOwnNone
set_option linter.unusedSimpArgs false
set_option linter.unusedVariables false
namespace Go.Proofs.Ytopdeoicglkbkaa
open Go.RowKit
/-! ### slices of points that the call makes -/

end Go.Proofs.Ytopdeoicglkbkaa
