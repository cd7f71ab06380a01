import Derived.Test.YtopdeoicglkbkaaLawW2
import Derived.Test.YtopdeoicglkbkaaRatio
set_option linter.unusedSimpArgs false
set_option linter.unusedVariables false
namespace Go.Proofs.Ytopdeoicglkbkaa
open Go.RowKit

end Go.Proofs.Ytopdeoicglkbkaa
