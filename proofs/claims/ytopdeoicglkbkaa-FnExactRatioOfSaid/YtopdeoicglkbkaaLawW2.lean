import Derived.Test.YtopdeoicglkbkaaLawW
import Derived.Test.YtopdeoicglkbkaaBits
set_option linter.unusedSimpArgs false
set_option linter.unusedVariables false
namespace Go.Proofs.Ytopdeoicglkbkaa
open Go.RowKit

end Go.Proofs.Ytopdeoicglkbkaa
