import Derived.Test.YtopdeoicglkbkaaFracA
set_option linter.unusedSimpArgs false
set_option linter.unusedVariables false
namespace Go.Proofs.Ytopdeoicglkbkaa
open Go.RowKit

theorem toFraction_any (a b : Int) (w : World) : Calls Try.prog 14 #[.agg #[.int .i64 a, .int .i64 b]] w (Gives (.agg #[.int .i64 a, .int .i64 b]) w) := by
  go_enter Try.func14, Try.ntmps14
  go_wp2
  go_returns
  exact gives rfl (by repeat' (first | (with_reducible exact Below.refl _ _) | (with_reducible assumption) | (with_reducible refine Below.alloc ?_ ?_ _) | (with_reducible refine Below.setCell ?_ ?_ _) | (with_reducible refine Below.drew ?_) | (with_reducible refine below_drewN ?_ _) | (apply bthen2; (with_reducible assumption)) | go_size))

/-! ### two-curves -/
def isT (a b : Int) : Bool := inB a (-300) 300 && inB b (-300) 300 && b != 0 && wrap64 (a*a) != wrap64 (4*b)

end Go.Proofs.Ytopdeoicglkbkaa
