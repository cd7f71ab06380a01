import Derived.Test.YtelkmldmebdcgaaNumA
set_option linter.unusedSimpArgs false
set_option linter.unusedVariables false
namespace Go.Proofs.Ytelkmldmebdcgaa
open Go.RowKit

/-! ### doubling bounds -/
def dbM (a b : Int) : Int := max (wrap64 (1 + 2*a + 8*b + a*a)) (wrap64 (4*(1+a+b)))
def dbQ (a b d : Int) : Int := wrap64 (4*d + 5*a*a*b + 4*a*(3*a*a*a+22*b*b) + 12*b*(a*a*a+8*b*b) + a*(5*a*a*a+32*b*b) + 2*b*(13*a*a*a+96*b*b) + 3*a*a*(a*a*a+8*b*b))
def dbK (a b d : Int) : Int := max (wrap64 (15 + 21*a + 27*b)) (dbQ a b d)
def ab (a : Int) : Int := max a (wrap64 (-a))
theorem ab_eq (a : Int) : Value.int .i64 (max a (IntKind.i64.wrap (-a))) = .int .i64 (ab a) := by rw [IntWalk.i64_left]; rfl
theorem db_q1 (a b d : Int) : 4*d + 4*a*a*b + 4*a*(3*a*a*a+22*b*b) + 12*b*(a*a*a+8*b*b) + (a*a*b + a*(5*a*a*a+32*b*b) + 2*b*(13*a*a*a+96*b*b) + 3*a*a*(a*a*a+8*b*b)) = 4*d + 5*a*a*b + 4*a*(3*a*a*a+22*b*b) + 12*b*(a*a*a+8*b*b) + a*(5*a*a*a+32*b*b) + 2*b*(13*a*a*a+96*b*b) + 3*a*a*(a*a*a+8*b*b) := by grind
theorem db_p1 (a b : Int) : 12 + 16*a + 3 + 5*a + 27*b = 15 + 21*a + 27*b := by omega
theorem db_q2 (a b d : Int) : 4*d + 5*a*a*b + 4*a*(3*a*a*a+22*b*b) + 12*b*(a*a*a+8*b*b) + (a*(5*a*a*a+32*b*b) + 2*b*(13*a*a*a+96*b*b) + 3*a*a*(a*a*a+8*b*b)) = 4*d + 5*a*a*b + 4*a*(3*a*a*a+22*b*b) + 12*b*(a*a*a+8*b*b) + a*(5*a*a*a+32*b*b) + 2*b*(13*a*a*a+96*b*b) + 3*a*a*(a*a*a+8*b*b) := by grind
def dbP (a b d : Int) : Value := .tuple #[.int .i64 (dbM a b), .int .i64 (dbK a b d)]

end Go.Proofs.Ytelkmldmebdcgaa
