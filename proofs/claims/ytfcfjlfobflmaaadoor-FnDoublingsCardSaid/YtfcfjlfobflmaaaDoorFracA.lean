import Derived.Test.YtfcfjlfobflmaaaDoorNumC
set_option linter.unusedSimpArgs false
set_option linter.unusedVariables false
namespace Go.Proofs.YtfcfjlfobflmaaaDoor
open Go.RowKit

/-! ### fractions -/
def isF (n d : Int) : Bool := inB d 1 1000000000 && inB n (-1000000000) 1000000000 && ((Int.gcd n d : Nat) : Int) == 1
def mkD (num den : Int) : Int := if den < 0 then -((Int.gcd num den : Nat) : Int) else ((Int.gcd num den : Nat) : Int)
def mkOk (num den : Int) : Bool := isF (num.tdiv (mkD num den)) (den.tdiv (mkD num den))
def mkF (num den : Int) : Value := if mkOk num den then .tuple #[.agg #[.int .i64 (num.tdiv (mkD num den)), .int .i64 (den.tdiv (mkD num den))], .bool true] else .tuple #[.agg #[.int .i64 0, .int .i64 0], .bool false]
theorem gcd_ne (num den : Int) (h : den ≠ 0) : 1 ≤ Int.gcd num den := by
  have : Int.gcd num den ≠ 0 := by rw [Ne, Int.gcd_eq_zero_iff]; omega
  omega
theorem gcd_le (num den : Int) (h : den ≠ 0) : Int.gcd num den ≤ den.natAbs := Nat.le_of_dvd (by omega) (Nat.gcd_dvd_right _ _)
theorem tdiv_bd (a b : Int) : (a.tdiv b).natAbs ≤ a.natAbs := by rw [Int.natAbs_tdiv]; exact Nat.div_le_self _ _

end Go.Proofs.YtfcfjlfobflmaaaDoor
