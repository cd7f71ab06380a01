import Derived.Test.YtldmledjdcphmaaOwnX
import Derived.Laws.AppendOwnNone
import Derived.Test.YtldmledjdcphmaaRoot
import Derived.Test.YtldmledjdcphmaaNumC
import Derived.Test.YtldmledjdcphmaaLawC
set_option linter.unusedSimpArgs false
set_option linter.unusedVariables false
namespace Go.Proofs.Ytldmledjdcphmaa
open Go.RowKit
/-! ### searches for points -/

theorem abs_mul {x y : Int} {m n : Nat} (h1 : x.natAbs ≤ m) (h2 : y.natAbs ≤ n) : (x * y).natAbs ≤ m * n := by rw [Int.natAbs_mul]; exact Nat.mul_le_mul h1 h2
theorem cVal_b {a b x e : Int} (h1 : a.natAbs ≤ 1000) (h2 : b.natAbs ≤ 10000) (h3 : x.natAbs ≤ 10000) (h4 : e.natAbs ≤ 20) : -3240000000000 ≤ cVal a b x e ∧ cVal a b x e ≤ 3240000000000 ∧ cVal a b x e = x*x*x + a*x*e*e*e*e + b*e*e*e*e*e*e := by
  have t1 := abs_mul (abs_mul h3 h3) h3
  have t2 := abs_mul (abs_mul (abs_mul (abs_mul (abs_mul h1 h3) h4) h4) h4) h4
  have t3 := abs_mul (abs_mul (abs_mul (abs_mul (abs_mul (abs_mul h2 h4) h4) h4) h4) h4) h4
  unfold cVal
  generalize x*x*x = X at *
  generalize a*x*e*e*e*e = Y at *
  generalize b*e*e*e*e*e*e = Z at *
  rw [win (by omega)]
  omega

end Go.Proofs.Ytldmledjdcphmaa
