import Derived.Test.YteenhcikogmjjaaLawS
set_option linter.unusedSimpArgs false
set_option linter.unusedVariables false
namespace Go.Proofs.Yteenhcikogmjjaa
open Go.RowKit
/-! ### searches over all denominators -/

def srA (a b m : Int) (k : Nat) : List P3 := (List.range k).flatMap fun (i : Nat) => ptsE a b ((i : Int) + 1) m
theorem srA_succ (a b m : Int) (k : Nat) : srA a b m (k + 1) = srA a b m k ++ ptsE a b ((k : Int) + 1) m := by
  unfold srA; rw [List.range_succ, List.flatMap_append]; simp
theorem ptsE_len (a b e m : Int) (hm : m ≤ 10000) : (ptsE a b e m).length ≤ 20001 := by
  have := pre_len a b e m (2 * m + 1).toNat
  unfold ptsE; omega
theorem srA_len (a b m : Int) (hm : m ≤ 10000) (k : Nat) : (srA a b m k).length ≤ 20001 * k := by
  induction k with
  | zero => simp [srA]
  | succ k ih => rw [srA_succ, List.length_append]; have := ptsE_len a b ((k : Int) + 1) m hm; omega
def spOk (a b m d : Int) : Bool := sFit a b m d && decide (0 ≤ m)
def spPs (a b m d : Int) : List P3 := if spOk a b m d then srA a b m d.toNat else []

end Go.Proofs.Yteenhcikogmjjaa

