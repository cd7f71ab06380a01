import Derived.Test.YteenhcikogmjjaaPts
import Derived.Test.YteenhcikogmjjaaRoot
import Derived.Test.YteenhcikogmjjaaNumC
import Derived.Test.YteenhcikogmjjaaLawC
set_option linter.unusedSimpArgs false
set_option linter.unusedVariables false
namespace Go.Proofs.Yteenhcikogmjjaa
open Go.RowKit
/-! ### searches for points -/

theorem abs_mul {x y : Int} {m n : Nat} (h1 : x.natAbs ≤ m) (h2 : y.natAbs ≤ n) : (x * y).natAbs ≤ m * n := by rw [Int.natAbs_mul]; exact Nat.mul_le_mul h1 h2
theorem cVal_b {a b x e : Int} (h1 : a.natAbs ≤ 1000) (h2 : b.natAbs ≤ 10000) (h3 : x.natAbs ≤ 10000) (h4 : e.natAbs ≤ 20) : -3240000000000 ≤ cVal a b x e ∧ cVal a b x e ≤ 3240000000000 ∧ cVal a b x e = x*x*x + a*x*e*e*e*e + b*e*e*e*e*e*e := by
  have t1 := abs_mul (abs_mul h3 h3) h3
  have t2 := abs_mul (abs_mul (abs_mul (abs_mul (abs_mul h1 h3) h4) h4) h4) h4
  have t3 := abs_mul (abs_mul (abs_mul (abs_mul (abs_mul (abs_mul h2 h4) h4) h4) h4) h4) h4
  unfold cVal
  generalize x*x*x = X at *
  generalize a*x*e*e*e*e = Y at *
  generalize b*e*e*e*e*e*e = Z at *
  rw [win (by omega)]
  omega

/-- the point with an x -/
def pt (a b e x : Int) : Option P3 := if (Int.gcd x e : Int) = 1 ∧ sqB (cVal a b x e) = true then some (x, rt (cVal a b x e), e) else none
def pre (a b e m : Int) (k : Nat) : List P3 := (List.range k).filterMap fun (i : Nat) => pt a b e (-m + (i : Int))
theorem pre_succ (a b e m : Int) (k : Nat) : pre a b e m (k + 1) = pre a b e m k ++ (match pt a b e (-m + (k : Int)) with | some p => [p] | none => []) := by
  unfold pre
  rw [List.range_succ, List.filterMap_append]
  simp only [List.filterMap_cons, List.filterMap_nil]
  split <;> rename_i h <;> simp [h]
theorem pre_len (a b e m : Int) (k : Nat) : (pre a b e m k).length ≤ k := by
  have := List.length_filterMap_le (fun i : Nat => pt a b e (-m + (i : Int))) (List.range k)
  unfold pre
  simpa using this
def ptsE (a b e m : Int) : List P3 := pre a b e m (2 * m + 1).toNat
theorem pt_no1 {a b e x : Int} (h : ¬ (Int.gcd x e : Int) = 1) : pt a b e x = none := by unfold pt; rw [if_neg (fun g => h g.1)]
theorem pt_no2 {a b e x : Int} (h : sqB (cVal a b x e) = false) : pt a b e x = none := by unfold pt; rw [if_neg (fun g => by rw [h] at g; cases g.2)]
theorem pt_yes {a b e x : Int} (h : (Int.gcd x e : Int) = 1) (h2 : sqB (cVal a b x e) = true) : pt a b e x = some (x, rt (cVal a b x e), e) := by unfold pt; rw [if_pos ⟨h, h2⟩]

def GivesPB (ps : List P3) (ok : Bool) (w : World) (e : Ending) (w' : World) : Prop := ∃ a len cap, e = .returned (.tuple #[.slice a len cap, .bool ok]) ∧ OwnP w' w.heap.size (.slice a len cap) ps ∧ Below w.heap.size w w'
def peOk (a b e m : Int) : Bool := sFit a b m e && decide (0 ≤ m)
def pePs (a b e m : Int) : List P3 := if peOk a b e m then ptsE a b e m else []
theorem sFit_f {a b x e : Int} (h : sFit a b x e = true) : -1000 ≤ a ∧ a ≤ 1000 ∧ -10000 ≤ b ∧ b ≤ 10000 ∧ -10000 ≤ x ∧ x ≤ 10000 ∧ 1 ≤ e ∧ e ≤ 20 := by
  unfold sFit isC at h
  simp only [Bool.and_eq_true, inB_iff] at h
  omega

end Go.Proofs.Yteenhcikogmjjaa
