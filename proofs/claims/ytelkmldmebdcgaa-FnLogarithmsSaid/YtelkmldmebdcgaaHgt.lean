import Derived.Test.YtelkmldmebdcgaaMk3
import Derived.Test.YtelkmldmebdcgaaLawB
set_option linter.unusedSimpArgs false
set_option linter.unusedVariables false
namespace Go.Proofs.Ytelkmldmebdcgaa
open Go.RowKit
/-! ### the doubling constant -/

def dbN (a b : Int) : Int := max (dbM (ab a) (ab b)) (dbK (ab a) (ab b) (ab (dsc a b)))
theorem wr_hi9 (x : Int) : wrap64 x ≤ 9223372036854775807 := by unfold wrap64; omega
theorem dbM_nonneg {a b : Int} (h : isC a b = true) : 0 ≤ dbM (ab a) (ab b) := by
  unfold isC inB at h
  simp only [Bool.and_eq_true, decide_eq_true_eq] at h
  obtain ⟨⟨⟨h1, h2⟩, h3, h4⟩, -⟩ := h
  have e1 : 0 ≤ ab a ∧ ab a ≤ 1000 := by unfold ab; rw [win (by omega)]; omega
  have e2 : 0 ≤ ab b ∧ ab b ≤ 10000 := by unfold ab; rw [win (by omega)]; omega
  generalize ab a = A at *
  generalize ab b = B at *
  have hA : 0 ≤ A * A := Int.mul_nonneg e1.1 e1.1
  have hA2 : A * A ≤ 1000 * 1000 := Int.mul_le_mul e1.2 e1.2 e1.1 (by decide)
  unfold dbM
  rw [win (n := 1 + 2 * A + 8 * B + A * A) (by omega)]
  omega
theorem dbN_rng {a b : Int} (h : isC a b = true) : 0 ≤ dbN a b ∧ dbN a b ≤ 9223372036854775807 := by
  have h1 := dbM_nonneg h
  have h2 : dbM (ab a) (ab b) ≤ 9223372036854775807 := by
    unfold dbM
    have := wr_hi9 (1 + 2 * ab a + 8 * ab b + ab a * ab a)
    have := wr_hi9 (4 * (1 + ab a + ab b))
    omega
  have h3 : dbK (ab a) (ab b) (ab (dsc a b)) ≤ 9223372036854775807 := by
    unfold dbK dbQ
    exact Int.max_le.mpr ⟨wr_hi9 _, wr_hi9 _⟩
  unfold dbN
  omega
def dbC (a b : Int) : Nat := bl (dbN a b).toNat
theorem dbC_le {a b : Int} (h : isC a b = true) : dbC a b ≤ 63 := by
  obtain ⟨h1, h2⟩ := dbN_rng h
  exact bl_le (by omega)

end Go.Proofs.Ytelkmldmebdcgaa
