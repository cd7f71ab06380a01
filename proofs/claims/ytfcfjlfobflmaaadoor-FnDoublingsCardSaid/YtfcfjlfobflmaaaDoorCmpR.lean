import Derived.Test.YtfcfjlfobflmaaaDoorAdd
import Derived.Test.YtfcfjlfobflmaaaDoorBits
import Derived.Test.YtfcfjlfobflmaaaDoorCmp
import Derived.Test.YtfcfjlfobflmaaaDoorRatio
import Derived.Test.YtfcfjlfobflmaaaDoorBox
set_option linter.unusedSimpArgs false
set_option linter.unusedVariables false
namespace Go.Proofs.YtfcfjlfobflmaaaDoor
open Go.RowKit
/-! ### ratios are compared -/

def zv (n : Bool) (xs : List Int) : Int := if n then -val xs else val xs
theorem zv_z (z : Int) : zv (decide (z < 0)) (dg z.natAbs) = z := by
  unfold zv
  rw [val_dg]
  by_cases h : z < 0
  · simp only [h, decide_true, if_true]; omega
  · simp only [h, decide_false, Bool.false_eq_true, if_false]; omega
theorem whB_z {n : Bool} {xs : List Int} (h : whB n xs = true) : ∃ z : Int, n = decide (z < 0) ∧ xs = dg z.natAbs ∧ (dg z.natAbs).length ≤ 400 := by
  obtain ⟨hc, hl, hs⟩ := whB_can h
  have hd := dg_val hc
  have h0 := val_nonneg hc.1
  refine ⟨zv n xs, ?_, ?_, ?_⟩
  · cases n
    · simp [zv]; omega
    · have hne : xs ≠ [] := by intro e; subst e; simp at hs
      have h1 := val_ge hc hne
      have := p10 (xs.length - 1)
      simp [zv]; omega
  · rw [show (zv n xs).natAbs = (val xs).toNat by cases n <;> simp [zv] <;> omega, hd]
  · rw [show (zv n xs).natAbs = (val xs).toNat by cases n <;> simp [zv] <;> omega, hd]; exact hl

theorem ratB_z {n1 n2 : Bool} {xs ys : List Int} (h : ratB n1 xs n2 ys = true) : ∃ x z : Int, n1 = decide (x < 0) ∧ xs = dg x.natAbs ∧ n2 = decide (z < 0) ∧ ys = dg z.natAbs ∧ (dg x.natAbs).length ≤ 80 ∧ (dg z.natAbs).length ≤ 80 ∧ 0 < z := by
  have h0 := h
  unfold ratB at h
  simp only [Bool.and_eq_true, decide_eq_true_eq] at h
  obtain ⟨⟨⟨⟨h1, h2⟩, h3⟩, h4⟩, h5⟩ := h
  obtain ⟨x, e1, e2, -⟩ := whB_z h1
  obtain ⟨z, e3, e4, -⟩ := whB_z h2
  subst e1 e2 e3 e4
  refine ⟨x, z, rfl, rfl, rfl, rfl, h3, ?_, ?_⟩
  · have := (inB_iff.1 h4).2; omega
  · have h6 := (inB_iff.1 h4).1
    have h7 : ¬ z < 0 := by simpa using h5
    have h8 : z.natAbs ≠ 0 := fun e => by rw [e] at h6; simp [dg_zero] at h6
    omega

end Go.Proofs.YtfcfjlfobflmaaaDoor
