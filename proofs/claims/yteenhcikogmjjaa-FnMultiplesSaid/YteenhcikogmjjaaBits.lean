import Derived.Test.YteenhcikogmjjaaHgt2
set_option linter.unusedSimpArgs false
set_option linter.unusedVariables false
namespace Go.Proofs.Yteenhcikogmjjaa
open Go.RowKit
/-! ### heights in bits -/

theorem cmpI_neg {a b : Int} : cmpI a b < 0 ↔ a < b := by
  rcases Int.lt_trichotomy a b with h | h | h
  · rw [cmpI_lt h]; omega
  · rw [cmpI_eq h]; omega
  · rw [cmpI_gt h]; omega
theorem can_sgn {n : Bool} {xs : List Int} (h : Can xs) (hn : n = true → xs ≠ []) : (n && decide (0 < tz xs xs.length)) = n := by
  rw [tz_can h]
  cases n with
  | false => rfl
  | true =>
    have := hn rfl
    have : 0 < xs.length := by
      cases xs with
      | nil => exact absurd rfl this
      | cons x xs => simp
    simpa using this

end Go.Proofs.Yteenhcikogmjjaa
