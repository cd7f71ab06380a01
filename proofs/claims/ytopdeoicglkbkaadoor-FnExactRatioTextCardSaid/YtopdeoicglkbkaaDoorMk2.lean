import Derived.Test.YtopdeoicglkbkaaDoorMk
set_option linter.unusedSimpArgs false
set_option linter.unusedVariables false
namespace Go.Proofs.YtopdeoicglkbkaaDoor
open Go.RowKit
/-! ### the whole of a number -/
theorem tz_can {xs : List Int} (h : Can xs) : tz xs xs.length = xs.length := by
  cases hn : xs.length with
  | zero => rfl
  | succ k =>
    refine tz_stop ?_
    intro h0
    have h1 := h.2
    rw [List.getLast?_eq_getElem?] at h1
    rw [hn] at h1
    have hk : k < xs.length := by omega
    simp only [List.getD, Nat.add_sub_cancel, List.getElem?_eq_getElem hk, Option.getD_some] at h0 h1
    rw [h0] at h1
    exact h1 rfl
theorem trim_can {xs : List Int} (h : Can xs) : trim xs = xs := by
  unfold trim
  rw [tz_can h, List.take_length]
theorem dg_len (M : Nat) (h : M ≤ 9223372036854775807) : (dg M).length ≤ 5 := dg_len_le (by omega)
theorem sgn_dg (N : Int) : (decide (N < 0) && decide (0 < tz (dg N.natAbs) (dg N.natAbs).length)) = decide (N < 0) := by
  rw [tz_can (can_dg _)]
  by_cases h : N < 0
  · have h0 : N.natAbs ≠ 0 := by omega
    have : 0 < (dg N.natAbs).length := by rw [dg_pos h0]; simp
    simp [h, this]
  · simp [h]
theorem dg_app {acc l : List Int} {m : Nat} (h : m ≠ 0) (he : acc ++ dg m = l) : (acc ++ [(m : Int) % 10000]) ++ dg (m / 10000) = l := by
  rw [← he, dg_pos h, List.append_assoc]
  rfl

end Go.Proofs.YtopdeoicglkbkaaDoor
