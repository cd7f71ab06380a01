import Derived.Test.YtfcfjlfobflmaaaDoorAdd
import Derived.Test.YtfcfjlfobflmaaaDoorBits
set_option linter.unusedSimpArgs false
set_option linter.unusedVariables false
namespace Go.Proofs.YtfcfjlfobflmaaaDoor
open Go.RowKit
/-! ### sums and products of lists of wholes -/

theorem bcl {W w1 : World} {N b o : Nat} {v : Option Value} (hb : Below N W w1) (h : b < N) (hc : W.cell? ⟨b, o, none⟩ = v) : w1.cell? ⟨b, o, none⟩ = v := (hb.cell (p := ⟨b, o, none⟩) h).trans hc
theorem bfl {W w1 : World} {N b o : Nat} {v : Bool} (hb : Below N W w1) (h : b < N) (hc : W.frozen? ⟨b, o, none⟩ = v) : w1.frozen? ⟨b, o, none⟩ = v := (hb.frozen (p := ⟨b, o, none⟩) h).trans hc

def WsAt (w : World) (b : Nat) (zs : List Int) : Prop := b < w.heap.size ∧ ∀ i, i < zs.length → ∃ a l c, w.cell? ⟨b, i * 2, none⟩ = some (.bool (decide (zs.getD i 0 < 0))) ∧ w.cell? ⟨b, i * 2 + 1, none⟩ = some (.slice a l c) ∧ Ints w (.slice a l c) (dg (zs.getD i 0).natAbs)
def sumL (zs : List Int) : Int := zs.foldl (· + ·) 0
def prodL (zs : List Int) : Int := zs.foldl (· * ·) 1
theorem sumL_zero (zs : List Int) : sumL (zs.take 0) = 0 := by simp [sumL]
theorem prodL_zero (zs : List Int) : prodL (zs.take 0) = 1 := by simp [prodL]
theorem sumL_step (zs : List Int) (k : Nat) : sumL (zs.take k) + zs.getD k 0 = sumL (zs.take (k + 1)) := by
  unfold sumL
  by_cases h : k < zs.length
  · rw [List.take_succ_eq_append_getElem h, List.foldl_append]; simp [List.getD, h]
  · rw [List.take_of_length_le (show zs.length ≤ k by omega), List.take_of_length_le (show zs.length ≤ k + 1 by omega)]
    simp [List.getD, List.getElem?_eq_none (show zs.length ≤ k by omega)]
theorem prodL_step (zs : List Int) (k : Nat) (h : k < zs.length) : prodL (zs.take k) * zs.getD k 0 = prodL (zs.take (k + 1)) := by
  unfold prodL
  rw [List.take_succ_eq_append_getElem h, List.foldl_append]; simp [List.getD, h]

end Go.Proofs.YtfcfjlfobflmaaaDoor
