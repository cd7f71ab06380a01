import Derived.Test.YtfcfjlfobflmaaaDoorWhole
import Derived.Test.YtfcfjlfobflmaaaDoorOwnX
import Derived.Deep.DeepMust
set_option linter.unusedSimpArgs false
set_option linter.unusedVariables false
namespace Go.Proofs.YtfcfjlfobflmaaaDoor
open Go.RowKit
/-! ### ratios: two wholes -/

def ratB (n1 : Bool) (xs : List Int) (n2 : Bool) (ys : List Int) : Bool := whB n1 xs && whB n2 ys && decide (xs.length ≤ 80) && inB ys.length 1 80 && !n2
theorem Ints.len {w : World} {a : Option Addr} {len cap : Nat} {xs : List Int} (h : Ints w (.slice a len cap) xs) : xs.length = len ∧ len ≤ 9223372036854775807 := by
  rcases h with ⟨a', cap', hs, rfl⟩ | ⟨b, off, len', cap', hs, hl, h0, hc, hm, _⟩
  · obtain ⟨rfl, rfl, rfl⟩ := by simpa using hs
    exact ⟨rfl, by omega⟩
  · obtain ⟨rfl, rfl, rfl⟩ := by simpa using hs
    exact ⟨hl, by unfold maxLen at hm; omega⟩

end Go.Proofs.YtfcfjlfobflmaaaDoor
