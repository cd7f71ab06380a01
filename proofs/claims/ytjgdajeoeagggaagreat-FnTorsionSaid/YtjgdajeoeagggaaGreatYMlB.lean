import Derived.Test.YtjgdajeoeagggaaGreatYDrA
import Derived.Test.YtjgdajeoeagggaaGreatYMlA
import Derived.Test.YtjgdajeoeagggaaGreatYRegX
set_option linter.unusedSimpArgs false
set_option linter.unusedVariables false
namespace Go.Proofs.YtjgdajeoeagggaaGreat
open Go.RowKit
/-! ### drawn points -/
theorem Byts.mono {w : World} {b c : Nat} {v : Value} (h : Byts w b v) (hb : b ≤ c) : Byts w c v := by
  obtain ⟨a, len, cap, hv, hl, hc⟩ := h
  refine ⟨a, len, cap, hv, hl, fun i hi => ?_⟩
  obtain ⟨g, off, z, h1, h2, h3⟩ := hc i hi
  exact ⟨g, off, z, h1, by omega, h3⟩
/-! ### drawn points, any of them -/
end Go.Proofs.YtjgdajeoeagggaaGreat
