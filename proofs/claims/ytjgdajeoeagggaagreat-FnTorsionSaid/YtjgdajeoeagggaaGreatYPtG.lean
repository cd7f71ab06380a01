import Derived.Test.YtjgdajeoeagggaaGreatYPtV
set_option linter.unusedSimpArgs false
set_option linter.unusedVariables false
namespace Go.Proofs.YtjgdajeoeagggaaGreat
open Go.RowKit
/-! ### generators of the torsion points -/
def tgH (A : Int) (M : List P3) (p : P3) : Bool := decide ((ordV A p).1 = 2) && !decide (p ∈ M)
def tgPs (A B : Int) : List P3 := if gmV A B = 1 then [] else tgF A B :: (if gmV A B < ((tps A B).length : Int) then ((tps A B).find? (tgH A (mlL A (tgF A B) (gmV A B).toNat))).toList else [])
/-- What the first loop has found. -/
def TG (N : Nat) (F : P3 → Bool) (f : P3) (M : List P3) (l : List P3) (v6 v7 : Value) (wr : World) : Prop :=
  (l.find? F = none ∧ v6 = .slice none 0 0 ∧ v7 = .slice none 0 0) ∨ (l.find? F = some f ∧ ∃ a6 c6 a7 c7, v6 = .slice a6 1 c6 ∧ v7 = .slice a7 M.length c7 ∧ OwnP wr N (.slice a6 1 c6) [f] ∧ PtsR wr (.slice a7 M.length c7) M)
end Go.Proofs.YtjgdajeoeagggaaGreat
