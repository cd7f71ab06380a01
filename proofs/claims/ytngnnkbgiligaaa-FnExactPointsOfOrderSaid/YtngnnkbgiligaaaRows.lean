/-
  No cell of these rows narrows 'for every input' (looked for: loops, veiled, ifaces, maps, wideKeys, modest, calm, conditions, laid).
  DERIVED. THE GIVEN ROWS OF THIS SEAT. 8 by the template 'for every input the law returns true; each argument reads behind the call as it read before'; 0 by the template 'total and deterministic' (their statements: YtngnnkbgiligaaaTotals.lean).
  GIVEN WITH THE SEED: the statements are not yours to turn. If you find one false, say at which input.
  Laid BY PROGRAM, IN A SANDBOX (cutbox-rows.mjs): the forced cells as the released guide's own fill.sh prints them over the translation 8ffb6447381f2e4a… (all of the seat's roots in one cut). By AI agents, Wed Nov 11 2026. No macro, syntax, notation, axiom, sorry.
-/
import Derived.Test.YtngnnkbgiligaaaChecked
import GoSem.Claim
import GoSem.ClaimJoined
import GoSem.ClaimMapViews
import Derived.JoinedTies
import Derived.KernelRfl
namespace Go.Proofs.Ytngnnkbgiligaaa
/- THE CELL 'sum', in the pinned program and in every row, IS THE sha256 OF THE DUMP (.gsa) THAT YtngnnkbgiligaaaProg.lean LOADS. Nothing in Lean hashes anything: it is a label: what it is worth is what the hold of that sum in a sandbox is worth. -/
noncomputable def Try.pinned : Pinned := { name := "ytngnnkbgiligaaa", sum := "8ffb6447381f2e4af9a026b321c586307d1404e33b0df6a3d2cd4f2cc3f8ea8e", checked := Try.checked }
namespace Rows
def none {H : Type} : Left H := { results := [], args := [] }

/-- 'laws.FnExactIsTorsionPoint': WHATEVER THE INPUT: true; the input reads as it did. -/
def fnExactIsTorsionPointSpec : ChangeSpec := { name := "fnExactIsTorsionPoint", fn := fun _ => fun
  | [d1, d2] => { results := [.lit (.bool true)], args := [d1, d2] }
  | _ => none }
def fnExactIsTorsionPointRow : OpenClaim := { program := "ytngnnkbgiligaaa", sum := "8ffb6447381f2e4af9a026b321c586307d1404e33b0df6a3d2cd4f2cc3f8ea8e", func := "loop.example/g01004/laws.FnExactIsTorsionPoint", spec := "fnExactIsTorsionPoint", inPlace := ["math.sqrt"], apart := false }
def FnExactIsTorsionPointSaid : Prop := fnExactIsTorsionPointRow.holds Try.pinned (OpenSpec.ofChange fnExactIsTorsionPointSpec)

/-- ITS FALSE NEIGHBOUR: 'it returns false'. Refute it at one input. -/
def fnExactIsTorsionPointWrong : ChangeSpec := { name := "fnExactIsTorsionPoint", fn := fun _ => fun
  | [d1, d2] => { results := [.lit (.bool false)], args := [d1, d2] }
  | _ => none }
def FnExactIsTorsionPointWrongFalsely : Prop := fnExactIsTorsionPointRow.holds Try.pinned (OpenSpec.ofChange fnExactIsTorsionPointWrong)

/-- 'laws.FnExactTorsionShape': WHATEVER THE INPUT: true; the input reads as it did. -/
def fnExactTorsionShapeSpec : ChangeSpec := { name := "fnExactTorsionShape", fn := fun _ => fun
  | [d] => { results := [.lit (.bool true)], args := [d] }
  | _ => none }
def fnExactTorsionShapeRow : OpenClaim := { program := "ytngnnkbgiligaaa", sum := "8ffb6447381f2e4af9a026b321c586307d1404e33b0df6a3d2cd4f2cc3f8ea8e", func := "loop.example/g01004/laws.FnExactTorsionShape", spec := "fnExactTorsionShape", inPlace := ["math.sqrt"], apart := false }
def FnExactTorsionShapeSaid : Prop := fnExactTorsionShapeRow.holds Try.pinned (OpenSpec.ofChange fnExactTorsionShapeSpec)

/-- ITS FALSE NEIGHBOUR: 'it returns false'. Refute it at one input. -/
def fnExactTorsionShapeWrong : ChangeSpec := { name := "fnExactTorsionShape", fn := fun _ => fun
  | [d] => { results := [.lit (.bool false)], args := [d] }
  | _ => none }
def FnExactTorsionShapeWrongFalsely : Prop := fnExactTorsionShapeRow.holds Try.pinned (OpenSpec.ofChange fnExactTorsionShapeWrong)

/-- 'laws.FnTorsionExact': WHATEVER THE INPUT: true; the input reads as it did. -/
def fnTorsionExactSpec : ChangeSpec := { name := "fnTorsionExact", fn := fun _ => fun
  | [d1, d2] => { results := [.lit (.bool true)], args := [d1, d2] }
  | _ => none }
def fnTorsionExactRow : OpenClaim := { program := "ytngnnkbgiligaaa", sum := "8ffb6447381f2e4af9a026b321c586307d1404e33b0df6a3d2cd4f2cc3f8ea8e", func := "loop.example/g01004/laws.FnTorsionExact", spec := "fnTorsionExact", inPlace := ["math.sqrt"], apart := false }
def FnTorsionExactSaid : Prop := fnTorsionExactRow.holds Try.pinned (OpenSpec.ofChange fnTorsionExactSpec)

/-- ITS FALSE NEIGHBOUR: 'it returns false'. Refute it at one input. -/
def fnTorsionExactWrong : ChangeSpec := { name := "fnTorsionExact", fn := fun _ => fun
  | [d1, d2] => { results := [.lit (.bool false)], args := [d1, d2] }
  | _ => none }
def FnTorsionExactWrongFalsely : Prop := fnTorsionExactRow.holds Try.pinned (OpenSpec.ofChange fnTorsionExactWrong)

/-- 'laws.FnExactTorsionPoints': WHATEVER THE INPUT: true; the input reads as it did. -/
def fnExactTorsionPointsSpec : ChangeSpec := { name := "fnExactTorsionPoints", fn := fun _ => fun
  | [d] => { results := [.lit (.bool true)], args := [d] }
  | _ => none }
def fnExactTorsionPointsRow : OpenClaim := { program := "ytngnnkbgiligaaa", sum := "8ffb6447381f2e4af9a026b321c586307d1404e33b0df6a3d2cd4f2cc3f8ea8e", func := "loop.example/g01004/laws.FnExactTorsionPoints", spec := "fnExactTorsionPoints", inPlace := ["math.sqrt"], apart := false }
def FnExactTorsionPointsSaid : Prop := fnExactTorsionPointsRow.holds Try.pinned (OpenSpec.ofChange fnExactTorsionPointsSpec)

/-- ITS FALSE NEIGHBOUR: 'it returns false'. Refute it at one input. -/
def fnExactTorsionPointsWrong : ChangeSpec := { name := "fnExactTorsionPoints", fn := fun _ => fun
  | [d] => { results := [.lit (.bool false)], args := [d] }
  | _ => none }
def FnExactTorsionPointsWrongFalsely : Prop := fnExactTorsionPointsRow.holds Try.pinned (OpenSpec.ofChange fnExactTorsionPointsWrong)

/-- 'laws.FnExactPointsOfOrder': WHATEVER THE INPUT: true; the input reads as it did. -/
def fnExactPointsOfOrderSpec : ChangeSpec := { name := "fnExactPointsOfOrder", fn := fun _ => fun
  | [d1, d2] => { results := [.lit (.bool true)], args := [d1, d2] }
  | _ => none }
def fnExactPointsOfOrderRow : OpenClaim := { program := "ytngnnkbgiligaaa", sum := "8ffb6447381f2e4af9a026b321c586307d1404e33b0df6a3d2cd4f2cc3f8ea8e", func := "loop.example/g01004/laws.FnExactPointsOfOrder", spec := "fnExactPointsOfOrder", inPlace := ["math.sqrt"], unfollowed := true, recurses := true, apart := false }
def FnExactPointsOfOrderSaid : Prop := fnExactPointsOfOrderRow.holds Try.pinned (OpenSpec.ofChange fnExactPointsOfOrderSpec)

/-- ITS FALSE NEIGHBOUR: 'it returns false'. Refute it at one input. -/
def fnExactPointsOfOrderWrong : ChangeSpec := { name := "fnExactPointsOfOrder", fn := fun _ => fun
  | [d1, d2] => { results := [.lit (.bool false)], args := [d1, d2] }
  | _ => none }
def FnExactPointsOfOrderWrongFalsely : Prop := fnExactPointsOfOrderRow.holds Try.pinned (OpenSpec.ofChange fnExactPointsOfOrderWrong)

/-- 'laws.FnExactCheckTorsion': WHATEVER THE INPUT: true; the input reads as it did. -/
def fnExactCheckTorsionSpec : ChangeSpec := { name := "fnExactCheckTorsion", fn := fun _ => fun
  | [d1, d2] => { results := [.lit (.bool true)], args := [d1, d2] }
  | _ => none }
def fnExactCheckTorsionRow : OpenClaim := { program := "ytngnnkbgiligaaa", sum := "8ffb6447381f2e4af9a026b321c586307d1404e33b0df6a3d2cd4f2cc3f8ea8e", func := "loop.example/g01004/laws.FnExactCheckTorsion", spec := "fnExactCheckTorsion", inPlace := ["math.sqrt"], apart := false }
def FnExactCheckTorsionSaid : Prop := fnExactCheckTorsionRow.holds Try.pinned (OpenSpec.ofChange fnExactCheckTorsionSpec)

/-- ITS FALSE NEIGHBOUR: 'it returns false'. Refute it at one input. -/
def fnExactCheckTorsionWrong : ChangeSpec := { name := "fnExactCheckTorsion", fn := fun _ => fun
  | [d1, d2] => { results := [.lit (.bool false)], args := [d1, d2] }
  | _ => none }
def FnExactCheckTorsionWrongFalsely : Prop := fnExactCheckTorsionRow.holds Try.pinned (OpenSpec.ofChange fnExactCheckTorsionWrong)

/-- 'laws.FnExactTorsionGenerators': WHATEVER THE INPUT: true; the input reads as it did. -/
def fnExactTorsionGeneratorsSpec : ChangeSpec := { name := "fnExactTorsionGenerators", fn := fun _ => fun
  | [d] => { results := [.lit (.bool true)], args := [d] }
  | _ => none }
def fnExactTorsionGeneratorsRow : OpenClaim := { program := "ytngnnkbgiligaaa", sum := "8ffb6447381f2e4af9a026b321c586307d1404e33b0df6a3d2cd4f2cc3f8ea8e", func := "loop.example/g01004/laws.FnExactTorsionGenerators", spec := "fnExactTorsionGenerators", inPlace := ["math.sqrt"], apart := false }
def FnExactTorsionGeneratorsSaid : Prop := fnExactTorsionGeneratorsRow.holds Try.pinned (OpenSpec.ofChange fnExactTorsionGeneratorsSpec)

/-- ITS FALSE NEIGHBOUR: 'it returns false'. Refute it at one input. -/
def fnExactTorsionGeneratorsWrong : ChangeSpec := { name := "fnExactTorsionGenerators", fn := fun _ => fun
  | [d] => { results := [.lit (.bool false)], args := [d] }
  | _ => none }
def FnExactTorsionGeneratorsWrongFalsely : Prop := fnExactTorsionGeneratorsRow.holds Try.pinned (OpenSpec.ofChange fnExactTorsionGeneratorsWrong)

/-- 'laws.FnMultiples': WHATEVER THE INPUT: true; the input reads as it did. -/
def fnMultiplesSpec : ChangeSpec := { name := "fnMultiples", fn := fun _ => fun
  | [d1, d2] => { results := [.lit (.bool true)], args := [d1, d2] }
  | _ => none }
def fnMultiplesRow : OpenClaim := { program := "ytngnnkbgiligaaa", sum := "8ffb6447381f2e4af9a026b321c586307d1404e33b0df6a3d2cd4f2cc3f8ea8e", func := "loop.example/g01004/laws.FnMultiples", spec := "fnMultiples", inPlace := ["math.sqrt"], apart := false }
def FnMultiplesSaid : Prop := fnMultiplesRow.holds Try.pinned (OpenSpec.ofChange fnMultiplesSpec)

/-- ITS FALSE NEIGHBOUR: 'it returns false'. Refute it at one input. -/
def fnMultiplesWrong : ChangeSpec := { name := "fnMultiples", fn := fun _ => fun
  | [d1, d2] => { results := [.lit (.bool false)], args := [d1, d2] }
  | _ => none }
def FnMultiplesWrongFalsely : Prop := fnMultiplesRow.holds Try.pinned (OpenSpec.ofChange fnMultiplesWrong)

/- THE SECOND FORM. 'bulk': how many values and letters a reading holds, each counted each time it is reached (what is shared counts as often as it is met; a slice's spare places count too). A statement '..UptoSaid' is the law's where the arguments, and the package variables that the reading takes, are together of bulk at most 1048576: NARROWER than '..Said'. Prove '..Said' where nothing that the law and all that it calls make is longer than what came in: it says more and counts as full. Else prove '..UptoSaid'. A law counts once. -/
mutual
def uptoBulk {H : Type} : DataW H → Nat
  | .lit (.string bytes) => bytes.length + 1
  | .lit _ => 1
  | .nil => 1
  | .ptr d => uptoBulk d + 1
  | .slice elems spare => uptoBulkAll elems + uptoBulkAll spare + 1
  | .agg parts => uptoBulkAll parts + 1
  | .iface _ d => uptoBulk d + 1
  | .map entries => uptoBulkEntries entries + 1
  | .held _ => 1
def uptoBulkAll {H : Type} : List (DataW H) → Nat
  | [] => 0
  | d :: r => uptoBulk d + uptoBulkAll r
def uptoBulkEntries {H : Type} : List (Lit × DataW H) → Nat
  | [] => 0
  | x :: r => uptoBulkEntry x + uptoBulkEntries r
def uptoBulkEntry {H : Type} : Lit × DataW H → Nat
  | (.string bytes, d) => bytes.length + uptoBulk d + 1
  | (_, d) => uptoBulk d + 1
 end
def uptoSmall : (H : Type) → List (DataW H) → Bool := fun _ ds => decide (uptoBulkAll ds ≤ 1048576)
def OpenSpec.upto (s : _root_.Go.ChangeSpec) : _root_.Go.OpenSpec := { _root_.Go.OpenSpec.ofChange s with cond := some uptoSmall }

/-- 'laws.FnExactIsTorsionPoint', WHERE WHAT IT READS IS OF BULK AT MOST 1048576: true; the input reads as it did. -/
def fnExactIsTorsionPointUptoRow : OpenClaim := { program := "ytngnnkbgiligaaa", sum := "8ffb6447381f2e4af9a026b321c586307d1404e33b0df6a3d2cd4f2cc3f8ea8e", func := "loop.example/g01004/laws.FnExactIsTorsionPoint", spec := "fnExactIsTorsionPoint", inPlace := ["math.sqrt"], apart := false, narrowed := true }
def FnExactIsTorsionPointUptoSaid : Prop := fnExactIsTorsionPointUptoRow.holds Try.pinned (OpenSpec.upto fnExactIsTorsionPointSpec)

/-- 'laws.FnExactTorsionShape', WHERE WHAT IT READS IS OF BULK AT MOST 1048576: true; the input reads as it did. -/
def fnExactTorsionShapeUptoRow : OpenClaim := { program := "ytngnnkbgiligaaa", sum := "8ffb6447381f2e4af9a026b321c586307d1404e33b0df6a3d2cd4f2cc3f8ea8e", func := "loop.example/g01004/laws.FnExactTorsionShape", spec := "fnExactTorsionShape", inPlace := ["math.sqrt"], apart := false, narrowed := true }
def FnExactTorsionShapeUptoSaid : Prop := fnExactTorsionShapeUptoRow.holds Try.pinned (OpenSpec.upto fnExactTorsionShapeSpec)

/-- 'laws.FnTorsionExact', WHERE WHAT IT READS IS OF BULK AT MOST 1048576: true; the input reads as it did. -/
def fnTorsionExactUptoRow : OpenClaim := { program := "ytngnnkbgiligaaa", sum := "8ffb6447381f2e4af9a026b321c586307d1404e33b0df6a3d2cd4f2cc3f8ea8e", func := "loop.example/g01004/laws.FnTorsionExact", spec := "fnTorsionExact", inPlace := ["math.sqrt"], apart := false, narrowed := true }
def FnTorsionExactUptoSaid : Prop := fnTorsionExactUptoRow.holds Try.pinned (OpenSpec.upto fnTorsionExactSpec)

/-- 'laws.FnExactTorsionPoints', WHERE WHAT IT READS IS OF BULK AT MOST 1048576: true; the input reads as it did. -/
def fnExactTorsionPointsUptoRow : OpenClaim := { program := "ytngnnkbgiligaaa", sum := "8ffb6447381f2e4af9a026b321c586307d1404e33b0df6a3d2cd4f2cc3f8ea8e", func := "loop.example/g01004/laws.FnExactTorsionPoints", spec := "fnExactTorsionPoints", inPlace := ["math.sqrt"], apart := false, narrowed := true }
def FnExactTorsionPointsUptoSaid : Prop := fnExactTorsionPointsUptoRow.holds Try.pinned (OpenSpec.upto fnExactTorsionPointsSpec)

/-- 'laws.FnExactPointsOfOrder', WHERE WHAT IT READS IS OF BULK AT MOST 1048576: true; the input reads as it did. -/
def fnExactPointsOfOrderUptoRow : OpenClaim := { program := "ytngnnkbgiligaaa", sum := "8ffb6447381f2e4af9a026b321c586307d1404e33b0df6a3d2cd4f2cc3f8ea8e", func := "loop.example/g01004/laws.FnExactPointsOfOrder", spec := "fnExactPointsOfOrder", inPlace := ["math.sqrt"], unfollowed := true, recurses := true, apart := false, narrowed := true }
def FnExactPointsOfOrderUptoSaid : Prop := fnExactPointsOfOrderUptoRow.holds Try.pinned (OpenSpec.upto fnExactPointsOfOrderSpec)

/-- 'laws.FnExactCheckTorsion', WHERE WHAT IT READS IS OF BULK AT MOST 1048576: true; the input reads as it did. -/
def fnExactCheckTorsionUptoRow : OpenClaim := { program := "ytngnnkbgiligaaa", sum := "8ffb6447381f2e4af9a026b321c586307d1404e33b0df6a3d2cd4f2cc3f8ea8e", func := "loop.example/g01004/laws.FnExactCheckTorsion", spec := "fnExactCheckTorsion", inPlace := ["math.sqrt"], apart := false, narrowed := true }
def FnExactCheckTorsionUptoSaid : Prop := fnExactCheckTorsionUptoRow.holds Try.pinned (OpenSpec.upto fnExactCheckTorsionSpec)

/-- 'laws.FnExactTorsionGenerators', WHERE WHAT IT READS IS OF BULK AT MOST 1048576: true; the input reads as it did. -/
def fnExactTorsionGeneratorsUptoRow : OpenClaim := { program := "ytngnnkbgiligaaa", sum := "8ffb6447381f2e4af9a026b321c586307d1404e33b0df6a3d2cd4f2cc3f8ea8e", func := "loop.example/g01004/laws.FnExactTorsionGenerators", spec := "fnExactTorsionGenerators", inPlace := ["math.sqrt"], apart := false, narrowed := true }
def FnExactTorsionGeneratorsUptoSaid : Prop := fnExactTorsionGeneratorsUptoRow.holds Try.pinned (OpenSpec.upto fnExactTorsionGeneratorsSpec)

/-- 'laws.FnMultiples', WHERE WHAT IT READS IS OF BULK AT MOST 1048576: true; the input reads as it did. -/
def fnMultiplesUptoRow : OpenClaim := { program := "ytngnnkbgiligaaa", sum := "8ffb6447381f2e4af9a026b321c586307d1404e33b0df6a3d2cd4f2cc3f8ea8e", func := "loop.example/g01004/laws.FnMultiples", spec := "fnMultiples", inPlace := ["math.sqrt"], apart := false, narrowed := true }
def FnMultiplesUptoSaid : Prop := fnMultiplesUptoRow.holds Try.pinned (OpenSpec.upto fnMultiplesSpec)

end Rows
end Go.Proofs.Ytngnnkbgiligaaa
