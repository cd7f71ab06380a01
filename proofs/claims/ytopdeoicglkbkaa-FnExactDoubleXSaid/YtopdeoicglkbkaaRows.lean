/-
  No cell of these rows narrows 'for every input' (looked for: loops, veiled, ifaces, maps, wideKeys, modest, calm, conditions, laid).
  DERIVED. THE GIVEN ROWS OF THIS SEAT. 10 by the template 'for every input the law returns true; each argument reads behind the call as it read before'; 0 by the template 'total and deterministic' (their statements: YtopdeoicglkbkaaTotals.lean).
  GIVEN WITH THE SEED: the statements are not yours to turn. If you find one false, say at which input.
  Laid BY PROGRAM, IN A SANDBOX (cutbox-rows.mjs): the forced cells as the released guide's own fill.sh prints them over the translation b02dc0c9364c2ddf… (all of the seat's roots in one cut). By AI agents, Wed Nov 11 2026. No macro, syntax, notation, axiom, sorry.
-/
import Derived.Test.YtopdeoicglkbkaaChecked
import GoSem.Claim
import GoSem.ClaimJoined
import GoSem.ClaimMapViews
import Derived.JoinedTies
import Derived.KernelRfl
namespace Go.Proofs.Ytopdeoicglkbkaa
/- THE CELL 'sum', in the pinned program and in every row, IS THE sha256 OF THE DUMP (.gsa) THAT YtopdeoicglkbkaaProg.lean LOADS. Nothing in Lean hashes anything: it is a label: what it is worth is what the hold of that sum in a sandbox is worth. -/
noncomputable def Try.pinned : Pinned := { name := "ytopdeoicglkbkaa", sum := "b02dc0c9364c2ddf73da7fdd997e58005554e5a43c09f8fcfec00ca44a4cc290", checked := Try.checked }
namespace Rows
def none {H : Type} : Left H := { results := [], args := [] }

/-- 'laws.FnExactRatioOf': WHATEVER THE INPUT: true; the input reads as it did. -/
def fnExactRatioOfSpec : ChangeSpec := { name := "fnExactRatioOf", fn := fun _ => fun
  | [d] => { results := [.lit (.bool true)], args := [d] }
  | _ => none }
def fnExactRatioOfRow : OpenClaim := { program := "ytopdeoicglkbkaa", sum := "b02dc0c9364c2ddf73da7fdd997e58005554e5a43c09f8fcfec00ca44a4cc290", func := "loop.example/g01004/laws.FnExactRatioOf", spec := "fnExactRatioOf", apart := false }
def FnExactRatioOfSaid : Prop := fnExactRatioOfRow.holds Try.pinned (OpenSpec.ofChange fnExactRatioOfSpec)

/-- ITS FALSE NEIGHBOUR: 'it returns false'. Refute it at one input. -/
def fnExactRatioOfWrong : ChangeSpec := { name := "fnExactRatioOf", fn := fun _ => fun
  | [d] => { results := [.lit (.bool false)], args := [d] }
  | _ => none }
def FnExactRatioOfWrongFalsely : Prop := fnExactRatioOfRow.holds Try.pinned (OpenSpec.ofChange fnExactRatioOfWrong)

/-- 'laws.FnExactXRatio': WHATEVER THE INPUT: true; the input reads as it did. -/
def fnExactXRatioSpec : ChangeSpec := { name := "fnExactXRatio", fn := fun _ => fun
  | [d1, d2] => { results := [.lit (.bool true)], args := [d1, d2] }
  | _ => none }
def fnExactXRatioRow : OpenClaim := { program := "ytopdeoicglkbkaa", sum := "b02dc0c9364c2ddf73da7fdd997e58005554e5a43c09f8fcfec00ca44a4cc290", func := "loop.example/g01004/laws.FnExactXRatio", spec := "fnExactXRatio", apart := false }
def FnExactXRatioSaid : Prop := fnExactXRatioRow.holds Try.pinned (OpenSpec.ofChange fnExactXRatioSpec)

/-- ITS FALSE NEIGHBOUR: 'it returns false'. Refute it at one input. -/
def fnExactXRatioWrong : ChangeSpec := { name := "fnExactXRatio", fn := fun _ => fun
  | [d1, d2] => { results := [.lit (.bool false)], args := [d1, d2] }
  | _ => none }
def FnExactXRatioWrongFalsely : Prop := fnExactXRatioRow.holds Try.pinned (OpenSpec.ofChange fnExactXRatioWrong)

/-- 'laws.FnExactGreaterWhole': WHATEVER THE INPUT: true; the input reads as it did. -/
def fnExactGreaterWholeSpec : ChangeSpec := { name := "fnExactGreaterWhole", fn := fun _ => fun
  | [d1, d2] => { results := [.lit (.bool true)], args := [d1, d2] }
  | _ => none }
def fnExactGreaterWholeRow : OpenClaim := { program := "ytopdeoicglkbkaa", sum := "b02dc0c9364c2ddf73da7fdd997e58005554e5a43c09f8fcfec00ca44a4cc290", func := "loop.example/g01004/laws.FnExactGreaterWhole", spec := "fnExactGreaterWhole", apart := false }
def FnExactGreaterWholeSaid : Prop := fnExactGreaterWholeRow.holds Try.pinned (OpenSpec.ofChange fnExactGreaterWholeSpec)

/-- ITS FALSE NEIGHBOUR: 'it returns false'. Refute it at one input. -/
def fnExactGreaterWholeWrong : ChangeSpec := { name := "fnExactGreaterWhole", fn := fun _ => fun
  | [d1, d2] => { results := [.lit (.bool false)], args := [d1, d2] }
  | _ => none }
def FnExactGreaterWholeWrongFalsely : Prop := fnExactGreaterWholeRow.holds Try.pinned (OpenSpec.ofChange fnExactGreaterWholeWrong)

/-- 'laws.FnExactCompareRatios': WHATEVER THE INPUT: true; the input reads as it did. -/
def fnExactCompareRatiosSpec : ChangeSpec := { name := "fnExactCompareRatios", fn := fun _ => fun
  | [d1, d2] => { results := [.lit (.bool true)], args := [d1, d2] }
  | _ => none }
def fnExactCompareRatiosRow : OpenClaim := { program := "ytopdeoicglkbkaa", sum := "b02dc0c9364c2ddf73da7fdd997e58005554e5a43c09f8fcfec00ca44a4cc290", func := "loop.example/g01004/laws.FnExactCompareRatios", spec := "fnExactCompareRatios", apart := false }
def FnExactCompareRatiosSaid : Prop := fnExactCompareRatiosRow.holds Try.pinned (OpenSpec.ofChange fnExactCompareRatiosSpec)

/-- ITS FALSE NEIGHBOUR: 'it returns false'. Refute it at one input. -/
def fnExactCompareRatiosWrong : ChangeSpec := { name := "fnExactCompareRatios", fn := fun _ => fun
  | [d1, d2] => { results := [.lit (.bool false)], args := [d1, d2] }
  | _ => none }
def FnExactCompareRatiosWrongFalsely : Prop := fnExactCompareRatiosRow.holds Try.pinned (OpenSpec.ofChange fnExactCompareRatiosWrong)

/-- 'laws.FnExactDenominatorBefore': WHATEVER THE INPUT: true; the input reads as it did. -/
def fnExactDenominatorBeforeSpec : ChangeSpec := { name := "fnExactDenominatorBefore", fn := fun _ => fun
  | [d1, d2] => { results := [.lit (.bool true)], args := [d1, d2] }
  | _ => none }
def fnExactDenominatorBeforeRow : OpenClaim := { program := "ytopdeoicglkbkaa", sum := "b02dc0c9364c2ddf73da7fdd997e58005554e5a43c09f8fcfec00ca44a4cc290", func := "loop.example/g01004/laws.FnExactDenominatorBefore", spec := "fnExactDenominatorBefore", apart := false }
def FnExactDenominatorBeforeSaid : Prop := fnExactDenominatorBeforeRow.holds Try.pinned (OpenSpec.ofChange fnExactDenominatorBeforeSpec)

/-- ITS FALSE NEIGHBOUR: 'it returns false'. Refute it at one input. -/
def fnExactDenominatorBeforeWrong : ChangeSpec := { name := "fnExactDenominatorBefore", fn := fun _ => fun
  | [d1, d2] => { results := [.lit (.bool false)], args := [d1, d2] }
  | _ => none }
def FnExactDenominatorBeforeWrongFalsely : Prop := fnExactDenominatorBeforeRow.holds Try.pinned (OpenSpec.ofChange fnExactDenominatorBeforeWrong)

/-- 'laws.FnExactLogBounds': WHATEVER THE INPUT: true; the input reads as it did. -/
def fnExactLogBoundsSpec : ChangeSpec := { name := "fnExactLogBounds", fn := fun _ => fun
  | [d1, d2] => { results := [.lit (.bool true)], args := [d1, d2] }
  | _ => none }
def fnExactLogBoundsRow : OpenClaim := { program := "ytopdeoicglkbkaa", sum := "b02dc0c9364c2ddf73da7fdd997e58005554e5a43c09f8fcfec00ca44a4cc290", func := "loop.example/g01004/laws.FnExactLogBounds", spec := "fnExactLogBounds", apart := false }
def FnExactLogBoundsSaid : Prop := fnExactLogBoundsRow.holds Try.pinned (OpenSpec.ofChange fnExactLogBoundsSpec)

/-- ITS FALSE NEIGHBOUR: 'it returns false'. Refute it at one input. -/
def fnExactLogBoundsWrong : ChangeSpec := { name := "fnExactLogBounds", fn := fun _ => fun
  | [d1, d2] => { results := [.lit (.bool false)], args := [d1, d2] }
  | _ => none }
def FnExactLogBoundsWrongFalsely : Prop := fnExactLogBoundsRow.holds Try.pinned (OpenSpec.ofChange fnExactLogBoundsWrong)

/-- 'laws.FnExactNumeratorBefore': WHATEVER THE INPUT: true; the input reads as it did. -/
def fnExactNumeratorBeforeSpec : ChangeSpec := { name := "fnExactNumeratorBefore", fn := fun _ => fun
  | [d1, d2] => { results := [.lit (.bool true)], args := [d1, d2] }
  | _ => none }
def fnExactNumeratorBeforeRow : OpenClaim := { program := "ytopdeoicglkbkaa", sum := "b02dc0c9364c2ddf73da7fdd997e58005554e5a43c09f8fcfec00ca44a4cc290", func := "loop.example/g01004/laws.FnExactNumeratorBefore", spec := "fnExactNumeratorBefore", apart := false }
def FnExactNumeratorBeforeSaid : Prop := fnExactNumeratorBeforeRow.holds Try.pinned (OpenSpec.ofChange fnExactNumeratorBeforeSpec)

/-- ITS FALSE NEIGHBOUR: 'it returns false'. Refute it at one input. -/
def fnExactNumeratorBeforeWrong : ChangeSpec := { name := "fnExactNumeratorBefore", fn := fun _ => fun
  | [d1, d2] => { results := [.lit (.bool false)], args := [d1, d2] }
  | _ => none }
def FnExactNumeratorBeforeWrongFalsely : Prop := fnExactNumeratorBeforeRow.holds Try.pinned (OpenSpec.ofChange fnExactNumeratorBeforeWrong)

/-- 'laws.FnExactRatioLog': WHATEVER THE INPUT: true; the input reads as it did. -/
def fnExactRatioLogSpec : ChangeSpec := { name := "fnExactRatioLog", fn := fun _ => fun
  | [d1, d2, d3] => { results := [.lit (.bool true)], args := [d1, d2, d3] }
  | _ => none }
def fnExactRatioLogRow : OpenClaim := { program := "ytopdeoicglkbkaa", sum := "b02dc0c9364c2ddf73da7fdd997e58005554e5a43c09f8fcfec00ca44a4cc290", func := "loop.example/g01004/laws.FnExactRatioLog", spec := "fnExactRatioLog", apart := false }
def FnExactRatioLogSaid : Prop := fnExactRatioLogRow.holds Try.pinned (OpenSpec.ofChange fnExactRatioLogSpec)

/-- ITS FALSE NEIGHBOUR: 'it returns false'. Refute it at one input. -/
def fnExactRatioLogWrong : ChangeSpec := { name := "fnExactRatioLog", fn := fun _ => fun
  | [d1, d2, d3] => { results := [.lit (.bool false)], args := [d1, d2, d3] }
  | _ => none }
def FnExactRatioLogWrongFalsely : Prop := fnExactRatioLogRow.holds Try.pinned (OpenSpec.ofChange fnExactRatioLogWrong)

/-- 'laws.FnExactDivisorTaken': WHATEVER THE INPUT: true; the input reads as it did. -/
def fnExactDivisorTakenSpec : ChangeSpec := { name := "fnExactDivisorTaken", fn := fun _ => fun
  | [d1, d2] => { results := [.lit (.bool true)], args := [d1, d2] }
  | _ => none }
def fnExactDivisorTakenRow : OpenClaim := { program := "ytopdeoicglkbkaa", sum := "b02dc0c9364c2ddf73da7fdd997e58005554e5a43c09f8fcfec00ca44a4cc290", func := "loop.example/g01004/laws.FnExactDivisorTaken", spec := "fnExactDivisorTaken", apart := false }
def FnExactDivisorTakenSaid : Prop := fnExactDivisorTakenRow.holds Try.pinned (OpenSpec.ofChange fnExactDivisorTakenSpec)

/-- ITS FALSE NEIGHBOUR: 'it returns false'. Refute it at one input. -/
def fnExactDivisorTakenWrong : ChangeSpec := { name := "fnExactDivisorTaken", fn := fun _ => fun
  | [d1, d2] => { results := [.lit (.bool false)], args := [d1, d2] }
  | _ => none }
def FnExactDivisorTakenWrongFalsely : Prop := fnExactDivisorTakenRow.holds Try.pinned (OpenSpec.ofChange fnExactDivisorTakenWrong)

/-- 'laws.FnExactDoubleX': WHATEVER THE INPUT: true; the input reads as it did. -/
def fnExactDoubleXSpec : ChangeSpec := { name := "fnExactDoubleX", fn := fun _ => fun
  | [d1, d2] => { results := [.lit (.bool true)], args := [d1, d2] }
  | _ => none }
def fnExactDoubleXRow : OpenClaim := { program := "ytopdeoicglkbkaa", sum := "b02dc0c9364c2ddf73da7fdd997e58005554e5a43c09f8fcfec00ca44a4cc290", func := "loop.example/g01004/laws.FnExactDoubleX", spec := "fnExactDoubleX", apart := false }
def FnExactDoubleXSaid : Prop := fnExactDoubleXRow.holds Try.pinned (OpenSpec.ofChange fnExactDoubleXSpec)

/-- ITS FALSE NEIGHBOUR: 'it returns false'. Refute it at one input. -/
def fnExactDoubleXWrong : ChangeSpec := { name := "fnExactDoubleX", fn := fun _ => fun
  | [d1, d2] => { results := [.lit (.bool false)], args := [d1, d2] }
  | _ => none }
def FnExactDoubleXWrongFalsely : Prop := fnExactDoubleXRow.holds Try.pinned (OpenSpec.ofChange fnExactDoubleXWrong)

/- THE SECOND FORM. 'bulk': how many values and letters a reading holds, each counted each time it is reached (what is shared counts as often as it is met; a slice's spare places count too). A statement '..UptoSaid' is the law's where the arguments, and the package variables that the reading takes, are together of bulk at most 1048576: NARROWER than '..Said'. Prove '..Said' where nothing that the law and all that it calls make is longer than what came in: it says more and counts as full. Else prove '..UptoSaid'. A law counts once. -/
mutual
def uptoBulk {H : Type} : DataW H → Nat
  | .lit (.string bytes) => bytes.length + 1
  | .lit _ => 1
  | .nil => 1
  | .ptr d => uptoBulk d + 1
  | .slice elems spare => uptoBulkAll elems + uptoBulkAll spare + 1
  | .agg parts => uptoBulkAll parts + 1
  | .iface _ d => uptoBulk d + 1
  | .map entries => uptoBulkEntries entries + 1
  | .held _ => 1
def uptoBulkAll {H : Type} : List (DataW H) → Nat
  | [] => 0
  | d :: r => uptoBulk d + uptoBulkAll r
def uptoBulkEntries {H : Type} : List (Lit × DataW H) → Nat
  | [] => 0
  | x :: r => uptoBulkEntry x + uptoBulkEntries r
def uptoBulkEntry {H : Type} : Lit × DataW H → Nat
  | (.string bytes, d) => bytes.length + uptoBulk d + 1
  | (_, d) => uptoBulk d + 1
 end
def uptoSmall : (H : Type) → List (DataW H) → Bool := fun _ ds => decide (uptoBulkAll ds ≤ 1048576)
def OpenSpec.upto (s : _root_.Go.ChangeSpec) : _root_.Go.OpenSpec := { _root_.Go.OpenSpec.ofChange s with cond := some uptoSmall }

/-- 'laws.FnExactRatioOf', WHERE WHAT IT READS IS OF BULK AT MOST 1048576: true; the input reads as it did. -/
def fnExactRatioOfUptoRow : OpenClaim := { program := "ytopdeoicglkbkaa", sum := "b02dc0c9364c2ddf73da7fdd997e58005554e5a43c09f8fcfec00ca44a4cc290", func := "loop.example/g01004/laws.FnExactRatioOf", spec := "fnExactRatioOf", apart := false, narrowed := true }
def FnExactRatioOfUptoSaid : Prop := fnExactRatioOfUptoRow.holds Try.pinned (OpenSpec.upto fnExactRatioOfSpec)

/-- 'laws.FnExactXRatio', WHERE WHAT IT READS IS OF BULK AT MOST 1048576: true; the input reads as it did. -/
def fnExactXRatioUptoRow : OpenClaim := { program := "ytopdeoicglkbkaa", sum := "b02dc0c9364c2ddf73da7fdd997e58005554e5a43c09f8fcfec00ca44a4cc290", func := "loop.example/g01004/laws.FnExactXRatio", spec := "fnExactXRatio", apart := false, narrowed := true }
def FnExactXRatioUptoSaid : Prop := fnExactXRatioUptoRow.holds Try.pinned (OpenSpec.upto fnExactXRatioSpec)

/-- 'laws.FnExactGreaterWhole', WHERE WHAT IT READS IS OF BULK AT MOST 1048576: true; the input reads as it did. -/
def fnExactGreaterWholeUptoRow : OpenClaim := { program := "ytopdeoicglkbkaa", sum := "b02dc0c9364c2ddf73da7fdd997e58005554e5a43c09f8fcfec00ca44a4cc290", func := "loop.example/g01004/laws.FnExactGreaterWhole", spec := "fnExactGreaterWhole", apart := false, narrowed := true }
def FnExactGreaterWholeUptoSaid : Prop := fnExactGreaterWholeUptoRow.holds Try.pinned (OpenSpec.upto fnExactGreaterWholeSpec)

/-- 'laws.FnExactCompareRatios', WHERE WHAT IT READS IS OF BULK AT MOST 1048576: true; the input reads as it did. -/
def fnExactCompareRatiosUptoRow : OpenClaim := { program := "ytopdeoicglkbkaa", sum := "b02dc0c9364c2ddf73da7fdd997e58005554e5a43c09f8fcfec00ca44a4cc290", func := "loop.example/g01004/laws.FnExactCompareRatios", spec := "fnExactCompareRatios", apart := false, narrowed := true }
def FnExactCompareRatiosUptoSaid : Prop := fnExactCompareRatiosUptoRow.holds Try.pinned (OpenSpec.upto fnExactCompareRatiosSpec)

/-- 'laws.FnExactDenominatorBefore', WHERE WHAT IT READS IS OF BULK AT MOST 1048576: true; the input reads as it did. -/
def fnExactDenominatorBeforeUptoRow : OpenClaim := { program := "ytopdeoicglkbkaa", sum := "b02dc0c9364c2ddf73da7fdd997e58005554e5a43c09f8fcfec00ca44a4cc290", func := "loop.example/g01004/laws.FnExactDenominatorBefore", spec := "fnExactDenominatorBefore", apart := false, narrowed := true }
def FnExactDenominatorBeforeUptoSaid : Prop := fnExactDenominatorBeforeUptoRow.holds Try.pinned (OpenSpec.upto fnExactDenominatorBeforeSpec)

/-- 'laws.FnExactLogBounds', WHERE WHAT IT READS IS OF BULK AT MOST 1048576: true; the input reads as it did. -/
def fnExactLogBoundsUptoRow : OpenClaim := { program := "ytopdeoicglkbkaa", sum := "b02dc0c9364c2ddf73da7fdd997e58005554e5a43c09f8fcfec00ca44a4cc290", func := "loop.example/g01004/laws.FnExactLogBounds", spec := "fnExactLogBounds", apart := false, narrowed := true }
def FnExactLogBoundsUptoSaid : Prop := fnExactLogBoundsUptoRow.holds Try.pinned (OpenSpec.upto fnExactLogBoundsSpec)

/-- 'laws.FnExactNumeratorBefore', WHERE WHAT IT READS IS OF BULK AT MOST 1048576: true; the input reads as it did. -/
def fnExactNumeratorBeforeUptoRow : OpenClaim := { program := "ytopdeoicglkbkaa", sum := "b02dc0c9364c2ddf73da7fdd997e58005554e5a43c09f8fcfec00ca44a4cc290", func := "loop.example/g01004/laws.FnExactNumeratorBefore", spec := "fnExactNumeratorBefore", apart := false, narrowed := true }
def FnExactNumeratorBeforeUptoSaid : Prop := fnExactNumeratorBeforeUptoRow.holds Try.pinned (OpenSpec.upto fnExactNumeratorBeforeSpec)

/-- 'laws.FnExactRatioLog', WHERE WHAT IT READS IS OF BULK AT MOST 1048576: true; the input reads as it did. -/
def fnExactRatioLogUptoRow : OpenClaim := { program := "ytopdeoicglkbkaa", sum := "b02dc0c9364c2ddf73da7fdd997e58005554e5a43c09f8fcfec00ca44a4cc290", func := "loop.example/g01004/laws.FnExactRatioLog", spec := "fnExactRatioLog", apart := false, narrowed := true }
def FnExactRatioLogUptoSaid : Prop := fnExactRatioLogUptoRow.holds Try.pinned (OpenSpec.upto fnExactRatioLogSpec)

/-- 'laws.FnExactDivisorTaken', WHERE WHAT IT READS IS OF BULK AT MOST 1048576: true; the input reads as it did. -/
def fnExactDivisorTakenUptoRow : OpenClaim := { program := "ytopdeoicglkbkaa", sum := "b02dc0c9364c2ddf73da7fdd997e58005554e5a43c09f8fcfec00ca44a4cc290", func := "loop.example/g01004/laws.FnExactDivisorTaken", spec := "fnExactDivisorTaken", apart := false, narrowed := true }
def FnExactDivisorTakenUptoSaid : Prop := fnExactDivisorTakenUptoRow.holds Try.pinned (OpenSpec.upto fnExactDivisorTakenSpec)

/-- 'laws.FnExactDoubleX', WHERE WHAT IT READS IS OF BULK AT MOST 1048576: true; the input reads as it did. -/
def fnExactDoubleXUptoRow : OpenClaim := { program := "ytopdeoicglkbkaa", sum := "b02dc0c9364c2ddf73da7fdd997e58005554e5a43c09f8fcfec00ca44a4cc290", func := "loop.example/g01004/laws.FnExactDoubleX", spec := "fnExactDoubleX", apart := false, narrowed := true }
def FnExactDoubleXUptoSaid : Prop := fnExactDoubleXUptoRow.holds Try.pinned (OpenSpec.upto fnExactDoubleXSpec)

end Rows
end Go.Proofs.Ytopdeoicglkbkaa
