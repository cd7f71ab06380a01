/-
  No cell of these rows narrows 'for every input' (looked for: loops, veiled, ifaces, maps, wideKeys, modest, calm, conditions, laid).
  DERIVED. THE GIVEN ROWS OF THIS SEAT. 6 by the template 'for every input the law returns true; each argument reads behind the call as it read before'; 0 by the template 'total and deterministic' (their statements: YthhkjllbkefpjaaTotals.lean).
  GIVEN WITH THE SEED: the statements are not yours to turn. If you find one false, say at which input.
  Laid BY PROGRAM, IN A SANDBOX (cutbox-rows.mjs): the forced cells as the released guide's own fill.sh prints them over the translation 34c1e4ba58557c83… (all of the seat's roots in one cut). By AI agents, Wed Nov 11 2026. No macro, syntax, notation, axiom, sorry.
-/
import Derived.Test.YthhkjllbkefpjaaChecked
import GoSem.Claim
import GoSem.ClaimJoined
import GoSem.ClaimMapViews
import Derived.JoinedTies
import Derived.KernelRfl
namespace Go.Proofs.Ythhkjllbkefpjaa
/- THE CELL 'sum', in the pinned program and in every row, IS THE sha256 OF THE DUMP (.gsa) THAT YthhkjllbkefpjaaProg.lean LOADS. Nothing in Lean hashes anything: it is a label: what it is worth is what the hold of that sum in a sandbox is worth. -/
noncomputable def Try.pinned : Pinned := { name := "ythhkjllbkefpjaa", sum := "34c1e4ba58557c83605e13a95724e4042accf696256c3b6d14a33e14435e9a62", checked := Try.checked }
namespace Rows
def none {H : Type} : Left H := { results := [], args := [] }

/-- 'laws.FnExactIsQuartic': WHATEVER THE INPUT: true; the input reads as it did. -/
def fnExactIsQuarticSpec : ChangeSpec := { name := "fnExactIsQuartic", fn := fun _ => fun
  | [d] => { results := [.lit (.bool true)], args := [d] }
  | _ => none }
def fnExactIsQuarticRow : OpenClaim := { program := "ythhkjllbkefpjaa", sum := "34c1e4ba58557c83605e13a95724e4042accf696256c3b6d14a33e14435e9a62", func := "loop.example/g01004/laws.FnExactIsQuartic", spec := "fnExactIsQuartic", apart := false }
def FnExactIsQuarticSaid : Prop := fnExactIsQuarticRow.holds Try.pinned (OpenSpec.ofChange fnExactIsQuarticSpec)

/-- ITS FALSE NEIGHBOUR: 'it returns false'. Refute it at one input. -/
def fnExactIsQuarticWrong : ChangeSpec := { name := "fnExactIsQuartic", fn := fun _ => fun
  | [d] => { results := [.lit (.bool false)], args := [d] }
  | _ => none }
def FnExactIsQuarticWrongFalsely : Prop := fnExactIsQuarticRow.holds Try.pinned (OpenSpec.ofChange fnExactIsQuarticWrong)

/-- 'laws.FnExactHasRealPoint': WHATEVER THE INPUT: true; the input reads as it did. -/
def fnExactHasRealPointSpec : ChangeSpec := { name := "fnExactHasRealPoint", fn := fun _ => fun
  | [d] => { results := [.lit (.bool true)], args := [d] }
  | _ => none }
def fnExactHasRealPointRow : OpenClaim := { program := "ythhkjllbkefpjaa", sum := "34c1e4ba58557c83605e13a95724e4042accf696256c3b6d14a33e14435e9a62", func := "loop.example/g01004/laws.FnExactHasRealPoint", spec := "fnExactHasRealPoint", apart := false }
def FnExactHasRealPointSaid : Prop := fnExactHasRealPointRow.holds Try.pinned (OpenSpec.ofChange fnExactHasRealPointSpec)

/-- ITS FALSE NEIGHBOUR: 'it returns false'. Refute it at one input. -/
def fnExactHasRealPointWrong : ChangeSpec := { name := "fnExactHasRealPoint", fn := fun _ => fun
  | [d] => { results := [.lit (.bool false)], args := [d] }
  | _ => none }
def FnExactHasRealPointWrongFalsely : Prop := fnExactHasRealPointRow.holds Try.pinned (OpenSpec.ofChange fnExactHasRealPointWrong)

/-- 'laws.FnExactQuarticValue': WHATEVER THE INPUT: true; the input reads as it did. -/
def fnExactQuarticValueSpec : ChangeSpec := { name := "fnExactQuarticValue", fn := fun _ => fun
  | [d1, d2, d3] => { results := [.lit (.bool true)], args := [d1, d2, d3] }
  | _ => none }
def fnExactQuarticValueRow : OpenClaim := { program := "ythhkjllbkefpjaa", sum := "34c1e4ba58557c83605e13a95724e4042accf696256c3b6d14a33e14435e9a62", func := "loop.example/g01004/laws.FnExactQuarticValue", spec := "fnExactQuarticValue", apart := false }
def FnExactQuarticValueSaid : Prop := fnExactQuarticValueRow.holds Try.pinned (OpenSpec.ofChange fnExactQuarticValueSpec)

/-- ITS FALSE NEIGHBOUR: 'it returns false'. Refute it at one input. -/
def fnExactQuarticValueWrong : ChangeSpec := { name := "fnExactQuarticValue", fn := fun _ => fun
  | [d1, d2, d3] => { results := [.lit (.bool false)], args := [d1, d2, d3] }
  | _ => none }
def FnExactQuarticValueWrongFalsely : Prop := fnExactQuarticValueRow.holds Try.pinned (OpenSpec.ofChange fnExactQuarticValueWrong)

/-- 'laws.FnExactCurveValue': WHATEVER THE INPUT: true; the input reads as it did. -/
def fnExactCurveValueSpec : ChangeSpec := { name := "fnExactCurveValue", fn := fun _ => fun
  | [d1, d2, d3] => { results := [.lit (.bool true)], args := [d1, d2, d3] }
  | _ => none }
def fnExactCurveValueRow : OpenClaim := { program := "ythhkjllbkefpjaa", sum := "34c1e4ba58557c83605e13a95724e4042accf696256c3b6d14a33e14435e9a62", func := "loop.example/g01004/laws.FnExactCurveValue", spec := "fnExactCurveValue", apart := false }
def FnExactCurveValueSaid : Prop := fnExactCurveValueRow.holds Try.pinned (OpenSpec.ofChange fnExactCurveValueSpec)

/-- ITS FALSE NEIGHBOUR: 'it returns false'. Refute it at one input. -/
def fnExactCurveValueWrong : ChangeSpec := { name := "fnExactCurveValue", fn := fun _ => fun
  | [d1, d2, d3] => { results := [.lit (.bool false)], args := [d1, d2, d3] }
  | _ => none }
def FnExactCurveValueWrongFalsely : Prop := fnExactCurveValueRow.holds Try.pinned (OpenSpec.ofChange fnExactCurveValueWrong)

/-- 'laws.FnExactDepthFor': WHATEVER THE INPUT: true; the input reads as it did. -/
def fnExactDepthForSpec : ChangeSpec := { name := "fnExactDepthFor", fn := fun _ => fun
  | [d] => { results := [.lit (.bool true)], args := [d] }
  | _ => none }
def fnExactDepthForRow : OpenClaim := { program := "ythhkjllbkefpjaa", sum := "34c1e4ba58557c83605e13a95724e4042accf696256c3b6d14a33e14435e9a62", func := "loop.example/g01004/laws.FnExactDepthFor", spec := "fnExactDepthFor", apart := false }
def FnExactDepthForSaid : Prop := fnExactDepthForRow.holds Try.pinned (OpenSpec.ofChange fnExactDepthForSpec)

/-- ITS FALSE NEIGHBOUR: 'it returns false'. Refute it at one input. -/
def fnExactDepthForWrong : ChangeSpec := { name := "fnExactDepthFor", fn := fun _ => fun
  | [d] => { results := [.lit (.bool false)], args := [d] }
  | _ => none }
def FnExactDepthForWrongFalsely : Prop := fnExactDepthForRow.holds Try.pinned (OpenSpec.ofChange fnExactDepthForWrong)

/-- 'laws.FnExactDoublingBounds': WHATEVER THE INPUT: true; the input reads as it did. -/
def fnExactDoublingBoundsSpec : ChangeSpec := { name := "fnExactDoublingBounds", fn := fun _ => fun
  | [d] => { results := [.lit (.bool true)], args := [d] }
  | _ => none }
def fnExactDoublingBoundsRow : OpenClaim := { program := "ythhkjllbkefpjaa", sum := "34c1e4ba58557c83605e13a95724e4042accf696256c3b6d14a33e14435e9a62", func := "loop.example/g01004/laws.FnExactDoublingBounds", spec := "fnExactDoublingBounds", apart := false }
def FnExactDoublingBoundsSaid : Prop := fnExactDoublingBoundsRow.holds Try.pinned (OpenSpec.ofChange fnExactDoublingBoundsSpec)

/-- ITS FALSE NEIGHBOUR: 'it returns false'. Refute it at one input. -/
def fnExactDoublingBoundsWrong : ChangeSpec := { name := "fnExactDoublingBounds", fn := fun _ => fun
  | [d] => { results := [.lit (.bool false)], args := [d] }
  | _ => none }
def FnExactDoublingBoundsWrongFalsely : Prop := fnExactDoublingBoundsRow.holds Try.pinned (OpenSpec.ofChange fnExactDoublingBoundsWrong)

/- THE SECOND FORM. 'bulk': how many values and letters a reading holds, each counted each time it is reached (what is shared counts as often as it is met; a slice's spare places count too). A statement '..UptoSaid' is the law's where the arguments, and the package variables that the reading takes, are together of bulk at most 1048576: NARROWER than '..Said'. Prove '..Said' where nothing that the law and all that it calls make is longer than what came in: it says more and counts as full. Else prove '..UptoSaid'. A law counts once. -/
mutual
def uptoBulk {H : Type} : DataW H → Nat
  | .lit (.string bytes) => bytes.length + 1
  | .lit _ => 1
  | .nil => 1
  | .ptr d => uptoBulk d + 1
  | .slice elems spare => uptoBulkAll elems + uptoBulkAll spare + 1
  | .agg parts => uptoBulkAll parts + 1
  | .iface _ d => uptoBulk d + 1
  | .map entries => uptoBulkEntries entries + 1
  | .held _ => 1
def uptoBulkAll {H : Type} : List (DataW H) → Nat
  | [] => 0
  | d :: r => uptoBulk d + uptoBulkAll r
def uptoBulkEntries {H : Type} : List (Lit × DataW H) → Nat
  | [] => 0
  | x :: r => uptoBulkEntry x + uptoBulkEntries r
def uptoBulkEntry {H : Type} : Lit × DataW H → Nat
  | (.string bytes, d) => bytes.length + uptoBulk d + 1
  | (_, d) => uptoBulk d + 1
 end
def uptoSmall : (H : Type) → List (DataW H) → Bool := fun _ ds => decide (uptoBulkAll ds ≤ 1048576)
def OpenSpec.upto (s : _root_.Go.ChangeSpec) : _root_.Go.OpenSpec := { _root_.Go.OpenSpec.ofChange s with cond := some uptoSmall }

/-- 'laws.FnExactIsQuartic', WHERE WHAT IT READS IS OF BULK AT MOST 1048576: true; the input reads as it did. -/
def fnExactIsQuarticUptoRow : OpenClaim := { program := "ythhkjllbkefpjaa", sum := "34c1e4ba58557c83605e13a95724e4042accf696256c3b6d14a33e14435e9a62", func := "loop.example/g01004/laws.FnExactIsQuartic", spec := "fnExactIsQuartic", apart := false, narrowed := true }
def FnExactIsQuarticUptoSaid : Prop := fnExactIsQuarticUptoRow.holds Try.pinned (OpenSpec.upto fnExactIsQuarticSpec)

/-- 'laws.FnExactHasRealPoint', WHERE WHAT IT READS IS OF BULK AT MOST 1048576: true; the input reads as it did. -/
def fnExactHasRealPointUptoRow : OpenClaim := { program := "ythhkjllbkefpjaa", sum := "34c1e4ba58557c83605e13a95724e4042accf696256c3b6d14a33e14435e9a62", func := "loop.example/g01004/laws.FnExactHasRealPoint", spec := "fnExactHasRealPoint", apart := false, narrowed := true }
def FnExactHasRealPointUptoSaid : Prop := fnExactHasRealPointUptoRow.holds Try.pinned (OpenSpec.upto fnExactHasRealPointSpec)

/-- 'laws.FnExactQuarticValue', WHERE WHAT IT READS IS OF BULK AT MOST 1048576: true; the input reads as it did. -/
def fnExactQuarticValueUptoRow : OpenClaim := { program := "ythhkjllbkefpjaa", sum := "34c1e4ba58557c83605e13a95724e4042accf696256c3b6d14a33e14435e9a62", func := "loop.example/g01004/laws.FnExactQuarticValue", spec := "fnExactQuarticValue", apart := false, narrowed := true }
def FnExactQuarticValueUptoSaid : Prop := fnExactQuarticValueUptoRow.holds Try.pinned (OpenSpec.upto fnExactQuarticValueSpec)

/-- 'laws.FnExactCurveValue', WHERE WHAT IT READS IS OF BULK AT MOST 1048576: true; the input reads as it did. -/
def fnExactCurveValueUptoRow : OpenClaim := { program := "ythhkjllbkefpjaa", sum := "34c1e4ba58557c83605e13a95724e4042accf696256c3b6d14a33e14435e9a62", func := "loop.example/g01004/laws.FnExactCurveValue", spec := "fnExactCurveValue", apart := false, narrowed := true }
def FnExactCurveValueUptoSaid : Prop := fnExactCurveValueUptoRow.holds Try.pinned (OpenSpec.upto fnExactCurveValueSpec)

/-- 'laws.FnExactDepthFor', WHERE WHAT IT READS IS OF BULK AT MOST 1048576: true; the input reads as it did. -/
def fnExactDepthForUptoRow : OpenClaim := { program := "ythhkjllbkefpjaa", sum := "34c1e4ba58557c83605e13a95724e4042accf696256c3b6d14a33e14435e9a62", func := "loop.example/g01004/laws.FnExactDepthFor", spec := "fnExactDepthFor", apart := false, narrowed := true }
def FnExactDepthForUptoSaid : Prop := fnExactDepthForUptoRow.holds Try.pinned (OpenSpec.upto fnExactDepthForSpec)

/-- 'laws.FnExactDoublingBounds', WHERE WHAT IT READS IS OF BULK AT MOST 1048576: true; the input reads as it did. -/
def fnExactDoublingBoundsUptoRow : OpenClaim := { program := "ythhkjllbkefpjaa", sum := "34c1e4ba58557c83605e13a95724e4042accf696256c3b6d14a33e14435e9a62", func := "loop.example/g01004/laws.FnExactDoublingBounds", spec := "fnExactDoublingBounds", apart := false, narrowed := true }
def FnExactDoublingBoundsUptoSaid : Prop := fnExactDoublingBoundsUptoRow.holds Try.pinned (OpenSpec.upto fnExactDoublingBoundsSpec)

end Rows
end Go.Proofs.Ythhkjllbkefpjaa
