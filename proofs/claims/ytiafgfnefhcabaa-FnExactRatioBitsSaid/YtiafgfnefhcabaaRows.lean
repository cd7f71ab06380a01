/-
  No cell of these rows narrows 'for every input' (looked for: loops, veiled, ifaces, maps, wideKeys, modest, calm, conditions, laid).
  DERIVED. THE GIVEN ROWS OF THIS SEAT. 12 by the template 'for every input the law returns true; each argument reads behind the call as it read before'; 0 by the template 'total and deterministic' (their statements: YtiafgfnefhcabaaTotals.lean).
  GIVEN WITH THE SEED: the statements are not yours to turn. If you find one false, say at which input.
  Laid BY PROGRAM, IN A SANDBOX (cutbox-rows.mjs): the forced cells as the released guide's own fill.sh prints them over the translation 710e9b0d8fc3f7ca… (all of the seat's roots in one cut). By AI agents, Wed Nov 11 2026. No macro, syntax, notation, axiom, sorry.
-/
import Derived.Test.YtiafgfnefhcabaaChecked
import GoSem.Claim
import GoSem.ClaimJoined
import GoSem.ClaimMapViews
import Derived.JoinedTies
import Derived.KernelRfl
namespace Go.Proofs.Ytiafgfnefhcabaa
/- THE CELL 'sum', in the pinned program and in every row, IS THE sha256 OF THE DUMP (.gsa) THAT YtiafgfnefhcabaaProg.lean LOADS. Nothing in Lean hashes anything: it is a label: what it is worth is what the hold of that sum in a sandbox is worth. -/
noncomputable def Try.pinned : Pinned := { name := "ytiafgfnefhcabaa", sum := "710e9b0d8fc3f7cabe136fc013d33b73bdd9ba46b1889648e544f96b06bce1ec", checked := Try.checked }
namespace Rows
def none {H : Type} : Left H := { results := [], args := [] }

/-- 'laws.FnExactDoublingsFor': WHATEVER THE INPUT: true; the input reads as it did. -/
def fnExactDoublingsForSpec : ChangeSpec := { name := "fnExactDoublingsFor", fn := fun _ => fun
  | [d1, d2] => { results := [.lit (.bool true)], args := [d1, d2] }
  | _ => none }
def fnExactDoublingsForRow : OpenClaim := { program := "ytiafgfnefhcabaa", sum := "710e9b0d8fc3f7cabe136fc013d33b73bdd9ba46b1889648e544f96b06bce1ec", func := "loop.example/g01004/laws.FnExactDoublingsFor", spec := "fnExactDoublingsFor", apart := false }
def FnExactDoublingsForSaid : Prop := fnExactDoublingsForRow.holds Try.pinned (OpenSpec.ofChange fnExactDoublingsForSpec)

/-- ITS FALSE NEIGHBOUR: 'it returns false'. Refute it at one input. -/
def fnExactDoublingsForWrong : ChangeSpec := { name := "fnExactDoublingsFor", fn := fun _ => fun
  | [d1, d2] => { results := [.lit (.bool false)], args := [d1, d2] }
  | _ => none }
def FnExactDoublingsForWrongFalsely : Prop := fnExactDoublingsForRow.holds Try.pinned (OpenSpec.ofChange fnExactDoublingsForWrong)

/-- 'laws.FnExactXRatio': WHATEVER THE INPUT: true; the input reads as it did. -/
def fnExactXRatioSpec : ChangeSpec := { name := "fnExactXRatio", fn := fun _ => fun
  | [d1, d2] => { results := [.lit (.bool true)], args := [d1, d2] }
  | _ => none }
def fnExactXRatioRow : OpenClaim := { program := "ytiafgfnefhcabaa", sum := "710e9b0d8fc3f7cabe136fc013d33b73bdd9ba46b1889648e544f96b06bce1ec", func := "loop.example/g01004/laws.FnExactXRatio", spec := "fnExactXRatio", apart := false }
def FnExactXRatioSaid : Prop := fnExactXRatioRow.holds Try.pinned (OpenSpec.ofChange fnExactXRatioSpec)

/-- ITS FALSE NEIGHBOUR: 'it returns false'. Refute it at one input. -/
def fnExactXRatioWrong : ChangeSpec := { name := "fnExactXRatio", fn := fun _ => fun
  | [d1, d2] => { results := [.lit (.bool false)], args := [d1, d2] }
  | _ => none }
def FnExactXRatioWrongFalsely : Prop := fnExactXRatioRow.holds Try.pinned (OpenSpec.ofChange fnExactXRatioWrong)

/-- 'laws.FnExactGreaterWhole': WHATEVER THE INPUT: true; the input reads as it did. -/
def fnExactGreaterWholeSpec : ChangeSpec := { name := "fnExactGreaterWhole", fn := fun _ => fun
  | [d1, d2] => { results := [.lit (.bool true)], args := [d1, d2] }
  | _ => none }
def fnExactGreaterWholeRow : OpenClaim := { program := "ytiafgfnefhcabaa", sum := "710e9b0d8fc3f7cabe136fc013d33b73bdd9ba46b1889648e544f96b06bce1ec", func := "loop.example/g01004/laws.FnExactGreaterWhole", spec := "fnExactGreaterWhole", apart := false }
def FnExactGreaterWholeSaid : Prop := fnExactGreaterWholeRow.holds Try.pinned (OpenSpec.ofChange fnExactGreaterWholeSpec)

/-- ITS FALSE NEIGHBOUR: 'it returns false'. Refute it at one input. -/
def fnExactGreaterWholeWrong : ChangeSpec := { name := "fnExactGreaterWhole", fn := fun _ => fun
  | [d1, d2] => { results := [.lit (.bool false)], args := [d1, d2] }
  | _ => none }
def FnExactGreaterWholeWrongFalsely : Prop := fnExactGreaterWholeRow.holds Try.pinned (OpenSpec.ofChange fnExactGreaterWholeWrong)

/-- 'laws.FnExactFirstPoint': WHATEVER THE INPUT: true; the input reads as it did. -/
def fnExactFirstPointSpec : ChangeSpec := { name := "fnExactFirstPoint", fn := fun _ => fun
  | [d1, d2, d3] => { results := [.lit (.bool true)], args := [d1, d2, d3] }
  | _ => none }
def fnExactFirstPointRow : OpenClaim := { program := "ytiafgfnefhcabaa", sum := "710e9b0d8fc3f7cabe136fc013d33b73bdd9ba46b1889648e544f96b06bce1ec", func := "loop.example/g01004/laws.FnExactFirstPoint", spec := "fnExactFirstPoint", inPlace := ["math.sqrt"], apart := false }
def FnExactFirstPointSaid : Prop := fnExactFirstPointRow.holds Try.pinned (OpenSpec.ofChange fnExactFirstPointSpec)

/-- ITS FALSE NEIGHBOUR: 'it returns false'. Refute it at one input. -/
def fnExactFirstPointWrong : ChangeSpec := { name := "fnExactFirstPoint", fn := fun _ => fun
  | [d1, d2, d3] => { results := [.lit (.bool false)], args := [d1, d2, d3] }
  | _ => none }
def FnExactFirstPointWrongFalsely : Prop := fnExactFirstPointRow.holds Try.pinned (OpenSpec.ofChange fnExactFirstPointWrong)

/-- 'laws.FnExactTorsionCandidates': WHATEVER THE INPUT: true; the input reads as it did. -/
def fnExactTorsionCandidatesSpec : ChangeSpec := { name := "fnExactTorsionCandidates", fn := fun _ => fun
  | [d] => { results := [.lit (.bool true)], args := [d] }
  | _ => none }
def fnExactTorsionCandidatesRow : OpenClaim := { program := "ytiafgfnefhcabaa", sum := "710e9b0d8fc3f7cabe136fc013d33b73bdd9ba46b1889648e544f96b06bce1ec", func := "loop.example/g01004/laws.FnExactTorsionCandidates", spec := "fnExactTorsionCandidates", inPlace := ["math.sqrt"], apart := false }
def FnExactTorsionCandidatesSaid : Prop := fnExactTorsionCandidatesRow.holds Try.pinned (OpenSpec.ofChange fnExactTorsionCandidatesSpec)

/-- ITS FALSE NEIGHBOUR: 'it returns false'. Refute it at one input. -/
def fnExactTorsionCandidatesWrong : ChangeSpec := { name := "fnExactTorsionCandidates", fn := fun _ => fun
  | [d] => { results := [.lit (.bool false)], args := [d] }
  | _ => none }
def FnExactTorsionCandidatesWrongFalsely : Prop := fnExactTorsionCandidatesRow.holds Try.pinned (OpenSpec.ofChange fnExactTorsionCandidatesWrong)

/-- 'laws.FnExactQuarticPoints': WHATEVER THE INPUT: true; the input reads as it did. -/
def fnExactQuarticPointsSpec : ChangeSpec := { name := "fnExactQuarticPoints", fn := fun _ => fun
  | [d1, d2] => { results := [.lit (.bool true)], args := [d1, d2] }
  | _ => none }
def fnExactQuarticPointsRow : OpenClaim := { program := "ytiafgfnefhcabaa", sum := "710e9b0d8fc3f7cabe136fc013d33b73bdd9ba46b1889648e544f96b06bce1ec", func := "loop.example/g01004/laws.FnExactQuarticPoints", spec := "fnExactQuarticPoints", inPlace := ["math.sqrt"], apart := false }
def FnExactQuarticPointsSaid : Prop := fnExactQuarticPointsRow.holds Try.pinned (OpenSpec.ofChange fnExactQuarticPointsSpec)

/-- ITS FALSE NEIGHBOUR: 'it returns false'. Refute it at one input. -/
def fnExactQuarticPointsWrong : ChangeSpec := { name := "fnExactQuarticPoints", fn := fun _ => fun
  | [d1, d2] => { results := [.lit (.bool false)], args := [d1, d2] }
  | _ => none }
def FnExactQuarticPointsWrongFalsely : Prop := fnExactQuarticPointsRow.holds Try.pinned (OpenSpec.ofChange fnExactQuarticPointsWrong)

/-- 'laws.FnExactRankOfClasses': WHATEVER THE INPUT: true; the input reads as it did. -/
def fnExactRankOfClassesSpec : ChangeSpec := { name := "fnExactRankOfClasses", fn := fun _ => fun
  | [d] => { results := [.lit (.bool true)], args := [d] }
  | _ => none }
def fnExactRankOfClassesRow : OpenClaim := { program := "ytiafgfnefhcabaa", sum := "710e9b0d8fc3f7cabe136fc013d33b73bdd9ba46b1889648e544f96b06bce1ec", func := "loop.example/g01004/laws.FnExactRankOfClasses", spec := "fnExactRankOfClasses", apart := false }
def FnExactRankOfClassesSaid : Prop := fnExactRankOfClassesRow.holds Try.pinned (OpenSpec.ofChange fnExactRankOfClassesSpec)

/-- ITS FALSE NEIGHBOUR: 'it returns false'. Refute it at one input. -/
def fnExactRankOfClassesWrong : ChangeSpec := { name := "fnExactRankOfClasses", fn := fun _ => fun
  | [d] => { results := [.lit (.bool false)], args := [d] }
  | _ => none }
def FnExactRankOfClassesWrongFalsely : Prop := fnExactRankOfClassesRow.holds Try.pinned (OpenSpec.ofChange fnExactRankOfClassesWrong)

/-- 'laws.FnExactCompareRatios': WHATEVER THE INPUT: true; the input reads as it did. -/
def fnExactCompareRatiosSpec : ChangeSpec := { name := "fnExactCompareRatios", fn := fun _ => fun
  | [d1, d2] => { results := [.lit (.bool true)], args := [d1, d2] }
  | _ => none }
def fnExactCompareRatiosRow : OpenClaim := { program := "ytiafgfnefhcabaa", sum := "710e9b0d8fc3f7cabe136fc013d33b73bdd9ba46b1889648e544f96b06bce1ec", func := "loop.example/g01004/laws.FnExactCompareRatios", spec := "fnExactCompareRatios", apart := false }
def FnExactCompareRatiosSaid : Prop := fnExactCompareRatiosRow.holds Try.pinned (OpenSpec.ofChange fnExactCompareRatiosSpec)

/-- ITS FALSE NEIGHBOUR: 'it returns false'. Refute it at one input. -/
def fnExactCompareRatiosWrong : ChangeSpec := { name := "fnExactCompareRatios", fn := fun _ => fun
  | [d1, d2] => { results := [.lit (.bool false)], args := [d1, d2] }
  | _ => none }
def FnExactCompareRatiosWrongFalsely : Prop := fnExactCompareRatiosRow.holds Try.pinned (OpenSpec.ofChange fnExactCompareRatiosWrong)

/-- 'laws.FnExactPointsWithE': WHATEVER THE INPUT: true; the input reads as it did. -/
def fnExactPointsWithESpec : ChangeSpec := { name := "fnExactPointsWithE", fn := fun _ => fun
  | [d1, d2, d3] => { results := [.lit (.bool true)], args := [d1, d2, d3] }
  | _ => none }
def fnExactPointsWithERow : OpenClaim := { program := "ytiafgfnefhcabaa", sum := "710e9b0d8fc3f7cabe136fc013d33b73bdd9ba46b1889648e544f96b06bce1ec", func := "loop.example/g01004/laws.FnExactPointsWithE", spec := "fnExactPointsWithE", inPlace := ["math.sqrt"], apart := false }
def FnExactPointsWithESaid : Prop := fnExactPointsWithERow.holds Try.pinned (OpenSpec.ofChange fnExactPointsWithESpec)

/-- ITS FALSE NEIGHBOUR: 'it returns false'. Refute it at one input. -/
def fnExactPointsWithEWrong : ChangeSpec := { name := "fnExactPointsWithE", fn := fun _ => fun
  | [d1, d2, d3] => { results := [.lit (.bool false)], args := [d1, d2, d3] }
  | _ => none }
def FnExactPointsWithEWrongFalsely : Prop := fnExactPointsWithERow.holds Try.pinned (OpenSpec.ofChange fnExactPointsWithEWrong)

/-- 'laws.FnExactSearchPoints': WHATEVER THE INPUT: true; the input reads as it did. -/
def fnExactSearchPointsSpec : ChangeSpec := { name := "fnExactSearchPoints", fn := fun _ => fun
  | [d1, d2, d3] => { results := [.lit (.bool true)], args := [d1, d2, d3] }
  | _ => none }
def fnExactSearchPointsRow : OpenClaim := { program := "ytiafgfnefhcabaa", sum := "710e9b0d8fc3f7cabe136fc013d33b73bdd9ba46b1889648e544f96b06bce1ec", func := "loop.example/g01004/laws.FnExactSearchPoints", spec := "fnExactSearchPoints", inPlace := ["math.sqrt"], apart := false }
def FnExactSearchPointsSaid : Prop := fnExactSearchPointsRow.holds Try.pinned (OpenSpec.ofChange fnExactSearchPointsSpec)

/-- ITS FALSE NEIGHBOUR: 'it returns false'. Refute it at one input. -/
def fnExactSearchPointsWrong : ChangeSpec := { name := "fnExactSearchPoints", fn := fun _ => fun
  | [d1, d2, d3] => { results := [.lit (.bool false)], args := [d1, d2, d3] }
  | _ => none }
def FnExactSearchPointsWrongFalsely : Prop := fnExactSearchPointsRow.holds Try.pinned (OpenSpec.ofChange fnExactSearchPointsWrong)

/-- 'laws.FnExactHeightBits': WHATEVER THE INPUT: true; the input reads as it did. -/
def fnExactHeightBitsSpec : ChangeSpec := { name := "fnExactHeightBits", fn := fun _ => fun
  | [d1, d2] => { results := [.lit (.bool true)], args := [d1, d2] }
  | _ => none }
def fnExactHeightBitsRow : OpenClaim := { program := "ytiafgfnefhcabaa", sum := "710e9b0d8fc3f7cabe136fc013d33b73bdd9ba46b1889648e544f96b06bce1ec", func := "loop.example/g01004/laws.FnExactHeightBits", spec := "fnExactHeightBits", apart := false }
def FnExactHeightBitsSaid : Prop := fnExactHeightBitsRow.holds Try.pinned (OpenSpec.ofChange fnExactHeightBitsSpec)

/-- ITS FALSE NEIGHBOUR: 'it returns false'. Refute it at one input. -/
def fnExactHeightBitsWrong : ChangeSpec := { name := "fnExactHeightBits", fn := fun _ => fun
  | [d1, d2] => { results := [.lit (.bool false)], args := [d1, d2] }
  | _ => none }
def FnExactHeightBitsWrongFalsely : Prop := fnExactHeightBitsRow.holds Try.pinned (OpenSpec.ofChange fnExactHeightBitsWrong)

/-- 'laws.FnExactRatioBits': WHATEVER THE INPUT: true; the input reads as it did. -/
def fnExactRatioBitsSpec : ChangeSpec := { name := "fnExactRatioBits", fn := fun _ => fun
  | [d] => { results := [.lit (.bool true)], args := [d] }
  | _ => none }
def fnExactRatioBitsRow : OpenClaim := { program := "ytiafgfnefhcabaa", sum := "710e9b0d8fc3f7cabe136fc013d33b73bdd9ba46b1889648e544f96b06bce1ec", func := "loop.example/g01004/laws.FnExactRatioBits", spec := "fnExactRatioBits", apart := false }
def FnExactRatioBitsSaid : Prop := fnExactRatioBitsRow.holds Try.pinned (OpenSpec.ofChange fnExactRatioBitsSpec)

/-- ITS FALSE NEIGHBOUR: 'it returns false'. Refute it at one input. -/
def fnExactRatioBitsWrong : ChangeSpec := { name := "fnExactRatioBits", fn := fun _ => fun
  | [d] => { results := [.lit (.bool false)], args := [d] }
  | _ => none }
def FnExactRatioBitsWrongFalsely : Prop := fnExactRatioBitsRow.holds Try.pinned (OpenSpec.ofChange fnExactRatioBitsWrong)

/- THE SECOND FORM. 'bulk': how many values and letters a reading holds, each counted each time it is reached (what is shared counts as often as it is met; a slice's spare places count too). A statement '..UptoSaid' is the law's where the arguments, and the package variables that the reading takes, are together of bulk at most 1048576: NARROWER than '..Said'. Prove '..Said' where nothing that the law and all that it calls make is longer than what came in: it says more and counts as full. Else prove '..UptoSaid'. A law counts once. -/
mutual
def uptoBulk {H : Type} : DataW H → Nat
  | .lit (.string bytes) => bytes.length + 1
  | .lit _ => 1
  | .nil => 1
  | .ptr d => uptoBulk d + 1
  | .slice elems spare => uptoBulkAll elems + uptoBulkAll spare + 1
  | .agg parts => uptoBulkAll parts + 1
  | .iface _ d => uptoBulk d + 1
  | .map entries => uptoBulkEntries entries + 1
  | .held _ => 1
def uptoBulkAll {H : Type} : List (DataW H) → Nat
  | [] => 0
  | d :: r => uptoBulk d + uptoBulkAll r
def uptoBulkEntries {H : Type} : List (Lit × DataW H) → Nat
  | [] => 0
  | x :: r => uptoBulkEntry x + uptoBulkEntries r
def uptoBulkEntry {H : Type} : Lit × DataW H → Nat
  | (.string bytes, d) => bytes.length + uptoBulk d + 1
  | (_, d) => uptoBulk d + 1
 end
def uptoSmall : (H : Type) → List (DataW H) → Bool := fun _ ds => decide (uptoBulkAll ds ≤ 1048576)
def OpenSpec.upto (s : _root_.Go.ChangeSpec) : _root_.Go.OpenSpec := { _root_.Go.OpenSpec.ofChange s with cond := some uptoSmall }

/-- 'laws.FnExactDoublingsFor', WHERE WHAT IT READS IS OF BULK AT MOST 1048576: true; the input reads as it did. -/
def fnExactDoublingsForUptoRow : OpenClaim := { program := "ytiafgfnefhcabaa", sum := "710e9b0d8fc3f7cabe136fc013d33b73bdd9ba46b1889648e544f96b06bce1ec", func := "loop.example/g01004/laws.FnExactDoublingsFor", spec := "fnExactDoublingsFor", apart := false, narrowed := true }
def FnExactDoublingsForUptoSaid : Prop := fnExactDoublingsForUptoRow.holds Try.pinned (OpenSpec.upto fnExactDoublingsForSpec)

/-- 'laws.FnExactXRatio', WHERE WHAT IT READS IS OF BULK AT MOST 1048576: true; the input reads as it did. -/
def fnExactXRatioUptoRow : OpenClaim := { program := "ytiafgfnefhcabaa", sum := "710e9b0d8fc3f7cabe136fc013d33b73bdd9ba46b1889648e544f96b06bce1ec", func := "loop.example/g01004/laws.FnExactXRatio", spec := "fnExactXRatio", apart := false, narrowed := true }
def FnExactXRatioUptoSaid : Prop := fnExactXRatioUptoRow.holds Try.pinned (OpenSpec.upto fnExactXRatioSpec)

/-- 'laws.FnExactGreaterWhole', WHERE WHAT IT READS IS OF BULK AT MOST 1048576: true; the input reads as it did. -/
def fnExactGreaterWholeUptoRow : OpenClaim := { program := "ytiafgfnefhcabaa", sum := "710e9b0d8fc3f7cabe136fc013d33b73bdd9ba46b1889648e544f96b06bce1ec", func := "loop.example/g01004/laws.FnExactGreaterWhole", spec := "fnExactGreaterWhole", apart := false, narrowed := true }
def FnExactGreaterWholeUptoSaid : Prop := fnExactGreaterWholeUptoRow.holds Try.pinned (OpenSpec.upto fnExactGreaterWholeSpec)

/-- 'laws.FnExactFirstPoint', WHERE WHAT IT READS IS OF BULK AT MOST 1048576: true; the input reads as it did. -/
def fnExactFirstPointUptoRow : OpenClaim := { program := "ytiafgfnefhcabaa", sum := "710e9b0d8fc3f7cabe136fc013d33b73bdd9ba46b1889648e544f96b06bce1ec", func := "loop.example/g01004/laws.FnExactFirstPoint", spec := "fnExactFirstPoint", inPlace := ["math.sqrt"], apart := false, narrowed := true }
def FnExactFirstPointUptoSaid : Prop := fnExactFirstPointUptoRow.holds Try.pinned (OpenSpec.upto fnExactFirstPointSpec)

/-- 'laws.FnExactTorsionCandidates', WHERE WHAT IT READS IS OF BULK AT MOST 1048576: true; the input reads as it did. -/
def fnExactTorsionCandidatesUptoRow : OpenClaim := { program := "ytiafgfnefhcabaa", sum := "710e9b0d8fc3f7cabe136fc013d33b73bdd9ba46b1889648e544f96b06bce1ec", func := "loop.example/g01004/laws.FnExactTorsionCandidates", spec := "fnExactTorsionCandidates", inPlace := ["math.sqrt"], apart := false, narrowed := true }
def FnExactTorsionCandidatesUptoSaid : Prop := fnExactTorsionCandidatesUptoRow.holds Try.pinned (OpenSpec.upto fnExactTorsionCandidatesSpec)

/-- 'laws.FnExactQuarticPoints', WHERE WHAT IT READS IS OF BULK AT MOST 1048576: true; the input reads as it did. -/
def fnExactQuarticPointsUptoRow : OpenClaim := { program := "ytiafgfnefhcabaa", sum := "710e9b0d8fc3f7cabe136fc013d33b73bdd9ba46b1889648e544f96b06bce1ec", func := "loop.example/g01004/laws.FnExactQuarticPoints", spec := "fnExactQuarticPoints", inPlace := ["math.sqrt"], apart := false, narrowed := true }
def FnExactQuarticPointsUptoSaid : Prop := fnExactQuarticPointsUptoRow.holds Try.pinned (OpenSpec.upto fnExactQuarticPointsSpec)

/-- 'laws.FnExactRankOfClasses', WHERE WHAT IT READS IS OF BULK AT MOST 1048576: true; the input reads as it did. -/
def fnExactRankOfClassesUptoRow : OpenClaim := { program := "ytiafgfnefhcabaa", sum := "710e9b0d8fc3f7cabe136fc013d33b73bdd9ba46b1889648e544f96b06bce1ec", func := "loop.example/g01004/laws.FnExactRankOfClasses", spec := "fnExactRankOfClasses", apart := false, narrowed := true }
def FnExactRankOfClassesUptoSaid : Prop := fnExactRankOfClassesUptoRow.holds Try.pinned (OpenSpec.upto fnExactRankOfClassesSpec)

/-- 'laws.FnExactCompareRatios', WHERE WHAT IT READS IS OF BULK AT MOST 1048576: true; the input reads as it did. -/
def fnExactCompareRatiosUptoRow : OpenClaim := { program := "ytiafgfnefhcabaa", sum := "710e9b0d8fc3f7cabe136fc013d33b73bdd9ba46b1889648e544f96b06bce1ec", func := "loop.example/g01004/laws.FnExactCompareRatios", spec := "fnExactCompareRatios", apart := false, narrowed := true }
def FnExactCompareRatiosUptoSaid : Prop := fnExactCompareRatiosUptoRow.holds Try.pinned (OpenSpec.upto fnExactCompareRatiosSpec)

/-- 'laws.FnExactPointsWithE', WHERE WHAT IT READS IS OF BULK AT MOST 1048576: true; the input reads as it did. -/
def fnExactPointsWithEUptoRow : OpenClaim := { program := "ytiafgfnefhcabaa", sum := "710e9b0d8fc3f7cabe136fc013d33b73bdd9ba46b1889648e544f96b06bce1ec", func := "loop.example/g01004/laws.FnExactPointsWithE", spec := "fnExactPointsWithE", inPlace := ["math.sqrt"], apart := false, narrowed := true }
def FnExactPointsWithEUptoSaid : Prop := fnExactPointsWithEUptoRow.holds Try.pinned (OpenSpec.upto fnExactPointsWithESpec)

/-- 'laws.FnExactSearchPoints', WHERE WHAT IT READS IS OF BULK AT MOST 1048576: true; the input reads as it did. -/
def fnExactSearchPointsUptoRow : OpenClaim := { program := "ytiafgfnefhcabaa", sum := "710e9b0d8fc3f7cabe136fc013d33b73bdd9ba46b1889648e544f96b06bce1ec", func := "loop.example/g01004/laws.FnExactSearchPoints", spec := "fnExactSearchPoints", inPlace := ["math.sqrt"], apart := false, narrowed := true }
def FnExactSearchPointsUptoSaid : Prop := fnExactSearchPointsUptoRow.holds Try.pinned (OpenSpec.upto fnExactSearchPointsSpec)

/-- 'laws.FnExactHeightBits', WHERE WHAT IT READS IS OF BULK AT MOST 1048576: true; the input reads as it did. -/
def fnExactHeightBitsUptoRow : OpenClaim := { program := "ytiafgfnefhcabaa", sum := "710e9b0d8fc3f7cabe136fc013d33b73bdd9ba46b1889648e544f96b06bce1ec", func := "loop.example/g01004/laws.FnExactHeightBits", spec := "fnExactHeightBits", apart := false, narrowed := true }
def FnExactHeightBitsUptoSaid : Prop := fnExactHeightBitsUptoRow.holds Try.pinned (OpenSpec.upto fnExactHeightBitsSpec)

/-- 'laws.FnExactRatioBits', WHERE WHAT IT READS IS OF BULK AT MOST 1048576: true; the input reads as it did. -/
def fnExactRatioBitsUptoRow : OpenClaim := { program := "ytiafgfnefhcabaa", sum := "710e9b0d8fc3f7cabe136fc013d33b73bdd9ba46b1889648e544f96b06bce1ec", func := "loop.example/g01004/laws.FnExactRatioBits", spec := "fnExactRatioBits", apart := false, narrowed := true }
def FnExactRatioBitsUptoSaid : Prop := fnExactRatioBitsUptoRow.holds Try.pinned (OpenSpec.upto fnExactRatioBitsSpec)

end Rows
end Go.Proofs.Ytiafgfnefhcabaa
