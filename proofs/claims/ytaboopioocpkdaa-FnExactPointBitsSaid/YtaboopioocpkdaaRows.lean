/-
  No cell of these rows narrows 'for every input' (looked for: loops, veiled, ifaces, maps, wideKeys, modest, calm, conditions, laid).
  DERIVED. THE GIVEN ROWS OF THIS SEAT. 12 by the template 'for every input the law returns true; each argument reads behind the call as it read before'; 0 by the template 'total and deterministic' (their statements: YtaboopioocpkdaaTotals.lean).
  GIVEN WITH THE SEED: the statements are not yours to turn. If you find one false, say at which input.
  Laid BY PROGRAM, IN A SANDBOX (cutbox-rows.mjs): the forced cells as the released guide's own fill.sh prints them over the translation 4584c9a47dc57548… (all of the seat's roots in one cut). By AI agents, Wed Nov 11 2026. No macro, syntax, notation, axiom, sorry.
-/
import Derived.Test.YtaboopioocpkdaaChecked
import GoSem.Claim
import GoSem.ClaimJoined
import GoSem.ClaimMapViews
import Derived.JoinedTies
import Derived.KernelRfl
namespace Go.Proofs.Ytaboopioocpkdaa
/- THE CELL 'sum', in the pinned program and in every row, IS THE sha256 OF THE DUMP (.gsa) THAT YtaboopioocpkdaaProg.lean LOADS. Nothing in Lean hashes anything: it is a label: what it is worth is what the hold of that sum in a sandbox is worth. -/
noncomputable def Try.pinned : Pinned := { name := "ytaboopioocpkdaa", sum := "4584c9a47dc5754830774459e9e4f5ccfec5abde8bf17b299d1ab08c95b90158", checked := Try.checked }
namespace Rows
def none {H : Type} : Left H := { results := [], args := [] }

/-- 'laws.FnExactPassesSieve': WHATEVER THE INPUT: true; the input reads as it did. -/
def fnExactPassesSieveSpec : ChangeSpec := { name := "fnExactPassesSieve", fn := fun _ => fun
  | [d1, d2, d3, d4] => { results := [.lit (.bool true)], args := [d1, d2, d3, d4] }
  | _ => none }
def fnExactPassesSieveRow : OpenClaim := { program := "ytaboopioocpkdaa", sum := "4584c9a47dc5754830774459e9e4f5ccfec5abde8bf17b299d1ab08c95b90158", func := "loop.example/g01004/laws.FnExactPassesSieve", spec := "fnExactPassesSieve", apart := false }
def FnExactPassesSieveSaid : Prop := fnExactPassesSieveRow.holds Try.pinned (OpenSpec.ofChange fnExactPassesSieveSpec)

/-- ITS FALSE NEIGHBOUR: 'it returns false'. Refute it at one input. -/
def fnExactPassesSieveWrong : ChangeSpec := { name := "fnExactPassesSieve", fn := fun _ => fun
  | [d1, d2, d3, d4] => { results := [.lit (.bool false)], args := [d1, d2, d3, d4] }
  | _ => none }
def FnExactPassesSieveWrongFalsely : Prop := fnExactPassesSieveRow.holds Try.pinned (OpenSpec.ofChange fnExactPassesSieveWrong)

/-- 'laws.FnExactIsRatio': WHATEVER THE INPUT: true; the input reads as it did. -/
def fnExactIsRatioSpec : ChangeSpec := { name := "fnExactIsRatio", fn := fun _ => fun
  | [d] => { results := [.lit (.bool true)], args := [d] }
  | _ => none }
def fnExactIsRatioRow : OpenClaim := { program := "ytaboopioocpkdaa", sum := "4584c9a47dc5754830774459e9e4f5ccfec5abde8bf17b299d1ab08c95b90158", func := "loop.example/g01004/laws.FnExactIsRatio", spec := "fnExactIsRatio", apart := false }
def FnExactIsRatioSaid : Prop := fnExactIsRatioRow.holds Try.pinned (OpenSpec.ofChange fnExactIsRatioSpec)

/-- ITS FALSE NEIGHBOUR: 'it returns false'. Refute it at one input. -/
def fnExactIsRatioWrong : ChangeSpec := { name := "fnExactIsRatio", fn := fun _ => fun
  | [d] => { results := [.lit (.bool false)], args := [d] }
  | _ => none }
def FnExactIsRatioWrongFalsely : Prop := fnExactIsRatioRow.holds Try.pinned (OpenSpec.ofChange fnExactIsRatioWrong)

/-- 'laws.FnExactCountSieved': WHATEVER THE INPUT: true; the input reads as it did. -/
def fnExactCountSievedSpec : ChangeSpec := { name := "fnExactCountSieved", fn := fun _ => fun
  | [d1, d2, d3, d4] => { results := [.lit (.bool true)], args := [d1, d2, d3, d4] }
  | _ => none }
def fnExactCountSievedRow : OpenClaim := { program := "ytaboopioocpkdaa", sum := "4584c9a47dc5754830774459e9e4f5ccfec5abde8bf17b299d1ab08c95b90158", func := "loop.example/g01004/laws.FnExactCountSieved", spec := "fnExactCountSieved", apart := false }
def FnExactCountSievedSaid : Prop := fnExactCountSievedRow.holds Try.pinned (OpenSpec.ofChange fnExactCountSievedSpec)

/-- ITS FALSE NEIGHBOUR: 'it returns false'. Refute it at one input. -/
def fnExactCountSievedWrong : ChangeSpec := { name := "fnExactCountSieved", fn := fun _ => fun
  | [d1, d2, d3, d4] => { results := [.lit (.bool false)], args := [d1, d2, d3, d4] }
  | _ => none }
def FnExactCountSievedWrongFalsely : Prop := fnExactCountSievedRow.holds Try.pinned (OpenSpec.ofChange fnExactCountSievedWrong)

/-- 'laws.FnExactPointOfQuartic': WHATEVER THE INPUT: true; the input reads as it did. -/
def fnExactPointOfQuarticSpec : ChangeSpec := { name := "fnExactPointOfQuartic", fn := fun _ => fun
  | [d1, d2, d3, d4, d5] => { results := [.lit (.bool true)], args := [d1, d2, d3, d4, d5] }
  | _ => none }
def fnExactPointOfQuarticRow : OpenClaim := { program := "ytaboopioocpkdaa", sum := "4584c9a47dc5754830774459e9e4f5ccfec5abde8bf17b299d1ab08c95b90158", func := "loop.example/g01004/laws.FnExactPointOfQuartic", spec := "fnExactPointOfQuartic", apart := false }
def FnExactPointOfQuarticSaid : Prop := fnExactPointOfQuarticRow.holds Try.pinned (OpenSpec.ofChange fnExactPointOfQuarticSpec)

/-- ITS FALSE NEIGHBOUR: 'it returns false'. Refute it at one input. -/
def fnExactPointOfQuarticWrong : ChangeSpec := { name := "fnExactPointOfQuartic", fn := fun _ => fun
  | [d1, d2, d3, d4, d5] => { results := [.lit (.bool false)], args := [d1, d2, d3, d4, d5] }
  | _ => none }
def FnExactPointOfQuarticWrongFalsely : Prop := fnExactPointOfQuarticRow.holds Try.pinned (OpenSpec.ofChange fnExactPointOfQuarticWrong)

/-- 'laws.FnExactExactRoot': WHATEVER THE INPUT: true; the input reads as it did. -/
def fnExactExactRootSpec : ChangeSpec := { name := "fnExactExactRoot", fn := fun _ => fun
  | [d] => { results := [.lit (.bool true)], args := [d] }
  | _ => none }
def fnExactExactRootRow : OpenClaim := { program := "ytaboopioocpkdaa", sum := "4584c9a47dc5754830774459e9e4f5ccfec5abde8bf17b299d1ab08c95b90158", func := "loop.example/g01004/laws.FnExactExactRoot", spec := "fnExactExactRoot", inPlace := ["math.sqrt"], apart := false }
def FnExactExactRootSaid : Prop := fnExactExactRootRow.holds Try.pinned (OpenSpec.ofChange fnExactExactRootSpec)

/-- ITS FALSE NEIGHBOUR: 'it returns false'. Refute it at one input. -/
def fnExactExactRootWrong : ChangeSpec := { name := "fnExactExactRoot", fn := fun _ => fun
  | [d] => { results := [.lit (.bool false)], args := [d] }
  | _ => none }
def FnExactExactRootWrongFalsely : Prop := fnExactExactRootRow.holds Try.pinned (OpenSpec.ofChange fnExactExactRootWrong)

/-- 'laws.FnExactProductClass': WHATEVER THE INPUT: true; the input reads as it did. -/
def fnExactProductClassSpec : ChangeSpec := { name := "fnExactProductClass", fn := fun _ => fun
  | [d1, d2] => { results := [.lit (.bool true)], args := [d1, d2] }
  | _ => none }
def fnExactProductClassRow : OpenClaim := { program := "ytaboopioocpkdaa", sum := "4584c9a47dc5754830774459e9e4f5ccfec5abde8bf17b299d1ab08c95b90158", func := "loop.example/g01004/laws.FnExactProductClass", spec := "fnExactProductClass", apart := false }
def FnExactProductClassSaid : Prop := fnExactProductClassRow.holds Try.pinned (OpenSpec.ofChange fnExactProductClassSpec)

/-- ITS FALSE NEIGHBOUR: 'it returns false'. Refute it at one input. -/
def fnExactProductClassWrong : ChangeSpec := { name := "fnExactProductClass", fn := fun _ => fun
  | [d1, d2] => { results := [.lit (.bool false)], args := [d1, d2] }
  | _ => none }
def FnExactProductClassWrongFalsely : Prop := fnExactProductClassRow.holds Try.pinned (OpenSpec.ofChange fnExactProductClassWrong)

/-- 'laws.FnExactCompareSizes': WHATEVER THE INPUT: true; the input reads as it did. -/
def fnExactCompareSizesSpec : ChangeSpec := { name := "fnExactCompareSizes", fn := fun _ => fun
  | [d1, d2] => { results := [.lit (.bool true)], args := [d1, d2] }
  | _ => none }
def fnExactCompareSizesRow : OpenClaim := { program := "ytaboopioocpkdaa", sum := "4584c9a47dc5754830774459e9e4f5ccfec5abde8bf17b299d1ab08c95b90158", func := "loop.example/g01004/laws.FnExactCompareSizes", spec := "fnExactCompareSizes", apart := false }
def FnExactCompareSizesSaid : Prop := fnExactCompareSizesRow.holds Try.pinned (OpenSpec.ofChange fnExactCompareSizesSpec)

/-- ITS FALSE NEIGHBOUR: 'it returns false'. Refute it at one input. -/
def fnExactCompareSizesWrong : ChangeSpec := { name := "fnExactCompareSizes", fn := fun _ => fun
  | [d1, d2] => { results := [.lit (.bool false)], args := [d1, d2] }
  | _ => none }
def FnExactCompareSizesWrongFalsely : Prop := fnExactCompareSizesRow.holds Try.pinned (OpenSpec.ofChange fnExactCompareSizesWrong)

/-- 'laws.FnExactPointBits': WHATEVER THE INPUT: true; the input reads as it did. -/
def fnExactPointBitsSpec : ChangeSpec := { name := "fnExactPointBits", fn := fun _ => fun
  | [d1, d2] => { results := [.lit (.bool true)], args := [d1, d2] }
  | _ => none }
def fnExactPointBitsRow : OpenClaim := { program := "ytaboopioocpkdaa", sum := "4584c9a47dc5754830774459e9e4f5ccfec5abde8bf17b299d1ab08c95b90158", func := "loop.example/g01004/laws.FnExactPointBits", spec := "fnExactPointBits", apart := false }
def FnExactPointBitsSaid : Prop := fnExactPointBitsRow.holds Try.pinned (OpenSpec.ofChange fnExactPointBitsSpec)

/-- ITS FALSE NEIGHBOUR: 'it returns false'. Refute it at one input. -/
def fnExactPointBitsWrong : ChangeSpec := { name := "fnExactPointBits", fn := fun _ => fun
  | [d1, d2] => { results := [.lit (.bool false)], args := [d1, d2] }
  | _ => none }
def FnExactPointBitsWrongFalsely : Prop := fnExactPointBitsRow.holds Try.pinned (OpenSpec.ofChange fnExactPointBitsWrong)

/-- 'laws.FnExactRatioOf': WHATEVER THE INPUT: true; the input reads as it did. -/
def fnExactRatioOfSpec : ChangeSpec := { name := "fnExactRatioOf", fn := fun _ => fun
  | [d] => { results := [.lit (.bool true)], args := [d] }
  | _ => none }
def fnExactRatioOfRow : OpenClaim := { program := "ytaboopioocpkdaa", sum := "4584c9a47dc5754830774459e9e4f5ccfec5abde8bf17b299d1ab08c95b90158", func := "loop.example/g01004/laws.FnExactRatioOf", spec := "fnExactRatioOf", apart := false }
def FnExactRatioOfSaid : Prop := fnExactRatioOfRow.holds Try.pinned (OpenSpec.ofChange fnExactRatioOfSpec)

/-- ITS FALSE NEIGHBOUR: 'it returns false'. Refute it at one input. -/
def fnExactRatioOfWrong : ChangeSpec := { name := "fnExactRatioOf", fn := fun _ => fun
  | [d] => { results := [.lit (.bool false)], args := [d] }
  | _ => none }
def FnExactRatioOfWrongFalsely : Prop := fnExactRatioOfRow.holds Try.pinned (OpenSpec.ofChange fnExactRatioOfWrong)

/-- 'laws.FnExactIsSquareModulo': WHATEVER THE INPUT: true; the input reads as it did. -/
def fnExactIsSquareModuloSpec : ChangeSpec := { name := "fnExactIsSquareModulo", fn := fun _ => fun
  | [d1, d2, d3] => { results := [.lit (.bool true)], args := [d1, d2, d3] }
  | _ => none }
def fnExactIsSquareModuloRow : OpenClaim := { program := "ytaboopioocpkdaa", sum := "4584c9a47dc5754830774459e9e4f5ccfec5abde8bf17b299d1ab08c95b90158", func := "loop.example/g01004/laws.FnExactIsSquareModulo", spec := "fnExactIsSquareModulo", apart := false }
def FnExactIsSquareModuloSaid : Prop := fnExactIsSquareModuloRow.holds Try.pinned (OpenSpec.ofChange fnExactIsSquareModuloSpec)

/-- ITS FALSE NEIGHBOUR: 'it returns false'. Refute it at one input. -/
def fnExactIsSquareModuloWrong : ChangeSpec := { name := "fnExactIsSquareModulo", fn := fun _ => fun
  | [d1, d2, d3] => { results := [.lit (.bool false)], args := [d1, d2, d3] }
  | _ => none }
def FnExactIsSquareModuloWrongFalsely : Prop := fnExactIsSquareModuloRow.holds Try.pinned (OpenSpec.ofChange fnExactIsSquareModuloWrong)

/-- 'laws.FnExactDoublingConstant': WHATEVER THE INPUT: true; the input reads as it did. -/
def fnExactDoublingConstantSpec : ChangeSpec := { name := "fnExactDoublingConstant", fn := fun _ => fun
  | [d] => { results := [.lit (.bool true)], args := [d] }
  | _ => none }
def fnExactDoublingConstantRow : OpenClaim := { program := "ytaboopioocpkdaa", sum := "4584c9a47dc5754830774459e9e4f5ccfec5abde8bf17b299d1ab08c95b90158", func := "loop.example/g01004/laws.FnExactDoublingConstant", spec := "fnExactDoublingConstant", apart := false }
def FnExactDoublingConstantSaid : Prop := fnExactDoublingConstantRow.holds Try.pinned (OpenSpec.ofChange fnExactDoublingConstantSpec)

/-- ITS FALSE NEIGHBOUR: 'it returns false'. Refute it at one input. -/
def fnExactDoublingConstantWrong : ChangeSpec := { name := "fnExactDoublingConstant", fn := fun _ => fun
  | [d] => { results := [.lit (.bool false)], args := [d] }
  | _ => none }
def FnExactDoublingConstantWrongFalsely : Prop := fnExactDoublingConstantRow.holds Try.pinned (OpenSpec.ofChange fnExactDoublingConstantWrong)

/-- 'laws.FnExactHeightWindow': WHATEVER THE INPUT: true; the input reads as it did. -/
def fnExactHeightWindowSpec : ChangeSpec := { name := "fnExactHeightWindow", fn := fun _ => fun
  | [d1, d2] => { results := [.lit (.bool true)], args := [d1, d2] }
  | _ => none }
def fnExactHeightWindowRow : OpenClaim := { program := "ytaboopioocpkdaa", sum := "4584c9a47dc5754830774459e9e4f5ccfec5abde8bf17b299d1ab08c95b90158", func := "loop.example/g01004/laws.FnExactHeightWindow", spec := "fnExactHeightWindow", apart := false }
def FnExactHeightWindowSaid : Prop := fnExactHeightWindowRow.holds Try.pinned (OpenSpec.ofChange fnExactHeightWindowSpec)

/-- ITS FALSE NEIGHBOUR: 'it returns false'. Refute it at one input. -/
def fnExactHeightWindowWrong : ChangeSpec := { name := "fnExactHeightWindow", fn := fun _ => fun
  | [d1, d2] => { results := [.lit (.bool false)], args := [d1, d2] }
  | _ => none }
def FnExactHeightWindowWrongFalsely : Prop := fnExactHeightWindowRow.holds Try.pinned (OpenSpec.ofChange fnExactHeightWindowWrong)

/- THE SECOND FORM. 'bulk': how many values and letters a reading holds, each counted each time it is reached (what is shared counts as often as it is met; a slice's spare places count too). A statement '..UptoSaid' is the law's where the arguments, and the package variables that the reading takes, are together of bulk at most 1048576: NARROWER than '..Said'. Prove '..Said' where nothing that the law and all that it calls make is longer than what came in: it says more and counts as full. Else prove '..UptoSaid'. A law counts once. -/
mutual
def uptoBulk {H : Type} : DataW H → Nat
  | .lit (.string bytes) => bytes.length + 1
  | .lit _ => 1
  | .nil => 1
  | .ptr d => uptoBulk d + 1
  | .slice elems spare => uptoBulkAll elems + uptoBulkAll spare + 1
  | .agg parts => uptoBulkAll parts + 1
  | .iface _ d => uptoBulk d + 1
  | .map entries => uptoBulkEntries entries + 1
  | .held _ => 1
def uptoBulkAll {H : Type} : List (DataW H) → Nat
  | [] => 0
  | d :: r => uptoBulk d + uptoBulkAll r
def uptoBulkEntries {H : Type} : List (Lit × DataW H) → Nat
  | [] => 0
  | x :: r => uptoBulkEntry x + uptoBulkEntries r
def uptoBulkEntry {H : Type} : Lit × DataW H → Nat
  | (.string bytes, d) => bytes.length + uptoBulk d + 1
  | (_, d) => uptoBulk d + 1
 end
def uptoSmall : (H : Type) → List (DataW H) → Bool := fun _ ds => decide (uptoBulkAll ds ≤ 1048576)
def OpenSpec.upto (s : _root_.Go.ChangeSpec) : _root_.Go.OpenSpec := { _root_.Go.OpenSpec.ofChange s with cond := some uptoSmall }

/-- 'laws.FnExactPassesSieve', WHERE WHAT IT READS IS OF BULK AT MOST 1048576: true; the input reads as it did. -/
def fnExactPassesSieveUptoRow : OpenClaim := { program := "ytaboopioocpkdaa", sum := "4584c9a47dc5754830774459e9e4f5ccfec5abde8bf17b299d1ab08c95b90158", func := "loop.example/g01004/laws.FnExactPassesSieve", spec := "fnExactPassesSieve", apart := false, narrowed := true }
def FnExactPassesSieveUptoSaid : Prop := fnExactPassesSieveUptoRow.holds Try.pinned (OpenSpec.upto fnExactPassesSieveSpec)

/-- 'laws.FnExactIsRatio', WHERE WHAT IT READS IS OF BULK AT MOST 1048576: true; the input reads as it did. -/
def fnExactIsRatioUptoRow : OpenClaim := { program := "ytaboopioocpkdaa", sum := "4584c9a47dc5754830774459e9e4f5ccfec5abde8bf17b299d1ab08c95b90158", func := "loop.example/g01004/laws.FnExactIsRatio", spec := "fnExactIsRatio", apart := false, narrowed := true }
def FnExactIsRatioUptoSaid : Prop := fnExactIsRatioUptoRow.holds Try.pinned (OpenSpec.upto fnExactIsRatioSpec)

/-- 'laws.FnExactCountSieved', WHERE WHAT IT READS IS OF BULK AT MOST 1048576: true; the input reads as it did. -/
def fnExactCountSievedUptoRow : OpenClaim := { program := "ytaboopioocpkdaa", sum := "4584c9a47dc5754830774459e9e4f5ccfec5abde8bf17b299d1ab08c95b90158", func := "loop.example/g01004/laws.FnExactCountSieved", spec := "fnExactCountSieved", apart := false, narrowed := true }
def FnExactCountSievedUptoSaid : Prop := fnExactCountSievedUptoRow.holds Try.pinned (OpenSpec.upto fnExactCountSievedSpec)

/-- 'laws.FnExactPointOfQuartic', WHERE WHAT IT READS IS OF BULK AT MOST 1048576: true; the input reads as it did. -/
def fnExactPointOfQuarticUptoRow : OpenClaim := { program := "ytaboopioocpkdaa", sum := "4584c9a47dc5754830774459e9e4f5ccfec5abde8bf17b299d1ab08c95b90158", func := "loop.example/g01004/laws.FnExactPointOfQuartic", spec := "fnExactPointOfQuartic", apart := false, narrowed := true }
def FnExactPointOfQuarticUptoSaid : Prop := fnExactPointOfQuarticUptoRow.holds Try.pinned (OpenSpec.upto fnExactPointOfQuarticSpec)

/-- 'laws.FnExactExactRoot', WHERE WHAT IT READS IS OF BULK AT MOST 1048576: true; the input reads as it did. -/
def fnExactExactRootUptoRow : OpenClaim := { program := "ytaboopioocpkdaa", sum := "4584c9a47dc5754830774459e9e4f5ccfec5abde8bf17b299d1ab08c95b90158", func := "loop.example/g01004/laws.FnExactExactRoot", spec := "fnExactExactRoot", inPlace := ["math.sqrt"], apart := false, narrowed := true }
def FnExactExactRootUptoSaid : Prop := fnExactExactRootUptoRow.holds Try.pinned (OpenSpec.upto fnExactExactRootSpec)

/-- 'laws.FnExactProductClass', WHERE WHAT IT READS IS OF BULK AT MOST 1048576: true; the input reads as it did. -/
def fnExactProductClassUptoRow : OpenClaim := { program := "ytaboopioocpkdaa", sum := "4584c9a47dc5754830774459e9e4f5ccfec5abde8bf17b299d1ab08c95b90158", func := "loop.example/g01004/laws.FnExactProductClass", spec := "fnExactProductClass", apart := false, narrowed := true }
def FnExactProductClassUptoSaid : Prop := fnExactProductClassUptoRow.holds Try.pinned (OpenSpec.upto fnExactProductClassSpec)

/-- 'laws.FnExactCompareSizes', WHERE WHAT IT READS IS OF BULK AT MOST 1048576: true; the input reads as it did. -/
def fnExactCompareSizesUptoRow : OpenClaim := { program := "ytaboopioocpkdaa", sum := "4584c9a47dc5754830774459e9e4f5ccfec5abde8bf17b299d1ab08c95b90158", func := "loop.example/g01004/laws.FnExactCompareSizes", spec := "fnExactCompareSizes", apart := false, narrowed := true }
def FnExactCompareSizesUptoSaid : Prop := fnExactCompareSizesUptoRow.holds Try.pinned (OpenSpec.upto fnExactCompareSizesSpec)

/-- 'laws.FnExactPointBits', WHERE WHAT IT READS IS OF BULK AT MOST 1048576: true; the input reads as it did. -/
def fnExactPointBitsUptoRow : OpenClaim := { program := "ytaboopioocpkdaa", sum := "4584c9a47dc5754830774459e9e4f5ccfec5abde8bf17b299d1ab08c95b90158", func := "loop.example/g01004/laws.FnExactPointBits", spec := "fnExactPointBits", apart := false, narrowed := true }
def FnExactPointBitsUptoSaid : Prop := fnExactPointBitsUptoRow.holds Try.pinned (OpenSpec.upto fnExactPointBitsSpec)

/-- 'laws.FnExactRatioOf', WHERE WHAT IT READS IS OF BULK AT MOST 1048576: true; the input reads as it did. -/
def fnExactRatioOfUptoRow : OpenClaim := { program := "ytaboopioocpkdaa", sum := "4584c9a47dc5754830774459e9e4f5ccfec5abde8bf17b299d1ab08c95b90158", func := "loop.example/g01004/laws.FnExactRatioOf", spec := "fnExactRatioOf", apart := false, narrowed := true }
def FnExactRatioOfUptoSaid : Prop := fnExactRatioOfUptoRow.holds Try.pinned (OpenSpec.upto fnExactRatioOfSpec)

/-- 'laws.FnExactIsSquareModulo', WHERE WHAT IT READS IS OF BULK AT MOST 1048576: true; the input reads as it did. -/
def fnExactIsSquareModuloUptoRow : OpenClaim := { program := "ytaboopioocpkdaa", sum := "4584c9a47dc5754830774459e9e4f5ccfec5abde8bf17b299d1ab08c95b90158", func := "loop.example/g01004/laws.FnExactIsSquareModulo", spec := "fnExactIsSquareModulo", apart := false, narrowed := true }
def FnExactIsSquareModuloUptoSaid : Prop := fnExactIsSquareModuloUptoRow.holds Try.pinned (OpenSpec.upto fnExactIsSquareModuloSpec)

/-- 'laws.FnExactDoublingConstant', WHERE WHAT IT READS IS OF BULK AT MOST 1048576: true; the input reads as it did. -/
def fnExactDoublingConstantUptoRow : OpenClaim := { program := "ytaboopioocpkdaa", sum := "4584c9a47dc5754830774459e9e4f5ccfec5abde8bf17b299d1ab08c95b90158", func := "loop.example/g01004/laws.FnExactDoublingConstant", spec := "fnExactDoublingConstant", apart := false, narrowed := true }
def FnExactDoublingConstantUptoSaid : Prop := fnExactDoublingConstantUptoRow.holds Try.pinned (OpenSpec.upto fnExactDoublingConstantSpec)

/-- 'laws.FnExactHeightWindow', WHERE WHAT IT READS IS OF BULK AT MOST 1048576: true; the input reads as it did. -/
def fnExactHeightWindowUptoRow : OpenClaim := { program := "ytaboopioocpkdaa", sum := "4584c9a47dc5754830774459e9e4f5ccfec5abde8bf17b299d1ab08c95b90158", func := "loop.example/g01004/laws.FnExactHeightWindow", spec := "fnExactHeightWindow", apart := false, narrowed := true }
def FnExactHeightWindowUptoSaid : Prop := fnExactHeightWindowUptoRow.holds Try.pinned (OpenSpec.upto fnExactHeightWindowSpec)

end Rows
end Go.Proofs.Ytaboopioocpkdaa
