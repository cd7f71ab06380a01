/-
  No cell of these rows narrows 'for every input' (looked for: loops, veiled, ifaces, maps, wideKeys, modest, calm, conditions, laid).
  DERIVED. THE GIVEN ROWS OF THIS SEAT. 3 by the template 'for every input the law returns true; each argument reads behind the call as it read before'; 0 by the template 'total and deterministic' (their statements: YtelkmldmebdcgaaTotals.lean).
  GIVEN WITH THE SEED: the statements are not yours to turn. If you find one false, say at which input.
  Laid BY PROGRAM, IN A SANDBOX (cutbox-rows.mjs): the forced cells as the released guide's own fill.sh prints them over the translation 183d836a2f08df44… (all of the seat's roots in one cut). By AI agents, Wed Nov 11 2026. No macro, syntax, notation, axiom, sorry.
-/
import Derived.Test.YtelkmldmebdcgaaChecked
import GoSem.Claim
import GoSem.ClaimJoined
import GoSem.ClaimMapViews
import Derived.JoinedTies
import Derived.KernelRfl
namespace Go.Proofs.Ytelkmldmebdcgaa
/- THE CELL 'sum', in the pinned program and in every row, IS THE sha256 OF THE DUMP (.gsa) THAT YtelkmldmebdcgaaProg.lean LOADS. Nothing in Lean hashes anything: it is a label: what it is worth is what the hold of that sum in a sandbox is worth. -/
noncomputable def Try.pinned : Pinned := { name := "ytelkmldmebdcgaa", sum := "183d836a2f08df44282ada6fe1d94befd8f7208a4937e3ffb996e4eb39d2f55a", checked := Try.checked }
namespace Rows
def none {H : Type} : Left H := { results := [], args := [] }

/-- 'laws.FnQuartics': WHATEVER THE INPUT: true; the input reads as it did. -/
def fnQuarticsSpec : ChangeSpec := { name := "fnQuartics", fn := fun _ => fun
  | [d1, d2] => { results := [.lit (.bool true)], args := [d1, d2] }
  | _ => none }
def fnQuarticsRow : OpenClaim := { program := "ytelkmldmebdcgaa", sum := "183d836a2f08df44282ada6fe1d94befd8f7208a4937e3ffb996e4eb39d2f55a", func := "loop.example/g01004/laws.FnQuartics", spec := "fnQuartics", inPlace := ["math.sqrt"], apart := false }
def FnQuarticsSaid : Prop := fnQuarticsRow.holds Try.pinned (OpenSpec.ofChange fnQuarticsSpec)

/-- ITS FALSE NEIGHBOUR: 'it returns false'. Refute it at one input. -/
def fnQuarticsWrong : ChangeSpec := { name := "fnQuartics", fn := fun _ => fun
  | [d1, d2] => { results := [.lit (.bool false)], args := [d1, d2] }
  | _ => none }
def FnQuarticsWrongFalsely : Prop := fnQuarticsRow.holds Try.pinned (OpenSpec.ofChange fnQuarticsWrong)

/-- 'laws.FnSearches': WHATEVER THE INPUT: true; the input reads as it did. -/
def fnSearchesSpec : ChangeSpec := { name := "fnSearches", fn := fun _ => fun
  | [d1, d2] => { results := [.lit (.bool true)], args := [d1, d2] }
  | _ => none }
def fnSearchesRow : OpenClaim := { program := "ytelkmldmebdcgaa", sum := "183d836a2f08df44282ada6fe1d94befd8f7208a4937e3ffb996e4eb39d2f55a", func := "loop.example/g01004/laws.FnSearches", spec := "fnSearches", inPlace := ["math.sqrt"], apart := false }
def FnSearchesSaid : Prop := fnSearchesRow.holds Try.pinned (OpenSpec.ofChange fnSearchesSpec)

/-- ITS FALSE NEIGHBOUR: 'it returns false'. Refute it at one input. -/
def fnSearchesWrong : ChangeSpec := { name := "fnSearches", fn := fun _ => fun
  | [d1, d2] => { results := [.lit (.bool false)], args := [d1, d2] }
  | _ => none }
def FnSearchesWrongFalsely : Prop := fnSearchesRow.holds Try.pinned (OpenSpec.ofChange fnSearchesWrong)

/-- 'laws.FnLogarithms': WHATEVER THE INPUT: true; the input reads as it did. -/
def fnLogarithmsSpec : ChangeSpec := { name := "fnLogarithms", fn := fun _ => fun
  | [d1, d2] => { results := [.lit (.bool true)], args := [d1, d2] }
  | _ => none }
def fnLogarithmsRow : OpenClaim := { program := "ytelkmldmebdcgaa", sum := "183d836a2f08df44282ada6fe1d94befd8f7208a4937e3ffb996e4eb39d2f55a", func := "loop.example/g01004/laws.FnLogarithms", spec := "fnLogarithms", apart := false }
def FnLogarithmsSaid : Prop := fnLogarithmsRow.holds Try.pinned (OpenSpec.ofChange fnLogarithmsSpec)

/-- ITS FALSE NEIGHBOUR: 'it returns false'. Refute it at one input. -/
def fnLogarithmsWrong : ChangeSpec := { name := "fnLogarithms", fn := fun _ => fun
  | [d1, d2] => { results := [.lit (.bool false)], args := [d1, d2] }
  | _ => none }
def FnLogarithmsWrongFalsely : Prop := fnLogarithmsRow.holds Try.pinned (OpenSpec.ofChange fnLogarithmsWrong)

/- THE SECOND FORM. 'bulk': how many values and letters a reading holds, each counted each time it is reached (what is shared counts as often as it is met; a slice's spare places count too). A statement '..UptoSaid' is the law's where the arguments, and the package variables that the reading takes, are together of bulk at most 1048576: NARROWER than '..Said'. Prove '..Said' where nothing that the law and all that it calls make is longer than what came in: it says more and counts as full. Else prove '..UptoSaid'. A law counts once. -/
mutual
def uptoBulk {H : Type} : DataW H → Nat
  | .lit (.string bytes) => bytes.length + 1
  | .lit _ => 1
  | .nil => 1
  | .ptr d => uptoBulk d + 1
  | .slice elems spare => uptoBulkAll elems + uptoBulkAll spare + 1
  | .agg parts => uptoBulkAll parts + 1
  | .iface _ d => uptoBulk d + 1
  | .map entries => uptoBulkEntries entries + 1
  | .held _ => 1
def uptoBulkAll {H : Type} : List (DataW H) → Nat
  | [] => 0
  | d :: r => uptoBulk d + uptoBulkAll r
def uptoBulkEntries {H : Type} : List (Lit × DataW H) → Nat
  | [] => 0
  | x :: r => uptoBulkEntry x + uptoBulkEntries r
def uptoBulkEntry {H : Type} : Lit × DataW H → Nat
  | (.string bytes, d) => bytes.length + uptoBulk d + 1
  | (_, d) => uptoBulk d + 1
 end
def uptoSmall : (H : Type) → List (DataW H) → Bool := fun _ ds => decide (uptoBulkAll ds ≤ 1048576)
def OpenSpec.upto (s : _root_.Go.ChangeSpec) : _root_.Go.OpenSpec := { _root_.Go.OpenSpec.ofChange s with cond := some uptoSmall }

/-- 'laws.FnQuartics', WHERE WHAT IT READS IS OF BULK AT MOST 1048576: true; the input reads as it did. -/
def fnQuarticsUptoRow : OpenClaim := { program := "ytelkmldmebdcgaa", sum := "183d836a2f08df44282ada6fe1d94befd8f7208a4937e3ffb996e4eb39d2f55a", func := "loop.example/g01004/laws.FnQuartics", spec := "fnQuartics", inPlace := ["math.sqrt"], apart := false, narrowed := true }
def FnQuarticsUptoSaid : Prop := fnQuarticsUptoRow.holds Try.pinned (OpenSpec.upto fnQuarticsSpec)

/-- 'laws.FnSearches', WHERE WHAT IT READS IS OF BULK AT MOST 1048576: true; the input reads as it did. -/
def fnSearchesUptoRow : OpenClaim := { program := "ytelkmldmebdcgaa", sum := "183d836a2f08df44282ada6fe1d94befd8f7208a4937e3ffb996e4eb39d2f55a", func := "loop.example/g01004/laws.FnSearches", spec := "fnSearches", inPlace := ["math.sqrt"], apart := false, narrowed := true }
def FnSearchesUptoSaid : Prop := fnSearchesUptoRow.holds Try.pinned (OpenSpec.upto fnSearchesSpec)

/-- 'laws.FnLogarithms', WHERE WHAT IT READS IS OF BULK AT MOST 1048576: true; the input reads as it did. -/
def fnLogarithmsUptoRow : OpenClaim := { program := "ytelkmldmebdcgaa", sum := "183d836a2f08df44282ada6fe1d94befd8f7208a4937e3ffb996e4eb39d2f55a", func := "loop.example/g01004/laws.FnLogarithms", spec := "fnLogarithms", apart := false, narrowed := true }
def FnLogarithmsUptoSaid : Prop := fnLogarithmsUptoRow.holds Try.pinned (OpenSpec.upto fnLogarithmsSpec)

end Rows
end Go.Proofs.Ytelkmldmebdcgaa
