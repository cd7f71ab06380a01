/-
  No cell of these rows narrows 'for every input' (looked for: loops, veiled, ifaces, maps, wideKeys, modest, calm, conditions, laid).
  DERIVED. THE GIVEN ROWS OF THIS SEAT. 8 by the template 'for every input the law returns true; each argument reads behind the call as it read before'; 0 by the template 'total and deterministic' (their statements: YtldmledjdcphmaaTotals.lean).
  GIVEN WITH THE SEED: the statements are not yours to turn. If you find one false, say at which input.
  Laid BY PROGRAM, IN A SANDBOX (cutbox-rows.mjs): the forced cells as the released guide's own fill.sh prints them over the translation 3bf04db6c4c590ff… (all of the seat's roots in one cut). By AI agents, Wed Nov 11 2026. No macro, syntax, notation, axiom, sorry.
-/
import Derived.Test.YtldmledjdcphmaaChecked
import GoSem.Claim
import GoSem.ClaimJoined
import GoSem.ClaimMapViews
import Derived.JoinedTies
import Derived.KernelRfl
namespace Go.Proofs.Ytldmledjdcphmaa
/- THE CELL 'sum', in the pinned program and in every row, IS THE sha256 OF THE DUMP (.gsa) THAT YtldmledjdcphmaaProg.lean LOADS. Nothing in Lean hashes anything: it is a label: what it is worth is what the hold of that sum in a sandbox is worth. -/
noncomputable def Try.pinned : Pinned := { name := "ytldmledjdcphmaa", sum := "3bf04db6c4c590ff2c84ec47a6706a650def30c501ba03131e5d40405141ea91", checked := Try.checked }
namespace Rows
def none {H : Type} : Left H := { results := [], args := [] }

/-- 'laws.FnExactBadForQuartic': WHATEVER THE INPUT: true; the input reads as it did. -/
def fnExactBadForQuarticSpec : ChangeSpec := { name := "fnExactBadForQuartic", fn := fun _ => fun
  | [d] => { results := [.lit (.bool true)], args := [d] }
  | _ => none }
def fnExactBadForQuarticRow : OpenClaim := { program := "ytldmledjdcphmaa", sum := "3bf04db6c4c590ff2c84ec47a6706a650def30c501ba03131e5d40405141ea91", func := "loop.example/g01004/laws.FnExactBadForQuartic", spec := "fnExactBadForQuartic", recurses := true, apart := false }
def FnExactBadForQuarticSaid : Prop := fnExactBadForQuarticRow.holds Try.pinned (OpenSpec.ofChange fnExactBadForQuarticSpec)

/-- ITS FALSE NEIGHBOUR: 'it returns false'. Refute it at one input. -/
def fnExactBadForQuarticWrong : ChangeSpec := { name := "fnExactBadForQuartic", fn := fun _ => fun
  | [d] => { results := [.lit (.bool false)], args := [d] }
  | _ => none }
def FnExactBadForQuarticWrongFalsely : Prop := fnExactBadForQuarticRow.holds Try.pinned (OpenSpec.ofChange fnExactBadForQuarticWrong)

/-- 'laws.FnExactDescentDivisors': WHATEVER THE INPUT: true; the input reads as it did. -/
def fnExactDescentDivisorsSpec : ChangeSpec := { name := "fnExactDescentDivisors", fn := fun _ => fun
  | [d1, d2] => { results := [.lit (.bool true)], args := [d1, d2] }
  | _ => none }
def fnExactDescentDivisorsRow : OpenClaim := { program := "ytldmledjdcphmaa", sum := "3bf04db6c4c590ff2c84ec47a6706a650def30c501ba03131e5d40405141ea91", func := "loop.example/g01004/laws.FnExactDescentDivisors", spec := "fnExactDescentDivisors", recurses := true, apart := false }
def FnExactDescentDivisorsSaid : Prop := fnExactDescentDivisorsRow.holds Try.pinned (OpenSpec.ofChange fnExactDescentDivisorsSpec)

/-- ITS FALSE NEIGHBOUR: 'it returns false'. Refute it at one input. -/
def fnExactDescentDivisorsWrong : ChangeSpec := { name := "fnExactDescentDivisors", fn := fun _ => fun
  | [d1, d2] => { results := [.lit (.bool false)], args := [d1, d2] }
  | _ => none }
def FnExactDescentDivisorsWrongFalsely : Prop := fnExactDescentDivisorsRow.holds Try.pinned (OpenSpec.ofChange fnExactDescentDivisorsWrong)

/-- 'laws.FnExactDescentQuartic': WHATEVER THE INPUT: true; the input reads as it did. -/
def fnExactDescentQuarticSpec : ChangeSpec := { name := "fnExactDescentQuartic", fn := fun _ => fun
  | [d1, d2, d3] => { results := [.lit (.bool true)], args := [d1, d2, d3] }
  | _ => none }
def fnExactDescentQuarticRow : OpenClaim := { program := "ytldmledjdcphmaa", sum := "3bf04db6c4c590ff2c84ec47a6706a650def30c501ba03131e5d40405141ea91", func := "loop.example/g01004/laws.FnExactDescentQuartic", spec := "fnExactDescentQuartic", recurses := true, apart := false }
def FnExactDescentQuarticSaid : Prop := fnExactDescentQuarticRow.holds Try.pinned (OpenSpec.ofChange fnExactDescentQuarticSpec)

/-- ITS FALSE NEIGHBOUR: 'it returns false'. Refute it at one input. -/
def fnExactDescentQuarticWrong : ChangeSpec := { name := "fnExactDescentQuartic", fn := fun _ => fun
  | [d1, d2, d3] => { results := [.lit (.bool false)], args := [d1, d2, d3] }
  | _ => none }
def FnExactDescentQuarticWrongFalsely : Prop := fnExactDescentQuarticRow.holds Try.pinned (OpenSpec.ofChange fnExactDescentQuarticWrong)

/-- 'laws.FnExactClassGroup': WHATEVER THE INPUT: true; the input reads as it did. -/
def fnExactClassGroupSpec : ChangeSpec := { name := "fnExactClassGroup", fn := fun _ => fun
  | [d] => { results := [.lit (.bool true)], args := [d] }
  | _ => none }
def fnExactClassGroupRow : OpenClaim := { program := "ytldmledjdcphmaa", sum := "3bf04db6c4c590ff2c84ec47a6706a650def30c501ba03131e5d40405141ea91", func := "loop.example/g01004/laws.FnExactClassGroup", spec := "fnExactClassGroup", recurses := true, apart := false }
def FnExactClassGroupSaid : Prop := fnExactClassGroupRow.holds Try.pinned (OpenSpec.ofChange fnExactClassGroupSpec)

/-- ITS FALSE NEIGHBOUR: 'it returns false'. Refute it at one input. -/
def fnExactClassGroupWrong : ChangeSpec := { name := "fnExactClassGroup", fn := fun _ => fun
  | [d] => { results := [.lit (.bool false)], args := [d] }
  | _ => none }
def FnExactClassGroupWrongFalsely : Prop := fnExactClassGroupRow.holds Try.pinned (OpenSpec.ofChange fnExactClassGroupWrong)

/-- 'laws.FnExactFoundDivisors': WHATEVER THE INPUT: true; the input reads as it did. -/
def fnExactFoundDivisorsSpec : ChangeSpec := { name := "fnExactFoundDivisors", fn := fun _ => fun
  | [d1, d2, d3] => { results := [.lit (.bool true)], args := [d1, d2, d3] }
  | _ => none }
def fnExactFoundDivisorsRow : OpenClaim := { program := "ytldmledjdcphmaa", sum := "3bf04db6c4c590ff2c84ec47a6706a650def30c501ba03131e5d40405141ea91", func := "loop.example/g01004/laws.FnExactFoundDivisors", spec := "fnExactFoundDivisors", inPlace := ["math.sqrt"], recurses := true, apart := false }
def FnExactFoundDivisorsSaid : Prop := fnExactFoundDivisorsRow.holds Try.pinned (OpenSpec.ofChange fnExactFoundDivisorsSpec)

/-- ITS FALSE NEIGHBOUR: 'it returns false'. Refute it at one input. -/
def fnExactFoundDivisorsWrong : ChangeSpec := { name := "fnExactFoundDivisors", fn := fun _ => fun
  | [d1, d2, d3] => { results := [.lit (.bool false)], args := [d1, d2, d3] }
  | _ => none }
def FnExactFoundDivisorsWrongFalsely : Prop := fnExactFoundDivisorsRow.holds Try.pinned (OpenSpec.ofChange fnExactFoundDivisorsWrong)

/-- 'laws.FnExactFoundGroup': WHATEVER THE INPUT: true; the input reads as it did. -/
def fnExactFoundGroupSpec : ChangeSpec := { name := "fnExactFoundGroup", fn := fun _ => fun
  | [d1, d2, d3] => { results := [.lit (.bool true)], args := [d1, d2, d3] }
  | _ => none }
def fnExactFoundGroupRow : OpenClaim := { program := "ytldmledjdcphmaa", sum := "3bf04db6c4c590ff2c84ec47a6706a650def30c501ba03131e5d40405141ea91", func := "loop.example/g01004/laws.FnExactFoundGroup", spec := "fnExactFoundGroup", inPlace := ["math.sqrt"], recurses := true, apart := false }
def FnExactFoundGroupSaid : Prop := fnExactFoundGroupRow.holds Try.pinned (OpenSpec.ofChange fnExactFoundGroupSpec)

/-- ITS FALSE NEIGHBOUR: 'it returns false'. Refute it at one input. -/
def fnExactFoundGroupWrong : ChangeSpec := { name := "fnExactFoundGroup", fn := fun _ => fun
  | [d1, d2, d3] => { results := [.lit (.bool false)], args := [d1, d2, d3] }
  | _ => none }
def FnExactFoundGroupWrongFalsely : Prop := fnExactFoundGroupRow.holds Try.pinned (OpenSpec.ofChange fnExactFoundGroupWrong)

/-- 'laws.FnExactFoundRanks': WHATEVER THE INPUT: true; the input reads as it did. -/
def fnExactFoundRanksSpec : ChangeSpec := { name := "fnExactFoundRanks", fn := fun _ => fun
  | [d1, d2] => { results := [.lit (.bool true)], args := [d1, d2] }
  | _ => none }
def fnExactFoundRanksRow : OpenClaim := { program := "ytldmledjdcphmaa", sum := "3bf04db6c4c590ff2c84ec47a6706a650def30c501ba03131e5d40405141ea91", func := "loop.example/g01004/laws.FnExactFoundRanks", spec := "fnExactFoundRanks", inPlace := ["math.sqrt"], recurses := true, apart := false }
def FnExactFoundRanksSaid : Prop := fnExactFoundRanksRow.holds Try.pinned (OpenSpec.ofChange fnExactFoundRanksSpec)

/-- ITS FALSE NEIGHBOUR: 'it returns false'. Refute it at one input. -/
def fnExactFoundRanksWrong : ChangeSpec := { name := "fnExactFoundRanks", fn := fun _ => fun
  | [d1, d2] => { results := [.lit (.bool false)], args := [d1, d2] }
  | _ => none }
def FnExactFoundRanksWrongFalsely : Prop := fnExactFoundRanksRow.holds Try.pinned (OpenSpec.ofChange fnExactFoundRanksWrong)

/-- 'laws.FnExactLowerRank': WHATEVER THE INPUT: true; the input reads as it did. -/
def fnExactLowerRankSpec : ChangeSpec := { name := "fnExactLowerRank", fn := fun _ => fun
  | [d1, d2] => { results := [.lit (.bool true)], args := [d1, d2] }
  | _ => none }
def fnExactLowerRankRow : OpenClaim := { program := "ytldmledjdcphmaa", sum := "3bf04db6c4c590ff2c84ec47a6706a650def30c501ba03131e5d40405141ea91", func := "loop.example/g01004/laws.FnExactLowerRank", spec := "fnExactLowerRank", inPlace := ["math.sqrt"], recurses := true, apart := false }
def FnExactLowerRankSaid : Prop := fnExactLowerRankRow.holds Try.pinned (OpenSpec.ofChange fnExactLowerRankSpec)

/-- ITS FALSE NEIGHBOUR: 'it returns false'. Refute it at one input. -/
def fnExactLowerRankWrong : ChangeSpec := { name := "fnExactLowerRank", fn := fun _ => fun
  | [d1, d2] => { results := [.lit (.bool false)], args := [d1, d2] }
  | _ => none }
def FnExactLowerRankWrongFalsely : Prop := fnExactLowerRankRow.holds Try.pinned (OpenSpec.ofChange fnExactLowerRankWrong)

/- THE SECOND FORM. 'bulk': how many values and letters a reading holds, each counted each time it is reached (what is shared counts as often as it is met; a slice's spare places count too). A statement '..UptoSaid' is the law's where the arguments, and the package variables that the reading takes, are together of bulk at most 1048576: NARROWER than '..Said'. Prove '..Said' where nothing that the law and all that it calls make is longer than what came in: it says more and counts as full. Else prove '..UptoSaid'. A law counts once. -/
mutual
def uptoBulk {H : Type} : DataW H → Nat
  | .lit (.string bytes) => bytes.length + 1
  | .lit _ => 1
  | .nil => 1
  | .ptr d => uptoBulk d + 1
  | .slice elems spare => uptoBulkAll elems + uptoBulkAll spare + 1
  | .agg parts => uptoBulkAll parts + 1
  | .iface _ d => uptoBulk d + 1
  | .map entries => uptoBulkEntries entries + 1
  | .held _ => 1
def uptoBulkAll {H : Type} : List (DataW H) → Nat
  | [] => 0
  | d :: r => uptoBulk d + uptoBulkAll r
def uptoBulkEntries {H : Type} : List (Lit × DataW H) → Nat
  | [] => 0
  | x :: r => uptoBulkEntry x + uptoBulkEntries r
def uptoBulkEntry {H : Type} : Lit × DataW H → Nat
  | (.string bytes, d) => bytes.length + uptoBulk d + 1
  | (_, d) => uptoBulk d + 1
 end
def uptoSmall : (H : Type) → List (DataW H) → Bool := fun _ ds => decide (uptoBulkAll ds ≤ 1048576)
def OpenSpec.upto (s : _root_.Go.ChangeSpec) : _root_.Go.OpenSpec := { _root_.Go.OpenSpec.ofChange s with cond := some uptoSmall }

/-- 'laws.FnExactBadForQuartic', WHERE WHAT IT READS IS OF BULK AT MOST 1048576: true; the input reads as it did. -/
def fnExactBadForQuarticUptoRow : OpenClaim := { program := "ytldmledjdcphmaa", sum := "3bf04db6c4c590ff2c84ec47a6706a650def30c501ba03131e5d40405141ea91", func := "loop.example/g01004/laws.FnExactBadForQuartic", spec := "fnExactBadForQuartic", recurses := true, apart := false, narrowed := true }
def FnExactBadForQuarticUptoSaid : Prop := fnExactBadForQuarticUptoRow.holds Try.pinned (OpenSpec.upto fnExactBadForQuarticSpec)

/-- 'laws.FnExactDescentDivisors', WHERE WHAT IT READS IS OF BULK AT MOST 1048576: true; the input reads as it did. -/
def fnExactDescentDivisorsUptoRow : OpenClaim := { program := "ytldmledjdcphmaa", sum := "3bf04db6c4c590ff2c84ec47a6706a650def30c501ba03131e5d40405141ea91", func := "loop.example/g01004/laws.FnExactDescentDivisors", spec := "fnExactDescentDivisors", recurses := true, apart := false, narrowed := true }
def FnExactDescentDivisorsUptoSaid : Prop := fnExactDescentDivisorsUptoRow.holds Try.pinned (OpenSpec.upto fnExactDescentDivisorsSpec)

/-- 'laws.FnExactDescentQuartic', WHERE WHAT IT READS IS OF BULK AT MOST 1048576: true; the input reads as it did. -/
def fnExactDescentQuarticUptoRow : OpenClaim := { program := "ytldmledjdcphmaa", sum := "3bf04db6c4c590ff2c84ec47a6706a650def30c501ba03131e5d40405141ea91", func := "loop.example/g01004/laws.FnExactDescentQuartic", spec := "fnExactDescentQuartic", recurses := true, apart := false, narrowed := true }
def FnExactDescentQuarticUptoSaid : Prop := fnExactDescentQuarticUptoRow.holds Try.pinned (OpenSpec.upto fnExactDescentQuarticSpec)

/-- 'laws.FnExactClassGroup', WHERE WHAT IT READS IS OF BULK AT MOST 1048576: true; the input reads as it did. -/
def fnExactClassGroupUptoRow : OpenClaim := { program := "ytldmledjdcphmaa", sum := "3bf04db6c4c590ff2c84ec47a6706a650def30c501ba03131e5d40405141ea91", func := "loop.example/g01004/laws.FnExactClassGroup", spec := "fnExactClassGroup", recurses := true, apart := false, narrowed := true }
def FnExactClassGroupUptoSaid : Prop := fnExactClassGroupUptoRow.holds Try.pinned (OpenSpec.upto fnExactClassGroupSpec)

/-- 'laws.FnExactFoundDivisors', WHERE WHAT IT READS IS OF BULK AT MOST 1048576: true; the input reads as it did. -/
def fnExactFoundDivisorsUptoRow : OpenClaim := { program := "ytldmledjdcphmaa", sum := "3bf04db6c4c590ff2c84ec47a6706a650def30c501ba03131e5d40405141ea91", func := "loop.example/g01004/laws.FnExactFoundDivisors", spec := "fnExactFoundDivisors", inPlace := ["math.sqrt"], recurses := true, apart := false, narrowed := true }
def FnExactFoundDivisorsUptoSaid : Prop := fnExactFoundDivisorsUptoRow.holds Try.pinned (OpenSpec.upto fnExactFoundDivisorsSpec)

/-- 'laws.FnExactFoundGroup', WHERE WHAT IT READS IS OF BULK AT MOST 1048576: true; the input reads as it did. -/
def fnExactFoundGroupUptoRow : OpenClaim := { program := "ytldmledjdcphmaa", sum := "3bf04db6c4c590ff2c84ec47a6706a650def30c501ba03131e5d40405141ea91", func := "loop.example/g01004/laws.FnExactFoundGroup", spec := "fnExactFoundGroup", inPlace := ["math.sqrt"], recurses := true, apart := false, narrowed := true }
def FnExactFoundGroupUptoSaid : Prop := fnExactFoundGroupUptoRow.holds Try.pinned (OpenSpec.upto fnExactFoundGroupSpec)

/-- 'laws.FnExactFoundRanks', WHERE WHAT IT READS IS OF BULK AT MOST 1048576: true; the input reads as it did. -/
def fnExactFoundRanksUptoRow : OpenClaim := { program := "ytldmledjdcphmaa", sum := "3bf04db6c4c590ff2c84ec47a6706a650def30c501ba03131e5d40405141ea91", func := "loop.example/g01004/laws.FnExactFoundRanks", spec := "fnExactFoundRanks", inPlace := ["math.sqrt"], recurses := true, apart := false, narrowed := true }
def FnExactFoundRanksUptoSaid : Prop := fnExactFoundRanksUptoRow.holds Try.pinned (OpenSpec.upto fnExactFoundRanksSpec)

/-- 'laws.FnExactLowerRank', WHERE WHAT IT READS IS OF BULK AT MOST 1048576: true; the input reads as it did. -/
def fnExactLowerRankUptoRow : OpenClaim := { program := "ytldmledjdcphmaa", sum := "3bf04db6c4c590ff2c84ec47a6706a650def30c501ba03131e5d40405141ea91", func := "loop.example/g01004/laws.FnExactLowerRank", spec := "fnExactLowerRank", inPlace := ["math.sqrt"], recurses := true, apart := false, narrowed := true }
def FnExactLowerRankUptoSaid : Prop := fnExactLowerRankUptoRow.holds Try.pinned (OpenSpec.upto fnExactLowerRankSpec)

end Rows
end Go.Proofs.Ytldmledjdcphmaa
