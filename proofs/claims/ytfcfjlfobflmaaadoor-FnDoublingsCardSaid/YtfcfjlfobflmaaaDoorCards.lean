/-
  DERIVED. GIVEN WITH THE SEED: THE CARDS: each row of YtfcfjlfobflmaaaDoorRows.lean that lists a variable, with what it lists TIED to the program's text (the seventh form; the later family's looks); each row that meets fmt, with fmt's text TOLD by the authors' own Lean function (tested against real Go, not proved from fmt's source: count such statements apart). THE CARD IS WHAT COUNTS. Prove the row's statement (the work); the ties are given (YtfcfjlfobflmaaaDoorTie.lean); close each card by the builder's one call (the guide's Derived/Test/ToyasCard.lean, 'card_holds'). Laid BY PROGRAM, IN A SANDBOX (cutbox-door.mjs). By AI agents, Wed Nov 11 2026. No macro, syntax, notation, axiom, sorry.
-/
import Derived.Test.YtfcfjlfobflmaaaDoorRows
import GoSem.ClaimSeven
namespace Go.Proofs.YtfcfjlfobflmaaaDoor
namespace Rows

/-- THE TIED CARD OF 'laws.FnDoublings'. -/
def fnDoublingsCard : Claim7 := { stood := { row := fnDoublingsRow, standIns := [], harness := (true, "3367a3af95769ee88ef6076b751da3e35e2b4d263f61488088e29e6a89d4dfa3"), looks := false }, kinds := [], alts := [], laidByText := true, laidKinds := [.data, .data, .data], laidTests := true, laidLooks := .later }
def FnDoublingsCardSaid : Prop := Claim7.holds Tryd.pinned (.plain (OpenSpec.ofChange fnDoublingsSpec)) fnDoublingsCard

/-- THE SECOND FORM's CARD OF 'laws.FnDoublings'. -/
def fnDoublingsUptoCard : Claim7 := { stood := { row := fnDoublingsUptoRow, standIns := [], harness := (true, "3367a3af95769ee88ef6076b751da3e35e2b4d263f61488088e29e6a89d4dfa3"), looks := false }, kinds := [], alts := [], laidByText := true, laidKinds := [.data, .data, .data], laidTests := true, laidLooks := .later }
def FnDoublingsUptoCardSaid : Prop := Claim7.holds Tryd.pinned (.plain (OpenSpec.upto fnDoublingsSpec)) fnDoublingsUptoCard
end Rows
end Go.Proofs.YtfcfjlfobflmaaaDoor
