/-
  DERIVED. GIVEN WITH THE SEED: THE CARDS: each row of YtopdeoicglkbkaaDoorRows.lean that lists a variable, with what it lists TIED to the program's text (the seventh form; the later family's looks); each row that meets fmt, with fmt's text TOLD by the authors' own Lean function (tested against real Go, not proved from fmt's source: count such statements apart). THE CARD IS WHAT COUNTS. Prove the row's statement (the work); the ties are given (YtopdeoicglkbkaaDoorTie.lean); close each card by the builder's one call (the guide's Derived/Test/ToyasCard.lean, 'card_holds'). Laid BY PROGRAM, IN A SANDBOX (cutbox-door.mjs). By AI agents, Wed Nov 11 2026. No macro, syntax, notation, axiom, sorry.
-/
import Derived.Test.YtopdeoicglkbkaaDoorRows
import GoSem.ClaimSeven
namespace Go.Proofs.YtopdeoicglkbkaaDoor
namespace Rows

/-- THE TIED CARD OF 'laws.FnExactDecimalDigits'. -/
def fnExactDecimalDigitsCard : Claim7 := { stood := { row := fnExactDecimalDigitsRow, standIns := [], harness := (true, "87ccd7c95691f6f5443a28c639af6a5aa84652f324ea751b14d9e699ddd82c06"), looks := false }, kinds := [], alts := [], laidByText := true, laidKinds := [.data, .data, .data], laidTests := true, laidLooks := .later }
def FnExactDecimalDigitsCardSaid : Prop := Claim7.holds Tryd.pinned (.plain (OpenSpec.ofChange fnExactDecimalDigitsSpec)) fnExactDecimalDigitsCard

/-- THE TIED CARD OF 'laws.FnExactRatioText'. -/
def fnExactRatioTextCard : Claim7 := { stood := { row := fnExactRatioTextRow, standIns := [], harness := (true, "87ccd7c95691f6f5443a28c639af6a5aa84652f324ea751b14d9e699ddd82c06"), looks := false }, kinds := [], alts := [], laidByText := true, laidKinds := [.data, .data, .data], laidTests := true, laidLooks := .later }
def FnExactRatioTextCardSaid : Prop := Claim7.holds Tryd.pinned (.plain (OpenSpec.ofChange fnExactRatioTextSpec)) fnExactRatioTextCard

/-- THE SECOND FORM's CARD OF 'laws.FnExactDecimalDigits'. -/
def fnExactDecimalDigitsUptoCard : Claim7 := { stood := { row := fnExactDecimalDigitsUptoRow, standIns := [], harness := (true, "87ccd7c95691f6f5443a28c639af6a5aa84652f324ea751b14d9e699ddd82c06"), looks := false }, kinds := [], alts := [], laidByText := true, laidKinds := [.data, .data, .data], laidTests := true, laidLooks := .later }
def FnExactDecimalDigitsUptoCardSaid : Prop := Claim7.holds Tryd.pinned (.plain (OpenSpec.upto fnExactDecimalDigitsSpec)) fnExactDecimalDigitsUptoCard

/-- THE SECOND FORM's CARD OF 'laws.FnExactRatioText'. -/
def fnExactRatioTextUptoCard : Claim7 := { stood := { row := fnExactRatioTextUptoRow, standIns := [], harness := (true, "87ccd7c95691f6f5443a28c639af6a5aa84652f324ea751b14d9e699ddd82c06"), looks := false }, kinds := [], alts := [], laidByText := true, laidKinds := [.data, .data, .data], laidTests := true, laidLooks := .later }
def FnExactRatioTextUptoCardSaid : Prop := Claim7.holds Tryd.pinned (.plain (OpenSpec.upto fnExactRatioTextSpec)) fnExactRatioTextUptoCard
end Rows
end Go.Proofs.YtopdeoicglkbkaaDoor
