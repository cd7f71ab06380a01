import Derived.Test.YtfcfjlfobflmaaaDoorRegX
set_option linter.unusedSimpArgs false
set_option linter.unusedVariables false
namespace Go.Proofs.YtfcfjlfobflmaaaDoor
open Go.RowKit
/-! ### parts of a function's code: a long walk is parted into theorems over them -/
def cF : Code → Code
  | .seq a _ => a
  | .cond _ a _ => a
  | .block _ a => a
  | .loop a => a
  | .scope a => a
  | c => c
def cS : Code → Code
  | .seq _ b => b
  | .cond _ _ b => b
  | c => c
def cB (f : Func) : Code := f.body.getD .skip

end Go.Proofs.YtfcfjlfobflmaaaDoor
