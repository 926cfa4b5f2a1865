/- The plain law behind FnExactConstants: what the two sides compute is the same, for every input. No condition. -/
import Derived.Test.YtknngaomlfdhiaaPFnExactConstantsx1
set_option linter.unusedVariables false
set_option linter.unusedSimpArgs false
namespace Go.Proofs.Ytknngaomlfdhiaa.Pure
open Go.RowKit Go.Proofs.Ytknngaomlfdhiaa.PFnExactConstants Go.Proofs.YtknngaomlfdhiaaW.PrintWords Go.Proofs.YtknngaomlfdhiaaW.PrintLast Go.Proofs.YtknngaomlfdhiaaW.PrintMore


theorem FnExactConstants : laws_FnExactConstants.Pure := by
  unfold laws_FnExactConstants.Pure laws_FnExactConstants.f
  rfl

end Go.Proofs.Ytknngaomlfdhiaa.Pure
