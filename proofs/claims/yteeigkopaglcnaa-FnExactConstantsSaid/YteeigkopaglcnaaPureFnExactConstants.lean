/- The program's constants are the ones that the document states: the law returns true. No condition. -/
import Derived.Test.YteeigkopaglcnaaPFnExactConstantsx1
namespace Go.Proofs.Yteeigkopaglcnaa.Pure
open Go.RowKit Go.Proofs.Yteeigkopaglcnaa.PFnExactConstants Go.Proofs.YteeigkopaglcnaaW.PrintWords Go.Proofs.YteeigkopaglcnaaW.PrintLast Go.Proofs.YteeigkopaglcnaaW.PrintMore
set_option linter.unusedVariables false
set_option linter.unusedSimpArgs false

theorem FnExactConstants : laws_FnExactConstants.Pure := rfl

end Go.Proofs.Yteeigkopaglcnaa.Pure
