-- WRITTEN BY wip/xprint.py out of the translation, with contracts of mine put in: Lean checks it.
import Derived.Test.YteeigkopaglcnaaPFnExactValidTracex0
import Derived.Test.YteeigkopaglcnaaPFnExactValidTracex1
import Derived.Test.YteeigkopaglcnaaPFnExactValidTracex2
namespace Go.Proofs.Yteeigkopaglcnaa.PFnExactValidTrace
open Go.RowKit Go.Proofs.YteeigkopaglcnaaW.PrintWords Go.Proofs.YteeigkopaglcnaaW.PrintLast Go.Proofs.YteeigkopaglcnaaW.PrintMore
attribute [local go_sem] max2_int min2_int max_two min_two max_three min_three max_four min_four   -- for this text's walks alone
set_option linter.unusedVariables false
set_option linter.unusedSimpArgs false

end Go.Proofs.Yteeigkopaglcnaa.PFnExactValidTrace
