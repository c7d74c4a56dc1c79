-- WRITTEN BY wip/xprint.py out of the translation, with contracts of mine put in: Lean checks it.
import Derived.Test.YteoacngaicchiaaPFnExactValidContentsx0
import Derived.Test.YteoacngaicchiaaPFnExactValidContentsx1
import Derived.Test.YteoacngaicchiaaPFnExactValidContentsx2
import Derived.Test.YteoacngaicchiaaPFnExactValidContentsx3
import Derived.Test.YteoacngaicchiaaPFnExactValidContentsx4
namespace Go.Proofs.Yteoacngaicchiaa.PFnExactValidContents
open Go.RowKit Go.Proofs.YteoacngaicchiaaW.PrintWords Go.Proofs.YteoacngaicchiaaW.PrintLast Go.Proofs.YteoacngaicchiaaW.PrintMore
attribute [local go_sem] max2_int min2_int max_two min_two max_three min_three max_four min_four   -- for this text's walks alone
set_option linter.unusedVariables false
set_option linter.unusedSimpArgs false

end Go.Proofs.Yteoacngaicchiaa.PFnExactValidContents
