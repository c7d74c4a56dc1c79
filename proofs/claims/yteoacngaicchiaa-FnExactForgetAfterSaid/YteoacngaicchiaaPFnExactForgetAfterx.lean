-- WRITTEN BY wip/xprint.py out of the translation, with contracts of mine put in: Lean checks it.
import Derived.Test.YteoacngaicchiaaPFnExactForgetAfterx0
import Derived.Test.YteoacngaicchiaaPFnExactForgetAfterx1
import Derived.Test.YteoacngaicchiaaPFnExactForgetAfterx2
import Derived.Test.YteoacngaicchiaaPFnExactForgetAfterx3
import Derived.Test.YteoacngaicchiaaPFnExactForgetAfterx4
import Derived.Test.YteoacngaicchiaaPFnExactForgetAfterx5
import Derived.Test.YteoacngaicchiaaPFnExactForgetAfterx6
namespace Go.Proofs.Yteoacngaicchiaa.PFnExactForgetAfter
open Go.RowKit Go.Proofs.YteoacngaicchiaaW.PrintWords Go.Proofs.YteoacngaicchiaaW.PrintLast Go.Proofs.YteoacngaicchiaaW.PrintMore
attribute [local go_sem] max2_int min2_int max_two min_two max_three min_three max_four min_four   -- for this text's walks alone
set_option linter.unusedVariables false
set_option linter.unusedSimpArgs false

end Go.Proofs.Yteoacngaicchiaa.PFnExactForgetAfter
