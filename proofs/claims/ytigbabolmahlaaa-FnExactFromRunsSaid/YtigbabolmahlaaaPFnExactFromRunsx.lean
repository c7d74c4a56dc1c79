-- WRITTEN BY wip/xprint.py out of the translation, with contracts of mine put in: Lean checks it.
import Derived.Test.YtigbabolmahlaaaPFnExactFromRunsx0
import Derived.Test.YtigbabolmahlaaaPFnExactFromRunsx1
import Derived.Test.YtigbabolmahlaaaPFnExactFromRunsx2
import Derived.Test.YtigbabolmahlaaaPFnExactFromRunsx3
import Derived.Test.YtigbabolmahlaaaPFnExactFromRunsx4
import Derived.Test.YtigbabolmahlaaaPFnExactFromRunsx5
namespace Go.Proofs.Ytigbabolmahlaaa.PFnExactFromRuns
open Go.RowKit Go.Proofs.YtigbabolmahlaaaW.PrintWords Go.Proofs.YtigbabolmahlaaaW.PrintLast Go.Proofs.YtigbabolmahlaaaW.PrintMore
attribute [local go_sem] max2_int min2_int max_two min_two max_three min_three max_four min_four   -- for this text's walks alone
set_option linter.unusedVariables false
set_option linter.unusedSimpArgs false

end Go.Proofs.Ytigbabolmahlaaa.PFnExactFromRuns
