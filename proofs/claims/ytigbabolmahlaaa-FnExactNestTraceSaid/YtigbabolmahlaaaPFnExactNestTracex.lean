-- WRITTEN BY wip/xprint.py out of the translation, with contracts of mine put in: Lean checks it.
import Derived.Test.YtigbabolmahlaaaPFnExactNestTracex0
import Derived.Test.YtigbabolmahlaaaPFnExactNestTracex1
import Derived.Test.YtigbabolmahlaaaPFnExactNestTracex2
import Derived.Test.YtigbabolmahlaaaPFnExactNestTracex3
import Derived.Test.YtigbabolmahlaaaPFnExactNestTracex4
import Derived.Test.YtigbabolmahlaaaPFnExactNestTracex5
import Derived.Test.YtigbabolmahlaaaPFnExactNestTracex6
import Derived.Test.YtigbabolmahlaaaPFnExactNestTracex7
namespace Go.Proofs.Ytigbabolmahlaaa.PFnExactNestTrace
open Go.RowKit Go.Proofs.YtigbabolmahlaaaW.PrintWords Go.Proofs.YtigbabolmahlaaaW.PrintLast Go.Proofs.YtigbabolmahlaaaW.PrintMore
attribute [local go_sem] max2_int min2_int max_two min_two max_three min_three max_four min_four   -- for this text's walks alone
set_option linter.unusedVariables false
set_option linter.unusedSimpArgs false

end Go.Proofs.Ytigbabolmahlaaa.PFnExactNestTrace
