-- WRITTEN BY wip/xprint.py out of the translation, with contracts of mine put in: Lean checks it.
import Derived.Test.YtbfcnacllonnbaaDoorPFnExactReadListx0
import Derived.Test.YtbfcnacllonnbaaDoorPFnExactReadListx1
import Derived.Test.YtbfcnacllonnbaaDoorPFnExactReadListx2
import Derived.Test.YtbfcnacllonnbaaDoorPFnExactReadListx3
namespace Go.Proofs.YtbfcnacllonnbaaDoor.PFnExactReadList
open Go.RowKit Go.Proofs.YtbfcnacllonnbaaDoorW.PrintWords Go.Proofs.YtbfcnacllonnbaaDoorW.PrintLast Go.Proofs.YtbfcnacllonnbaaDoorW.PrintMore
attribute [local go_sem] max2_int min2_int max_two min_two max_three min_three max_four min_four   -- for this text's walks alone
set_option linter.unusedVariables false
set_option linter.unusedSimpArgs false

end Go.Proofs.YtbfcnacllonnbaaDoor.PFnExactReadList
