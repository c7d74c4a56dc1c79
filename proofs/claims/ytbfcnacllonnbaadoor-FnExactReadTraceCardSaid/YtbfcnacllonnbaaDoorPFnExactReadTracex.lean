-- WRITTEN BY wip/xprint.py out of the translation, with contracts of mine put in: Lean checks it.
import Derived.Test.YtbfcnacllonnbaaDoorPFnExactReadTracex0
import Derived.Test.YtbfcnacllonnbaaDoorPFnExactReadTracex1
import Derived.Test.YtbfcnacllonnbaaDoorPFnExactReadTracex2
import Derived.Test.YtbfcnacllonnbaaDoorPFnExactReadTracex3
import Derived.Test.YtbfcnacllonnbaaDoorPFnExactReadTracex4
import Derived.Test.YtbfcnacllonnbaaDoorPFnExactReadTracex5
import Derived.Test.YtbfcnacllonnbaaDoorPFnExactReadTracex6
import Derived.Test.YtbfcnacllonnbaaDoorPFnExactReadTracex7
import Derived.Test.YtbfcnacllonnbaaDoorPFnExactReadTracex8
import Derived.Test.YtbfcnacllonnbaaDoorPFnExactReadTracex9
namespace Go.Proofs.YtbfcnacllonnbaaDoor.PFnExactReadTrace
open Go.RowKit Go.Proofs.YtbfcnacllonnbaaDoorW.PrintWords Go.Proofs.YtbfcnacllonnbaaDoorW.PrintLast Go.Proofs.YtbfcnacllonnbaaDoorW.PrintMore
attribute [local go_sem] max2_int min2_int max_two min_two max_three min_three max_four min_four   -- for this text's walks alone
set_option linter.unusedVariables false
set_option linter.unusedSimpArgs false

end Go.Proofs.YtbfcnacllonnbaaDoor.PFnExactReadTrace
