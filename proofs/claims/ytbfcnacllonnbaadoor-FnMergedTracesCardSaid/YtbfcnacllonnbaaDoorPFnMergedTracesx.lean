-- WRITTEN BY wip/xprint.py out of the translation, with contracts of mine put in: Lean checks it.
import Derived.Test.YtbfcnacllonnbaaDoorPFnMergedTracesx0
import Derived.Test.YtbfcnacllonnbaaDoorPFnMergedTracesx1
import Derived.Test.YtbfcnacllonnbaaDoorPFnMergedTracesx2
import Derived.Test.YtbfcnacllonnbaaDoorPFnMergedTracesx3
import Derived.Test.YtbfcnacllonnbaaDoorPFnMergedTracesx4
import Derived.Test.YtbfcnacllonnbaaDoorPFnMergedTracesx5
import Derived.Test.YtbfcnacllonnbaaDoorPFnMergedTracesx6
import Derived.Test.YtbfcnacllonnbaaDoorPFnMergedTracesx7
namespace Go.Proofs.YtbfcnacllonnbaaDoor.PFnMergedTraces
open Go.RowKit Go.Proofs.YtbfcnacllonnbaaDoorW.PrintWords Go.Proofs.YtbfcnacllonnbaaDoorW.PrintLast Go.Proofs.YtbfcnacllonnbaaDoorW.PrintMore
attribute [local go_sem] max2_int min2_int max_two min_two max_three min_three max_four min_four   -- for this text's walks alone
set_option linter.unusedVariables false
set_option linter.unusedSimpArgs false

end Go.Proofs.YtbfcnacllonnbaaDoor.PFnMergedTraces
