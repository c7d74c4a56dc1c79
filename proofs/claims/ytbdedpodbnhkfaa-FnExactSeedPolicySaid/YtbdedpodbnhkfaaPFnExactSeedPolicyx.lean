-- WRITTEN BY wip/xprint.py out of the translation, with contracts of mine put in: Lean checks it.
import Derived.Test.YtbdedpodbnhkfaaPFnExactSeedPolicyx0
import Derived.Test.YtbdedpodbnhkfaaPFnExactSeedPolicyx1
import Derived.Test.YtbdedpodbnhkfaaPFnExactSeedPolicyx2
import Derived.Test.YtbdedpodbnhkfaaPFnExactSeedPolicyx3
namespace Go.Proofs.Ytbdedpodbnhkfaa.PFnExactSeedPolicy
open Go.RowKit Go.Proofs.YtbdedpodbnhkfaaW.PrintWords Go.Proofs.YtbdedpodbnhkfaaW.PrintLast Go.Proofs.YtbdedpodbnhkfaaW.PrintMore
attribute [local go_sem] max2_int min2_int max_two min_two max_three min_three max_four min_four   -- for this text's walks alone
set_option linter.unusedVariables false
set_option linter.unusedSimpArgs false

end Go.Proofs.Ytbdedpodbnhkfaa.PFnExactSeedPolicy
