-- WRITTEN BY wip/xprint.py out of the translation, with contracts of mine put in: Lean checks it.
import Derived.Test.YteeigkopaglcnaaProg
import Derived.Below
import Derived.Deep.Draws
import Derived.Deep.AppendLies
import Derived.Maps.AppendAt
import Derived.OwnWalk
import Derived.Laws.BytesArg
import Derived.Laws.MakeOwn
import Derived.Laws.OwnMore
import Derived.Deep.OwnRows
import Derived.Tactics
import Derived.Lib.ConvBytes
import Derived.Laws.Slices
import Derived.WalkKit
import Derived.KernelRfl
import Derived.RowKit3
import Derived.Deep.LoopGhost
import Derived.Deep.QuietTactic
import Derived.BigQuiet
import Derived.WideLaws
import Derived.Deep.DeepCutAuto
import Derived.Deep.CutBlock
import Derived.Deep.RegionHeld3
import Derived.Laws.Rows
import Derived.Lib.AppendStr
import Derived.ArgAppend
import Derived.Laws.IdiomCopy
import Derived.OrdersHeld
import Derived.Laws.BitsLemmas
import Derived.RowKit
import Derived.Lib.SlBy
import Derived.Lib.Walk
import Derived.Shelf.Abstract
import Derived.Test.YteeigkopaglcnaaWWords
import Derived.Test.YteeigkopaglcnaaWLast
import Derived.Test.YteeigkopaglcnaaWTab
import Derived.Test.YteeigkopaglcnaaWFour
import Derived.Test.YteeigkopaglcnaaWQPut
import Derived.Test.YteeigkopaglcnaaWApart
import Derived.Test.YteeigkopaglcnaaWArr
import Derived.Test.YteeigkopaglcnaaWZeros
import Derived.Test.YteeigkopaglcnaaWFoot
import Derived.Test.YteeigkopaglcnaaWKept
import Derived.Test.YteeigkopaglcnaaWShare
import Derived.Test.YteeigkopaglcnaaWN
import Derived.Test.YteeigkopaglcnaaWFootNe
import Derived.Test.YteeigkopaglcnaaWAt
import Derived.Test.YteeigkopaglcnaaWEqStruct
import Derived.Test.YteeigkopaglcnaaWRepsOne
import Derived.Test.YteeigkopaglcnaaWInv
import Derived.Test.YteeigkopaglcnaaWInvWords
import Derived.Test.YteeigkopaglcnaaWGuard
import Derived.Test.YteeigkopaglcnaaWNEv
import Derived.Test.YteeigkopaglcnaaWMore
namespace Go.Proofs.Yteeigkopaglcnaa.PFnParity
open Go.RowKit Go.Proofs.YteeigkopaglcnaaW.PrintWords Go.Proofs.YteeigkopaglcnaaW.PrintLast Go.Proofs.YteeigkopaglcnaaW.PrintMore
attribute [local go_sem] max2_int min2_int max_two min_two max_three min_three max_four min_four   -- for this text's walks alone
set_option linter.unusedVariables false
set_option linter.unusedSimpArgs false



def errW : Option Int → Value
  | none => .nilIface
  | some c => .iface 0 (.int .i64 c)
theorem errW_none : errW none = .nilIface := rfl
theorem errW_some (c : Int) : errW (some c) = .iface 0 (.int .i64 c) := rfl

-- the values' own types

end Go.Proofs.Yteeigkopaglcnaa.PFnParity
