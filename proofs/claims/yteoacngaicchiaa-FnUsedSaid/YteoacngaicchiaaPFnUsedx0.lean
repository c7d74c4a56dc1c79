-- WRITTEN BY wip/xprint.py out of the translation, with contracts of mine put in: Lean checks it.
import Derived.Test.YteoacngaicchiaaProg
import Derived.Below
import Derived.Deep.Draws
import Derived.Deep.AppendLies
import Derived.Maps.AppendAt
import Derived.OwnWalk
import Derived.Laws.BytesArg
import Derived.Laws.MakeOwn
import Derived.Laws.OwnMore
import Derived.Deep.OwnRows
import Derived.Tactics
import Derived.Lib.ConvBytes
import Derived.Laws.Slices
import Derived.WalkKit
import Derived.KernelRfl
import Derived.RowKit3
import Derived.Deep.LoopGhost
import Derived.Deep.QuietTactic
import Derived.BigQuiet
import Derived.WideLaws
import Derived.Deep.DeepCutAuto
import Derived.Deep.CutBlock
import Derived.Deep.RegionHeld3
import Derived.Laws.Rows
import Derived.Lib.AppendStr
import Derived.ArgAppend
import Derived.Laws.IdiomCopy
import Derived.OrdersHeld
import Derived.Laws.BitsLemmas
import Derived.RowKit
import Derived.Lib.SlBy
import Derived.Lib.Walk
import Derived.Shelf.Abstract
import Derived.Test.YteoacngaicchiaaSet
import Derived.Test.YteoacngaicchiaaWWords
import Derived.Test.YteoacngaicchiaaWLast
import Derived.Test.YteoacngaicchiaaWTab
import Derived.Test.YteoacngaicchiaaWFour
import Derived.Test.YteoacngaicchiaaWQPut
import Derived.Test.YteoacngaicchiaaWApart
import Derived.Test.YteoacngaicchiaaWArr
import Derived.Test.YteoacngaicchiaaWZeros
import Derived.Test.YteoacngaicchiaaWFoot
import Derived.Test.YteoacngaicchiaaWKept
import Derived.Test.YteoacngaicchiaaWShare
import Derived.Test.YteoacngaicchiaaWN
import Derived.Test.YteoacngaicchiaaWFootNe
import Derived.Test.YteoacngaicchiaaWAt
import Derived.Test.YteoacngaicchiaaWEqStruct
import Derived.Test.YteoacngaicchiaaWRepsOne
import Derived.Test.YteoacngaicchiaaWInv
import Derived.Test.YteoacngaicchiaaWInvWords
import Derived.Test.YteoacngaicchiaaWGuard
import Derived.Test.YteoacngaicchiaaWNEv
import Derived.Test.YteoacngaicchiaaWMore
namespace Go.Proofs.Yteoacngaicchiaa.PFnUsed
open Go.RowKit Go.Proofs.YteoacngaicchiaaW.PrintWords Go.Proofs.YteoacngaicchiaaW.PrintLast Go.Proofs.YteoacngaicchiaaW.PrintMore
attribute [local go_sem] max2_int min2_int max_two min_two max_three min_three max_four min_four   -- for this text's walks alone
set_option linter.unusedVariables false
set_option linter.unusedSimpArgs false



def errW : Option Int → Value
  | none => .nilIface
  | some c => .iface 0 (.int .i64 c)
theorem errW_none : errW none = .nilIface := rfl
theorem errW_some (c : Int) : errW (some c) = .iface 0 (.int .i64 c) := rfl

theorem info2 : (Try.prog.info? 2).map (fun i => (i.zero, i.size, i.bytes)) = some (some (.int .i64 0), 1, 8) := by kernel_rfl
-- the values' own types

end Go.Proofs.Yteoacngaicchiaa.PFnUsed
