/- Contracts of functions, written by a program of this repo out of the translation. No statement of the seat is proved here. -/
import Derived.Test.YtdbnajaimodnmaaProg
import Derived.Below
import Derived.Deep.Draws
import Derived.Deep.AppendLies
import Derived.Maps.AppendAt
import Derived.OwnWalk
import Derived.Laws.BytesArg
import Derived.Laws.MakeOwn
import Derived.Laws.OwnMore
import Derived.Deep.OwnRows
import Derived.Tactics
import Derived.Lib.ConvBytes
import Derived.Laws.Slices
import Derived.WalkKit
import Derived.KernelRfl
import Derived.RowKit3
import Derived.Deep.LoopGhost
import Derived.Deep.QuietTactic
import Derived.BigQuiet
import Derived.WideLaws
import Derived.Deep.DeepCutAuto
import Derived.Deep.CutBlock
import Derived.Deep.RegionHeld3
import Derived.Laws.Rows
import Derived.Lib.AppendStr
import Derived.ArgAppend
import Derived.Laws.IdiomCopy
import Derived.OrdersHeld
import Derived.Laws.BitsLemmas
import Derived.RowKit
import Derived.Test.YtdbnajaimodnmaaWWords
import Derived.Test.YtdbnajaimodnmaaWLast
import Derived.Test.YtdbnajaimodnmaaWTab
import Derived.Test.YtdbnajaimodnmaaWFour
import Derived.Test.YtdbnajaimodnmaaWQPut
import Derived.Test.YtdbnajaimodnmaaWApart
import Derived.Test.YtdbnajaimodnmaaWArr
import Derived.Test.YtdbnajaimodnmaaWZeros
import Derived.Test.YtdbnajaimodnmaaWFoot
import Derived.Test.YtdbnajaimodnmaaWKept
import Derived.Test.YtdbnajaimodnmaaWShare
import Derived.Test.YtdbnajaimodnmaaWN
import Derived.Test.YtdbnajaimodnmaaWFootNe
import Derived.Test.YtdbnajaimodnmaaWAt
import Derived.Test.YtdbnajaimodnmaaWEqStruct
import Derived.Test.YtdbnajaimodnmaaWRepsOne
import Derived.Test.YtdbnajaimodnmaaWInv
import Derived.Test.YtdbnajaimodnmaaWInvWords
import Derived.Test.YtdbnajaimodnmaaWGuard
import Derived.Test.YtdbnajaimodnmaaWNEv
import Derived.Test.YtdbnajaimodnmaaWMore
namespace Go.Proofs.Ytdbnajaimodnmaa.QAll
open Go.RowKit Go.Proofs.YtdbnajaimodnmaaW.PrintWords Go.Proofs.YtdbnajaimodnmaaW.PrintLast Go.Proofs.YtdbnajaimodnmaaW.PrintMore
attribute [local go_sem] max2_int min2_int max_two min_two max_three min_three max_four min_four   -- for this text's walks alone
set_option linter.unusedVariables false
set_option linter.unusedSimpArgs false



def errW : Option Int → Value
  | none => .nilIface
  | some c => .iface 0 (.int .i64 c)
theorem errW_none : errW none = .nilIface := rfl
theorem errW_some (c : Int) : errW (some c) = .iface 0 (.int .i64 c) := rfl

-- the values' own types

end Go.Proofs.Ytdbnajaimodnmaa.QAll
