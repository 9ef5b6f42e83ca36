/- Contracts of functions, written by a program of this repo out of the translation. No statement of the seat is proved here. -/
import Derived.Test.YtidnebhdjkdofaaDoorProg
import Derived.Below
import Derived.Deep.Draws
import Derived.Deep.AppendLies
import Derived.Maps.AppendAt
import Derived.OwnWalk
import Derived.Laws.BytesArg
import Derived.Laws.MakeOwn
import Derived.Laws.OwnMore
import Derived.Deep.OwnRows
import Derived.Tactics
import Derived.Lib.ConvBytes
import Derived.Laws.Slices
import Derived.WalkKit
import Derived.KernelRfl
import Derived.RowKit3
import Derived.Deep.LoopGhost
import Derived.Deep.QuietTactic
import Derived.BigQuiet
import Derived.WideLaws
import Derived.Deep.DeepCutAuto
import Derived.Deep.CutBlock
import Derived.Deep.RegionHeld3
import Derived.Laws.Rows
import Derived.Lib.AppendStr
import Derived.ArgAppend
import Derived.Laws.IdiomCopy
import Derived.OrdersHeld
import Derived.Laws.BitsLemmas
import Derived.RowKit
import Derived.Test.YtidnebhdjkdofaaDoorWWords
import Derived.Test.YtidnebhdjkdofaaDoorWLast
import Derived.Test.YtidnebhdjkdofaaDoorWTab
import Derived.Test.YtidnebhdjkdofaaDoorWFour
import Derived.Test.YtidnebhdjkdofaaDoorWQPut
import Derived.Test.YtidnebhdjkdofaaDoorWApart
import Derived.Test.YtidnebhdjkdofaaDoorWArr
import Derived.Test.YtidnebhdjkdofaaDoorWZeros
import Derived.Test.YtidnebhdjkdofaaDoorWFoot
import Derived.Test.YtidnebhdjkdofaaDoorWKept
import Derived.Test.YtidnebhdjkdofaaDoorWShare
import Derived.Test.YtidnebhdjkdofaaDoorWN
import Derived.Test.YtidnebhdjkdofaaDoorWFootNe
import Derived.Test.YtidnebhdjkdofaaDoorWAt
import Derived.Test.YtidnebhdjkdofaaDoorWEqStruct
import Derived.Test.YtidnebhdjkdofaaDoorWRepsOne
import Derived.Test.YtidnebhdjkdofaaDoorWInv
import Derived.Test.YtidnebhdjkdofaaDoorWInvWords
import Derived.Test.YtidnebhdjkdofaaDoorWGuard
import Derived.Test.YtidnebhdjkdofaaDoorWNEv
import Derived.Test.YtidnebhdjkdofaaDoorWMore
namespace Go.Proofs.YtidnebhdjkdofaaDoor.QStr
open Go.RowKit Go.Proofs.YtidnebhdjkdofaaDoorW.PrintWords Go.Proofs.YtidnebhdjkdofaaDoorW.PrintLast Go.Proofs.YtidnebhdjkdofaaDoorW.PrintMore
attribute [local go_sem] max2_int min2_int max_two min_two max_three min_three max_four min_four   -- for this text's walks alone
set_option linter.unusedVariables false
set_option linter.unusedSimpArgs false



def errW : Option Int → Value
  | none => .nilIface
  | some c => .iface 0 (.int .i64 c)
theorem errW_none : errW none = .nilIface := rfl
theorem errW_some (c : Int) : errW (some c) = .iface 0 (.int .i64 c) := rfl

theorem info5 : (Tryd.prog.info? 5).map (fun i => (i.zero, i.size, i.bytes)) = some (some (.int .u8 0), 1, 1) := by kernel_rfl
theorem info9 : (Tryd.prog.info? 9).map (fun i => (i.zero, i.size, i.bytes)) = some (some (.string ⟨#[]⟩), 1, 16) := by kernel_rfl
-- the values' own types

end Go.Proofs.YtidnebhdjkdofaaDoor.QStr
