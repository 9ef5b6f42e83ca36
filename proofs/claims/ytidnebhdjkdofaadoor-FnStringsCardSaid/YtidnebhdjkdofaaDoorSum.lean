/- Contract of l1Num in the form of the print (Door seat). No statement of the seat is proved here. -/
import Derived.Test.YtidnebhdjkdofaaDoorNum
import Derived.Test.YtidnebhdjkdofaaDoorShelfT
namespace Go.Proofs.YtidnebhdjkdofaaDoor
open Go.RowKit Go.Proofs.YtidnebhdjkdofaaDoorW.PrintWords
def xL1Num.f (a0 : Int) : Option ByteArray := if -999999 ≤ a0 ∧ a0 ≤ 999999 then some (textB a0) else none
theorem xL1Num.calls (a0 : Int) (r : ByteArray) (w : World) (h : xL1Num.f a0 = some r) : Calls Tryd.prog 44 #[.int .i64 a0] w fun e w' => e = .returned (.string r) ∧ Drawn0 w w' := by
  unfold xL1Num.f at h
  by_cases g : -999999 ≤ a0 ∧ a0 ≤ 999999
  · rw [if_pos g] at h
    obtain rfl := Option.some.inj h
    exact l1Num_any a0 g w
  · rw [if_neg g] at h; cases h
end Go.Proofs.YtidnebhdjkdofaaDoor
