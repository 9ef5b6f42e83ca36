/- Contract of strings.Contains in the form of the print (Door seat). No statement of the seat is proved here. -/
import Derived.Test.YtidnebhdjkdofaaDoorNum
import Derived.Test.YtidnebhdjkdofaaDoorShelfT
namespace Go.Proofs.YtidnebhdjkdofaaDoor
open Go.RowKit Go.Proofs.YtidnebhdjkdofaaDoorW.PrintWords
def xContains.f (a0 a1 : ByteArray) : Option Bool :=
  if a1.size = 1 then some (decide (0 ≤ Lib.indexByte a0.data.toList (a1.data.toList.headD 0))) else none
theorem xContains.calls (a0 a1 : ByteArray) (r : Bool) (w : World) (h : xContains.f a0 a1 = some r) : Calls Tryd.prog 53 #[.string a0, .string a1] w fun e w' => e = .returned (.bool r) ∧ Drawn0 w w' := by
  unfold xContains.f at h
  by_cases g : a1.size = 1
  · rw [if_pos g] at h
    obtain rfl := Option.some.inj h
    obtain ⟨⟨l⟩⟩ := a1
    match l, g with
    | [c], _ => exact (Tryd.strings_Contains_one a0 c w).mono fun e w' ⟨he, hw⟩ => ⟨he, by rw [hw]; exact Drawn0.refl _⟩
  · rw [if_neg g] at h; cases h
end Go.Proofs.YtidnebhdjkdofaaDoor
