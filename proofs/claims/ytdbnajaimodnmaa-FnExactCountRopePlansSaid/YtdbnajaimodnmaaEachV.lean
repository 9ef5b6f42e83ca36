/- CountRopePlans: the plain law. No statement of the seat is proved here. -/
import Derived.Test.YtdbnajaimodnmaaEachU
import Derived.Test.YtdbnajaimodnmaaQLw1
namespace Go.Proofs.Ytdbnajaimodnmaa
open Go.RowKit Go.Proofs.YtdbnajaimodnmaaW.PrintWords Go.Proofs.YtdbnajaimodnmaaW.PrintLast Go.Proofs.Ytdbnajaimodnmaa.QLw
set_option linter.unusedVariables false
set_option linter.unusedSimpArgs false
theorem countPlans_law (a0_0 a0_1 a0_2 a0_3 a0_4 a0_5 a1 : Int) : laws_FnExactCountRopePlans.f a0_0 a0_1 a0_2 a0_3 a0_4 a0_5 a1 = some true := by
  obtain ⟨x, ok, h⟩ : ∃ x ok, xCountPlans.f a0_0 a0_1 a0_2 a0_3 a0_4 a0_5 a1 = some (x, ok) := ⟨_, _, rfl⟩
  have h2 : xSpecPlans.f a0_0 a0_1 a0_2 a0_3 a0_4 a0_5 a1 = some (x, ok) := h
  unfold laws_FnExactCountRopePlans.f
  rw [show xToRopes.f a0_0 a0_1 a0_2 a0_3 a0_4 a0_5 = some (a0_0, a0_1, a0_2, a0_3, a0_4, a0_5) from rfl]
  simp only [Option.bind_some]
  rw [h2]
  simp only [Option.bind_some]
  rw [h]
  simp
end Go.Proofs.Ytdbnajaimodnmaa
