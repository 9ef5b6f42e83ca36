/- For all pairs of strings LessString of the program and of the reference answer alike; no condition. -/
import Derived.Test.YtgfiggmkncafiaaPFnExactLessStringx1
namespace Go.Proofs.Ytgfiggmkncafiaa.Pure
open Go.RowKit Go.Proofs.Ytgfiggmkncafiaa.PFnExactLessString Go.Proofs.YtgfiggmkncafiaaW.PrintWords Go.Proofs.YtgfiggmkncafiaaW.PrintLast

/-- YOURS: ∀ (a0 : ByteArray) (a1 : ByteArray), a0.size ≤ 140737488351232 → a1.size ≤ 140737488351232 → laws_FnExactLessString.f a0 a1 = some true
What it reaches (each with k first where it has rounds; `.mono`: more rounds tell the same; `.l0`, ..: its loops, with `.mono_l`): spec_LessString.f, impl_LessString.f, laws_FnExactLessString.f -/
theorem FnExactLessString : laws_FnExactLessString.Pure := by
  intro a0 a1 _ _
  unfold laws_FnExactLessString.f spec_LessString.f impl_LessString.f
  split
  · rfl
  · split
    · rfl
    · simp

end Go.Proofs.Ytgfiggmkncafiaa.Pure
