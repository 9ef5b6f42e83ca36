/- Every exported constant of the program has the value that the law asks for; no condition. -/
import Derived.Test.YtgfiggmkncafiaaPFnExactConstantsx1
namespace Go.Proofs.Ytgfiggmkncafiaa.Pure
open Go.RowKit Go.Proofs.Ytgfiggmkncafiaa.PFnExactConstants Go.Proofs.YtgfiggmkncafiaaW.PrintWords Go.Proofs.YtgfiggmkncafiaaW.PrintLast

/-- YOURS: laws_FnExactConstants.f  = some true
What it reaches (each with k first where it has rounds; `.mono`: more rounds tell the same; `.l0`, ..: its loops, with `.mono_l`): laws_FnExactConstants.f -/
theorem FnExactConstants : laws_FnExactConstants.Pure := by
  rfl

end Go.Proofs.Ytgfiggmkncafiaa.Pure
