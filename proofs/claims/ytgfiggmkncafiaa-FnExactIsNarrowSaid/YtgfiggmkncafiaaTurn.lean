/- Contracts of the functions that turn glasses. No statement of the seat is proved here. -/
import Derived.Test.YtgfiggmkncafiaaKit
namespace Go.Proofs.Ytgfiggmkncafiaa
open Go.RowKit
set_option linter.unusedVariables false
end Go.Proofs.Ytgfiggmkncafiaa
