/- Contracts of the functions that turn glasses and let minutes pass. No statement of the seat is proved here. -/
import Derived.Test.YtgfiggmkncafiaaTurn
namespace Go.Proofs.Ytgfiggmkncafiaa
open Go.RowKit
set_option linter.unusedVariables false

end Go.Proofs.Ytgfiggmkncafiaa
