/- Contracts: fresh ropes, lightings, the next burning out. No statement of the seat is proved here. -/
import Derived.Test.YtncjoipckkkmjaaRopes
namespace Go.Proofs.Ytncjoipckkkmjaa
open Go.RowKit
set_option linter.unusedVariables false

end Go.Proofs.Ytncjoipckkkmjaa
