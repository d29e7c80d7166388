/- Contracts: determinants. -/
import Derived.Test.YtedjajokbdokhaaGreatB1
import Derived.Test.YtedjajokbdokhaaGreatUd
namespace Go.Proofs.YtedjajokbdokhaaGreat.V
open Go.RowKit G D
set_option linter.unusedVariables false
set_option linter.unusedSimpArgs false
set_option maxHeartbeats 400000

end Go.Proofs.YtedjajokbdokhaaGreat.V
