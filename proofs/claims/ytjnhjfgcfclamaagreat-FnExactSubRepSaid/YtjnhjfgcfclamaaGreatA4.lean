/- Contracts: determinants. -/
import Derived.Test.YtjnhjfgcfclamaaGreatB1
import Derived.Test.YtjnhjfgcfclamaaGreatUd
namespace Go.Proofs.YtjnhjfgcfclamaaGreat.V
open Go.RowKit G D
set_option linter.unusedVariables false
set_option linter.unusedSimpArgs false
set_option maxHeartbeats 400000

end Go.Proofs.YtjnhjfgcfclamaaGreat.V
