/- Contracts: the reference's morphisms, dimensions of morphisms. -/
import Derived.Test.YtanembgijdkagaaQeUq
import Derived.Test.YtanembgijdkagaaQeB4
import Derived.Test.YtanembgijdkagaaQeA23
import Derived.Test.YtanembgijdkagaaQeUc
import Derived.Lib.MinMax
import Derived.Test.YtanembgijdkagaaQeB2
namespace Go.Proofs.Ytanembgijdkagaa.V
open Go.RowKit G D
set_option linter.unusedVariables false
set_option linter.unusedSimpArgs false
set_option maxHeartbeats 4000000
set_option maxRecDepth 4000
attribute [local irreducible] AW ARg ARA ARet MRet ASil AC AM
/-- cells of the basis of the morphisms -/
def hkL (a b : Rep) : List (List Int) := kerL a.p (szA a b a.q.fr.length) (szT a b a.d.length) (ent (eqM a b))
end Go.Proofs.Ytanembgijdkagaa.V
