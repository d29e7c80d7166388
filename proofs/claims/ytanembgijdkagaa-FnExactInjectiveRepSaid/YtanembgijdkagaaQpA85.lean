/- Contracts: the representation of a part, as the reference builds it. -/
import Derived.Test.YtanembgijdkagaaQpUi
import Derived.Test.YtanembgijdkagaaQpA72
import Derived.Test.YtanembgijdkagaaQpA83
import Derived.Test.YtanembgijdkagaaQpA78
import Derived.Test.YtanembgijdkagaaQpB6
import Derived.Test.YtanembgijdkagaaQpUq
import Derived.Test.YtanembgijdkagaaQpA15
import Derived.Test.YtanembgijdkagaaQpA6
import Derived.Test.YtanembgijdkagaaQpUm
import Derived.Test.YtanembgijdkagaaQpA64
import Derived.Test.YtanembgijdkagaaQpA8
import Derived.Test.YtanembgijdkagaaQpB4
namespace Go.Proofs.Ytanembgijdkagaa.V
open Go.RowKit G D
set_option linter.unusedVariables false
set_option linter.unusedSimpArgs false
set_option maxHeartbeats 4000000
set_option maxRecDepth 4000
attribute [local irreducible] AW ARg ARA ARet MRet ASil AC AM ARI
theorem zeroMs_get (q : Quiv) (d : List Int) {i : Nat} (hi : i < q.fr.length) : (zeroMs q d).getD i default = zeroM (gI d (q.to.getD i default)) (gI d (q.fr.getD i default)) := by simp [zeroMs, hi]
end Go.Proofs.Ytanembgijdkagaa.V
