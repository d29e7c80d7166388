/- Contracts: the representation of a part, as the reference builds it. -/
import Derived.Test.YtjnhjfgcfclamaaGreatQbUi
import Derived.Test.YtjnhjfgcfclamaaGreatQbA72
import Derived.Test.YtjnhjfgcfclamaaGreatQbA83
import Derived.Test.YtjnhjfgcfclamaaGreatQbA87
import Derived.Test.YtjnhjfgcfclamaaGreatQbA8
import Derived.Test.YtjnhjfgcfclamaaGreatQbB4
namespace Go.Proofs.YtjnhjfgcfclamaaGreat.V
open Go.RowKit G D
set_option linter.unusedVariables false
set_option linter.unusedSimpArgs false
set_option maxHeartbeats 4000000
set_option maxRecDepth 4000
attribute [local irreducible] AW ARg ARA ARet MRet ASil AC AM ARI
theorem zeroMs_get (q : Quiv) (d : List Int) {i : Nat} (hi : i < q.fr.length) : (zeroMs q d).getD i default = zeroM (gI d (q.to.getD i default)) (gI d (q.fr.getD i default)) := by simp [zeroMs, hi]
end Go.Proofs.YtjnhjfgcfclamaaGreat.V
