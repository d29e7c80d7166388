/- Contracts: zero and simple representations of the reference, simple ones of the program. -/
import Derived.Test.YtanembgijdkagaaQeB2
namespace Go.Proofs.Ytanembgijdkagaa.V
open Go.RowKit G D
set_option linter.unusedVariables false
set_option linter.unusedSimpArgs false
set_option maxHeartbeats 400000
attribute [local irreducible] AW ARg ARA ARet MRet ASil AC AM
def noR : Rep := ⟨0, ⟨0, [], []⟩, [], []⟩
end Go.Proofs.Ytanembgijdkagaa.V
