/- Kernels and meets of spaces, all of a space, the socle, plain. No program is walked. -/
import Derived.Test.YtanembgijdkagaaQeA51
namespace Go.Proofs.Ytanembgijdkagaa.V
open Go.RowKit G D
set_option linter.unusedVariables false
set_option linter.unusedSimpArgs false
set_option maxHeartbeats 1000000
set_option maxRecDepth 4000
def idF : Nat → Nat → Int := fun i j => if i = j then 1 else 0
end Go.Proofs.Ytanembgijdkagaa.V
