/- Products of matrices are associative; powers of a morphism are morphisms. No program is walked. -/
import Derived.Test.YtanembgijdkagaaQpC2
import Derived.Test.YtanembgijdkagaaQpB6
import Derived.Test.YtanembgijdkagaaQpUq
import Derived.Test.YtanembgijdkagaaQpA15
import Derived.Test.YtanembgijdkagaaQpA6
import Derived.Test.YtanembgijdkagaaQpUm
import Derived.Test.YtanembgijdkagaaQpA25
import Derived.Test.YtanembgijdkagaaQpA70
import Derived.Test.YtanembgijdkagaaQpA78
import Derived.Test.YtanembgijdkagaaQpA64
namespace Go.Proofs.Ytanembgijdkagaa.V
open Go.RowKit G D
set_option linter.unusedVariables false
set_option linter.unusedSimpArgs false
set_option maxHeartbeats 1000000
set_option maxRecDepth 4000
def idM (n : Int) : Mat := tm n.toNat n.toNat idF
theorem isMat_id {p : Int} {n : Int} (hp : isF p = true) (hn : n ≤ 8) : isMat p (idM n) = true := by
  have := isF_pos hp
  refine isMat_tab hp (by omega) (by omega) fun i hi j hj => ?_
  unfold idF
  split <;> omega
end Go.Proofs.Ytanembgijdkagaa.V
