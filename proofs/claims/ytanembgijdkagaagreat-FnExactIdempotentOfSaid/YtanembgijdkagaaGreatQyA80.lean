/- The representation of a part, plain. No program is walked. -/
import Derived.Test.YtanembgijdkagaaGreatQyA78
import Derived.Test.YtanembgijdkagaaGreatQyC1
import Derived.Test.YtanembgijdkagaaGreatQyA64
namespace Go.Proofs.YtanembgijdkagaaGreat.V
open Go.RowKit G D
set_option linter.unusedVariables false
set_option linter.unusedSimpArgs false
set_option maxHeartbeats 1000000
set_option maxRecDepth 4000
theorem dimS_get {s : List Spc} {v : Nat} (h : v < s.length) : (dimS s).getD v default = ((s.getD v default).b.length : Int) := by simp [dimS, h]
end Go.Proofs.YtanembgijdkagaaGreat.V
