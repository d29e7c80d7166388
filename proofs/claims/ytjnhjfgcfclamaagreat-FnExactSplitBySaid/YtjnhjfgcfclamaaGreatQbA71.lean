/- Contracts: spaces within others, images of spaces, valid spaces, as the program finds them. -/
import Derived.Test.YtjnhjfgcfclamaaGreatQbUf
import Derived.Test.YtjnhjfgcfclamaaGreatQbA78
import Derived.Test.YtjnhjfgcfclamaaGreatQbA74
import Derived.Test.YtjnhjfgcfclamaaGreatQbB6
import Derived.Test.YtjnhjfgcfclamaaGreatQbB4
import Derived.Test.YtjnhjfgcfclamaaGreatQbB1
import Derived.Test.YtjnhjfgcfclamaaGreatQbUd
namespace Go.Proofs.YtjnhjfgcfclamaaGreat.V
open Go.RowKit G D
set_option linter.unusedVariables false
set_option linter.unusedSimpArgs false
set_option maxHeartbeats 4000000
set_option maxRecDepth 4000
attribute [local irreducible] AW ARg ARA ARet MRet ASil AC AM
theorem ent_fc (m : Mat) (v : List Int) (n r : Nat) (p : Int) : tab r 1 (mulF p (ent m) (fcF [v]) n) = rowL r fun i => sumN (fun k => ent m i k * v.getD k default) n % p := by
  rw [tab_one]
  refine rowL_ext fun i _ => ?_
  unfold mulF
  rw [dotK_sum]
  rfl
end Go.Proofs.YtjnhjfgcfclamaaGreat.V
