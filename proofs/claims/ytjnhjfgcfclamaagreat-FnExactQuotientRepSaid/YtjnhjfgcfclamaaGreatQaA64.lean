/- Kernels and meets of spaces, all of a space, the socle, plain. No program is walked. -/
import Derived.Test.YtjnhjfgcfclamaaGreatQaA51
namespace Go.Proofs.YtjnhjfgcfclamaaGreat.V
open Go.RowKit G D
set_option linter.unusedVariables false
set_option linter.unusedSimpArgs false
set_option maxHeartbeats 1000000
set_option maxRecDepth 4000
theorem fcF_bd {p : Int} {n : Nat} {l : List (List Int)} (h : VecB p n l) : BdF p n l.length (fcF l) := fun i hi j hj => (h (l.getD j default) (gm hj)).2 i hi
def idF : Nat → Nat → Int := fun i j => if i = j then 1 else 0
end Go.Proofs.YtjnhjfgcfclamaaGreat.V
