/- Spaces: what vectors span, told by the reduced form. No program is walked. -/
import Derived.Test.YtanembgijdkagaaQeB4
namespace Go.Proofs.Ytanembgijdkagaa.V
open Go.RowKit G D
set_option linter.unusedVariables false
set_option linter.unusedSimpArgs false
set_option maxHeartbeats 1000000
set_option maxRecDepth 4000
/-- vectors as the rows of a table -/
def vecF (l : List (List Int)) : Nat → Nat → Int := fun i j => (l.getD i default).getD j default
/-- vectors of n numbers from 0 to p - 1 -/
def VecB (p : Int) (n : Nat) (l : List (List Int)) : Prop := ∀ x ∈ l, x.length = n ∧ ∀ j, j < n → 0 ≤ x.getD j default ∧ x.getD j default ≤ p - 1
theorem VecB.app {p : Int} {n : Nat} {x y : List (List Int)} (hx : VecB p n x) (hy : VecB p n y) : VecB p n (x ++ y) := fun z hz => by
  rcases List.mem_append.1 hz with h | h
  · exact hx z h
  · exact hy z h
end Go.Proofs.Ytanembgijdkagaa.V
