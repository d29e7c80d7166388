/- Spaces: what vectors span, told by the reduced form. No program is walked. -/
import Derived.Test.YtanembgijdkagaaQpB4
namespace Go.Proofs.Ytanembgijdkagaa.V
open Go.RowKit G D
set_option linter.unusedVariables false
set_option linter.unusedSimpArgs false
set_option maxHeartbeats 1000000
set_option maxRecDepth 4000
theorem rowL_ext {n : Nat} {f g : Nat → Int} (h : ∀ j, j < n → f j = g j) : rowL n f = rowL n g := List.map_congr_left fun j hj => h j (by simpa using hj)
/-- vectors of n numbers from 0 to p - 1 -/
def VecB (p : Int) (n : Nat) (l : List (List Int)) : Prop := ∀ x ∈ l, x.length = n ∧ ∀ j, j < n → 0 ≤ x.getD j default ∧ x.getD j default ≤ p - 1
theorem VecB.app {p : Int} {n : Nat} {x y : List (List Int)} (hx : VecB p n x) (hy : VecB p n y) : VecB p n (x ++ y) := fun z hz => by
  rcases List.mem_append.1 hz with h | h
  · exact hx z h
  · exact hy z h
end Go.Proofs.Ytanembgijdkagaa.V
