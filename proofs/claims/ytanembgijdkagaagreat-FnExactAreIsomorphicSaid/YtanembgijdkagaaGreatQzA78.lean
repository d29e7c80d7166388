/- Products of matrices with combinations; sums of parts are parts; the radical is one. No program is walked. -/
import Derived.Test.YtanembgijdkagaaGreatQzA70
namespace Go.Proofs.YtanembgijdkagaaGreat.V
open Go.RowKit G D
set_option linter.unusedVariables false
set_option linter.unusedSimpArgs false
set_option maxHeartbeats 1000000
set_option maxRecDepth 4000
theorem sumN_swap (h : Nat → Nat → Int) (n : Nat) : ∀ m, sumN (fun i => sumN (fun j => h i j) n) m = sumN (fun j => sumN (fun i => h i j) m) n
  | 0 => by
    rw [sumN_zero (h := fun j => sumN (fun i => h i j) 0) n fun j _ => rfl]; rfl
  | m + 1 => by
    rw [sumN, sumN_swap h n m]
    exact (sumN_add (fun j => sumN (fun i => h i j) m) (fun j => h m j) n).symm
end Go.Proofs.YtanembgijdkagaaGreat.V
