/- Quotients by a part, plain: the matrices onto the coordinates without a leading one. No program is walked. -/
import Derived.Test.YtanembgijdkagaaGreatQzA80
namespace Go.Proofs.YtanembgijdkagaaGreat.V
open Go.RowKit G D
set_option linter.unusedVariables false
set_option linter.unusedSimpArgs false
set_option maxHeartbeats 1000000
set_option maxRecDepth 4000
theorem ent_tm {r c i j : Nat} (f : Nat → Nat → Int) (hi : i < r) (hj : j < c) : ent (tm r c f) i j = f i j := by
  unfold ent tm
  dsimp only
  rw [Int.toNat_natCast, tab_get f hi hj]
end Go.Proofs.YtanembgijdkagaaGreat.V
