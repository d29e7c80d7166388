/- Contracts: solutions of systems, and whether a cocycle is a coboundary. -/
import Derived.Test.YtanembgijdkagaaGreatQyUq
import Derived.Test.YtanembgijdkagaaGreatQyB6
import Derived.Test.YtanembgijdkagaaGreatQyB9
namespace Go.Proofs.YtanembgijdkagaaGreat.V
open Go.RowKit G D
set_option linter.unusedVariables false
set_option linter.unusedSimpArgs false
set_option maxHeartbeats 4000000
set_option maxRecDepth 4000
attribute [local irreducible] AW ARg ARA ARet MRet ASil AC AM
theorem augF_bd {p : Int} {r c : Nat} {f : Nat → Nat → Int} {v : List Int} (hb : BdF p r c f) (hv : ∀ i, i < r → 0 ≤ v.getD i default ∧ v.getD i default ≤ p - 1) : BdF p r (c + 1) (augF c f v) := fun i hi j hj => by
  unfold augF
  split
  · exact hb i hi j (by assumption)
  · exact hv i hi
/-- where the search for a leading one behind the equations stands -/
theorem solL_no {p : Int} {r c : Nat} {f : Nat → Nat → Int} {v : List Int} {g : Nat → Nat → Int} {piv : List Nat} (hR : redK p r (augF c f v) (c + 1) = (g, piv)) (h : c ∈ piv) : solL p r c f v = ([], false) := by
  unfold solL; rw [hR, if_pos h]
theorem solL_yes {p : Int} {r c : Nat} {f : Nat → Nat → Int} {v : List Int} {g : Nat → Nat → Int} {piv : List Nat} (hR : redK p r (augF c f v) (c + 1) = (g, piv)) (h : c ∉ piv) : solL p r c f v = (solV c g piv piv.length, true) := by
  unfold solL; rw [hR, if_neg h]
end Go.Proofs.YtanembgijdkagaaGreat.V
