/- Contracts: quotients by a part. -/
import Derived.Test.YtjnhjfgcfclamaaGreatQbUi
import Derived.Test.YtjnhjfgcfclamaaGreatQbA83
import Derived.Test.YtjnhjfgcfclamaaGreatQbA85
import Derived.Test.YtjnhjfgcfclamaaGreatQbA87
import Derived.Test.YtjnhjfgcfclamaaGreatQbB7
import Derived.Test.YtjnhjfgcfclamaaGreatQbB8
namespace Go.Proofs.YtjnhjfgcfclamaaGreat.V
open Go.RowKit G D
set_option linter.unusedVariables false
set_option linter.unusedSimpArgs false
set_option maxHeartbeats 4000000
set_option maxRecDepth 4000
attribute [local irreducible] AW ARg ARA ARet MRet ASil AC AM ARI
theorem rowL_unit (n k : Nat) : rowL n (idF k) = unitL n k := by
  apply List.ext_getElem (by simp [rowL_len, unitL_len])
  intro i h1 h2
  have hi : i < n := by simpa [rowL_len] using h1
  have e1 : (rowL n (idF k)).getD i default = (rowL n (idF k))[i] := by simp [List.getElem?_eq_getElem h1]
  have e2 : (unitL n k).getD i default = (unitL n k)[i] := by simp [List.getElem?_eq_getElem h2]
  rw [← e1, ← e2, rowL_get _ hi, unitL_get hi]
  unfold idF
  by_cases e : k = i
  · subst e; rfl
  · rw [if_neg e, if_neg fun h => e h.symm]
end Go.Proofs.YtjnhjfgcfclamaaGreat.V
