/- Contracts: whether a cocycle is a coboundary. -/
import Derived.Test.YtanembgijdkagaaQeUq
import Derived.Test.YtanembgijdkagaaQeB6
import Derived.Test.YtanembgijdkagaaQeB4
import Derived.Test.YtanembgijdkagaaQeA23
import Derived.Test.YtanembgijdkagaaQeUc
import Derived.Lib.MinMax
import Derived.Test.YtanembgijdkagaaQeB2
namespace Go.Proofs.Ytanembgijdkagaa.V
open Go.RowKit G D
set_option linter.unusedVariables false
set_option linter.unusedSimpArgs false
set_option maxHeartbeats 4000000
set_option maxRecDepth 4000
attribute [local irreducible] AW ARg ARA ARet MRet ASil AC AM
theorem isCoc_spec {a b : Rep} {c : List Mat} (h : isCoc a b c = true) : fitR a b = true ∧ c.length = a.m.length ∧ ∀ i, i < c.length → isMat a.p (c.getD i default) = true ∧ (c.getD i default).c = a.d.getD (a.q.fr.getD i default).toNat default ∧ (c.getD i default).r = b.d.getD (a.q.to.getD i default).toNat default := by
  simp only [isCoc, fitC, Bool.and_eq_true, decide_eq_true_eq, List.all_eq_true] at h
  exact ⟨h.1.1, h.1.2, fun i hi => by have := h.2 i (by simpa using hi); exact ⟨this.1.1, this.1.2, this.2⟩⟩
end Go.Proofs.Ytanembgijdkagaa.V
