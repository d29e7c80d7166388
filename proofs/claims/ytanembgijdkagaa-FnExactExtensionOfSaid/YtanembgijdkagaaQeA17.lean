/- Contracts: rank, zero matrices, semisimple representations. -/
import Derived.Test.YtanembgijdkagaaQeA12
import Derived.Test.YtanembgijdkagaaQeUq
import Derived.Test.YtanembgijdkagaaQeB2
namespace Go.Proofs.Ytanembgijdkagaa.V
open Go.RowKit G D
set_option linter.unusedVariables false
set_option linter.unusedSimpArgs false
set_option maxHeartbeats 400000
set_option maxRecDepth 4000
attribute [local irreducible] AW ARg ARA ARet MRet ASil AC AM
theorem isMat_spec {p : Int} {m : Mat} (h : isMat p m = true) : isF p = true ∧ (0 ≤ m.r ∧ m.r ≤ 8) ∧ (0 ≤ m.c ∧ m.c ≤ 8) ∧ (m.m.length : Int) = m.r * m.c ∧ ∀ j, j < m.m.length → 0 ≤ m.m.getD j default ∧ m.m.getD j default ≤ p - 1 := by
  simp only [isMat, isVec, Bool.and_eq_true, decide_eq_true_eq] at h
  exact ⟨h.2.1.1, h.1.1.1, h.1.1.2, h.1.2, fun j hj => allIn_spec h.2.2 hj⟩
theorem isMat_tm {p : Int} {m : Mat} (h : isMat p m = true) : tm m.r.toNat m.c.toNat (ent m) = m := by
  obtain ⟨_, h1, h2, h3, h4⟩ := isMat_spec h
  exact tm_of h1.1 h2.1 h3
end Go.Proofs.Ytanembgijdkagaa.V
