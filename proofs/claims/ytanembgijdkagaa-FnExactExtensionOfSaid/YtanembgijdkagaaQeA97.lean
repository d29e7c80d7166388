/- Digits of numbers, combinations of the basis of the morphisms, searches among numbers. No program is walked. -/
import Derived.Test.YtanembgijdkagaaQeA64
import Derived.Test.YtanembgijdkagaaQeA78
import Derived.Test.YtanembgijdkagaaQeA42
namespace Go.Proofs.Ytanembgijdkagaa.V
open Go.RowKit G D
set_option linter.unusedVariables false
set_option linter.unusedSimpArgs false
set_option maxHeartbeats 1000000
set_option maxRecDepth 4000
theorem fitR_reps {a b : Rep} (h : fitR a b = true) : isRep a = true ∧ isRep b = true := by
  simp only [fitR, Bool.and_eq_true, decide_eq_true_eq] at h
  exact h.1.1
theorem fitR_mk {a b : Rep} (ha : isRep a = true) (hb : isRep b = true) (hp : a.p = b.p) (hq : a.q = b.q) : fitR a b = true := by
  simp only [fitR, Bool.and_eq_true, decide_eq_true_eq]
  exact ⟨⟨⟨ha, hb⟩, hp⟩, by rw [hq]; simp [sameQ]⟩
theorem fitR_symm {a b : Rep} (h : fitR a b = true) : fitR b a = true := fitR_mk (fitR_reps h).2 (fitR_reps h).1 (Fits.of h).p.symm (Fits.of h).q.symm
end Go.Proofs.Ytanembgijdkagaa.V
