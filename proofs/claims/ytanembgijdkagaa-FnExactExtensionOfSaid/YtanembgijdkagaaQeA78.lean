/- Products of matrices with combinations; sums of parts are parts; the radical is one. No program is walked. -/
import Derived.Test.YtanembgijdkagaaQeA51
import Derived.Test.YtanembgijdkagaaQeB1
namespace Go.Proofs.Ytanembgijdkagaa.V
open Go.RowKit G D
set_option linter.unusedVariables false
set_option linter.unusedSimpArgs false
set_option maxHeartbeats 1000000
set_option maxRecDepth 4000
theorem arrow_ok {r : Rep} (h : isRep r = true) {i : Nat} (hi : i < r.m.length) : isMat r.p (r.m.getD i default) = true ∧ (0 ≤ r.q.fr.getD i default ∧ (r.q.fr.getD i default).toNat < r.d.length) ∧ (0 ≤ r.q.to.getD i default ∧ (r.q.to.getD i default).toNat < r.d.length) ∧ (r.m.getD i default).c = r.d.getD (r.q.fr.getD i default).toNat default ∧ (r.m.getD i default).r = r.d.getD (r.q.to.getD i default).toNat default := by
  obtain ⟨h1, h2, h3, h4⟩ := isRep_spec h
  obtain ⟨c1, c2, c3, _⟩ := areDims_spec h2
  have f : 0 ≤ r.q.fr.getD i default ∧ r.q.fr.getD i default < r.q.n := okQ_fr c1 (by omega)
  have t : 0 ≤ r.q.to.getD i default ∧ r.q.to.getD i default < r.q.n := okQ_to c1 (by omega)
  have hm := h4 i hi
  simp only [fitM, Bool.and_eq_true, decide_eq_true_eq] at hm
  exact ⟨hm.1.1, ⟨f.1, by omega⟩, ⟨t.1, by omega⟩, hm.1.2, hm.2⟩
end Go.Proofs.Ytanembgijdkagaa.V
