/- Contracts: cocycles. -/
import Derived.Test.YtanembgijdkagaaQsA12
namespace Go.Proofs.Ytanembgijdkagaa.V
open Go.RowKit G D
set_option linter.unusedVariables false
set_option linter.unusedSimpArgs false
set_option maxHeartbeats 400000
set_option maxRecDepth 4000
attribute [local irreducible] AW ARg ARA ARet MRet ASil AC AM
/-- what is known of a pair that fits -/
structure Fits (a b : Rep) : Prop where
  q : a.q = b.q
  p : a.p = b.p
  f : isF a.p = true
  ok : okQ a.q = true
  da : (a.d.length : Int) = a.q.n
  db : (b.d.length : Int) = a.q.n
  ba : ∀ j, j < a.d.length → 0 ≤ a.d.getD j default ∧ a.d.getD j default ≤ 4
  bb : ∀ j, j < b.d.length → 0 ≤ b.d.getD j default ∧ b.d.getD j default ≤ 4
  ma : a.m.length = a.q.fr.length
  mb : b.m.length = a.q.fr.length
theorem Fits.of {a b : Rep} (h : fitR a b = true) : Fits a b := by
  obtain ⟨h1, h2, h3, h4⟩ := fitR_spec h
  obtain ⟨a1, a2, a3, a4⟩ := isRep_spec h1
  obtain ⟨b1, b2, b3, b4⟩ := isRep_spec h2
  obtain ⟨c1, c2, c3, c4⟩ := areDims_spec a2
  obtain ⟨d1, d2, d3, d4⟩ := areDims_spec b2
  exact ⟨h4, h3, a1, c1, c2, by rw [h4]; exact d2, fun j hj => allIn_spec c3 hj, fun j hj => allIn_spec d3 hj, a3, by rw [h4]; exact b3⟩
end Go.Proofs.Ytanembgijdkagaa.V
