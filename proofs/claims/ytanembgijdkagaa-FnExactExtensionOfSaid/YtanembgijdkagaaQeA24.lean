/- Contracts: morphisms, coboundaries. -/
import Derived.Test.YtanembgijdkagaaQeA13
import Derived.Test.YtanembgijdkagaaQeA23
namespace Go.Proofs.Ytanembgijdkagaa.V
open Go.RowKit G D
set_option linter.unusedVariables false
set_option linter.unusedSimpArgs false
set_option maxHeartbeats 2000000
set_option maxRecDepth 4000
attribute [local irreducible] AW ARg ARA ARet MRet ASil AC AM
/-- a matrix that fits at a vertex -/
def fitV (a b : Rep) (f : List Mat) (v : Nat) : Bool := isMat a.p (f.getD v default) && decide ((f.getD v default).c = a.d.getD v default) && decide ((f.getD v default).r = b.d.getD v default)
def areM (a b : Rep) (f : List Mat) : Bool := fitR a b && decide (f.length = a.d.length) && (List.range f.length).all (fitV a b f)
theorem areM_spec {a b : Rep} {f : List Mat} (h : areM a b f = true) : fitR a b = true ∧ f.length = a.d.length ∧ ∀ v, v < f.length → fitV a b f v = true := by
  simp only [areM, Bool.and_eq_true, decide_eq_true_eq, List.all_eq_true] at h
  exact ⟨h.1.1, h.1.2, fun v hv => h.2 v (by simpa using hv)⟩
end Go.Proofs.Ytanembgijdkagaa.V
