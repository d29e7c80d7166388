/- A function whose calls go down: it does not recurse. Over any program; nothing is claimed of the given one. -/
import Derived.JoinedOf
namespace Go.Proofs.Ytanembgijdkagaa.V
open Go
set_option linter.unusedVariables false
def leads (P : Program) (g : FuncId) : List FuncId := (P.funcs[g]?).elim [] P.leadsTo
def Closed (P : Program) (T : List FuncId) : Prop := ∀ g ∈ T, ∀ h ∈ leads P g, h ∈ T
/-- a function that leads to one which comes back to itself -/
theorem recurses_at {P : Program} {f : FuncId} (g h : FuncId) (hg : (P.closure f).contains g = true) (hh : (leads P g).contains h = true) (hc : (P.closure h).contains g = true) : P.recurses f = true := by
  unfold Program.recurses
  rw [Bool.or_eq_true]
  refine .inr (List.any_eq_true.2 ⟨g, List.contains_iff_mem.1 hg, List.any_eq_true.2 ⟨h, ?_, hc⟩⟩)
  exact List.contains_iff_mem.1 hh
end Go.Proofs.Ytanembgijdkagaa.V
