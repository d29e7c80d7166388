/- Three facts on the given program's head, which the last step of each law asks. No condition. -/
import Derived.Test.YtedjajokbdokhaaGreatRows
import Derived.JoinedOf
import Derived.KernelRfl
namespace Go.Proofs.YtedjajokbdokhaaGreat.V
open Go
theorem hdAll : (Program.mayEnter Tryz.pinned.checked.prog && !Program.liftsFinal Tryz.pinned.checked.prog && (Program.make Tryz.pinned.checked.prog == some .cut)) = true := by kernel_rfl
theorem hdEnter : Program.mayEnter Tryz.pinned.checked.prog = true := by
  have h := hdAll
  simp only [Bool.and_eq_true, Bool.not_eq_true', beq_iff_eq] at h
  exact h.1.1
theorem hdLifts : Program.liftsFinal Tryz.pinned.checked.prog = false := by
  have h := hdAll
  simp only [Bool.and_eq_true, Bool.not_eq_true', beq_iff_eq] at h
  exact h.1.2
theorem hdMake : Program.make Tryz.pinned.checked.prog = some .cut := by
  have h := hdAll
  simp only [Bool.and_eq_true, Bool.not_eq_true', beq_iff_eq] at h
  exact h.2
end Go.Proofs.YtedjajokbdokhaaGreat.V
