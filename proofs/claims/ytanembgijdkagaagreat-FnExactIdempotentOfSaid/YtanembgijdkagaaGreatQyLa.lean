/- What the laws' parameters are read as. -/
import Derived.Test.YtanembgijdkagaaGreatQyGt
import Derived.Test.YtanembgijdkagaaGreatQyUa
namespace Go.Proofs.YtanembgijdkagaaGreat.G
open Go.RowKit D
instance : Rds Tryz.prog 3 intR := Rds.int Tryz.underlying3 (by kernel_rfl)
instance : Rds Tryz.prog 22 (listR intR) := Rds.slice Tryz.underlying22 (by kernel_rfl) inferInstance (by decide)
instance : Rds Tryz.prog 77 (listR (listR intR)) := Rds.slice Tryz.underlying77 (by kernel_rfl) inferInstance (by decide)
instance : Rds Tryz.prog 24 quivR := Rds.struct (fun x => ⟨x.1, x.2.1, x.2.2⟩) (fun _ => rfl) Tryz.underlying24 (by kernel_rfl)
  (RdsF.cons rfl (inferInstance : Rds Tryz.prog 3 intR) rfl (RdsF.cons rfl (inferInstance : Rds Tryz.prog 22 (listR intR)) rfl (RdsF.one rfl (inferInstance : Rds Tryz.prog 22 (listR intR)))))
end Go.Proofs.YtanembgijdkagaaGreat.G
