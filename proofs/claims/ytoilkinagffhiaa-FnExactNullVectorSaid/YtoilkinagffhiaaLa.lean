/- What the laws' parameters are read as. -/
import Derived.Test.YtoilkinagffhiaaGt
import Derived.Test.YtoilkinagffhiaaUa
namespace Go.Proofs.Ytoilkinagffhiaa.G
open Go.RowKit D
instance : Rds Try.prog 3 intR := Rds.int Try.underlying3 (by kernel_rfl)
instance : Rds Try.prog 22 (listR intR) := Rds.slice Try.underlying22 (by kernel_rfl) inferInstance (by decide)
instance : Rds Try.prog 40 (listR (listR intR)) := Rds.slice Try.underlying40 (by kernel_rfl) inferInstance (by decide)
instance : Rds Try.prog 24 quivR := Rds.struct (fun x => ⟨x.1, x.2.1, x.2.2⟩) (fun _ => rfl) Try.underlying24 (by kernel_rfl)
  (RdsF.cons rfl (inferInstance : Rds Try.prog 3 intR) rfl (RdsF.cons rfl (inferInstance : Rds Try.prog 22 (listR intR)) rfl (RdsF.one rfl (inferInstance : Rds Try.prog 22 (listR intR)))))
end Go.Proofs.Ytoilkinagffhiaa.G
