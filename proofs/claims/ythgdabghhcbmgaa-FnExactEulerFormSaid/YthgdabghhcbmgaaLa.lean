/- What the laws' parameters are read as. -/
import Derived.Test.YthgdabghhcbmgaaGt
import Derived.Test.YthgdabghhcbmgaaGf
import Derived.Test.YthgdabghhcbmgaaPa
namespace Go.Proofs.Ythgdabghhcbmgaa.G
open Go.RowKit D
instance : Rds Try.prog 3 intR := Rds.int Try.underlying3 (by kernel_rfl)
instance : Rds Try.prog 24 (listR intR) := Rds.slice Try.underlying24 (by kernel_rfl) inferInstance (by decide)
instance : Rds Try.prog 37 (listR (listR intR)) := Rds.slice Try.underlying37 (by kernel_rfl) inferInstance (by decide)
instance : Rds Try.prog 26 quivR := Rds.struct (fun x => ⟨x.1, x.2.1, x.2.2⟩) (fun _ => rfl) Try.underlying26 (by kernel_rfl)
  (RdsF.cons rfl (inferInstance : Rds Try.prog 3 intR) rfl (RdsF.cons rfl (inferInstance : Rds Try.prog 24 (listR intR)) rfl (RdsF.one rfl (inferInstance : Rds Try.prog 24 (listR intR)))))
end Go.Proofs.Ythgdabghhcbmgaa.G
