/- Contracts: boxes hands back its closure. -/
import Derived.Test.YtoilkinagffhiaaA144
import Derived.Test.YtoilkinagffhiaaUy
namespace Go.Proofs.Ytoilkinagffhiaa.V
open Go.RowKit G D
set_option linter.unusedVariables false
set_option linter.unusedSimpArgs false
set_option maxHeartbeats 4000000
set_option maxRecDepth 4000
attribute [local irreducible] AW ARg ARA ARet MRet ASil AC AM
theorem boxes_f (l : List Int) : AMF Try.prog 66 40 [ar false l] 1 [.dt false 1 (E false l)] := by
  refine AMF.go Try.func40 Try.ntmps40 rfl rfl fun w0 mp hw => ?_
  simp [WfL, WfA, E_length, Enc.enc, In64] at hw
  repeat' first | refine s1 ?_ | fail
  exact ⟨2, 0, rfl, rfl, rfl, rfl⟩
end Go.Proofs.Ytoilkinagffhiaa.V
