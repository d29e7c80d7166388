/- Zeros of the types of this translation as abstract cells, places of fields, each checked by the kernel. Written by a program (types.py). -/
import Derived.Test.YtanembgijdkagaaQeGt
import Derived.Test.YtanembgijdkagaaQeUc
namespace Go.Proofs.Ytanembgijdkagaa.V
open G
instance : ZeroE Try.prog 3 Int 0 := ZeroE.int (inferInstance : HasI Try.prog 3 1 8 (.int .i64 0))
instance : HasZ Try.prog 26 3 [.i 0, .nl, .nl] := HasZ.of [(.int .i64 0), (.slice none 0 0), (.slice none 0 0)] (inferInstance : HasI Try.prog 26 3 56 (.agg #[(.int .i64 0), (.slice none 0 0), (.slice none 0 0)])) rfl rfl rfl rfl
instance : HasP Try.prog 26 [(0, 1), (1, 1), (2, 1)] := ⟨_, Try.underlying26, fun w => by kernel_rfl⟩
instance : HasZ Try.prog 29 6 [.i 0, .i 0, .nl, .nl, .nl, .nl] := HasZ.of [(.int .i64 0), (.int .i64 0), (.slice none 0 0), (.slice none 0 0), (.slice none 0 0), (.slice none 0 0)] (inferInstance : HasI Try.prog 29 6 112 (.agg #[(.int .i64 0), (.int .i64 0), (.slice none 0 0), (.slice none 0 0), (.slice none 0 0), (.slice none 0 0)])) rfl rfl rfl rfl
instance : HasP Try.prog 29 [(0, 1), (1, 3), (4, 1), (5, 1)] := ⟨_, Try.underlying29, fun w => by kernel_rfl⟩
instance : HasZ Try.prog 68 3 [.i 0, .i 0, .nl] := HasZ.of [(.int .i64 0), (.int .i64 0), (.slice none 0 0)] (inferInstance : HasI Try.prog 68 3 40 (.agg #[(.int .i64 0), (.int .i64 0), (.slice none 0 0)])) rfl rfl rfl rfl
instance : HasP Try.prog 68 [(0, 1), (1, 1), (2, 1)] := ⟨_, Try.underlying68, fun w => by kernel_rfl⟩
instance : ZeroE Try.prog 68 Mat ⟨0, 0, []⟩ := ZeroE.mat (inferInstance : HasI Try.prog 68 3 40 (.agg #[(.int .i64 0), (.int .i64 0), (.slice none 0 0)]))
end Go.Proofs.Ytanembgijdkagaa.V
