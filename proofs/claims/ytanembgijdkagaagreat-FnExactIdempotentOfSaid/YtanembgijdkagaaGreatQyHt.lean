/- Zeros of the types of this translation as abstract cells, places of fields, each checked by the kernel. Written by a program (types.py). -/
import Derived.Test.YtanembgijdkagaaGreatQyGt
import Derived.Test.YtanembgijdkagaaGreatQyUc
namespace Go.Proofs.YtanembgijdkagaaGreat.V
open G
instance : ZeroE Tryz.prog 3 Int 0 := ZeroE.int (inferInstance : HasI Tryz.prog 3 1 8 (.int .i64 0))
instance {α : Type} [Enc α] : ZeroE Tryz.prog 22 (List α) [] := ZeroE.lst (inferInstance : HasI Tryz.prog 22 1 24 (.slice none 0 0))
instance : HasZ Tryz.prog 30 3 [.i 0, .nl, .nl] := HasZ.of [(.int .i64 0), (.slice none 0 0), (.slice none 0 0)] (inferInstance : HasI Tryz.prog 30 3 56 (.agg #[(.int .i64 0), (.slice none 0 0), (.slice none 0 0)])) rfl rfl rfl rfl
instance : HasZ Tryz.prog 33 6 [.i 0, .i 0, .nl, .nl, .nl, .nl] := HasZ.of [(.int .i64 0), (.int .i64 0), (.slice none 0 0), (.slice none 0 0), (.slice none 0 0), (.slice none 0 0)] (inferInstance : HasI Tryz.prog 33 6 112 (.agg #[(.int .i64 0), (.int .i64 0), (.slice none 0 0), (.slice none 0 0), (.slice none 0 0), (.slice none 0 0)])) rfl rfl rfl rfl
instance : HasZ Tryz.prog 83 3 [.i 0, .i 0, .nl] := HasZ.of [(.int .i64 0), (.int .i64 0), (.slice none 0 0)] (inferInstance : HasI Tryz.prog 83 3 40 (.agg #[(.int .i64 0), (.int .i64 0), (.slice none 0 0)])) rfl rfl rfl rfl
instance : HasP Tryz.prog 83 [(0, 1), (1, 1), (2, 1)] := ⟨_, Tryz.underlying83, fun w => by kernel_rfl⟩
instance : ZeroE Tryz.prog 83 Mat ⟨0, 0, []⟩ := ZeroE.mat (inferInstance : HasI Tryz.prog 83 3 40 (.agg #[(.int .i64 0), (.int .i64 0), (.slice none 0 0)]))
instance : HasZ Tryz.prog 98 2 [.i 0, .nl] := HasZ.of [(.int .i64 0), (.slice none 0 0)] (inferInstance : HasI Tryz.prog 98 2 32 (.agg #[(.int .i64 0), (.slice none 0 0)])) rfl rfl rfl rfl
instance : HasP Tryz.prog 98 [(0, 1), (1, 1)] := ⟨_, Tryz.underlying98, fun w => by kernel_rfl⟩
instance : ZeroE Tryz.prog 98 Spc ⟨0, []⟩ := ZeroE.spc (inferInstance : HasI Tryz.prog 98 2 32 (.agg #[(.int .i64 0), (.slice none 0 0)]))
end Go.Proofs.YtanembgijdkagaaGreat.V
