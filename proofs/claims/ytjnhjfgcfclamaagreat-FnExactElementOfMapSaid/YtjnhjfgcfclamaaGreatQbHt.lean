/- Zeros of the types of this translation as abstract cells, places of fields, each checked by the kernel. Written by a program (types.py). -/
import Derived.Test.YtjnhjfgcfclamaaGreatQbGt
import Derived.Test.YtjnhjfgcfclamaaGreatQbUc
namespace Go.Proofs.YtjnhjfgcfclamaaGreat.V
open G
instance : ZeroE Tryz.prog 3 Int 0 := ZeroE.int (inferInstance : HasI Tryz.prog 3 1 8 (.int .i64 0))
instance : HasZ Tryz.prog 31 3 [.i 0, .nl, .nl] := HasZ.of [(.int .i64 0), (.slice none 0 0), (.slice none 0 0)] (inferInstance : HasI Tryz.prog 31 3 56 (.agg #[(.int .i64 0), (.slice none 0 0), (.slice none 0 0)])) rfl rfl rfl rfl
instance : HasP Tryz.prog 31 [(0, 1), (1, 1), (2, 1)] := ⟨_, Tryz.underlying31, fun w => by kernel_rfl⟩
instance : HasZ Tryz.prog 34 6 [.i 0, .i 0, .nl, .nl, .nl, .nl] := HasZ.of [(.int .i64 0), (.int .i64 0), (.slice none 0 0), (.slice none 0 0), (.slice none 0 0), (.slice none 0 0)] (inferInstance : HasI Tryz.prog 34 6 112 (.agg #[(.int .i64 0), (.int .i64 0), (.slice none 0 0), (.slice none 0 0), (.slice none 0 0), (.slice none 0 0)])) rfl rfl rfl rfl
instance : HasP Tryz.prog 34 [(0, 1), (1, 3), (4, 1), (5, 1)] := ⟨_, Tryz.underlying34, fun w => by kernel_rfl⟩
instance : HasZ Tryz.prog 72 2 [.i 0, .nl] := HasZ.of [(.int .i64 0), (.slice none 0 0)] (inferInstance : HasI Tryz.prog 72 2 32 (.agg #[(.int .i64 0), (.slice none 0 0)])) rfl rfl rfl rfl
instance : HasP Tryz.prog 72 [(0, 1), (1, 1)] := ⟨_, Tryz.underlying72, fun w => by kernel_rfl⟩
instance : HasZ Tryz.prog 74 3 [.i 0, .i 0, .nl] := HasZ.of [(.int .i64 0), (.int .i64 0), (.slice none 0 0)] (inferInstance : HasI Tryz.prog 74 3 40 (.agg #[(.int .i64 0), (.int .i64 0), (.slice none 0 0)])) rfl rfl rfl rfl
instance : HasP Tryz.prog 74 [(0, 1), (1, 1), (2, 1)] := ⟨_, Tryz.underlying74, fun w => by kernel_rfl⟩
instance : ZeroE Tryz.prog 74 Mat ⟨0, 0, []⟩ := ZeroE.mat (inferInstance : HasI Tryz.prog 74 3 40 (.agg #[(.int .i64 0), (.int .i64 0), (.slice none 0 0)]))
instance : HasZ Tryz.prog 141 2 [.i 0, .nl] := HasZ.of [(.int .i64 0), (.slice none 0 0)] (inferInstance : HasI Tryz.prog 141 2 32 (.agg #[(.int .i64 0), (.slice none 0 0)])) rfl rfl rfl rfl
instance : HasP Tryz.prog 141 [(0, 1), (1, 1)] := ⟨_, Tryz.underlying141, fun w => by kernel_rfl⟩
instance : ZeroE Tryz.prog 141 Pth ⟨0, []⟩ := ZeroE.pth (inferInstance : HasI Tryz.prog 141 2 32 (.agg #[(.int .i64 0), (.slice none 0 0)]))
end Go.Proofs.YtjnhjfgcfclamaaGreat.V
