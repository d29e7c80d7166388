/- Zeros of the types of this translation as abstract cells, places of fields, each checked by the kernel. Written by a program (types.py). -/
import Derived.Test.YtcalkmlaodjpaaaGt
import Derived.Test.YtcalkmlaodjpaaaUc
namespace Go.Proofs.Ytcalkmlaodjpaaa.V
open G
instance : HasZ Try.prog 2 1 [.i 0] := HasZ.of [(.int .i64 0)] (inferInstance : HasI Try.prog 2 1 8 (.int .i64 0)) rfl rfl rfl rfl
instance : ZeroE Try.prog 2 Int 0 := ZeroE.int (inferInstance : HasI Try.prog 2 1 8 (.int .i64 0))
instance : HasZ Try.prog 3 1 [.i 0] := HasZ.of [(.int .i64 0)] (inferInstance : HasI Try.prog 3 1 8 (.int .i64 0)) rfl rfl rfl rfl
instance : ZeroE Try.prog 3 Int 0 := ZeroE.int (inferInstance : HasI Try.prog 3 1 8 (.int .i64 0))
instance : HasZ Try.prog 4 1 [.b false] := HasZ.of [(.bool false)] (inferInstance : HasI Try.prog 4 1 1 (.bool false)) rfl rfl rfl rfl
instance : HasZ Try.prog 22 1 [.nl] := HasZ.of [(.slice none 0 0)] (inferInstance : HasI Try.prog 22 1 24 (.slice none 0 0)) rfl rfl rfl rfl
instance {α : Type} [Enc α] : ZeroE Try.prog 22 (List α) [] := ZeroE.lst (inferInstance : HasI Try.prog 22 1 24 (.slice none 0 0))
instance : HasZ Try.prog 28 1 [.nl] := HasZ.of [(.slice none 0 0)] (inferInstance : HasI Try.prog 28 1 24 (.slice none 0 0)) rfl rfl rfl rfl
instance {α : Type} [Enc α] : ZeroE Try.prog 28 (List α) [] := ZeroE.lst (inferInstance : HasI Try.prog 28 1 24 (.slice none 0 0))
instance : HasZ Try.prog 29 3 [.i 0, .nl, .nl] := HasZ.of [(.int .i64 0), (.slice none 0 0), (.slice none 0 0)] (inferInstance : HasI Try.prog 29 3 56 (.agg #[(.int .i64 0), (.slice none 0 0), (.slice none 0 0)])) rfl rfl rfl rfl
instance : HasP Try.prog 29 [(0, 1), (1, 1), (2, 1)] := ⟨_, Try.underlying29, fun w => by kernel_rfl⟩
instance : HasZ Try.prog 30 3 [.i 0, .nl, .nl] := HasZ.of [(.int .i64 0), (.slice none 0 0), (.slice none 0 0)] (inferInstance : HasI Try.prog 30 3 56 (.agg #[(.int .i64 0), (.slice none 0 0), (.slice none 0 0)])) rfl rfl rfl rfl
instance : HasP Try.prog 30 [(0, 1), (1, 1), (2, 1)] := ⟨_, Try.underlying30, fun w => by kernel_rfl⟩
instance : HasZ Try.prog 33 3 [.i 0, .nl, .nl] := HasZ.of [(.int .i64 0), (.slice none 0 0), (.slice none 0 0)] (inferInstance : HasI Try.prog 33 3 56 (.agg #[(.int .i64 0), (.slice none 0 0), (.slice none 0 0)])) rfl rfl rfl rfl
instance : HasP Try.prog 33 [(0, 1), (1, 1), (2, 1)] := ⟨_, Try.underlying33, fun w => by kernel_rfl⟩
instance : HasZ Try.prog 39 1 [.nl] := HasZ.of [(.slice none 0 0)] (inferInstance : HasI Try.prog 39 1 24 (.slice none 0 0)) rfl rfl rfl rfl
instance {α : Type} [Enc α] : ZeroE Try.prog 39 (List α) [] := ZeroE.lst (inferInstance : HasI Try.prog 39 1 24 (.slice none 0 0))
instance : HasZ Try.prog 40 6 [.i 0, .i 0, .nl, .nl, .nl, .nl] := HasZ.of [(.int .i64 0), (.int .i64 0), (.slice none 0 0), (.slice none 0 0), (.slice none 0 0), (.slice none 0 0)] (inferInstance : HasI Try.prog 40 6 112 (.agg #[(.int .i64 0), (.int .i64 0), (.slice none 0 0), (.slice none 0 0), (.slice none 0 0), (.slice none 0 0)])) rfl rfl rfl rfl
instance : HasP Try.prog 40 [(0, 1), (1, 3), (4, 1), (5, 1)] := ⟨_, Try.underlying40, fun w => by kernel_rfl⟩
instance : HasZ Try.prog 41 6 [.i 0, .i 0, .nl, .nl, .nl, .nl] := HasZ.of [(.int .i64 0), (.int .i64 0), (.slice none 0 0), (.slice none 0 0), (.slice none 0 0), (.slice none 0 0)] (inferInstance : HasI Try.prog 41 6 112 (.agg #[(.int .i64 0), (.int .i64 0), (.slice none 0 0), (.slice none 0 0), (.slice none 0 0), (.slice none 0 0)])) rfl rfl rfl rfl
instance : HasP Try.prog 41 [(0, 1), (1, 3), (4, 1), (5, 1)] := ⟨_, Try.underlying41, fun w => by kernel_rfl⟩
instance : ZeroE Try.prog 41 Rep ⟨0, ⟨0, [], []⟩, [], []⟩ := ZeroE.rep (inferInstance : HasI Try.prog 41 6 112 (.agg #[(.int .i64 0), (.int .i64 0), (.slice none 0 0), (.slice none 0 0), (.slice none 0 0), (.slice none 0 0)]))
instance : HasZ Try.prog 51 1 [.nl] := HasZ.of [(.slice none 0 0)] (inferInstance : HasI Try.prog 51 1 24 (.slice none 0 0)) rfl rfl rfl rfl
instance {α : Type} [Enc α] : ZeroE Try.prog 51 (List α) [] := ZeroE.lst (inferInstance : HasI Try.prog 51 1 24 (.slice none 0 0))
instance : HasZ Try.prog 52 6 [.i 0, .i 0, .nl, .nl, .nl, .nl] := HasZ.of [(.int .i64 0), (.int .i64 0), (.slice none 0 0), (.slice none 0 0), (.slice none 0 0), (.slice none 0 0)] (inferInstance : HasI Try.prog 52 6 112 (.agg #[(.int .i64 0), (.int .i64 0), (.slice none 0 0), (.slice none 0 0), (.slice none 0 0), (.slice none 0 0)])) rfl rfl rfl rfl
instance : HasP Try.prog 52 [(0, 1), (1, 3), (4, 1), (5, 1)] := ⟨_, Try.underlying52, fun w => by kernel_rfl⟩
instance : HasZ Try.prog 53 6 [.i 0, .i 0, .nl, .nl, .nl, .nl] := HasZ.of [(.int .i64 0), (.int .i64 0), (.slice none 0 0), (.slice none 0 0), (.slice none 0 0), (.slice none 0 0)] (inferInstance : HasI Try.prog 53 6 112 (.agg #[(.int .i64 0), (.int .i64 0), (.slice none 0 0), (.slice none 0 0), (.slice none 0 0), (.slice none 0 0)])) rfl rfl rfl rfl
instance : HasP Try.prog 53 [(0, 1), (1, 3), (4, 1), (5, 1)] := ⟨_, Try.underlying53, fun w => by kernel_rfl⟩
instance : ZeroE Try.prog 53 Rep ⟨0, ⟨0, [], []⟩, [], []⟩ := ZeroE.rep (inferInstance : HasI Try.prog 53 6 112 (.agg #[(.int .i64 0), (.int .i64 0), (.slice none 0 0), (.slice none 0 0), (.slice none 0 0), (.slice none 0 0)]))
instance : HasZ Try.prog 85 3 [.i 0, .i 0, .nl] := HasZ.of [(.int .i64 0), (.int .i64 0), (.slice none 0 0)] (inferInstance : HasI Try.prog 85 3 40 (.agg #[(.int .i64 0), (.int .i64 0), (.slice none 0 0)])) rfl rfl rfl rfl
instance : HasP Try.prog 85 [(0, 1), (1, 1), (2, 1)] := ⟨_, Try.underlying85, fun w => by kernel_rfl⟩
instance : HasZ Try.prog 86 3 [.i 0, .i 0, .nl] := HasZ.of [(.int .i64 0), (.int .i64 0), (.slice none 0 0)] (inferInstance : HasI Try.prog 86 3 40 (.agg #[(.int .i64 0), (.int .i64 0), (.slice none 0 0)])) rfl rfl rfl rfl
instance : HasP Try.prog 86 [(0, 1), (1, 1), (2, 1)] := ⟨_, Try.underlying86, fun w => by kernel_rfl⟩
instance : ZeroE Try.prog 86 Mat ⟨0, 0, []⟩ := ZeroE.mat (inferInstance : HasI Try.prog 86 3 40 (.agg #[(.int .i64 0), (.int .i64 0), (.slice none 0 0)]))
instance : HasZ Try.prog 88 3 [.i 0, .i 0, .nl] := HasZ.of [(.int .i64 0), (.int .i64 0), (.slice none 0 0)] (inferInstance : HasI Try.prog 88 3 40 (.agg #[(.int .i64 0), (.int .i64 0), (.slice none 0 0)])) rfl rfl rfl rfl
instance : HasP Try.prog 88 [(0, 1), (1, 1), (2, 1)] := ⟨_, Try.underlying88, fun w => by kernel_rfl⟩
instance : ZeroE Try.prog 88 Mat ⟨0, 0, []⟩ := ZeroE.mat (inferInstance : HasI Try.prog 88 3 40 (.agg #[(.int .i64 0), (.int .i64 0), (.slice none 0 0)]))
instance : HasZ Try.prog 118 1 [.nl] := HasZ.of [(.slice none 0 0)] (inferInstance : HasI Try.prog 118 1 24 (.slice none 0 0)) rfl rfl rfl rfl
instance {α : Type} [Enc α] : ZeroE Try.prog 118 (List α) [] := ZeroE.lst (inferInstance : HasI Try.prog 118 1 24 (.slice none 0 0))
instance : HasZ Try.prog 136 2 [.i 0, .nl] := HasZ.of [(.int .i64 0), (.slice none 0 0)] (inferInstance : HasI Try.prog 136 2 32 (.agg #[(.int .i64 0), (.slice none 0 0)])) rfl rfl rfl rfl
instance : HasP Try.prog 136 [(0, 1), (1, 1)] := ⟨_, Try.underlying136, fun w => by kernel_rfl⟩
instance : HasZ Try.prog 137 2 [.i 0, .nl] := HasZ.of [(.int .i64 0), (.slice none 0 0)] (inferInstance : HasI Try.prog 137 2 32 (.agg #[(.int .i64 0), (.slice none 0 0)])) rfl rfl rfl rfl
instance : HasP Try.prog 137 [(0, 1), (1, 1)] := ⟨_, Try.underlying137, fun w => by kernel_rfl⟩
instance : ZeroE Try.prog 137 Pth ⟨0, []⟩ := ZeroE.pth (inferInstance : HasI Try.prog 137 2 32 (.agg #[(.int .i64 0), (.slice none 0 0)]))
end Go.Proofs.Ytcalkmlaodjpaaa.V
