/- Zeros of the types of this translation as abstract cells, places of fields, each checked by the kernel. Written by a program (types.py). -/
import Derived.Test.YtlmenmacepeeaaaGt
import Derived.Test.YtlmenmacepeeaaaUc
namespace Go.Proofs.Ytlmenmacepeeaaa.V
open G
instance : HasZ Try.prog 2 1 [.i 0] := HasZ.of [(.int .i64 0)] (inferInstance : HasI Try.prog 2 1 8 (.int .i64 0)) rfl rfl rfl rfl
instance : ZeroE Try.prog 2 Int 0 := ZeroE.int (inferInstance : HasI Try.prog 2 1 8 (.int .i64 0))
instance : HasZ Try.prog 3 1 [.i 0] := HasZ.of [(.int .i64 0)] (inferInstance : HasI Try.prog 3 1 8 (.int .i64 0)) rfl rfl rfl rfl
instance : ZeroE Try.prog 3 Int 0 := ZeroE.int (inferInstance : HasI Try.prog 3 1 8 (.int .i64 0))
instance : HasZ Try.prog 4 1 [.b false] := HasZ.of [(.bool false)] (inferInstance : HasI Try.prog 4 1 1 (.bool false)) rfl rfl rfl rfl
instance : HasZ Try.prog 22 1 [.nl] := HasZ.of [(.slice none 0 0)] (inferInstance : HasI Try.prog 22 1 24 (.slice none 0 0)) rfl rfl rfl rfl
instance {α : Type} [Enc α] : ZeroE Try.prog 22 (List α) [] := ZeroE.lst (inferInstance : HasI Try.prog 22 1 24 (.slice none 0 0))
instance : HasZ Try.prog 23 3 [.i 0, .nl, .nl] := HasZ.of [(.int .i64 0), (.slice none 0 0), (.slice none 0 0)] (inferInstance : HasI Try.prog 23 3 56 (.agg #[(.int .i64 0), (.slice none 0 0), (.slice none 0 0)])) rfl rfl rfl rfl
instance : HasP Try.prog 23 [(0, 1), (1, 1), (2, 1)] := ⟨_, Try.underlying23, fun w => by kernel_rfl⟩
instance : HasZ Try.prog 24 3 [.i 0, .nl, .nl] := HasZ.of [(.int .i64 0), (.slice none 0 0), (.slice none 0 0)] (inferInstance : HasI Try.prog 24 3 56 (.agg #[(.int .i64 0), (.slice none 0 0), (.slice none 0 0)])) rfl rfl rfl rfl
instance : HasP Try.prog 24 [(0, 1), (1, 1), (2, 1)] := ⟨_, Try.underlying24, fun w => by kernel_rfl⟩
instance : HasZ Try.prog 26 3 [.i 0, .nl, .nl] := HasZ.of [(.int .i64 0), (.slice none 0 0), (.slice none 0 0)] (inferInstance : HasI Try.prog 26 3 56 (.agg #[(.int .i64 0), (.slice none 0 0), (.slice none 0 0)])) rfl rfl rfl rfl
instance : HasP Try.prog 26 [(0, 1), (1, 1), (2, 1)] := ⟨_, Try.underlying26, fun w => by kernel_rfl⟩
instance : HasZ Try.prog 27 1 [.nl] := HasZ.of [(.slice none 0 0)] (inferInstance : HasI Try.prog 27 1 24 (.slice none 0 0)) rfl rfl rfl rfl
instance {α : Type} [Enc α] : ZeroE Try.prog 27 (List α) [] := ZeroE.lst (inferInstance : HasI Try.prog 27 1 24 (.slice none 0 0))
instance : HasZ Try.prog 28 6 [.i 0, .i 0, .nl, .nl, .nl, .nl] := HasZ.of [(.int .i64 0), (.int .i64 0), (.slice none 0 0), (.slice none 0 0), (.slice none 0 0), (.slice none 0 0)] (inferInstance : HasI Try.prog 28 6 112 (.agg #[(.int .i64 0), (.int .i64 0), (.slice none 0 0), (.slice none 0 0), (.slice none 0 0), (.slice none 0 0)])) rfl rfl rfl rfl
instance : HasP Try.prog 28 [(0, 1), (1, 3), (4, 1), (5, 1)] := ⟨_, Try.underlying28, fun w => by kernel_rfl⟩
instance : HasZ Try.prog 29 6 [.i 0, .i 0, .nl, .nl, .nl, .nl] := HasZ.of [(.int .i64 0), (.int .i64 0), (.slice none 0 0), (.slice none 0 0), (.slice none 0 0), (.slice none 0 0)] (inferInstance : HasI Try.prog 29 6 112 (.agg #[(.int .i64 0), (.int .i64 0), (.slice none 0 0), (.slice none 0 0), (.slice none 0 0), (.slice none 0 0)])) rfl rfl rfl rfl
instance : HasP Try.prog 29 [(0, 1), (1, 3), (4, 1), (5, 1)] := ⟨_, Try.underlying29, fun w => by kernel_rfl⟩
instance : ZeroE Try.prog 29 Rep ⟨0, ⟨0, [], []⟩, [], []⟩ := ZeroE.rep (inferInstance : HasI Try.prog 29 6 112 (.agg #[(.int .i64 0), (.int .i64 0), (.slice none 0 0), (.slice none 0 0), (.slice none 0 0), (.slice none 0 0)]))
instance : HasZ Try.prog 38 1 [.nl] := HasZ.of [(.slice none 0 0)] (inferInstance : HasI Try.prog 38 1 24 (.slice none 0 0)) rfl rfl rfl rfl
instance {α : Type} [Enc α] : ZeroE Try.prog 38 (List α) [] := ZeroE.lst (inferInstance : HasI Try.prog 38 1 24 (.slice none 0 0))
instance : HasZ Try.prog 39 6 [.i 0, .i 0, .nl, .nl, .nl, .nl] := HasZ.of [(.int .i64 0), (.int .i64 0), (.slice none 0 0), (.slice none 0 0), (.slice none 0 0), (.slice none 0 0)] (inferInstance : HasI Try.prog 39 6 112 (.agg #[(.int .i64 0), (.int .i64 0), (.slice none 0 0), (.slice none 0 0), (.slice none 0 0), (.slice none 0 0)])) rfl rfl rfl rfl
instance : HasP Try.prog 39 [(0, 1), (1, 3), (4, 1), (5, 1)] := ⟨_, Try.underlying39, fun w => by kernel_rfl⟩
instance : HasZ Try.prog 40 6 [.i 0, .i 0, .nl, .nl, .nl, .nl] := HasZ.of [(.int .i64 0), (.int .i64 0), (.slice none 0 0), (.slice none 0 0), (.slice none 0 0), (.slice none 0 0)] (inferInstance : HasI Try.prog 40 6 112 (.agg #[(.int .i64 0), (.int .i64 0), (.slice none 0 0), (.slice none 0 0), (.slice none 0 0), (.slice none 0 0)])) rfl rfl rfl rfl
instance : HasP Try.prog 40 [(0, 1), (1, 3), (4, 1), (5, 1)] := ⟨_, Try.underlying40, fun w => by kernel_rfl⟩
instance : ZeroE Try.prog 40 Rep ⟨0, ⟨0, [], []⟩, [], []⟩ := ZeroE.rep (inferInstance : HasI Try.prog 40 6 112 (.agg #[(.int .i64 0), (.int .i64 0), (.slice none 0 0), (.slice none 0 0), (.slice none 0 0), (.slice none 0 0)]))
instance : HasZ Try.prog 58 1 [.nl] := HasZ.of [(.slice none 0 0)] (inferInstance : HasI Try.prog 58 1 24 (.slice none 0 0)) rfl rfl rfl rfl
instance {α : Type} [Enc α] : ZeroE Try.prog 58 (List α) [] := ZeroE.lst (inferInstance : HasI Try.prog 58 1 24 (.slice none 0 0))
instance : HasZ Try.prog 63 1 [.nl] := HasZ.of [(.slice none 0 0)] (inferInstance : HasI Try.prog 63 1 24 (.slice none 0 0)) rfl rfl rfl rfl
instance {α : Type} [Enc α] : ZeroE Try.prog 63 (List α) [] := ZeroE.lst (inferInstance : HasI Try.prog 63 1 24 (.slice none 0 0))
instance : HasZ Try.prog 66 1 [.nl] := HasZ.of [(.slice none 0 0)] (inferInstance : HasI Try.prog 66 1 24 (.slice none 0 0)) rfl rfl rfl rfl
instance {α : Type} [Enc α] : ZeroE Try.prog 66 (List α) [] := ZeroE.lst (inferInstance : HasI Try.prog 66 1 24 (.slice none 0 0))
instance : HasZ Try.prog 73 1 [.nl] := HasZ.of [(.slice none 0 0)] (inferInstance : HasI Try.prog 73 1 24 (.slice none 0 0)) rfl rfl rfl rfl
instance {α : Type} [Enc α] : ZeroE Try.prog 73 (List α) [] := ZeroE.lst (inferInstance : HasI Try.prog 73 1 24 (.slice none 0 0))
instance : HasZ Try.prog 82 1 [.nl] := HasZ.of [(.slice none 0 0)] (inferInstance : HasI Try.prog 82 1 24 (.slice none 0 0)) rfl rfl rfl rfl
instance {α : Type} [Enc α] : ZeroE Try.prog 82 (List α) [] := ZeroE.lst (inferInstance : HasI Try.prog 82 1 24 (.slice none 0 0))
instance : HasZ Try.prog 85 2 [.i 0, .nl] := HasZ.of [(.int .i64 0), (.slice none 0 0)] (inferInstance : HasI Try.prog 85 2 32 (.agg #[(.int .i64 0), (.slice none 0 0)])) rfl rfl rfl rfl
instance : HasP Try.prog 85 [(0, 1), (1, 1)] := ⟨_, Try.underlying85, fun w => by kernel_rfl⟩
instance : HasZ Try.prog 86 2 [.i 0, .nl] := HasZ.of [(.int .i64 0), (.slice none 0 0)] (inferInstance : HasI Try.prog 86 2 32 (.agg #[(.int .i64 0), (.slice none 0 0)])) rfl rfl rfl rfl
instance : HasP Try.prog 86 [(0, 1), (1, 1)] := ⟨_, Try.underlying86, fun w => by kernel_rfl⟩
instance : ZeroE Try.prog 86 Pth ⟨0, []⟩ := ZeroE.pth (inferInstance : HasI Try.prog 86 2 32 (.agg #[(.int .i64 0), (.slice none 0 0)]))
instance : HasZ Try.prog 87 3 [.i 0, .i 0, .nl] := HasZ.of [(.int .i64 0), (.int .i64 0), (.slice none 0 0)] (inferInstance : HasI Try.prog 87 3 40 (.agg #[(.int .i64 0), (.int .i64 0), (.slice none 0 0)])) rfl rfl rfl rfl
instance : HasP Try.prog 87 [(0, 1), (1, 1), (2, 1)] := ⟨_, Try.underlying87, fun w => by kernel_rfl⟩
instance : HasZ Try.prog 88 3 [.i 0, .i 0, .nl] := HasZ.of [(.int .i64 0), (.int .i64 0), (.slice none 0 0)] (inferInstance : HasI Try.prog 88 3 40 (.agg #[(.int .i64 0), (.int .i64 0), (.slice none 0 0)])) rfl rfl rfl rfl
instance : HasP Try.prog 88 [(0, 1), (1, 1), (2, 1)] := ⟨_, Try.underlying88, fun w => by kernel_rfl⟩
instance : ZeroE Try.prog 88 Mat ⟨0, 0, []⟩ := ZeroE.mat (inferInstance : HasI Try.prog 88 3 40 (.agg #[(.int .i64 0), (.int .i64 0), (.slice none 0 0)]))
instance : HasZ Try.prog 99 1 [.nl] := HasZ.of [(.slice none 0 0)] (inferInstance : HasI Try.prog 99 1 24 (.slice none 0 0)) rfl rfl rfl rfl
instance {α : Type} [Enc α] : ZeroE Try.prog 99 (List α) [] := ZeroE.lst (inferInstance : HasI Try.prog 99 1 24 (.slice none 0 0))
instance : HasZ Try.prog 100 2 [.i 0, .nl] := HasZ.of [(.int .i64 0), (.slice none 0 0)] (inferInstance : HasI Try.prog 100 2 32 (.agg #[(.int .i64 0), (.slice none 0 0)])) rfl rfl rfl rfl
instance : HasP Try.prog 100 [(0, 1), (1, 1)] := ⟨_, Try.underlying100, fun w => by kernel_rfl⟩
instance : HasZ Try.prog 101 2 [.i 0, .nl] := HasZ.of [(.int .i64 0), (.slice none 0 0)] (inferInstance : HasI Try.prog 101 2 32 (.agg #[(.int .i64 0), (.slice none 0 0)])) rfl rfl rfl rfl
instance : HasP Try.prog 101 [(0, 1), (1, 1)] := ⟨_, Try.underlying101, fun w => by kernel_rfl⟩
instance : ZeroE Try.prog 101 Spc ⟨0, []⟩ := ZeroE.spc (inferInstance : HasI Try.prog 101 2 32 (.agg #[(.int .i64 0), (.slice none 0 0)]))
instance : HasZ Try.prog 105 3 [.i 0, .i 0, .nl] := HasZ.of [(.int .i64 0), (.int .i64 0), (.slice none 0 0)] (inferInstance : HasI Try.prog 105 3 40 (.agg #[(.int .i64 0), (.int .i64 0), (.slice none 0 0)])) rfl rfl rfl rfl
instance : HasP Try.prog 105 [(0, 1), (1, 1), (2, 1)] := ⟨_, Try.underlying105, fun w => by kernel_rfl⟩
instance : ZeroE Try.prog 105 Mat ⟨0, 0, []⟩ := ZeroE.mat (inferInstance : HasI Try.prog 105 3 40 (.agg #[(.int .i64 0), (.int .i64 0), (.slice none 0 0)]))
instance : HasZ Try.prog 171 1 [.nl] := HasZ.of [(.slice none 0 0)] (inferInstance : HasI Try.prog 171 1 24 (.slice none 0 0)) rfl rfl rfl rfl
instance {α : Type} [Enc α] : ZeroE Try.prog 171 (List α) [] := ZeroE.lst (inferInstance : HasI Try.prog 171 1 24 (.slice none 0 0))
end Go.Proofs.Ytlmenmacepeeaaa.V
