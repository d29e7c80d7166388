/- Zeros of the types of this translation as abstract cells, places of fields, each checked by the kernel. Written by a program (types.py). -/
import Derived.Test.YtoilkinagffhiaaGt
import Derived.Test.YtoilkinagffhiaaUc
namespace Go.Proofs.Ytoilkinagffhiaa.V
open G
instance : HasZ Try.prog 2 1 [.i 0] := HasZ.of [(.int .i64 0)] (inferInstance : HasI Try.prog 2 1 8 (.int .i64 0)) rfl rfl rfl rfl
instance : ZeroE Try.prog 2 Int 0 := ZeroE.int (inferInstance : HasI Try.prog 2 1 8 (.int .i64 0))
instance : HasZ Try.prog 3 1 [.i 0] := HasZ.of [(.int .i64 0)] (inferInstance : HasI Try.prog 3 1 8 (.int .i64 0)) rfl rfl rfl rfl
instance : ZeroE Try.prog 3 Int 0 := ZeroE.int (inferInstance : HasI Try.prog 3 1 8 (.int .i64 0))
instance : HasZ Try.prog 4 1 [.b false] := HasZ.of [(.bool false)] (inferInstance : HasI Try.prog 4 1 1 (.bool false)) rfl rfl rfl rfl
instance : HasZ Try.prog 22 1 [.nl] := HasZ.of [(.slice none 0 0)] (inferInstance : HasI Try.prog 22 1 24 (.slice none 0 0)) rfl rfl rfl rfl
instance {α : Type} [Enc α] : ZeroE Try.prog 22 (List α) [] := ZeroE.lst (inferInstance : HasI Try.prog 22 1 24 (.slice none 0 0))
instance : HasZ Try.prog 23 3 [.i 0, .nl, .nl] := HasZ.of [(.int .i64 0), (.slice none 0 0), (.slice none 0 0)] (inferInstance : HasI Try.prog 23 3 56 (.agg #[(.int .i64 0), (.slice none 0 0), (.slice none 0 0)])) rfl rfl rfl rfl
instance : HasP Try.prog 23 [(0, 1), (1, 1), (2, 1)] := ⟨_, Try.underlying23, fun w => by kernel_rfl⟩
instance : HasZ Try.prog 24 3 [.i 0, .nl, .nl] := HasZ.of [(.int .i64 0), (.slice none 0 0), (.slice none 0 0)] (inferInstance : HasI Try.prog 24 3 56 (.agg #[(.int .i64 0), (.slice none 0 0), (.slice none 0 0)])) rfl rfl rfl rfl
instance : HasP Try.prog 24 [(0, 1), (1, 1), (2, 1)] := ⟨_, Try.underlying24, fun w => by kernel_rfl⟩
instance : HasZ Try.prog 28 3 [.i 0, .nl, .nl] := HasZ.of [(.int .i64 0), (.slice none 0 0), (.slice none 0 0)] (inferInstance : HasI Try.prog 28 3 56 (.agg #[(.int .i64 0), (.slice none 0 0), (.slice none 0 0)])) rfl rfl rfl rfl
instance : HasP Try.prog 28 [(0, 1), (1, 1), (2, 1)] := ⟨_, Try.underlying28, fun w => by kernel_rfl⟩
instance : HasZ Try.prog 35 1 [.nl] := HasZ.of [(.slice none 0 0)] (inferInstance : HasI Try.prog 35 1 24 (.slice none 0 0)) rfl rfl rfl rfl
instance {α : Type} [Enc α] : ZeroE Try.prog 35 (List α) [] := ZeroE.lst (inferInstance : HasI Try.prog 35 1 24 (.slice none 0 0))
instance : HasZ Try.prog 40 1 [.nl] := HasZ.of [(.slice none 0 0)] (inferInstance : HasI Try.prog 40 1 24 (.slice none 0 0)) rfl rfl rfl rfl
instance {α : Type} [Enc α] : ZeroE Try.prog 40 (List α) [] := ZeroE.lst (inferInstance : HasI Try.prog 40 1 24 (.slice none 0 0))
instance : HasZ Try.prog 76 1 [.nl] := HasZ.of [(.slice none 0 0)] (inferInstance : HasI Try.prog 76 1 24 (.slice none 0 0)) rfl rfl rfl rfl
instance {α : Type} [Enc α] : ZeroE Try.prog 76 (List α) [] := ZeroE.lst (inferInstance : HasI Try.prog 76 1 24 (.slice none 0 0))
instance : HasZ Try.prog 80 3 [.nl, .i 0, .i 0] := HasZ.of [(.slice none 0 0), (.int .i64 0), (.int .i64 0)] (inferInstance : HasI Try.prog 80 3 40 (.agg #[(.slice none 0 0), (.int .i64 0), (.int .i64 0)])) rfl rfl rfl rfl
instance : HasP Try.prog 80 [(0, 1), (1, 1), (2, 1)] := ⟨_, Try.underlying80, fun w => by kernel_rfl⟩
instance : HasZ Try.prog 81 3 [.nl, .i 0, .i 0] := HasZ.of [(.slice none 0 0), (.int .i64 0), (.int .i64 0)] (inferInstance : HasI Try.prog 81 3 40 (.agg #[(.slice none 0 0), (.int .i64 0), (.int .i64 0)])) rfl rfl rfl rfl
instance : HasP Try.prog 81 [(0, 1), (1, 1), (2, 1)] := ⟨_, Try.underlying81, fun w => by kernel_rfl⟩
instance : HasZ Try.prog 102 1 [.nl] := HasZ.of [(.slice none 0 0)] (inferInstance : HasI Try.prog 102 1 24 (.slice none 0 0)) rfl rfl rfl rfl
instance {α : Type} [Enc α] : ZeroE Try.prog 102 (List α) [] := ZeroE.lst (inferInstance : HasI Try.prog 102 1 24 (.slice none 0 0))
instance : HasZ Try.prog 111 2 [.i 0, .nl] := HasZ.of [(.int .i64 0), (.slice none 0 0)] (inferInstance : HasI Try.prog 111 2 32 (.agg #[(.int .i64 0), (.slice none 0 0)])) rfl rfl rfl rfl
instance : HasP Try.prog 111 [(0, 1), (1, 1)] := ⟨_, Try.underlying111, fun w => by kernel_rfl⟩
instance : HasZ Try.prog 112 2 [.i 0, .nl] := HasZ.of [(.int .i64 0), (.slice none 0 0)] (inferInstance : HasI Try.prog 112 2 32 (.agg #[(.int .i64 0), (.slice none 0 0)])) rfl rfl rfl rfl
instance : HasP Try.prog 112 [(0, 1), (1, 1)] := ⟨_, Try.underlying112, fun w => by kernel_rfl⟩
instance : ZeroE Try.prog 112 Pth ⟨0, []⟩ := ZeroE.pth (inferInstance : HasI Try.prog 112 2 32 (.agg #[(.int .i64 0), (.slice none 0 0)]))
end Go.Proofs.Ytoilkinagffhiaa.V
