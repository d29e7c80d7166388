/- Zeros of the types of this translation as abstract cells, places of fields, each checked by the kernel. Written by a program (types.py). -/
import Derived.Test.YtedjajokbdokhaaGt
import Derived.Test.YtedjajokbdokhaaUc
namespace Go.Proofs.Ytedjajokbdokhaa.V
open G
instance : HasZ Try.prog 2 1 [.i 0] := HasZ.of [(.int .i64 0)] (inferInstance : HasI Try.prog 2 1 8 (.int .i64 0)) rfl rfl rfl rfl
instance : ZeroE Try.prog 2 Int 0 := ZeroE.int (inferInstance : HasI Try.prog 2 1 8 (.int .i64 0))
instance : HasZ Try.prog 3 1 [.i 0] := HasZ.of [(.int .i64 0)] (inferInstance : HasI Try.prog 3 1 8 (.int .i64 0)) rfl rfl rfl rfl
instance : ZeroE Try.prog 3 Int 0 := ZeroE.int (inferInstance : HasI Try.prog 3 1 8 (.int .i64 0))
instance : HasZ Try.prog 4 1 [.b false] := HasZ.of [(.bool false)] (inferInstance : HasI Try.prog 4 1 1 (.bool false)) rfl rfl rfl rfl
instance : HasZ Try.prog 22 1 [.nl] := HasZ.of [(.slice none 0 0)] (inferInstance : HasI Try.prog 22 1 24 (.slice none 0 0)) rfl rfl rfl rfl
instance {α : Type} [Enc α] : ZeroE Try.prog 22 (List α) [] := ZeroE.lst (inferInstance : HasI Try.prog 22 1 24 (.slice none 0 0))
instance : HasZ Try.prog 23 3 [.i 0, .nl, .nl] := HasZ.of [(.int .i64 0), (.slice none 0 0), (.slice none 0 0)] (inferInstance : HasI Try.prog 23 3 56 (.agg #[(.int .i64 0), (.slice none 0 0), (.slice none 0 0)])) rfl rfl rfl rfl
instance : HasP Try.prog 23 [(0, 1), (1, 1), (2, 1)] := ⟨_, Try.underlying23, fun w => by kernel_rfl⟩
instance : HasZ Try.prog 24 3 [.i 0, .nl, .nl] := HasZ.of [(.int .i64 0), (.slice none 0 0), (.slice none 0 0)] (inferInstance : HasI Try.prog 24 3 56 (.agg #[(.int .i64 0), (.slice none 0 0), (.slice none 0 0)])) rfl rfl rfl rfl
instance : HasP Try.prog 24 [(0, 1), (1, 1), (2, 1)] := ⟨_, Try.underlying24, fun w => by kernel_rfl⟩
instance : HasZ Try.prog 25 1 [.nl] := HasZ.of [(.slice none 0 0)] (inferInstance : HasI Try.prog 25 1 24 (.slice none 0 0)) rfl rfl rfl rfl
instance {α : Type} [Enc α] : ZeroE Try.prog 25 (List α) [] := ZeroE.lst (inferInstance : HasI Try.prog 25 1 24 (.slice none 0 0))
instance : HasZ Try.prog 26 6 [.i 0, .i 0, .nl, .nl, .nl, .nl] := HasZ.of [(.int .i64 0), (.int .i64 0), (.slice none 0 0), (.slice none 0 0), (.slice none 0 0), (.slice none 0 0)] (inferInstance : HasI Try.prog 26 6 112 (.agg #[(.int .i64 0), (.int .i64 0), (.slice none 0 0), (.slice none 0 0), (.slice none 0 0), (.slice none 0 0)])) rfl rfl rfl rfl
instance : HasP Try.prog 26 [(0, 1), (1, 3), (4, 1), (5, 1)] := ⟨_, Try.underlying26, fun w => by kernel_rfl⟩
instance : HasZ Try.prog 27 6 [.i 0, .i 0, .nl, .nl, .nl, .nl] := HasZ.of [(.int .i64 0), (.int .i64 0), (.slice none 0 0), (.slice none 0 0), (.slice none 0 0), (.slice none 0 0)] (inferInstance : HasI Try.prog 27 6 112 (.agg #[(.int .i64 0), (.int .i64 0), (.slice none 0 0), (.slice none 0 0), (.slice none 0 0), (.slice none 0 0)])) rfl rfl rfl rfl
instance : HasP Try.prog 27 [(0, 1), (1, 3), (4, 1), (5, 1)] := ⟨_, Try.underlying27, fun w => by kernel_rfl⟩
instance : ZeroE Try.prog 27 Rep ⟨0, ⟨0, [], []⟩, [], []⟩ := ZeroE.rep (inferInstance : HasI Try.prog 27 6 112 (.agg #[(.int .i64 0), (.int .i64 0), (.slice none 0 0), (.slice none 0 0), (.slice none 0 0), (.slice none 0 0)]))
instance : HasZ Try.prog 30 3 [.i 0, .nl, .nl] := HasZ.of [(.int .i64 0), (.slice none 0 0), (.slice none 0 0)] (inferInstance : HasI Try.prog 30 3 56 (.agg #[(.int .i64 0), (.slice none 0 0), (.slice none 0 0)])) rfl rfl rfl rfl
instance : HasP Try.prog 30 [(0, 1), (1, 1), (2, 1)] := ⟨_, Try.underlying30, fun w => by kernel_rfl⟩
instance : HasZ Try.prog 31 1 [.nl] := HasZ.of [(.slice none 0 0)] (inferInstance : HasI Try.prog 31 1 24 (.slice none 0 0)) rfl rfl rfl rfl
instance {α : Type} [Enc α] : ZeroE Try.prog 31 (List α) [] := ZeroE.lst (inferInstance : HasI Try.prog 31 1 24 (.slice none 0 0))
instance : HasZ Try.prog 32 6 [.i 0, .i 0, .nl, .nl, .nl, .nl] := HasZ.of [(.int .i64 0), (.int .i64 0), (.slice none 0 0), (.slice none 0 0), (.slice none 0 0), (.slice none 0 0)] (inferInstance : HasI Try.prog 32 6 112 (.agg #[(.int .i64 0), (.int .i64 0), (.slice none 0 0), (.slice none 0 0), (.slice none 0 0), (.slice none 0 0)])) rfl rfl rfl rfl
instance : HasP Try.prog 32 [(0, 1), (1, 3), (4, 1), (5, 1)] := ⟨_, Try.underlying32, fun w => by kernel_rfl⟩
instance : HasZ Try.prog 33 6 [.i 0, .i 0, .nl, .nl, .nl, .nl] := HasZ.of [(.int .i64 0), (.int .i64 0), (.slice none 0 0), (.slice none 0 0), (.slice none 0 0), (.slice none 0 0)] (inferInstance : HasI Try.prog 33 6 112 (.agg #[(.int .i64 0), (.int .i64 0), (.slice none 0 0), (.slice none 0 0), (.slice none 0 0), (.slice none 0 0)])) rfl rfl rfl rfl
instance : HasP Try.prog 33 [(0, 1), (1, 3), (4, 1), (5, 1)] := ⟨_, Try.underlying33, fun w => by kernel_rfl⟩
instance : ZeroE Try.prog 33 Rep ⟨0, ⟨0, [], []⟩, [], []⟩ := ZeroE.rep (inferInstance : HasI Try.prog 33 6 112 (.agg #[(.int .i64 0), (.int .i64 0), (.slice none 0 0), (.slice none 0 0), (.slice none 0 0), (.slice none 0 0)]))
instance : HasZ Try.prog 41 1 [.nl] := HasZ.of [(.slice none 0 0)] (inferInstance : HasI Try.prog 41 1 24 (.slice none 0 0)) rfl rfl rfl rfl
instance {α : Type} [Enc α] : ZeroE Try.prog 41 (List α) [] := ZeroE.lst (inferInstance : HasI Try.prog 41 1 24 (.slice none 0 0))
instance : HasZ Try.prog 52 1 [.nl] := HasZ.of [(.slice none 0 0)] (inferInstance : HasI Try.prog 52 1 24 (.slice none 0 0)) rfl rfl rfl rfl
instance {α : Type} [Enc α] : ZeroE Try.prog 52 (List α) [] := ZeroE.lst (inferInstance : HasI Try.prog 52 1 24 (.slice none 0 0))
instance : HasZ Try.prog 53 2 [.i 0, .nl] := HasZ.of [(.int .i64 0), (.slice none 0 0)] (inferInstance : HasI Try.prog 53 2 32 (.agg #[(.int .i64 0), (.slice none 0 0)])) rfl rfl rfl rfl
instance : HasP Try.prog 53 [(0, 1), (1, 1)] := ⟨_, Try.underlying53, fun w => by kernel_rfl⟩
instance : HasZ Try.prog 54 2 [.i 0, .nl] := HasZ.of [(.int .i64 0), (.slice none 0 0)] (inferInstance : HasI Try.prog 54 2 32 (.agg #[(.int .i64 0), (.slice none 0 0)])) rfl rfl rfl rfl
instance : HasP Try.prog 54 [(0, 1), (1, 1)] := ⟨_, Try.underlying54, fun w => by kernel_rfl⟩
instance : ZeroE Try.prog 54 Spc ⟨0, []⟩ := ZeroE.spc (inferInstance : HasI Try.prog 54 2 32 (.agg #[(.int .i64 0), (.slice none 0 0)]))
instance : HasZ Try.prog 63 3 [.i 0, .i 0, .nl] := HasZ.of [(.int .i64 0), (.int .i64 0), (.slice none 0 0)] (inferInstance : HasI Try.prog 63 3 40 (.agg #[(.int .i64 0), (.int .i64 0), (.slice none 0 0)])) rfl rfl rfl rfl
instance : HasP Try.prog 63 [(0, 1), (1, 1), (2, 1)] := ⟨_, Try.underlying63, fun w => by kernel_rfl⟩
instance : HasZ Try.prog 64 3 [.i 0, .i 0, .nl] := HasZ.of [(.int .i64 0), (.int .i64 0), (.slice none 0 0)] (inferInstance : HasI Try.prog 64 3 40 (.agg #[(.int .i64 0), (.int .i64 0), (.slice none 0 0)])) rfl rfl rfl rfl
instance : HasP Try.prog 64 [(0, 1), (1, 1), (2, 1)] := ⟨_, Try.underlying64, fun w => by kernel_rfl⟩
instance : ZeroE Try.prog 64 Mat ⟨0, 0, []⟩ := ZeroE.mat (inferInstance : HasI Try.prog 64 3 40 (.agg #[(.int .i64 0), (.int .i64 0), (.slice none 0 0)]))
instance : HasZ Try.prog 68 3 [.i 0, .i 0, .nl] := HasZ.of [(.int .i64 0), (.int .i64 0), (.slice none 0 0)] (inferInstance : HasI Try.prog 68 3 40 (.agg #[(.int .i64 0), (.int .i64 0), (.slice none 0 0)])) rfl rfl rfl rfl
instance : HasP Try.prog 68 [(0, 1), (1, 1), (2, 1)] := ⟨_, Try.underlying68, fun w => by kernel_rfl⟩
instance : ZeroE Try.prog 68 Mat ⟨0, 0, []⟩ := ZeroE.mat (inferInstance : HasI Try.prog 68 3 40 (.agg #[(.int .i64 0), (.int .i64 0), (.slice none 0 0)]))
instance : HasZ Try.prog 110 1 [.nl] := HasZ.of [(.slice none 0 0)] (inferInstance : HasI Try.prog 110 1 24 (.slice none 0 0)) rfl rfl rfl rfl
instance {α : Type} [Enc α] : ZeroE Try.prog 110 (List α) [] := ZeroE.lst (inferInstance : HasI Try.prog 110 1 24 (.slice none 0 0))
end Go.Proofs.Ytedjajokbdokhaa.V
