/- Zeros of the types of this translation as abstract cells, places of fields, each checked by the kernel. Written by a program (types.py). -/
import Derived.Test.YtedjajokbdokhaaGreatGt
import Derived.Test.YtedjajokbdokhaaGreatUc
namespace Go.Proofs.YtedjajokbdokhaaGreat.V
open G
instance : HasZ Tryz.prog 2 1 [.i 0] := HasZ.of [(.int .i64 0)] (inferInstance : HasI Tryz.prog 2 1 8 (.int .i64 0)) rfl rfl rfl rfl
instance : ZeroE Tryz.prog 2 Int 0 := ZeroE.int (inferInstance : HasI Tryz.prog 2 1 8 (.int .i64 0))
instance : HasZ Tryz.prog 3 1 [.i 0] := HasZ.of [(.int .i64 0)] (inferInstance : HasI Tryz.prog 3 1 8 (.int .i64 0)) rfl rfl rfl rfl
instance : ZeroE Tryz.prog 3 Int 0 := ZeroE.int (inferInstance : HasI Tryz.prog 3 1 8 (.int .i64 0))
instance : HasZ Tryz.prog 4 1 [.b false] := HasZ.of [(.bool false)] (inferInstance : HasI Tryz.prog 4 1 1 (.bool false)) rfl rfl rfl rfl
instance : HasZ Tryz.prog 22 1 [.nl] := HasZ.of [(.slice none 0 0)] (inferInstance : HasI Tryz.prog 22 1 24 (.slice none 0 0)) rfl rfl rfl rfl
instance {α : Type} [Enc α] : ZeroE Tryz.prog 22 (List α) [] := ZeroE.lst (inferInstance : HasI Tryz.prog 22 1 24 (.slice none 0 0))
instance : HasZ Tryz.prog 23 3 [.i 0, .nl, .nl] := HasZ.of [(.int .i64 0), (.slice none 0 0), (.slice none 0 0)] (inferInstance : HasI Tryz.prog 23 3 56 (.agg #[(.int .i64 0), (.slice none 0 0), (.slice none 0 0)])) rfl rfl rfl rfl
instance : HasP Tryz.prog 23 [(0, 1), (1, 1), (2, 1)] := ⟨_, Tryz.underlying23, fun w => by kernel_rfl⟩
instance : HasZ Tryz.prog 24 3 [.i 0, .nl, .nl] := HasZ.of [(.int .i64 0), (.slice none 0 0), (.slice none 0 0)] (inferInstance : HasI Tryz.prog 24 3 56 (.agg #[(.int .i64 0), (.slice none 0 0), (.slice none 0 0)])) rfl rfl rfl rfl
instance : HasP Tryz.prog 24 [(0, 1), (1, 1), (2, 1)] := ⟨_, Tryz.underlying24, fun w => by kernel_rfl⟩
instance : HasZ Tryz.prog 25 1 [.nl] := HasZ.of [(.slice none 0 0)] (inferInstance : HasI Tryz.prog 25 1 24 (.slice none 0 0)) rfl rfl rfl rfl
instance {α : Type} [Enc α] : ZeroE Tryz.prog 25 (List α) [] := ZeroE.lst (inferInstance : HasI Tryz.prog 25 1 24 (.slice none 0 0))
instance : HasZ Tryz.prog 26 6 [.i 0, .i 0, .nl, .nl, .nl, .nl] := HasZ.of [(.int .i64 0), (.int .i64 0), (.slice none 0 0), (.slice none 0 0), (.slice none 0 0), (.slice none 0 0)] (inferInstance : HasI Tryz.prog 26 6 112 (.agg #[(.int .i64 0), (.int .i64 0), (.slice none 0 0), (.slice none 0 0), (.slice none 0 0), (.slice none 0 0)])) rfl rfl rfl rfl
instance : HasP Tryz.prog 26 [(0, 1), (1, 3), (4, 1), (5, 1)] := ⟨_, Tryz.underlying26, fun w => by kernel_rfl⟩
instance : HasZ Tryz.prog 27 6 [.i 0, .i 0, .nl, .nl, .nl, .nl] := HasZ.of [(.int .i64 0), (.int .i64 0), (.slice none 0 0), (.slice none 0 0), (.slice none 0 0), (.slice none 0 0)] (inferInstance : HasI Tryz.prog 27 6 112 (.agg #[(.int .i64 0), (.int .i64 0), (.slice none 0 0), (.slice none 0 0), (.slice none 0 0), (.slice none 0 0)])) rfl rfl rfl rfl
instance : HasP Tryz.prog 27 [(0, 1), (1, 3), (4, 1), (5, 1)] := ⟨_, Tryz.underlying27, fun w => by kernel_rfl⟩
instance : ZeroE Tryz.prog 27 Rep ⟨0, ⟨0, [], []⟩, [], []⟩ := ZeroE.rep (inferInstance : HasI Tryz.prog 27 6 112 (.agg #[(.int .i64 0), (.int .i64 0), (.slice none 0 0), (.slice none 0 0), (.slice none 0 0), (.slice none 0 0)]))
instance : HasZ Tryz.prog 31 3 [.i 0, .nl, .nl] := HasZ.of [(.int .i64 0), (.slice none 0 0), (.slice none 0 0)] (inferInstance : HasI Tryz.prog 31 3 56 (.agg #[(.int .i64 0), (.slice none 0 0), (.slice none 0 0)])) rfl rfl rfl rfl
instance : HasP Tryz.prog 31 [(0, 1), (1, 1), (2, 1)] := ⟨_, Tryz.underlying31, fun w => by kernel_rfl⟩
instance : HasZ Tryz.prog 32 1 [.nl] := HasZ.of [(.slice none 0 0)] (inferInstance : HasI Tryz.prog 32 1 24 (.slice none 0 0)) rfl rfl rfl rfl
instance {α : Type} [Enc α] : ZeroE Tryz.prog 32 (List α) [] := ZeroE.lst (inferInstance : HasI Tryz.prog 32 1 24 (.slice none 0 0))
instance : HasZ Tryz.prog 33 6 [.i 0, .i 0, .nl, .nl, .nl, .nl] := HasZ.of [(.int .i64 0), (.int .i64 0), (.slice none 0 0), (.slice none 0 0), (.slice none 0 0), (.slice none 0 0)] (inferInstance : HasI Tryz.prog 33 6 112 (.agg #[(.int .i64 0), (.int .i64 0), (.slice none 0 0), (.slice none 0 0), (.slice none 0 0), (.slice none 0 0)])) rfl rfl rfl rfl
instance : HasP Tryz.prog 33 [(0, 1), (1, 3), (4, 1), (5, 1)] := ⟨_, Tryz.underlying33, fun w => by kernel_rfl⟩
instance : HasZ Tryz.prog 34 6 [.i 0, .i 0, .nl, .nl, .nl, .nl] := HasZ.of [(.int .i64 0), (.int .i64 0), (.slice none 0 0), (.slice none 0 0), (.slice none 0 0), (.slice none 0 0)] (inferInstance : HasI Tryz.prog 34 6 112 (.agg #[(.int .i64 0), (.int .i64 0), (.slice none 0 0), (.slice none 0 0), (.slice none 0 0), (.slice none 0 0)])) rfl rfl rfl rfl
instance : HasP Tryz.prog 34 [(0, 1), (1, 3), (4, 1), (5, 1)] := ⟨_, Tryz.underlying34, fun w => by kernel_rfl⟩
instance : ZeroE Tryz.prog 34 Rep ⟨0, ⟨0, [], []⟩, [], []⟩ := ZeroE.rep (inferInstance : HasI Tryz.prog 34 6 112 (.agg #[(.int .i64 0), (.int .i64 0), (.slice none 0 0), (.slice none 0 0), (.slice none 0 0), (.slice none 0 0)]))
instance : HasZ Tryz.prog 40 1 [.nl] := HasZ.of [(.slice none 0 0)] (inferInstance : HasI Tryz.prog 40 1 24 (.slice none 0 0)) rfl rfl rfl rfl
instance {α : Type} [Enc α] : ZeroE Tryz.prog 40 (List α) [] := ZeroE.lst (inferInstance : HasI Tryz.prog 40 1 24 (.slice none 0 0))
instance : HasZ Tryz.prog 42 1 [.nl] := HasZ.of [(.slice none 0 0)] (inferInstance : HasI Tryz.prog 42 1 24 (.slice none 0 0)) rfl rfl rfl rfl
instance {α : Type} [Enc α] : ZeroE Tryz.prog 42 (List α) [] := ZeroE.lst (inferInstance : HasI Tryz.prog 42 1 24 (.slice none 0 0))
instance : HasZ Tryz.prog 55 1 [.nl] := HasZ.of [(.slice none 0 0)] (inferInstance : HasI Tryz.prog 55 1 24 (.slice none 0 0)) rfl rfl rfl rfl
instance {α : Type} [Enc α] : ZeroE Tryz.prog 55 (List α) [] := ZeroE.lst (inferInstance : HasI Tryz.prog 55 1 24 (.slice none 0 0))
instance : HasZ Tryz.prog 66 3 [.i 0, .i 0, .nl] := HasZ.of [(.int .i64 0), (.int .i64 0), (.slice none 0 0)] (inferInstance : HasI Tryz.prog 66 3 40 (.agg #[(.int .i64 0), (.int .i64 0), (.slice none 0 0)])) rfl rfl rfl rfl
instance : HasP Tryz.prog 66 [(0, 1), (1, 1), (2, 1)] := ⟨_, Tryz.underlying66, fun w => by kernel_rfl⟩
instance : HasZ Tryz.prog 67 3 [.i 0, .i 0, .nl] := HasZ.of [(.int .i64 0), (.int .i64 0), (.slice none 0 0)] (inferInstance : HasI Tryz.prog 67 3 40 (.agg #[(.int .i64 0), (.int .i64 0), (.slice none 0 0)])) rfl rfl rfl rfl
instance : HasP Tryz.prog 67 [(0, 1), (1, 1), (2, 1)] := ⟨_, Tryz.underlying67, fun w => by kernel_rfl⟩
instance : ZeroE Tryz.prog 67 Mat ⟨0, 0, []⟩ := ZeroE.mat (inferInstance : HasI Tryz.prog 67 3 40 (.agg #[(.int .i64 0), (.int .i64 0), (.slice none 0 0)]))
instance : HasZ Tryz.prog 71 3 [.i 0, .i 0, .nl] := HasZ.of [(.int .i64 0), (.int .i64 0), (.slice none 0 0)] (inferInstance : HasI Tryz.prog 71 3 40 (.agg #[(.int .i64 0), (.int .i64 0), (.slice none 0 0)])) rfl rfl rfl rfl
instance : HasP Tryz.prog 71 [(0, 1), (1, 1), (2, 1)] := ⟨_, Tryz.underlying71, fun w => by kernel_rfl⟩
instance : ZeroE Tryz.prog 71 Mat ⟨0, 0, []⟩ := ZeroE.mat (inferInstance : HasI Tryz.prog 71 3 40 (.agg #[(.int .i64 0), (.int .i64 0), (.slice none 0 0)]))
instance : HasZ Tryz.prog 78 2 [.i 0, .nl] := HasZ.of [(.int .i64 0), (.slice none 0 0)] (inferInstance : HasI Tryz.prog 78 2 32 (.agg #[(.int .i64 0), (.slice none 0 0)])) rfl rfl rfl rfl
instance : HasP Tryz.prog 78 [(0, 1), (1, 1)] := ⟨_, Tryz.underlying78, fun w => by kernel_rfl⟩
instance : HasZ Tryz.prog 79 2 [.i 0, .nl] := HasZ.of [(.int .i64 0), (.slice none 0 0)] (inferInstance : HasI Tryz.prog 79 2 32 (.agg #[(.int .i64 0), (.slice none 0 0)])) rfl rfl rfl rfl
instance : HasP Tryz.prog 79 [(0, 1), (1, 1)] := ⟨_, Tryz.underlying79, fun w => by kernel_rfl⟩
instance : ZeroE Tryz.prog 79 Spc ⟨0, []⟩ := ZeroE.spc (inferInstance : HasI Tryz.prog 79 2 32 (.agg #[(.int .i64 0), (.slice none 0 0)]))
instance : HasZ Tryz.prog 81 2 [.i 0, .nl] := HasZ.of [(.int .i64 0), (.slice none 0 0)] (inferInstance : HasI Tryz.prog 81 2 32 (.agg #[(.int .i64 0), (.slice none 0 0)])) rfl rfl rfl rfl
instance : HasP Tryz.prog 81 [(0, 1), (1, 1)] := ⟨_, Tryz.underlying81, fun w => by kernel_rfl⟩
instance : ZeroE Tryz.prog 81 Spc ⟨0, []⟩ := ZeroE.spc (inferInstance : HasI Tryz.prog 81 2 32 (.agg #[(.int .i64 0), (.slice none 0 0)]))
instance : HasZ Tryz.prog 152 1 [.nl] := HasZ.of [(.slice none 0 0)] (inferInstance : HasI Tryz.prog 152 1 24 (.slice none 0 0)) rfl rfl rfl rfl
instance {α : Type} [Enc α] : ZeroE Tryz.prog 152 (List α) [] := ZeroE.lst (inferInstance : HasI Tryz.prog 152 1 24 (.slice none 0 0))
instance : HasZ Tryz.prog 154 1 [.nl] := HasZ.of [(.slice none 0 0)] (inferInstance : HasI Tryz.prog 154 1 24 (.slice none 0 0)) rfl rfl rfl rfl
instance {α : Type} [Enc α] : ZeroE Tryz.prog 154 (List α) [] := ZeroE.lst (inferInstance : HasI Tryz.prog 154 1 24 (.slice none 0 0))
instance : HasZ Tryz.prog 167 2 [.i 0, .nl] := HasZ.of [(.int .i64 0), (.slice none 0 0)] (inferInstance : HasI Tryz.prog 167 2 32 (.agg #[(.int .i64 0), (.slice none 0 0)])) rfl rfl rfl rfl
instance : HasP Tryz.prog 167 [(0, 1), (1, 1)] := ⟨_, Tryz.underlying167, fun w => by kernel_rfl⟩
instance : HasZ Tryz.prog 168 2 [.i 0, .nl] := HasZ.of [(.int .i64 0), (.slice none 0 0)] (inferInstance : HasI Tryz.prog 168 2 32 (.agg #[(.int .i64 0), (.slice none 0 0)])) rfl rfl rfl rfl
instance : HasP Tryz.prog 168 [(0, 1), (1, 1)] := ⟨_, Tryz.underlying168, fun w => by kernel_rfl⟩
instance : ZeroE Tryz.prog 168 Pth ⟨0, []⟩ := ZeroE.pth (inferInstance : HasI Tryz.prog 168 2 32 (.agg #[(.int .i64 0), (.slice none 0 0)]))
end Go.Proofs.YtedjajokbdokhaaGreat.V
