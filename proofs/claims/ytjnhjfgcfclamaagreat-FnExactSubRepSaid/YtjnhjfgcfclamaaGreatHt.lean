/- Zeros of the types of this translation as abstract cells, places of fields, each checked by the kernel. Written by a program (types.py). -/
import Derived.Test.YtjnhjfgcfclamaaGreatGt
import Derived.Test.YtjnhjfgcfclamaaGreatUc
namespace Go.Proofs.YtjnhjfgcfclamaaGreat.V
open G
instance : HasZ Tryz.prog 2 1 [.i 0] := HasZ.of [(.int .i64 0)] (inferInstance : HasI Tryz.prog 2 1 8 (.int .i64 0)) rfl rfl rfl rfl
instance : ZeroE Tryz.prog 2 Int 0 := ZeroE.int (inferInstance : HasI Tryz.prog 2 1 8 (.int .i64 0))
instance : HasZ Tryz.prog 3 1 [.i 0] := HasZ.of [(.int .i64 0)] (inferInstance : HasI Tryz.prog 3 1 8 (.int .i64 0)) rfl rfl rfl rfl
instance : ZeroE Tryz.prog 3 Int 0 := ZeroE.int (inferInstance : HasI Tryz.prog 3 1 8 (.int .i64 0))
instance : HasZ Tryz.prog 4 1 [.b false] := HasZ.of [(.bool false)] (inferInstance : HasI Tryz.prog 4 1 1 (.bool false)) rfl rfl rfl rfl
instance : HasZ Tryz.prog 22 1 [.nl] := HasZ.of [(.slice none 0 0)] (inferInstance : HasI Tryz.prog 22 1 24 (.slice none 0 0)) rfl rfl rfl rfl
instance {α : Type} [Enc α] : ZeroE Tryz.prog 22 (List α) [] := ZeroE.lst (inferInstance : HasI Tryz.prog 22 1 24 (.slice none 0 0))
instance : HasZ Tryz.prog 23 3 [.i 0, .nl, .nl] := HasZ.of [(.int .i64 0), (.slice none 0 0), (.slice none 0 0)] (inferInstance : HasI Tryz.prog 23 3 56 (.agg #[(.int .i64 0), (.slice none 0 0), (.slice none 0 0)])) rfl rfl rfl rfl
instance : HasP Tryz.prog 23 [(0, 1), (1, 1), (2, 1)] := ⟨_, Tryz.underlying23, fun w => by kernel_rfl⟩
instance : HasZ Tryz.prog 24 3 [.i 0, .nl, .nl] := HasZ.of [(.int .i64 0), (.slice none 0 0), (.slice none 0 0)] (inferInstance : HasI Tryz.prog 24 3 56 (.agg #[(.int .i64 0), (.slice none 0 0), (.slice none 0 0)])) rfl rfl rfl rfl
instance : HasP Tryz.prog 24 [(0, 1), (1, 1), (2, 1)] := ⟨_, Tryz.underlying24, fun w => by kernel_rfl⟩
instance : HasZ Tryz.prog 25 1 [.nl] := HasZ.of [(.slice none 0 0)] (inferInstance : HasI Tryz.prog 25 1 24 (.slice none 0 0)) rfl rfl rfl rfl
instance {α : Type} [Enc α] : ZeroE Tryz.prog 25 (List α) [] := ZeroE.lst (inferInstance : HasI Tryz.prog 25 1 24 (.slice none 0 0))
instance : HasZ Tryz.prog 26 6 [.i 0, .i 0, .nl, .nl, .nl, .nl] := HasZ.of [(.int .i64 0), (.int .i64 0), (.slice none 0 0), (.slice none 0 0), (.slice none 0 0), (.slice none 0 0)] (inferInstance : HasI Tryz.prog 26 6 112 (.agg #[(.int .i64 0), (.int .i64 0), (.slice none 0 0), (.slice none 0 0), (.slice none 0 0), (.slice none 0 0)])) rfl rfl rfl rfl
instance : HasP Tryz.prog 26 [(0, 1), (1, 3), (4, 1), (5, 1)] := ⟨_, Tryz.underlying26, fun w => by kernel_rfl⟩
instance : HasZ Tryz.prog 27 6 [.i 0, .i 0, .nl, .nl, .nl, .nl] := HasZ.of [(.int .i64 0), (.int .i64 0), (.slice none 0 0), (.slice none 0 0), (.slice none 0 0), (.slice none 0 0)] (inferInstance : HasI Tryz.prog 27 6 112 (.agg #[(.int .i64 0), (.int .i64 0), (.slice none 0 0), (.slice none 0 0), (.slice none 0 0), (.slice none 0 0)])) rfl rfl rfl rfl
instance : HasP Tryz.prog 27 [(0, 1), (1, 3), (4, 1), (5, 1)] := ⟨_, Tryz.underlying27, fun w => by kernel_rfl⟩
instance : ZeroE Tryz.prog 27 Rep ⟨0, ⟨0, [], []⟩, [], []⟩ := ZeroE.rep (inferInstance : HasI Tryz.prog 27 6 112 (.agg #[(.int .i64 0), (.int .i64 0), (.slice none 0 0), (.slice none 0 0), (.slice none 0 0), (.slice none 0 0)]))
instance : HasZ Tryz.prog 28 1 [.nl] := HasZ.of [(.slice none 0 0)] (inferInstance : HasI Tryz.prog 28 1 24 (.slice none 0 0)) rfl rfl rfl rfl
instance {α : Type} [Enc α] : ZeroE Tryz.prog 28 (List α) [] := ZeroE.lst (inferInstance : HasI Tryz.prog 28 1 24 (.slice none 0 0))
instance : HasZ Tryz.prog 31 3 [.i 0, .nl, .nl] := HasZ.of [(.int .i64 0), (.slice none 0 0), (.slice none 0 0)] (inferInstance : HasI Tryz.prog 31 3 56 (.agg #[(.int .i64 0), (.slice none 0 0), (.slice none 0 0)])) rfl rfl rfl rfl
instance : HasP Tryz.prog 31 [(0, 1), (1, 1), (2, 1)] := ⟨_, Tryz.underlying31, fun w => by kernel_rfl⟩
instance : HasZ Tryz.prog 32 1 [.nl] := HasZ.of [(.slice none 0 0)] (inferInstance : HasI Tryz.prog 32 1 24 (.slice none 0 0)) rfl rfl rfl rfl
instance {α : Type} [Enc α] : ZeroE Tryz.prog 32 (List α) [] := ZeroE.lst (inferInstance : HasI Tryz.prog 32 1 24 (.slice none 0 0))
instance : HasZ Tryz.prog 33 6 [.i 0, .i 0, .nl, .nl, .nl, .nl] := HasZ.of [(.int .i64 0), (.int .i64 0), (.slice none 0 0), (.slice none 0 0), (.slice none 0 0), (.slice none 0 0)] (inferInstance : HasI Tryz.prog 33 6 112 (.agg #[(.int .i64 0), (.int .i64 0), (.slice none 0 0), (.slice none 0 0), (.slice none 0 0), (.slice none 0 0)])) rfl rfl rfl rfl
instance : HasP Tryz.prog 33 [(0, 1), (1, 3), (4, 1), (5, 1)] := ⟨_, Tryz.underlying33, fun w => by kernel_rfl⟩
instance : HasZ Tryz.prog 34 6 [.i 0, .i 0, .nl, .nl, .nl, .nl] := HasZ.of [(.int .i64 0), (.int .i64 0), (.slice none 0 0), (.slice none 0 0), (.slice none 0 0), (.slice none 0 0)] (inferInstance : HasI Tryz.prog 34 6 112 (.agg #[(.int .i64 0), (.int .i64 0), (.slice none 0 0), (.slice none 0 0), (.slice none 0 0), (.slice none 0 0)])) rfl rfl rfl rfl
instance : HasP Tryz.prog 34 [(0, 1), (1, 3), (4, 1), (5, 1)] := ⟨_, Tryz.underlying34, fun w => by kernel_rfl⟩
instance : ZeroE Tryz.prog 34 Rep ⟨0, ⟨0, [], []⟩, [], []⟩ := ZeroE.rep (inferInstance : HasI Tryz.prog 34 6 112 (.agg #[(.int .i64 0), (.int .i64 0), (.slice none 0 0), (.slice none 0 0), (.slice none 0 0), (.slice none 0 0)]))
instance : HasZ Tryz.prog 38 1 [.nl] := HasZ.of [(.slice none 0 0)] (inferInstance : HasI Tryz.prog 38 1 24 (.slice none 0 0)) rfl rfl rfl rfl
instance {α : Type} [Enc α] : ZeroE Tryz.prog 38 (List α) [] := ZeroE.lst (inferInstance : HasI Tryz.prog 38 1 24 (.slice none 0 0))
instance : HasZ Tryz.prog 47 1 [.nl] := HasZ.of [(.slice none 0 0)] (inferInstance : HasI Tryz.prog 47 1 24 (.slice none 0 0)) rfl rfl rfl rfl
instance {α : Type} [Enc α] : ZeroE Tryz.prog 47 (List α) [] := ZeroE.lst (inferInstance : HasI Tryz.prog 47 1 24 (.slice none 0 0))
instance : HasZ Tryz.prog 69 2 [.i 0, .nl] := HasZ.of [(.int .i64 0), (.slice none 0 0)] (inferInstance : HasI Tryz.prog 69 2 32 (.agg #[(.int .i64 0), (.slice none 0 0)])) rfl rfl rfl rfl
instance : HasP Tryz.prog 69 [(0, 1), (1, 1)] := ⟨_, Tryz.underlying69, fun w => by kernel_rfl⟩
instance : HasZ Tryz.prog 70 2 [.i 0, .nl] := HasZ.of [(.int .i64 0), (.slice none 0 0)] (inferInstance : HasI Tryz.prog 70 2 32 (.agg #[(.int .i64 0), (.slice none 0 0)])) rfl rfl rfl rfl
instance : HasP Tryz.prog 70 [(0, 1), (1, 1)] := ⟨_, Tryz.underlying70, fun w => by kernel_rfl⟩
instance : ZeroE Tryz.prog 70 Spc ⟨0, []⟩ := ZeroE.spc (inferInstance : HasI Tryz.prog 70 2 32 (.agg #[(.int .i64 0), (.slice none 0 0)]))
instance : HasZ Tryz.prog 72 2 [.i 0, .nl] := HasZ.of [(.int .i64 0), (.slice none 0 0)] (inferInstance : HasI Tryz.prog 72 2 32 (.agg #[(.int .i64 0), (.slice none 0 0)])) rfl rfl rfl rfl
instance : HasP Tryz.prog 72 [(0, 1), (1, 1)] := ⟨_, Tryz.underlying72, fun w => by kernel_rfl⟩
instance : ZeroE Tryz.prog 72 Spc ⟨0, []⟩ := ZeroE.spc (inferInstance : HasI Tryz.prog 72 2 32 (.agg #[(.int .i64 0), (.slice none 0 0)]))
instance : HasZ Tryz.prog 73 3 [.i 0, .i 0, .nl] := HasZ.of [(.int .i64 0), (.int .i64 0), (.slice none 0 0)] (inferInstance : HasI Tryz.prog 73 3 40 (.agg #[(.int .i64 0), (.int .i64 0), (.slice none 0 0)])) rfl rfl rfl rfl
instance : HasP Tryz.prog 73 [(0, 1), (1, 1), (2, 1)] := ⟨_, Tryz.underlying73, fun w => by kernel_rfl⟩
instance : HasZ Tryz.prog 74 3 [.i 0, .i 0, .nl] := HasZ.of [(.int .i64 0), (.int .i64 0), (.slice none 0 0)] (inferInstance : HasI Tryz.prog 74 3 40 (.agg #[(.int .i64 0), (.int .i64 0), (.slice none 0 0)])) rfl rfl rfl rfl
instance : HasP Tryz.prog 74 [(0, 1), (1, 1), (2, 1)] := ⟨_, Tryz.underlying74, fun w => by kernel_rfl⟩
instance : ZeroE Tryz.prog 74 Mat ⟨0, 0, []⟩ := ZeroE.mat (inferInstance : HasI Tryz.prog 74 3 40 (.agg #[(.int .i64 0), (.int .i64 0), (.slice none 0 0)]))
instance : HasZ Tryz.prog 99 3 [.i 0, .i 0, .nl] := HasZ.of [(.int .i64 0), (.int .i64 0), (.slice none 0 0)] (inferInstance : HasI Tryz.prog 99 3 40 (.agg #[(.int .i64 0), (.int .i64 0), (.slice none 0 0)])) rfl rfl rfl rfl
instance : HasP Tryz.prog 99 [(0, 1), (1, 1), (2, 1)] := ⟨_, Tryz.underlying99, fun w => by kernel_rfl⟩
instance : ZeroE Tryz.prog 99 Mat ⟨0, 0, []⟩ := ZeroE.mat (inferInstance : HasI Tryz.prog 99 3 40 (.agg #[(.int .i64 0), (.int .i64 0), (.slice none 0 0)]))
instance : HasZ Tryz.prog 137 1 [.nl] := HasZ.of [(.slice none 0 0)] (inferInstance : HasI Tryz.prog 137 1 24 (.slice none 0 0)) rfl rfl rfl rfl
instance {α : Type} [Enc α] : ZeroE Tryz.prog 137 (List α) [] := ZeroE.lst (inferInstance : HasI Tryz.prog 137 1 24 (.slice none 0 0))
instance : HasZ Tryz.prog 140 2 [.i 0, .nl] := HasZ.of [(.int .i64 0), (.slice none 0 0)] (inferInstance : HasI Tryz.prog 140 2 32 (.agg #[(.int .i64 0), (.slice none 0 0)])) rfl rfl rfl rfl
instance : HasP Tryz.prog 140 [(0, 1), (1, 1)] := ⟨_, Tryz.underlying140, fun w => by kernel_rfl⟩
instance : HasZ Tryz.prog 141 2 [.i 0, .nl] := HasZ.of [(.int .i64 0), (.slice none 0 0)] (inferInstance : HasI Tryz.prog 141 2 32 (.agg #[(.int .i64 0), (.slice none 0 0)])) rfl rfl rfl rfl
instance : HasP Tryz.prog 141 [(0, 1), (1, 1)] := ⟨_, Tryz.underlying141, fun w => by kernel_rfl⟩
instance : ZeroE Tryz.prog 141 Pth ⟨0, []⟩ := ZeroE.pth (inferInstance : HasI Tryz.prog 141 2 32 (.agg #[(.int .i64 0), (.slice none 0 0)]))
instance : HasZ Tryz.prog 175 1 [.nl] := HasZ.of [(.slice none 0 0)] (inferInstance : HasI Tryz.prog 175 1 24 (.slice none 0 0)) rfl rfl rfl rfl
instance {α : Type} [Enc α] : ZeroE Tryz.prog 175 (List α) [] := ZeroE.lst (inferInstance : HasI Tryz.prog 175 1 24 (.slice none 0 0))
end Go.Proofs.YtjnhjfgcfclamaaGreat.V
