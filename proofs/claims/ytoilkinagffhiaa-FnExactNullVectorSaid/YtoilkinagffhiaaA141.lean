/- Contracts: products of small numbers with two words, lists of one number repeated. -/
import Derived.Test.YtoilkinagffhiaaUx
import Derived.Test.YtoilkinagffhiaaB1
namespace Go.Proofs.Ytoilkinagffhiaa.V
open Go.RowKit G D
set_option linter.unusedVariables false
set_option linter.unusedSimpArgs false
set_option maxHeartbeats 4000000
set_option maxRecDepth 4000
attribute [local irreducible] AW ARg ARA ARet MRet ASil AC AM
instance : IsFn Try.prog 85 := ⟨⟨Try.f85, Try.func85, by kernel_rfl, by kernel_rfl⟩⟩
instance : IsFn Try.prog 67 := ⟨⟨Try.f67, Try.func67, by kernel_rfl, by kernel_rfl⟩⟩
abbrev u64 (n : Int) : AV := .q fun v => v = .int .u64 n
theorem mul64_1 (n : Int) (hn : 1 ≤ n ∧ n ≤ 5) : AC Try.prog 85 [u64 1, u64 n] [u64 0, u64 n] := by
  have : n = 1 ∨ n = 2 ∨ n = 3 ∨ n = 4 ∨ n = 5 := by omega
  rcases this with e | e | e | e | e <;> subst e <;>
  · refine AC.go Try.func85 Try.ntmps85 rfl rfl fun w0 hw => ?_; simp [WfL, WfA, E_length, Enc.enc, In64] at hw
    repeat' first | refine s1 ?_ | (refine kR ?_; first | refine F.sil (A.binC rfl rfl (fun _ => rfl) rfl) rfl rfl ?_) | fail
    (refine kZ ?_; exact F.ret rfl)
theorem mul_1 (n : Int) (hn : 1 ≤ n ∧ n ≤ 5) : AC Try.prog 67 [u64 1, u64 n] [u64 0, u64 n] := by
  refine AC.go Try.func67 Try.ntmps67 rfl rfl fun w0 hw => ?_; simp [WfL, WfA, E_length, Enc.enc, In64] at hw
  have hM := mul64_1 n hn
  repeat' first | refine s1 ?_ | (refine kR ?_; first | refine F.c (hM) ?_) | fail
  (refine kZ ?_; exact F.ret rfl)
end Go.Proofs.Ytoilkinagffhiaa.V
