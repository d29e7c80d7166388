/- Joined: Contracts: all of a space, meets, the socle, as the reference builds them. Contracts: meets and the socle, as the reference builds them; dimensions of the socle. How much the socle's memory holds, and that of lists of valid spaces. No program is walked.. -/
import Derived.Test.YtanembgijdkagaaQpUq
import Derived.Test.YtanembgijdkagaaQpB7
import Derived.Test.YtanembgijdkagaaQpB6
import Derived.Test.YtanembgijdkagaaQpA15
import Derived.Test.YtanembgijdkagaaQpA6
import Derived.Test.YtanembgijdkagaaQpB4
import Derived.Test.YtanembgijdkagaaQpA23
import Derived.Test.YtanembgijdkagaaQpUc
import Derived.Lib.MinMax
import Derived.Test.YtanembgijdkagaaQpUi
import Derived.Test.YtanembgijdkagaaQpUm
namespace Go.Proofs.Ytanembgijdkagaa.V
open V.Enc (enc)
open Go.RowKit G D
set_option linter.unusedVariables false
set_option linter.unusedSimpArgs false
set_option maxHeartbeats 4000000
set_option maxRecDepth 4000
attribute [local irreducible] AW ARg ARA ARet MRet ASil AC AM
theorem l3Identity_a (n : Nat) (hn : n ≤ 1000) : AC Try.prog 62 [.i (n : Int)] [.agg (enc true (tm n n idF))] := by
  refine AC.go Try.func62 Try.ntmps62 rfl rfl fun w0 hw => ?_; simp [WfL, WfA, E_length, Enc.enc, In64] at hw
  have hZ := l3ZeroT_a n n (by omega) (by omega)
  repeat' first | refine s1 ?_ | refine q1 ?_ | (refine kR ?_; first | refine F.c (hZ) ?_) | fail
  refine F.loop (σ := Nat) [4, 8, 9, 10, 11, 12, 13, 14, 15, 16, 17, 18, 19, 20] (fun i => [(4, .i i)]) (fun i => [(1, .live false 1 (E true (tab n n (idK i))))]) (fun i => i ≤ n) (fun i => n - i) 0 ⟨rfl, trivial⟩ ⟨obE (by rw [idK_zero]), trivial⟩ (Nat.zero_le _) ?_
  rintro i i1
  by_cases hi : i < n
  · obtain ⟨t1, t2⟩ := tab_in (i := i) (j := i) (r := n) (c := n) hi hi (by omega) (by omega)
    repeat' first | refine s1 ?_ | refine q1 ?_ | fail
    exact ⟨i + 1, F.fit ⟨rfl, trivial⟩ ⟨obE (by rw [idK_set]), trivial⟩, by omega, by omega⟩
  · obtain rfl : i = n := by omega
    rw [idK_all]
    repeat' first | refine s1 ?_ | refine q1 ?_ | fail
    (refine kZ ?_; exact F.ret rfl)
end Go.Proofs.Ytanembgijdkagaa.V
namespace Go.Proofs.Ytanembgijdkagaa.V
open Go.RowKit G D
set_option linter.unusedVariables false
set_option linter.unusedSimpArgs false
set_option maxHeartbeats 4000000
set_option maxRecDepth 4000
attribute [local irreducible] AW ARg ARA ARet MRet ASil AC AM ARI
end Go.Proofs.Ytanembgijdkagaa.V
namespace Go.Proofs.Ytanembgijdkagaa.V
open Go.RowKit G D
set_option linter.unusedVariables false
set_option linter.unusedSimpArgs false
set_option maxHeartbeats 400000
end Go.Proofs.Ytanembgijdkagaa.V
