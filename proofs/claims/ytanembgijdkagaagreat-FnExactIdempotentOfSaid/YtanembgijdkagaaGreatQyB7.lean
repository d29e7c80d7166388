/- Joined: Contracts: kernels, as the program finds them. Contracts: all of a space, meets, the socle, as the program builds them. Contracts: the socle, as the program builds it.. -/
import Derived.Test.YtanembgijdkagaaGreatQyUq
import Derived.Test.YtanembgijdkagaaGreatQyB4
import Derived.Test.YtanembgijdkagaaGreatQyB5
import Derived.Test.YtanembgijdkagaaGreatQyB6
import Derived.Test.YtanembgijdkagaaGreatQyA64
namespace Go.Proofs.YtanembgijdkagaaGreat.V
open Go.RowKit G D
set_option linter.unusedVariables false
set_option linter.unusedSimpArgs false
set_option maxHeartbeats 4000000
set_option maxRecDepth 4000
attribute [local irreducible] AW ARg ARA ARet MRet ASil AC AM
end Go.Proofs.YtanembgijdkagaaGreat.V
namespace Go.Proofs.YtanembgijdkagaaGreat.V
open V.Enc (enc)
open Go.RowKit G D
set_option linter.unusedVariables false
set_option linter.unusedSimpArgs false
set_option maxHeartbeats 4000000
set_option maxRecDepth 4000
attribute [local irreducible] AW ARg ARA ARet MRet ASil AC AM
/-- the identity, of which the first k ones are set -/
def idK (k : Nat) : Nat → Nat → Int := fun i j => if i = j ∧ i < k then 1 else 0
theorem idK_zero : idK 0 = fun _ _ => 0 := by funext i j; simp [idK]
theorem idK_set (k : Nat) : updF (idK k) k k 1 = idK (k + 1) := by
  funext i j
  simp only [idK, updF]
  by_cases h1 : i = k
  · subst h1
    by_cases h2 : j = i
    · subst h2; simp
    · have : ¬ i = j := fun h => h2 h.symm
      simp [h2, this]
  · have : i < k + 1 ↔ i < k := by omega
    simp [h1, this]
theorem idK_all (n : Nat) : tab n n (idK n) = tab n n idF := tab_ext fun i hi j hj => by simp [idK, idF, hi]
theorem identity_a (n : Nat) (hn : n ≤ 1000) : AC Tryz.prog 124 [.i (n : Int)] [.agg (enc true (tm n n idF))] := by
  refine AC.go Tryz.func124 Tryz.ntmps124 rfl rfl fun w0 hw => ?_; simp [WfL, WfA, E_length, Enc.enc, In64] at hw
  have hZ := zeroT_a n n (by omega) (by omega)
  repeat' first | refine s1 ?_ | refine q1 ?_ | (refine kR ?_; first | refine F.c (hZ) ?_) | fail
  refine F.loop (σ := Nat) [4, 9, 10, 11, 12, 13, 14, 15, 16, 17, 18, 19, 20] (fun i => [(9, .i i)]) (fun i => [(1, .live false 1 (E true (tab n n (idK i))))]) (fun i => i ≤ n) (fun i => n - i) 0 ⟨rfl, trivial⟩ ⟨obE (by rw [idK_zero]), trivial⟩ (Nat.zero_le _) ?_
  rintro i i1
  by_cases hi : i < n
  · obtain ⟨t1, t2⟩ := tab_in (i := i) (j := i) (r := n) (c := n) hi hi (by omega) (by omega)
    repeat' first | refine s1 ?_ | refine q1 ?_ | fail
    exact ⟨i + 1, F.fit ⟨rfl, trivial⟩ ⟨obE (by rw [idK_set]), trivial⟩, by omega, by omega⟩
  · obtain rfl : i = n := by omega
    rw [idK_all]
    repeat' first | refine s1 ?_ | refine q1 ?_ | fail
    (refine kZ ?_; exact F.ret rfl)
theorem metL_take {p : Int} {a b : Spc} {i : Nat} (hi : i < (metK p a b).length) : (metL p a b).take (i + 1) = (metL p a b).take i ++ [cmbV p a.n.toNat a.b ((metK p a b).getD i default) a.b.length] := by
  have e : (metK p a b).getD i default = (metK p a b)[i] := by simp [hi]
  rw [metL, List.take_succ_eq_append_getElem (by simpa using hi), e]
  simp
theorem metK_vec {p : Int} {a b : Spc} (hp : 2 ≤ p) : VecB p (a.b ++ b.b).length (metK p a b) := kerL_vec hp
end Go.Proofs.YtanembgijdkagaaGreat.V
namespace Go.Proofs.YtanembgijdkagaaGreat.V
open Go.RowKit G D
set_option linter.unusedVariables false
set_option linter.unusedSimpArgs false
set_option maxHeartbeats 4000000
set_option maxRecDepth 4000
attribute [local irreducible] AW ARg ARA ARet MRet ASil AC AM
end Go.Proofs.YtanembgijdkagaaGreat.V
