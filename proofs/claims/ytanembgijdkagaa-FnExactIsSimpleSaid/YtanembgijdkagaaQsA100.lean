/- Contracts: digits, combinations of morphisms by numbers, how many there are, which are isomorphisms. -/
import Derived.Test.YtanembgijdkagaaQsUi
import Derived.Test.YtanembgijdkagaaQsUg
import Derived.Test.YtanembgijdkagaaQsA97
import Derived.Test.YtanembgijdkagaaQsA71
import Derived.Test.YtanembgijdkagaaQsA80
import Derived.Test.YtanembgijdkagaaQsUq
import Derived.Test.YtanembgijdkagaaQsB4
import Derived.Test.YtanembgijdkagaaQsB5
import Derived.Test.YtanembgijdkagaaQsB6
import Derived.Test.YtanembgijdkagaaQsA51
import Derived.Test.YtanembgijdkagaaQsB8
import Derived.Test.YtanembgijdkagaaQsC1
import Derived.Test.YtanembgijdkagaaQsA25
import Derived.Test.YtanembgijdkagaaQsA70
namespace Go.Proofs.Ytanembgijdkagaa.V
open Go.RowKit G D
set_option linter.unusedVariables false
set_option linter.unusedSimpArgs false
set_option maxHeartbeats 4000000
set_option maxRecDepth 4000
attribute [local irreducible] AW ARg ARA ARet MRet ASil AC AM ARI
theorem vectorOf_a (p c : Int) (n : Nat) (hp : 2 ≤ p ∧ p ≤ 5) (h0 : 0 ≤ c ∧ c ≤ 1000000) (hn : n ≤ 1000) : AC Try.prog 85 [.i p, .i (n : Int), .i c] [.dt true 1 (E true (digV p c n))] := by
  refine AC.go Try.func85 Try.ntmps85 rfl rfl fun w0 hw => ?_; simp [WfL, WfA, E_length, Enc.enc, In64] at hw
  repeat' first | refine s1 ?_ | (refine kR ?_; first | refine F.mk (m := n) Int rfl rfl rfl (mkB (by omega)) (by omega) rfl rfl ?_) | fail
  rw [← digK_all p c n]
  refine F.loop (σ := Nat) [2, 8, 13, 14, 15, 16, 17, 18, 19, 20, 21, 22, 23, 24, 25] (fun m => [(2, .i (quoN p c (n - m))), (8, .i ((m : Int) - 1))]) (fun m => [(0, .live false 1 (E true (digK p c n m)))]) (fun m => m ≤ n) (fun m => m) n ⟨iE (by rw [Nat.sub_self]; rfl), rfl, trivial⟩ ⟨rfl, trivial⟩ (Nat.le_refl _) ?_
  rintro m m1
  have hlen := digK_len p c n m
  by_cases hm : 0 < m
  · obtain ⟨i, rfl⟩ : ∃ i, m = i + 1 := ⟨m - 1, by omega⟩
    have hs := digK_set p c (n := n) (m := i) (by omega)
    have hq := quoN_bd (p := p) (c := c) (by omega) h0.1 (n - (i + 1))
    have hqs : quoN p c (n - i) = quoN p c (n - (i + 1)) / p := by rw [show n - i = (n - (i + 1)) + 1 by omega]; rfl
    rw [show n - 1 - i = n - (i + 1) by omega] at hs
    generalize quoN p c (n - (i + 1)) = Q at hs hq hqs ⊢
    generalize digK p c n (i + 1) = X at hs hlen ⊢
    rw [show (((i + 1 : Nat)) : Int) - 1 = (i : Int) by omega]
    repeat' first | refine s1 ?_ | fail
    exact ⟨i, F.fit ⟨iE hqs.symm, rfl, trivial⟩ ⟨obE (by rw [Nat.zero_add, hs]), trivial⟩, by omega, by omega⟩
  · obtain rfl : m = 0 := by omega
    rw [digK_zero] at hlen ⊢
    generalize digV p c n = X at hlen ⊢
    repeat' first | refine s1 ?_ | fail
    (refine kZ ?_; exact F.ret rfl)
end Go.Proofs.Ytanembgijdkagaa.V
