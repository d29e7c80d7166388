/- Joined: Contracts: copies of lists and quivers, zero matrices, zero and simple representations. Contracts: remainders, inverses, reduced form by rows (the reference's). Contracts: searches in lists of matrices and of paths.. -/
import Derived.Test.YtanembgijdkagaaQeA6
import Derived.Test.YtanembgijdkagaaQeUc
import Derived.Test.YtanembgijdkagaaQeUq
import Derived.Test.YtanembgijdkagaaQeUd
namespace Go.Proofs.Ytanembgijdkagaa.V
open V.Enc (enc)
open Go.RowKit G D
set_option linter.unusedVariables false
set_option linter.unusedSimpArgs false
set_option maxHeartbeats 400000
attribute [local irreducible] AW ARg ARA ARet MRet ASil AC AM
theorem clone_a (xs : List Int) (h : xs.length ≤ 1048576) : AC Try.prog 47 [ar false xs] [.dt true 1 (E true xs)] := by
  refine AC.go Try.func47 Try.ntmps47 rfl rfl fun w0 hw => ?_; simp [WfL, WfA, E_length, Enc.enc, In64] at hw
  repeat' first | refine s1 ?_ | refine q1 ?_ | fail
  refine F.eqD (xs := E false xs) rfl rfl rfl fun b hb => ?_
  rw [E_length] at hb
  cases b with
  | true =>
    obtain rfl := List.eq_nil_of_length_eq_zero (hb rfl)
    repeat' first | refine s1 ?_ | refine q1 ?_ | fail
    exact F.ret rfl
  | false =>
    repeat' first | refine s1 ?_ | refine q1 ?_ | (refine kR ?_; first | refine F.aLN (α := Int) ?_) | fail
    exact F.ret rfl
theorem cloneQ_a (q : Quiv) (hb : q.fr.length ≤ 1048576 ∧ q.to.length ≤ 1048576) : AC Try.prog 108 [.agg (enc false q)] [.agg (enc true q)] := by
  refine AC.go Try.func108 Try.ntmps108 rfl rfl fun w0 hw => ?_; simp [WfL, WfA, E_length, Enc.enc, In64] at hw
  have hA := clone_a q.fr hb.1
  have hB := clone_a q.to hb.2
  repeat' first | refine s1 ?_ | refine q1 ?_ | fail
  refine AW.draw 9 G.mixed (by kernel_rfl) ?_
  refine dP 0 ?_
  first | refine dL 1 ?_ | refine dLQ 1 ?_
  refine dP 2 ?_
  first | refine dL 3 ?_ | refine dLQ 3 ?_
  refine dP 5 ?_
  first | refine dL 6 ?_ | refine dLQ 6 ?_
  refine dO 4 true ?_
  first | refine s1 ?_ | refine F.c (hA) ?_ | refine F.c (hB) ?_
  refine ARg.nil (ATh.normal ?_)
  refine dO 7 true ?_
  first | refine s1 ?_ | refine F.c (hA) ?_ | refine F.c (hB) ?_
  refine ARg.nil (ATh.normal ?_)
  refine dP 8 ?_
  refine dO 9 false ?_
  first | refine s1 ?_ | refine q1 ?_
  refine ARg.nil (ATh.normal ?_)
  refine dN ?_
  repeat' first | refine s1 ?_ | refine q1 ?_ | fail
  exact F.ret rfl
abbrev zeroM (r c : Int) : Mat := ⟨r, c, List.replicate (r * c).toNat 0⟩
theorem mulB {a b : Int} (ha : 0 ≤ a ∧ a ≤ 1024) (hb : 0 ≤ b ∧ b ≤ 1024) : 0 ≤ a * b ∧ a * b ≤ 1048576 := by
  refine ⟨Int.mul_nonneg ha.1 hb.1, ?_⟩
  have := Int.mul_le_mul ha.2 hb.2 hb.1 (by omega : (0 : Int) ≤ 1024)
  omega
theorem zero_a (r c : Int) (hr : 0 ≤ r ∧ r ≤ 1024) (hc : 0 ≤ c ∧ c ≤ 1024) : AC Try.prog 70 [.i r, .i c] [.agg (enc true (zeroM r c))] := by
  refine AC.go Try.func70 Try.ntmps70 rfl rfl fun w0 hw => ?_; simp [WfL, WfA, E_length, Enc.enc, In64] at hw
  have h := mulB hr hc
  have hi : In64 (r * c) := by unfold In64; omega
  repeat' first | refine s1 ?_ | refine q1 ?_ | (refine kR ?_; first | refine F.mk (m := (r * c).toNat) Int rfl rfl (Int.toNat_of_nonneg h.1).symm (mkB (by omega)) (by omega) rfl rfl ?_) | fail
  exact F.ret rfl
theorem l3Zero_a (r c : Int) (hr : 0 ≤ r ∧ r ≤ 1024) (hc : 0 ≤ c ∧ c ≤ 1024) : AC Try.prog 63 [.i r, .i c] [.agg (enc true (zeroM r c))] := by
  refine AC.go Try.func63 Try.ntmps63 rfl rfl fun w0 hw => ?_; simp [WfL, WfA, E_length, Enc.enc, In64] at hw
  have h := mulB hr hc
  have hi : In64 (r * c) := by unfold In64; omega
  repeat' first | refine s1 ?_ | refine q1 ?_ | (refine kR ?_; first | refine F.mk (m := (r * c).toNat) Int rfl rfl (Int.toNat_of_nonneg h.1).symm (mkB (by omega)) (by omega) rfl rfl ?_) | fail
  exact F.ret rfl
theorem range_take {n k : Nat} (h : k < n) : (List.range n).take (k + 1) = (List.range n).take k ++ [k] := by
  rw [List.take_succ_eq_append_getElem (by simpa using h)]; simp
end Go.Proofs.Ytanembgijdkagaa.V
namespace Go.Proofs.Ytanembgijdkagaa.V
open Go.RowKit G D
set_option linter.unusedVariables false
set_option linter.unusedSimpArgs false
set_option maxHeartbeats 400000
set_option maxRecDepth 4000
attribute [local irreducible] AW ARg ARA ARet MRet ASil AC AM
theorem isF_pos {p : Int} (h : isF p = true) : 2 ≤ p ∧ p ≤ 5 := by
  have := isF_spec.mp h; omega
end Go.Proofs.Ytanembgijdkagaa.V
namespace Go.Proofs.Ytanembgijdkagaa.V
open Go.RowKit G D
set_option linter.unusedVariables false
set_option linter.unusedSimpArgs false
set_option maxHeartbeats 400000
set_option maxRecDepth 4000
attribute [local irreducible] AW ARg ARA ARet MRet ASil AC AM
end Go.Proofs.Ytanembgijdkagaa.V
