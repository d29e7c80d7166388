/- Contracts: rows, sums and products of matrices. -/
import Derived.Test.YtanembgijdkagaaQeUq
import Derived.Test.YtanembgijdkagaaQeUd
import Derived.Test.YtanembgijdkagaaQeB2
import Derived.Test.YtanembgijdkagaaQeA17
namespace Go.Proofs.Ytanembgijdkagaa.V
open V.Enc (enc)
open Go.RowKit G D
set_option linter.unusedVariables false
set_option linter.unusedSimpArgs false
set_option maxHeartbeats 2000000
set_option maxRecDepth 4000
attribute [local irreducible] AW ARg ARA ARet MRet ASil AC AM
theorem row_in {r c i : Nat} (hi : i < r) (hr : r ≤ 1024) (hc : c ≤ 1024) : In64 ((i : Int) * (c : Int)) ∧ In64 (((i : Int) + 1) * (c : Int)) := by
  have h : (i : Int) * (c : Int) ≤ 1024 * 1024 := Int.mul_le_mul (by omega) (by omega) (by omega) (by omega)
  have h0 : 0 ≤ (i : Int) * (c : Int) := Int.mul_nonneg (by omega) (by omega)
  rw [Int.add_mul, Int.one_mul]
  unfold In64; omega
/-- a row of what does not change -/
theorem row_w (r c i : Nat) (f : Nat → Nat → Int) (hi : i < r) (hr : r ≤ 1024) (hc : c ≤ 1024) :
    AM Try.prog 51 [.agg (enc false (tm r c f)), .i (i : Int)] [] [ar false (rowL c (f i))] [] := by
  refine AM.go Try.func51 Try.ntmps51 rfl rfl fun w0 mp hw => ?_; simp [WfL, WfA, E_length, Enc.enc, In64] at hw
  obtain ⟨h1, h2⟩ := row_in hi hr hc
  repeat' first | refine s1 ?_ | refine q1 ?_ | (refine kR ?_; first | refine F.sil (A.slcQD rfl rfl rfl hi) rfl rfl ?_) | fail
  refine kM ?_
  exact F.retM rfl trivial
theorem zeroM_tab (r c : Nat) : zeroM (r : Int) (c : Int) = tm r c (fun _ _ => 0) := by
  have e : ((r : Int) * (c : Int)).toNat = r * c := by
    have : (r : Int) * (c : Int) = ((r * c : Nat) : Int) := by push_cast; rfl
    rw [this, Int.toNat_natCast]
  unfold zeroM tm
  rw [e]
  congr 1
  apply List.ext_getElem (by simp)
  intro t h1 h2
  simp [tab]
theorem zeroT_a (r c : Nat) (hr : r ≤ 1024) (hc : c ≤ 1024) : AC Try.prog 70 [.i (r : Int), .i (c : Int)] [.agg (enc true (tm r c (fun _ _ => 0)))] := by
  have := zero_a (r : Int) (c : Int) (by omega) (by omega)
  rwa [zeroM_tab] at this
theorem l3ZeroT_a (r c : Nat) (hr : r ≤ 1024) (hc : c ≤ 1024) : AC Try.prog 63 [.i (r : Int), .i (c : Int)] [.agg (enc true (tm r c (fun _ _ => 0)))] := by
  have := l3Zero_a (r : Int) (c : Int) (by omega) (by omega)
  rwa [zeroM_tab] at this
theorem cloneM_a (m : Mat) (h : m.m.length ≤ 1048576) : AC Try.prog 163 [.agg (enc false m)] [.agg (enc true m)] := by
  refine AC.go Try.func163 Try.ntmps163 rfl rfl fun w0 hw => ?_; simp [WfL, WfA, E_length, Enc.enc, In64] at hw
  have hC := clone_a m.m h
  repeat' first | refine s1 ?_ | refine q1 ?_ | (refine kR ?_; first | refine F.c (hC) ?_) | fail
  (refine kZ ?_; exact F.ret rfl)
end Go.Proofs.Ytanembgijdkagaa.V
