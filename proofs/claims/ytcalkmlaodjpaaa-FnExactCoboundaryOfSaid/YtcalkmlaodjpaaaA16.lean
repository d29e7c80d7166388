/- Contracts: searches in lists of matrices and of paths. -/
import Derived.Test.YtcalkmlaodjpaaaA7
namespace Go.Proofs.Ytcalkmlaodjpaaa.V
open V.Enc (enc)
open Go.RowKit G D
set_option linter.unusedVariables false
set_option linter.unusedSimpArgs false
set_option maxHeartbeats 400000
set_option maxRecDepth 4000
attribute [local irreducible] AW ARg ARA ARet MRet ASil AC AM

theorem IndexFuncM_a (xs : List Mat) (f : Nat) [IsFn Try.prog f] (cs : List AV) (p : Mat → Bool) (hcs : ∀ hp, SnapL hp cs cs) (hf : ∀ x ∈ xs, AC Try.prog f (.agg (enc false x) :: cs) [.b (p x)]) :
    AC Try.prog 139 [ar false xs, .fn f cs] [.i (idxFrom p xs 0)] := by
  refine AC.go Try.func139 Try.ntmps139 rfl rfl fun w0 hw => ?_; simp [WfL, WfA, E_length, Enc.enc, In64] at hw
  repeat' first | refine s1 ?_ | (refine s2 ?_ ?_ <;> intro hc <;> (try simp only [decide_eq_true_eq, decide_eq_false_iff_not, Bool.not_eq_true', Bool.not_eq_false'] at hc)) | fail
  refine F.loop (σ := Nat) [4, 5, 8, 9, 10, 11, 12, 13, 14, 15, 16, 17, 18] (fun k => [(8, .i k)]) (fun _ => []) (fun k => k ≤ xs.length ∧ idxFrom p xs 0 = idxFrom p (xs.drop k) k) (fun k => xs.length - k) 0 ⟨rfl, trivial⟩ trivial ⟨Nat.zero_le _, rfl⟩ ?_
  rintro k ⟨hk, hi⟩
  by_cases hlt : k < xs.length
  · rw [idxFrom_drop p xs hlt] at hi
    have h1 := hf (xs.getD k default) (gm hlt)
    cases hpx : p (xs.getD k default) with
    | true =>
      rw [hpx] at hi h1
      repeat' first | refine s1 ?_ | (refine kR ?_; first | refine F.cv (h1) ?_) | (refine s2 ?_ ?_ <;> intro hc <;> (try simp only [decide_eq_true_eq, decide_eq_false_iff_not, Bool.not_eq_true', Bool.not_eq_false'] at hc)) | fail
      refine F.ret ?_
      simp [hi]
    | false =>
      rw [hpx] at hi h1
      repeat' first | refine s1 ?_ | (refine kR ?_; first | refine F.cv (h1) ?_) | (refine s2 ?_ ?_ <;> intro hc <;> (try simp only [decide_eq_true_eq, decide_eq_false_iff_not, Bool.not_eq_true', Bool.not_eq_false'] at hc)) | fail
      exact ⟨k + 1, F.fit ⟨rfl, trivial⟩ trivial, ⟨by omega, hi⟩, by omega⟩
  · have e : k = xs.length := by omega
    subst e
    repeat' first | refine s1 ?_ | (refine s2 ?_ ?_ <;> intro hc <;> (try simp only [decide_eq_true_eq, decide_eq_false_iff_not, Bool.not_eq_true', Bool.not_eq_false'] at hc)) | fail
    refine F.ret ?_
    simp [hi, idxFrom]
theorem ContainsFuncM_a (xs : List Mat) (f : Nat) [IsFn Try.prog f] (cs : List AV) (p : Mat → Bool) (hcs : ∀ hp, SnapL hp cs cs) (hf : ∀ x ∈ xs, AC Try.prog f (.agg (enc false x) :: cs) [.b (p x)]) :
    AC Try.prog 96 [ar false xs, .fn f cs] [.b (xs.any p)] := by
  refine AC.go Try.func96 Try.ntmps96 rfl rfl fun w0 hw => ?_; simp [WfL, WfA, E_length, Enc.enc, In64] at hw
  repeat' first | refine s1 ?_ | (refine kR ?_; first | refine F.c (IndexFuncM_a xs f cs p hcs hf) ?_) | fail
  exact F.ret (by rw [← idxFrom_any p xs 0])
theorem IndexFuncP_a (xs : List Pth) (f : Nat) [IsFn Try.prog f] (cs : List AV) (p : Pth → Bool) (hcs : ∀ hp, SnapL hp cs cs) (hf : ∀ x ∈ xs, AC Try.prog f (.agg (enc false x) :: cs) [.b (p x)]) :
    AC Try.prog 179 [ar false xs, .fn f cs] [.i (idxFrom p xs 0)] := by
  refine AC.go Try.func179 Try.ntmps179 rfl rfl fun w0 hw => ?_; simp [WfL, WfA, E_length, Enc.enc, In64] at hw
  repeat' first | refine s1 ?_ | (refine s2 ?_ ?_ <;> intro hc <;> (try simp only [decide_eq_true_eq, decide_eq_false_iff_not, Bool.not_eq_true', Bool.not_eq_false'] at hc)) | fail
  refine F.loop (σ := Nat) [4, 5, 8, 9, 10, 11, 12, 13, 14, 15, 16, 17, 18] (fun k => [(8, .i k)]) (fun _ => []) (fun k => k ≤ xs.length ∧ idxFrom p xs 0 = idxFrom p (xs.drop k) k) (fun k => xs.length - k) 0 ⟨rfl, trivial⟩ trivial ⟨Nat.zero_le _, rfl⟩ ?_
  rintro k ⟨hk, hi⟩
  by_cases hlt : k < xs.length
  · rw [idxFrom_drop p xs hlt] at hi
    have h1 := hf (xs.getD k default) (gm hlt)
    cases hpx : p (xs.getD k default) with
    | true =>
      rw [hpx] at hi h1
      repeat' first | refine s1 ?_ | (refine kR ?_; first | refine F.cv (h1) ?_) | (refine s2 ?_ ?_ <;> intro hc <;> (try simp only [decide_eq_true_eq, decide_eq_false_iff_not, Bool.not_eq_true', Bool.not_eq_false'] at hc)) | fail
      refine F.ret ?_
      simp [hi]
    | false =>
      rw [hpx] at hi h1
      repeat' first | refine s1 ?_ | (refine kR ?_; first | refine F.cv (h1) ?_) | (refine s2 ?_ ?_ <;> intro hc <;> (try simp only [decide_eq_true_eq, decide_eq_false_iff_not, Bool.not_eq_true', Bool.not_eq_false'] at hc)) | fail
      exact ⟨k + 1, F.fit ⟨rfl, trivial⟩ trivial, ⟨by omega, hi⟩, by omega⟩
  · have e : k = xs.length := by omega
    subst e
    repeat' first | refine s1 ?_ | (refine s2 ?_ ?_ <;> intro hc <;> (try simp only [decide_eq_true_eq, decide_eq_false_iff_not, Bool.not_eq_true', Bool.not_eq_false'] at hc)) | fail
    refine F.ret ?_
    simp [hi, idxFrom]
end Go.Proofs.Ytcalkmlaodjpaaa.V
