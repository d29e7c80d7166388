/- Contracts: slices.Grow, slices.Concat, determinants. -/
import Derived.Test.YtlmenmacepeeaaaA2
import Derived.Test.YtlmenmacepeeaaaUc
namespace Go.Proofs.Ytlmenmacepeeaaa.V
open Go.RowKit G D
set_option linter.unusedVariables false
set_option linter.unusedSimpArgs false
set_option maxHeartbeats 400000

theorem grow_a (n : Nat) (hn : n ≤ 1048576) : AC Try.prog 218 [.nl, .i n] [.dt true 1 []] := by
  refine AC.go Try.func218 Try.ntmps218 rfl rfl fun w0 hw => ?_; simp [WfL, WfA, E_length, Enc.enc, In64] at hw
  repeat' first | refine s1 ?_ | (refine kR ?_; first | refine F.sil (A.capN rfl) rfl rfl ?_ | refine F.sil (A.slcN (lo := 0) (hi' := 0) rfl rfl rfl (Nat.le_refl _) rfl) rfl rfl ?_ | refine F.appZ (m := n) Int rfl rfl rfl (by omega) (by omega) (mkB (by omega)) (by omega) rfl rfl ?_ | refine F.slcut (k := 0) rfl rfl (by simp [E_length]) rfl (Nat.zero_le _) rfl rfl rfl ?_) | (refine s2 ?_ ?_ <;> intro hc <;> (try simp only [decide_eq_true_eq, decide_eq_false_iff_not, Bool.not_eq_true', Bool.not_eq_false'] at hc)) | fail
  all_goals exact F.ret rfl
theorem flat_take {α : Type} (ls : List (List α)) {k : Nat} (hk : k < ls.length) : (ls.take (k + 1)).flatten = (ls.take k).flatten ++ ls.getD k default := by
  rw [List.take_succ_eq_append_getElem hk, List.flatten_append]; simp [hk]
theorem flat_len {α : Type} (ls : List (List α)) {k : Nat} (hk : k < ls.length) : (ls.take (k + 1)).flatten.length = (ls.take k).flatten.length + (ls.getD k default).length := by
  rw [flat_take ls hk, List.length_append]
theorem flat_le {α : Type} (ls : List (List α)) (k : Nat) : (ls.take k).flatten.length ≤ ls.flatten.length := by
  have : ls.flatten = (ls.take k).flatten ++ (ls.drop k).flatten := by rw [← List.flatten_append, List.take_append_drop]
  rw [this, List.length_append]; omega
theorem concat_a (ls : List (List Int)) (hn : ls.flatten.length ≤ 1048576) : AC Try.prog 206 [.dt false 1 (E false ls)] [.dt true 1 (E true ls.flatten)] := by
  refine AC.go Try.func206 Try.ntmps206 rfl rfl fun w0 hw => ?_; simp [WfL, WfA, E_length, Enc.enc, In64] at hw
  repeat' first | refine s1 ?_ | (refine s2 ?_ ?_ <;> intro hc <;> (try simp only [decide_eq_true_eq, decide_eq_false_iff_not, Bool.not_eq_true', Bool.not_eq_false'] at hc)) | fail
  refine F.loop (σ := Nat) [3, 5, 11, 12, 13, 14, 15, 16, 17, 18, 19, 20, 21, 22] (fun k => [(3, .i ((ls.take k).flatten.length : Nat)), (11, .i k)]) (fun _ => []) (fun k => k ≤ ls.length) (fun k => ls.length - k) 0 ⟨rfl, rfl, trivial⟩ trivial (Nat.zero_le _) ?_
  rintro k h1
  have hfl := flat_le ls k
  by_cases hlt : k < ls.length
  · have hf2 := flat_len ls hlt
    have hf3 := flat_le ls (k + 1)
    repeat' first | refine s1 ?_ | fail
    refine ⟨k + 1, F.fit ⟨iE (by omega), rfl, trivial⟩ trivial, by omega, by omega⟩
  · repeat' first | refine s1 ?_ | (refine kR ?_; first | (refine jCf 218 ?_; refine F.c (grow_a (ls.take k).flatten.length (by omega)) ?_)) | (refine s2 ?_ ?_ <;> intro hc <;> (try simp only [decide_eq_true_eq, decide_eq_false_iff_not, Bool.not_eq_true', Bool.not_eq_false'] at hc)) | fail
    obtain rfl : k = ls.length := by omega
    refine F.loop (σ := Nat) [6, 8, 27, 28, 29, 30, 31, 32, 33, 34] (fun k => [(6, .sl 0 (ls.take k).flatten.length 0 (ls.take k).flatten.length), (27, .i k)]) (fun k => [(0, .live false 1 (E true (ls.take k).flatten))]) (fun k => k ≤ ls.length) (fun k => ls.length - k) 0 ⟨rfl, rfl, trivial⟩ ⟨rfl, trivial⟩ (Nat.zero_le _) ?_
    rintro k h1
    have hfl := flat_le ls k
    by_cases hlt : k < ls.length
    · have hf2 := flat_len ls hlt
      have hf3 := flat_le ls (k + 1)
      repeat' first | refine s1 ?_ | (refine kR ?_; first | refine F.appL (α := Int) (oo := true) rfl rfl rfl rfl .imm rfl rfl (by omega) (by omega) rfl rfl rfl rfl rfl ?_) | fail
      refine ⟨k + 1, F.fit ⟨slE (by omega), rfl, trivial⟩ ⟨obE (by rw [flat_take ls hlt]), trivial⟩, by omega, by omega⟩
    · obtain rfl : k = ls.length := by omega
      repeat' first | refine s1 ?_ | (refine s2 ?_ ?_ <;> intro hc <;> (try simp only [decide_eq_true_eq, decide_eq_false_iff_not, Bool.not_eq_true', Bool.not_eq_false'] at hc)) | fail
      refine F.ret ?_
      rw [List.take_length]
end Go.Proofs.Ytlmenmacepeeaaa.V
