/- Contracts of the laws' helpers: marks on lists of numbers, on quivers and on matrices. -/
import Derived.Test.YtcalkmlaodjpaaaLb
import Derived.Test.YtcalkmlaodjpaaaHo
namespace Go.Proofs.Ytcalkmlaodjpaaa.V
open Go.RowKit G D
set_option linter.unusedVariables false
set_option linter.unusedSimpArgs false
set_option maxHeartbeats 400000

/-- k, k + 1, .. -/
def mkL (k : Int) (n : Nat) : List Int := (List.range n).map fun (i : Nat) => k + (i : Int)
theorem mkL_len (k : Int) (n : Nat) : (mkL k n).length = n := by simp [mkL]
theorem mkL_succ (k : Int) (n : Nat) : mkL k (n + 1) = mkL k n ++ [k + n] := by simp [mkL, List.range_succ]
theorem mkL_get {k : Int} {n j : Nat} (h : j < n) : (mkL k n).getD j default = k + j := by simp [mkL, h]
def mkp (xs : List Int) (k : Int) (j : Nat) : List Int := mkL k j ++ xs.drop j
theorem mkp_len {xs : List Int} {k : Int} {j : Nat} (h : j ≤ xs.length) : (mkp xs k j).length = xs.length := by simp [mkp, mkL_len]; omega
theorem mkp_zero (xs : List Int) (k : Int) : mkp xs k 0 = xs := by simp [mkp, mkL]
theorem mkp_all (xs : List Int) (k : Int) : mkp xs k xs.length = mkL k xs.length := by simp [mkp]
theorem mkp_set {xs : List Int} {k : Int} {j : Nat} (h : j < xs.length) : (mkp xs k j).set j (k + j) = mkp xs k (j + 1) := by
  unfold mkp
  rw [List.set_append_right _ _ (by rw [mkL_len]; exact Nat.le_refl _), mkL_len, Nat.sub_self, List.drop_eq_getElem_cons h, List.set_cons_zero, mkL_succ, List.append_assoc]; rfl
theorem markIntS_m (xs : List Int) (k : Int) (h0 : 0 ≤ k) (h1 : k + xs.length ≤ 4611686018427387904) : AM Try.prog 38 [.sl 0 xs.length 0 xs.length, .i k] [(1, E true xs)] [.i (k + xs.length)] [(1, E true (mkL k xs.length))] := by
  refine AM.go Try.func38 Try.ntmps38 rfl rfl fun w0 mp hw => ?_; simp [WfL, WfA, E_length, Enc.enc, In64] at hw
  repeat' first | refine s1 ?_ | fail
  refine F.loop (σ := Nat) [1, 5, 6, 7, 8, 9, 10, 11, 12, 13, 14, 15, 16, 17] (fun j => [(1, .i (k + j)), (5, .i j)]) (fun j => [(0, .live false 1 (E true (mkp xs k j)))]) (fun j => j ≤ xs.length) (fun j => xs.length - j) 0 ⟨iE (by simp), rfl, trivial⟩ ⟨obE (by rw [mkp_zero]), trivial⟩ (Nat.zero_le _) ?_
  rintro j h2
  have hp := mkp_len (k := k) h2
  by_cases hlt : j < xs.length
  · repeat' first | refine s1 ?_ | fail
    exact ⟨j + 1, F.fit ⟨iE (by push_cast; omega), rfl, trivial⟩ ⟨obE (by rw [Nat.zero_add, mkp_set hlt]), trivial⟩, by omega, by omega⟩
  · obtain rfl : j = xs.length := by omega
    rw [mkp_all] at hp ⊢
    repeat' first | refine s1 ?_ | fail
    refine F.retM rfl ?_
    exact ⟨rfl, trivial⟩
theorem heldIntS_a (k : Int) (n : Nat) (h0 : 0 ≤ k) (h1 : k + n ≤ 4611686018427387904) : AC Try.prog 39 [ar false (mkL k n), .i k] [.i (k + n)] := by
  refine AC.go Try.func39 Try.ntmps39 rfl rfl fun w0 hw => ?_; simp [WfL, WfA, E_length, Enc.enc, In64] at hw
  have hl := mkL_len k n
  repeat' first | refine s1 ?_ | fail
  refine F.loop (σ := Nat) [1, 4, 5, 6, 7, 8, 9, 10, 11, 12, 13, 14, 15, 16, 17, 18, 19] (fun j => [(1, .i (k + j)), (5, .i j)]) (fun _ => []) (fun j => j ≤ n) (fun j => n - j) 0 ⟨iE (by simp), rfl, trivial⟩ trivial (Nat.zero_le _) ?_
  rintro j h2
  by_cases hlt : j < n
  · have hg := mkL_get (k := k) hlt
    repeat' first | refine s1 ?_ | fail
    exact ⟨j + 1, F.fit ⟨iE (by push_cast; omega), rfl, trivial⟩ trivial, by omega, by omega⟩
  · obtain rfl : j = n := by omega
    repeat' first | refine s1 ?_ | fail
    exact F.ret rfl
end Go.Proofs.Ytcalkmlaodjpaaa.V
