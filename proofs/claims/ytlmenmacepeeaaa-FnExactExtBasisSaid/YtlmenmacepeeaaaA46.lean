/- Contracts of the laws' helpers on lists of lists of matrices: equality, marks. -/
import Derived.Test.YtlmenmacepeeaaaUm
namespace Go.Proofs.Ytlmenmacepeeaaa.V
open Go.RowKit G D
set_option linter.unusedVariables false
set_option linter.unusedSimpArgs false
set_option maxHeartbeats 4000000
set_option maxRecDepth 4000
attribute [local irreducible] AW ARg ARA ARet MRet ASil AC AM

theorem eqMatrixSS_s (ms : List (List Mat)) : AC Try.prog 63 [ar false ms, ar false ms] [.b true] := by
  refine AC.go Try.func63 Try.ntmps63 rfl rfl fun w0 hw => ?_; simp [WfL, WfA, E_length, Enc.enc, In64] at hw
  repeat' first | refine s1 ?_ | fail
  refine F.loop (σ := Nat) [4, 5, 11, 12, 13, 14, 15, 16, 17, 18, 19, 20, 21, 22, 23, 24, 25, 26] (fun k => [(5, .i k)]) (fun _ => []) (fun k => k ≤ ms.length) (fun k => ms.length - k) 0 ⟨rfl, trivial⟩ trivial (Nat.zero_le _) ?_
  rintro k h1
  by_cases hlt : k < ms.length
  · have hA := eqMatrixS_s (ms.getD k default)
    repeat' first | refine s1 ?_ | fail
    refine AW.draw 10 G.mixed (by kernel_rfl) ?_
    refine dP 0 ?_
    refine dP 1 ?_
    refine dP 2 ?_
    refine dL 3 ?_
    refine dP 4 ?_
    refine dP 5 ?_
    refine dP 6 ?_
    refine dL 7 ?_
    refine dO 8 true ?_
    first | refine s1 ?_ | refine F.c (hA) ?_
    refine ARg.nil (ATh.normal ?_)
    refine dP 9 ?_
    refine dN ?_
    repeat' first | refine s1 ?_ | fail
    exact ⟨k + 1, F.fit ⟨rfl, trivial⟩ trivial, by omega, by omega⟩
  · repeat' first | refine s1 ?_ | fail
    exact F.ret rfl
theorem markMatrixSS_m (ms : List (List Mat)) (k : Int) (h0 : 0 ≤ k) (h1 : k + ms.length + cnt (cnt ctM) ms ≤ 4611686018427387904) : AM Try.prog 64 [.sl 0 ms.length 0 ms.length, .i k] [(1, E true ms)] [.i (k + cnt (cnt ctM) ms)] [(1, E true (mkA mkMS (cnt ctM) k ms))] := by
  refine AM.go Try.func64 Try.ntmps64 rfl rfl fun w0 mp hw => ?_; simp [WfL, WfA, E_length, Enc.enc, In64] at hw
  repeat' first | refine s1 ?_ | fail
  refine F.loop (σ := Nat) [1, 5, 6, 7, 8, 9, 10, 11, 12, 13, 14, 15, 16, 17] (fun j => [(1, .i (k + cnt (cnt ctM) (ms.take j))), (5, .i j)]) (fun j => [(0, .live false 1 (E true (mkq mkMS (cnt ctM) k ms j)))]) (fun j => j ≤ ms.length) (fun j => ms.length - j) 0 ⟨iE (by simp [cnt]), rfl, trivial⟩ ⟨obE (by rw [mkq_zero]), trivial⟩ (Nat.zero_le _) ?_
  rintro j h2
  have hp := mkq_len mkMS (cnt ctM) (k := k) h2
  have hcl := cnt_le (cnt ctM) (xs := ms) j
  by_cases hlt : j < ms.length
  · have hg := mkq_get mkMS (cnt ctM) (k := k) hlt
    have hS := mkq_set mkMS (cnt ctM) (k := k) hlt
    have hc2 := cnt_succ (cnt ctM) hlt
    have hcl2 := cnt_le (cnt ctM) (xs := ms) (j + 1)
    generalize hL : mkq mkMS (cnt ctM) k ms j = L at hp hg hS ⊢
    generalize hkk : k + ↑(cnt (cnt ctM) (ms.take j)) = kk at hS ⊢
    have hl6 : (mkMS kk (ms.getD j default)).length = (ms.getD j default).length := mkA_len _ _ _ _
    repeat' first | refine s1 ?_ | fail
    refine F.ldTE (α := List Mat) (j := 0) rfl rfl (by omega) (by omega) (by rw [Nat.zero_add j, hg]; rfl) (E_length _ _) rfl rfl ?_
    rw [Nat.zero_add j]
    repeat' first | refine s1 ?_ | fail
    refine F.m [1] (markMatrixS_m (ms.getD j default) kk (by omega) (by omega)) ?_
    refine F.put (α := List Mat) (o := 0) (o2 := 1) (k := j) (j := 0) (v := mkMS kk (ms.getD j default)) (ls := L) rfl rfl (by rw [E_length, hl6]) (E_pure _ _) rfl (by omega) rfl (by rw [hg]; rfl) ?_
    rw [hS]
    repeat' first | refine s1 ?_ | fail
    exact ⟨j + 1, F.fit ⟨iE (by rw [hc2]; push_cast; omega), rfl, trivial⟩ ⟨rfl, trivial⟩, by omega, by omega⟩
  · obtain rfl : j = ms.length := by omega
    rw [mkq_all] at hp ⊢
    rw [List.take_length]
    repeat' first | refine s1 ?_ | fail
    refine F.retM rfl ?_
    exact ⟨rfl, trivial⟩
theorem heldMatrixSS_a (k : Int) (ms : List (List Mat)) (h0 : 0 ≤ k) (h1 : k + ms.length + cnt (cnt ctM) ms ≤ 4611686018427387904) : AC Try.prog 65 [ar false (mkA mkMS (cnt ctM) k ms), .i k] [.i (k + cnt (cnt ctM) ms)] := by
  refine AC.go Try.func65 Try.ntmps65 rfl rfl fun w0 hw => ?_; simp [WfL, WfA, E_length, Enc.enc, In64] at hw
  have hl : (mkA mkMS (cnt ctM) k ms).length = ms.length := mkA_len _ _ _ _
  repeat' first | refine s1 ?_ | fail
  refine F.loop (σ := Nat) [1, 4, 5, 6, 7, 8, 9, 10, 11, 12, 13, 14, 15, 16, 17, 18, 19] (fun j => [(1, .i (k + cnt (cnt ctM) (ms.take j))), (5, .i j)]) (fun _ => []) (fun j => j ≤ ms.length) (fun j => ms.length - j) 0 ⟨iE (by simp [cnt]), rfl, trivial⟩ trivial (Nat.zero_le _) ?_
  rintro j h2
  have hcl := cnt_le (cnt ctM) (xs := ms) j
  by_cases hlt : j < ms.length
  · have hg : (mkA mkMS (cnt ctM) k ms).getD j default = _ := mkA_get mkMS (cnt ctM) (k := k) hlt
    have hc2 := cnt_succ (cnt ctM) hlt
    have hcl2 := cnt_le (cnt ctM) (xs := ms) (j + 1)
    generalize hkk : k + ↑(cnt (cnt ctM) (ms.take j)) = kk at hg ⊢
    have hA := heldMatrixS_a kk (ms.getD j default) (by omega) (by omega)
    rw [← hg] at hA
    repeat' first | refine s1 ?_ | (refine kR ?_; first | refine F.c (hA) ?_) | fail
    exact ⟨j + 1, F.fit ⟨iE (by rw [hc2]; push_cast; omega), rfl, trivial⟩ trivial, by omega, by omega⟩
  · obtain rfl : j = ms.length := by omega
    rw [List.take_length]
    repeat' first | refine s1 ?_ | fail
    exact F.ret rfl
theorem markMSS_k (xs : List (List Mat)) (k : Int) (h0 : 0 ≤ k) (h : k + xs.length + cnt (cnt ctM) xs ≤ 4611686018427387904) : ∃ ys : List (List Mat), ys.length = xs.length ∧
    AM Try.prog 64 [.sl 0 xs.length 0 xs.length, .i k] [(1, E true xs)] [.i (k + cnt (cnt ctM) xs)] [(1, E true ys)] ∧ AC Try.prog 65 [ar false ys, .i k] [.i (k + cnt (cnt ctM) xs)] :=
  ⟨_, mkA_len _ _ _ _, markMatrixSS_m xs k h0 h, heldMatrixSS_a k xs h0 h⟩
end Go.Proofs.Ytlmenmacepeeaaa.V
