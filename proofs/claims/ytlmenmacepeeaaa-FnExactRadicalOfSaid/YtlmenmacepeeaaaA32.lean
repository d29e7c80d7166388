/- Contract: a multiple of one row of a matrix is added to another row of the same one. -/
import Derived.Test.YtlmenmacepeeaaaA23
namespace Go.Proofs.Ytlmenmacepeeaaa.V
open Go.RowKit G D
set_option linter.unusedVariables false
set_option linter.unusedSimpArgs false
set_option maxHeartbeats 2000000
set_option maxRecDepth 4000
attribute [local irreducible] AW ARg ARA ARet MRet ASil AC AM

theorem addK_out (p k : Int) (off : Nat) (b xs : List Int) (j : Nat) {t : Nat} (h : t < off ∨ off + j ≤ t) (ht : t < xs.length) : (addK p k off b xs j).getD t default = xs.getD t default := by
  have : ¬ (off ≤ t ∧ t < off + j) := by omega
  simp [addK, ht, this]
theorem addMulS_m (p k : Int) (xs b : List Int) (off off2 : Nat) (hp : 0 < p ∧ p ≤ 1024) (hk : 0 ≤ k ∧ k ≤ 1024) (hx : ∀ t, t < xs.length → 0 ≤ xs.getD t default ∧ xs.getD t default ≤ 1024) (hb : ∀ t, t < b.length → b.getD t default = xs.getD (off2 + t) default) (hl : off + b.length ≤ xs.length) (hl2 : off2 + b.length ≤ xs.length) (hn : xs.length ≤ 1048576) (hd : off2 + b.length ≤ off ∨ off + b.length ≤ off2) :
    AM Try.prog 191 [.i p, .sl 0 xs.length off b.length, .i k, .sl 0 xs.length off2 b.length] [(1, E true xs)] [.sl 0 xs.length off b.length] [(1, E true (addK p k off b xs b.length))] := by
  refine AM.go Try.func191 Try.ntmps191 rfl rfl fun w0 mp hw => ?_; simp [WfL, WfA, E_length, Enc.enc, In64] at hw
  repeat' first | refine s1 ?_ | fail
  refine F.loop (σ := Nat) [9, 10, 13, 14, 15, 16, 17, 18, 19, 20, 21, 22, 23, 24, 25, 26, 27, 28, 29, 30, 31] (fun j => [(13, .i j)]) (fun j => [(0, .live false 1 (E true (addK p k off b xs j)))]) (fun j => j ≤ b.length) (fun j => b.length - j) 0 ⟨rfl, trivial⟩ ⟨obE (by rw [addK_zero]), trivial⟩ (Nat.zero_le _) ?_
  rintro j h1
  by_cases hlt : j < b.length
  · have e1 := addK_at p k off b xs (j := j) (by omega)
    have e2 := addK_set p k off b xs (j := j) (by omega)
    have e3 := addK_out p k off b xs j (t := off2 + j) (by omega) (by omega)
    have b1 := hx (off + j) (by omega)
    have b2 := hx (off2 + j) (by omega)
    rw [hb j hlt] at e2
    have b3 : 0 ≤ k * xs.getD (off2 + j) default ∧ k * xs.getD (off2 + j) default ≤ 1024 * 1024 := ⟨Int.mul_nonneg hk.1 b2.1, Int.mul_le_mul hk.2 b2.2 b2.1 (by omega)⟩
    have hlen := addK_len p k off b xs j
    generalize addK p k off b xs j = L at e1 e2 e3 hlen ⊢
    rw [← e1] at b1 e2
    rw [← e3] at b2 b3 e2
    have hi1 : In64 (k * L.getD (off2 + j) default) := by unfold In64; omega
    have hi2 : In64 (L.getD (off + j) default + k * L.getD (off2 + j) default) := by unfold In64; omega
    repeat' first | refine s1 ?_ | fail
    exact ⟨j + 1, F.fit ⟨rfl, trivial⟩ ⟨obE (by rw [e2]), trivial⟩, by omega, by omega⟩
  · obtain rfl : j = b.length := by omega
    repeat' first | refine s1 ?_ | fail
    refine kM ?_
    exact F.retM rfl ⟨rfl, trivial⟩
end Go.Proofs.Ytlmenmacepeeaaa.V
