/- Contracts of the laws' helpers on quivers and matrices: sizes, copies, equality, marks. -/
import Derived.Test.YtcalkmlaodjpaaaM1
namespace Go.Proofs.Ytcalkmlaodjpaaa.V
open V.Enc (enc)
open Go.RowKit G D
set_option linter.unusedVariables false
set_option linter.unusedSimpArgs false
set_option maxHeartbeats 400000

theorem sz1_add (a b : Nat) (l : Int) : sz1 (a + b) l = if sz1 a l < 0 then -1 else sz1 b (sz1 a l) := by
  unfold sz1; push_cast; split <;> split <;> (try split) <;> omega
theorem sz1_le' {n : Nat} {l : Int} (h : 0 ≤ sz1 n l) : (n : Int) ≤ l ∧ sz1 n l = l - n := by
  unfold sz1 at *; split at h <;> omega
def totQ (q : Quiv) : Nat := q.fr.length + q.to.length
theorem szQuiver_a (q : Quiv) (l : Int) (h0 : 0 ≤ l) (h1 : l ≤ 1048576) : AC Try.prog 20 [.agg (enc false q), .i l] [.i (sz1 (totQ q) l)] := by
  refine AC.go Try.func20 Try.ntmps20 rfl rfl fun w0 hw => ?_; simp [WfL, WfA, E_length, Enc.enc, In64] at hw
  rw [totQ, sz1_add]
  have hA := szIntS_a q.fr l h0 h1
  have b1 := sz1_le (n := q.fr.length) h0 h1
  generalize sz1 q.fr.length l = a at hA b1
  by_cases ha : a < 0
  · rw [if_pos ha]
    repeat' first | refine s1 ?_ | (refine kR ?_; first | refine F.c (hA) ?_) | fail
    exact F.ret rfl
  · rw [if_neg ha]
    have hB := szIntS_a q.to a (by omega) (by omega)
    have b2 := sz1_le (n := q.to.length) (l := a) (by omega) (by omega)
    generalize sz1 q.to.length a = b at hB b2
    by_cases hb : b < 0
    · obtain rfl : b = -1 := by omega
      repeat' first | refine s1 ?_ | (refine kR ?_; first | refine F.c (hA) ?_ | refine F.c (hB) ?_) | fail
      exact F.ret rfl
    · repeat' first | refine s1 ?_ | (refine kR ?_; first | refine F.c (hA) ?_ | refine F.c (hB) ?_) | fail
      exact F.ret rfl
theorem toQuiver_a (q : Quiv) (h : totQ q ≤ 1048576) : AC Try.prog 22 [.agg (enc false q)] [.agg (enc true q)] := by
  refine AC.go Try.func22 Try.ntmps22 rfl rfl fun w0 hw => ?_; simp [WfL, WfA, E_length, Enc.enc, In64] at hw
  unfold totQ at h
  have hA := toIntS_a q.fr (by omega)
  have hB := toIntS_a q.to (by omega)
  repeat' first | refine s1 ?_ | (refine kR ?_; first | refine F.c (hA) ?_ | refine F.c (hB) ?_) | fail
  exact F.ret rfl
theorem eqIntS_s (xs : List Int) : AC Try.prog 37 [ar false xs, ar false xs] [.b true] := by
  have := eqIntS_a xs xs
  rwa [decide_eq_true rfl] at this
theorem eqQuiver_s (q : Quiv) : AC Try.prog 24 [.agg (enc false q), .agg (enc false q)] [.b true] := by
  refine AC.go Try.func24 Try.ntmps24 rfl rfl fun w0 hw => ?_; simp [WfL, WfA, E_length, Enc.enc, In64] at hw
  have hA := eqIntS_s q.fr
  have hB := eqIntS_s q.to
  repeat' first | refine s1 ?_ | (refine kR ?_; first | refine F.c (hA) ?_ | refine F.c (hB) ?_) | fail
  exact F.ret rfl
def mkQ (k : Int) (q : Quiv) : Quiv := ⟨q.n, mkL k q.fr.length, mkL (k + q.fr.length) q.to.length⟩
theorem markQuiver_m (q : Quiv) (k : Int) (h0 : 0 ≤ k) (h1 : k + totQ q ≤ 4611686018427387904) : AM Try.prog 25 [.agg [.i q.n, .sl 0 q.fr.length 0 q.fr.length, .sl 1 q.to.length 0 q.to.length], .i k] [(1, E true q.fr), (1, E true q.to)] [.i (k + totQ q)] [(1, E true (mkQ k q).fr), (1, E true (mkQ k q).to)] := by
  refine AM.go Try.func25 Try.ntmps25 rfl rfl fun w0 mp hw => ?_; simp [WfL, WfA, E_length, Enc.enc, In64] at hw
  unfold totQ at *
  push_cast at *
  have hA := markIntS_m q.fr k h0 (by omega)
  have hB := markIntS_m q.to (k + q.fr.length) (by omega) (by omega)
  repeat' first | refine s1 ?_ | (refine kR ?_; first | refine F.m [0] (hA) ?_ | refine F.m [1] (hB) ?_) | fail
  refine F.retM (by rw [← Int.add_assoc]) ?_
  exact ⟨rfl, rfl, trivial⟩
theorem heldQuiver_a (k : Int) (q : Quiv) (h0 : 0 ≤ k) (h1 : k + totQ q ≤ 4611686018427387904) : AC Try.prog 78 [.agg (enc false (mkQ k q)), .i k] [.i (k + totQ q)] := by
  refine AC.go Try.func78 Try.ntmps78 rfl rfl fun w0 hw => ?_; simp [WfL, WfA, E_length, Enc.enc, In64] at hw
  unfold totQ at *
  push_cast at *
  have hA := heldIntS_a k q.fr.length h0 (by omega)
  have hB := heldIntS_a (k + q.fr.length) q.to.length (by omega) (by omega)
  repeat' first | refine s1 ?_ | (refine kR ?_; first | refine F.c (hA) ?_ | refine F.c (hB) ?_) | fail
  exact F.ret (by rw [← Int.add_assoc])
theorem szMatrix_a (m : Mat) (l : Int) (h0 : 0 ≤ l) (h1 : l ≤ 1048576) : AC Try.prog 85 [.agg (enc false m), .i l] [.i (sz1 m.m.length l)] := by
  refine AC.go Try.func85 Try.ntmps85 rfl rfl fun w0 hw => ?_; simp [WfL, WfA, E_length, Enc.enc, In64] at hw
  have hA := szIntS_a m.m l h0 h1
  have b1 := sz1_le (n := m.m.length) h0 h1
  generalize sz1 m.m.length l = a at hA b1
  by_cases ha : a < 0
  · obtain rfl : a = -1 := by omega
    repeat' first | refine s1 ?_ | (refine kR ?_; first | refine F.c (hA) ?_) | fail
    exact F.ret rfl
  · repeat' first | refine s1 ?_ | (refine kR ?_; first | refine F.c (hA) ?_) | fail
    exact F.ret rfl
theorem toMatrix_a (m : Mat) (h : m.m.length ≤ 1048576) : AC Try.prog 88 [.agg (enc false m)] [.agg (enc true m)] := by
  refine AC.go Try.func88 Try.ntmps88 rfl rfl fun w0 hw => ?_; simp [WfL, WfA, E_length, Enc.enc, In64] at hw
  have hA := toIntS_a m.m (by omega)
  repeat' first | refine s1 ?_ | (refine kR ?_; first | refine F.c (hA) ?_) | fail
  exact F.ret rfl
theorem eqMatrix_s (m : Mat) : AC Try.prog 92 [.agg (enc false m), .agg (enc false m)] [.b true] := by
  refine AC.go Try.func92 Try.ntmps92 rfl rfl fun w0 hw => ?_; simp [WfL, WfA, E_length, Enc.enc, In64] at hw
  have hA := eqIntS_s m.m
  repeat' first | refine s1 ?_ | (refine kR ?_; first | refine F.c (hA) ?_) | fail
  exact F.ret rfl
end Go.Proofs.Ytcalkmlaodjpaaa.V
