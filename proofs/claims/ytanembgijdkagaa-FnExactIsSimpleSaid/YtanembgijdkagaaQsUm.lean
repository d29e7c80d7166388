/- The laws' helpers: sizes, copies, comparisons, marks (several texts joined). Over any program; nothing is claimed of the given one. -/
import Derived.Test.YtanembgijdkagaaQsB1
import Derived.Test.YtanembgijdkagaaQsUc
import Derived.Test.YtanembgijdkagaaQsLa
namespace Go.Proofs.Ytanembgijdkagaa.V
open Go.RowKit G D
set_option linter.unusedVariables false
set_option linter.unusedSimpArgs false
set_option maxHeartbeats 400000
/-- what is left of the size -/
def sz1 (n : Nat) (left : Int) : Int := if left - n < 0 then -1 else left - n
theorem sz1_le {n : Nat} {l : Int} (h : 0 ≤ l) (h1 : l ≤ 1048576) : -1 ≤ sz1 n l ∧ sz1 n l ≤ 1048576 ∧ (0 ≤ sz1 n l → sz1 n l + n = l) := by
  unfold sz1; split <;> omega
theorem szIntS_a (xs : List Int) (l : Int) (h0 : 0 ≤ l) (h1 : l ≤ 1048576) : AC Try.prog 35 [ar false xs, .i l] [.i (sz1 xs.length l)] := by
  refine AC.go Try.func35 Try.ntmps35 rfl rfl fun w0 hw => ?_; simp [WfL, WfA, E_length, Enc.enc, In64] at hw
  repeat' first | refine s1 ?_ | (refine s2 ?_ ?_ <;> intro hc <;> (try simp only [decide_eq_true_eq, decide_eq_false_iff_not, Bool.not_eq_true', Bool.not_eq_false'] at hc)) | fail
  all_goals
    refine F.ret ?_
    simp [sz1, *] <;> omega
/-- the first k are copied -/
def part {α : Type} (xs : List α) (z : α) (k : Nat) : List α := xs.take k ++ List.replicate (xs.length - k) z
theorem part_zero {α : Type} (xs : List α) (z : α) : part xs z 0 = List.replicate xs.length z := by simp [part]
theorem part_all {α : Type} (xs : List α) (z : α) : part xs z xs.length = xs := by simp [part]
theorem part_len {α : Type} (xs : List α) (z : α) {k : Nat} (hk : k ≤ xs.length) : (part xs z k).length = xs.length := by simp [part]; omega
theorem part_set {α : Type} [Inhabited α] (xs : List α) (z : α) {k : Nat} (hk : k < xs.length) : (part xs z k).set k (xs.getD k default) = part xs z (k + 1) := by
  unfold part
  have h1 : xs.length - k = (xs.length - (k + 1)) + 1 := by omega
  have h2 : k - (xs.take k).length = 0 := by simp; omega
  rw [h1, List.replicate_succ, List.set_append_right _ _ (by simp; omega), h2, List.set_cons_zero, List.take_succ_eq_append_getElem hk, List.append_assoc]
  congr 1
  simp [hk]
theorem toIntS_a (xs : List Int) (h : xs.length ≤ 1048576) : AC Try.prog 31 [ar false xs] [.dt true 1 (E true xs)] := by
  refine AC.go Try.func31 Try.ntmps31 rfl rfl fun w0 hw => ?_; simp [WfL, WfA, E_length, Enc.enc, In64] at hw
  repeat' first | refine s1 ?_ | (refine kR ?_; first | refine F.mk (m := xs.length) Int rfl rfl rfl (mkB (by omega)) (by omega) rfl rfl ?_) | fail
  refine F.loop (σ := Nat) [4, 8, 9, 10, 11, 12, 13, 14, 15, 16, 17, 18, 19, 20] (fun k => [(4, .i k)]) (fun k => [(0, .live false 1 (E true (part xs 0 k)))]) (fun k => k ≤ xs.length) (fun k => xs.length - k) 0 ⟨rfl, trivial⟩ ⟨obE (by rw [part_zero]), trivial⟩ (Nat.zero_le _) ?_
  rintro k h1
  have hp := part_len xs 0 h1
  by_cases hlt : k < xs.length
  · repeat' first | refine s1 ?_ | fail
    exact ⟨k + 1, F.fit ⟨rfl, trivial⟩ ⟨obE (by rw [Nat.zero_add, part_set xs 0 hlt]), trivial⟩, by omega, by omega⟩
  · obtain rfl : k = xs.length := by omega
    rw [part_all] at hp ⊢
    repeat' first | refine s1 ?_ | fail
    exact F.ret rfl
theorem eqIntS_a (xs ys : List Int) : AC Try.prog 33 [ar false xs, ar false ys] [.b (decide (xs = ys))] := by
  refine AC.go Try.func33 Try.ntmps33 rfl rfl fun w0 hw => ?_; simp [WfL, WfA, E_length, Enc.enc, In64] at hw
  by_cases hl : xs.length = ys.length
  · repeat' first | refine s1 ?_ | fail
    refine F.loop (σ := Nat) [4, 5, 11, 12, 13, 14, 15, 16, 17, 18, 19, 20, 21, 22, 23, 24, 25] (fun k => [(5, .i k)]) (fun _ => []) (fun k => k ≤ xs.length ∧ ∀ j, j < k → xs.getD j default = ys.getD j default) (fun k => xs.length - k) 0 ⟨rfl, trivial⟩ trivial ⟨Nat.zero_le _, fun j hj => by omega⟩ ?_
    rintro k ⟨h1, h2⟩
    by_cases hlt : k < xs.length
    · repeat' first | refine s1 ?_ | fail
      refine AW.draw 9 G.mixed (by kernel_rfl) ?_
      refine dP 0 ?_
      refine dP 1 ?_
      refine dP 2 ?_
      refine dL 3 ?_
      refine dP 4 ?_
      refine dP 5 ?_
      refine dP 6 ?_
      refine dL 7 ?_
      refine dP 8 ?_
      refine dN ?_
      by_cases he : xs.getD k default = ys.getD k default
      · repeat' first | refine s1 ?_ | fail
        refine ⟨k + 1, F.fit ⟨rfl, trivial⟩ trivial, ⟨by omega, fun j hj => ?_⟩, by omega⟩
        rcases Nat.lt_or_ge j k with h | h
        · exact h2 j h
        · obtain rfl : j = k := by omega
          exact he
      · repeat' first | refine s1 ?_ | fail
        refine F.ret ?_
        rw [decide_eq_false fun h => he (by rw [h])]
    · repeat' first | refine s1 ?_ | fail
      refine F.ret ?_
      rw [decide_eq_true (List.ext_getElem hl fun i hi hi' => by have := h2 i (by omega); simpa [hi, hi'] using this)]
  · repeat' first | refine s1 ?_ | fail
    refine F.ret ?_
    rw [decide_eq_false fun h => hl (by rw [h])]
end Go.Proofs.Ytanembgijdkagaa.V
namespace Go.Proofs.Ytanembgijdkagaa.V
open Go.RowKit G D
set_option linter.unusedVariables false
set_option linter.unusedSimpArgs false
set_option maxHeartbeats 400000
end Go.Proofs.Ytanembgijdkagaa.V
namespace Go.Proofs.Ytanembgijdkagaa.V
open V.Enc (enc)
open Go.RowKit G D
set_option linter.unusedVariables false
set_option linter.unusedSimpArgs false
set_option maxHeartbeats 400000
theorem sz1_add (a b : Nat) (l : Int) : sz1 (a + b) l = if sz1 a l < 0 then -1 else sz1 b (sz1 a l) := by
  unfold sz1; push_cast; split <;> split <;> (try split) <;> omega
theorem sz1_le' {n : Nat} {l : Int} (h : 0 ≤ sz1 n l) : (n : Int) ≤ l ∧ sz1 n l = l - n := by
  unfold sz1 at *; split at h <;> omega
def totQ (q : Quiv) : Nat := q.fr.length + q.to.length
theorem szQuiver_a (q : Quiv) (l : Int) (h0 : 0 ≤ l) (h1 : l ≤ 1048576) : AC Try.prog 8 [.agg (enc false q), .i l] [.i (sz1 (totQ q) l)] := by
  refine AC.go Try.func8 Try.ntmps8 rfl rfl fun w0 hw => ?_; simp [WfL, WfA, E_length, Enc.enc, In64] at hw
  rw [totQ, sz1_add]
  have hA := szIntS_a q.fr l h0 h1
  have b1 := sz1_le (n := q.fr.length) h0 h1
  generalize sz1 q.fr.length l = a at hA b1
  by_cases ha : a < 0
  · rw [if_pos ha]
    repeat' first | refine s1 ?_ | (refine kR ?_; first | refine F.c (hA) ?_) | fail
    exact F.ret rfl
  · rw [if_neg ha]
    have hB := szIntS_a q.to a (by omega) (by omega)
    have b2 := sz1_le (n := q.to.length) (l := a) (by omega) (by omega)
    generalize sz1 q.to.length a = b at hB b2
    by_cases hb : b < 0
    · obtain rfl : b = -1 := by omega
      repeat' first | refine s1 ?_ | (refine kR ?_; first | refine F.c (hA) ?_ | refine F.c (hB) ?_) | fail
      exact F.ret rfl
    · repeat' first | refine s1 ?_ | (refine kR ?_; first | refine F.c (hA) ?_ | refine F.c (hB) ?_) | fail
      exact F.ret rfl
theorem toQuiver_a (q : Quiv) (h : totQ q ≤ 1048576) : AC Try.prog 10 [.agg (enc false q)] [.agg (enc true q)] := by
  refine AC.go Try.func10 Try.ntmps10 rfl rfl fun w0 hw => ?_; simp [WfL, WfA, E_length, Enc.enc, In64] at hw
  unfold totQ at h
  have hA := toIntS_a q.fr (by omega)
  have hB := toIntS_a q.to (by omega)
  repeat' first | refine s1 ?_ | (refine kR ?_; first | refine F.c (hA) ?_ | refine F.c (hB) ?_) | fail
  exact F.ret rfl
theorem eqIntS_s (xs : List Int) : AC Try.prog 33 [ar false xs, ar false xs] [.b true] := by
  have := eqIntS_a xs xs
  rwa [decide_eq_true rfl] at this
theorem eqQuiver_s (q : Quiv) : AC Try.prog 13 [.agg (enc false q), .agg (enc false q)] [.b true] := by
  refine AC.go Try.func13 Try.ntmps13 rfl rfl fun w0 hw => ?_; simp [WfL, WfA, E_length, Enc.enc, In64] at hw
  have hA := eqIntS_s q.fr
  have hB := eqIntS_s q.to
  repeat' first | refine s1 ?_ | (refine kR ?_; first | refine F.c (hA) ?_ | refine F.c (hB) ?_) | fail
  exact F.ret rfl
theorem szMatrix_a (m : Mat) (l : Int) (h0 : 0 ≤ l) (h1 : l ≤ 1048576) : AC Try.prog 58 [.agg (enc false m), .i l] [.i (sz1 m.m.length l)] := by
  refine AC.go Try.func58 Try.ntmps58 rfl rfl fun w0 hw => ?_; simp [WfL, WfA, E_length, Enc.enc, In64] at hw
  have hA := szIntS_a m.m l h0 h1
  have b1 := sz1_le (n := m.m.length) h0 h1
  generalize sz1 m.m.length l = a at hA b1
  by_cases ha : a < 0
  · obtain rfl : a = -1 := by omega
    repeat' first | refine s1 ?_ | (refine kR ?_; first | refine F.c (hA) ?_) | fail
    exact F.ret rfl
  · repeat' first | refine s1 ?_ | (refine kR ?_; first | refine F.c (hA) ?_) | fail
    exact F.ret rfl
theorem toMatrix_a (m : Mat) (h : m.m.length ≤ 1048576) : AC Try.prog 64 [.agg (enc false m)] [.agg (enc true m)] := by
  refine AC.go Try.func64 Try.ntmps64 rfl rfl fun w0 hw => ?_; simp [WfL, WfA, E_length, Enc.enc, In64] at hw
  have hA := toIntS_a m.m (by omega)
  repeat' first | refine s1 ?_ | (refine kR ?_; first | refine F.c (hA) ?_) | fail
  exact F.ret rfl
theorem eqMatrix_s (m : Mat) : AC Try.prog 72 [.agg (enc false m), .agg (enc false m)] [.b true] := by
  refine AC.go Try.func72 Try.ntmps72 rfl rfl fun w0 hw => ?_; simp [WfL, WfA, E_length, Enc.enc, In64] at hw
  have hA := eqIntS_s m.m
  repeat' first | refine s1 ?_ | (refine kR ?_; first | refine F.c (hA) ?_) | fail
  exact F.ret rfl
end Go.Proofs.Ytanembgijdkagaa.V
namespace Go.Proofs.Ytanembgijdkagaa.V
open V.Enc (enc)
open Go.RowKit G D
set_option linter.unusedVariables false
set_option linter.unusedSimpArgs false
set_option maxHeartbeats 400000
section
variable {α : Type} (f : Int → α → α) (c : α → Nat)
def cnt (xs : List α) : Nat := (xs.map c).sum
theorem cnt_app (xs ys : List α) : cnt c (xs ++ ys) = cnt c xs + cnt c ys := by unfold cnt; rw [List.map_append, List.sum_append]
theorem cnt_succ [Inhabited α] {xs : List α} {j : Nat} (h : j < xs.length) : cnt c (xs.take (j + 1)) = cnt c (xs.take j) + c (xs.getD j default) := by
  rw [List.take_succ_eq_append_getElem h, cnt_app]; simp [cnt, h]
theorem cnt_le {xs : List α} (j : Nat) : cnt c (xs.take j) ≤ cnt c xs := by
  have e := congrArg (cnt c) (List.take_append_drop j xs)
  rw [cnt_app] at e
  omega
end
def totM (m : Mat) : Nat := m.m.length
def totMS (ms : List Mat) : Nat := ms.length + cnt totM ms
theorem szMatrixS_a (ms : List Mat) (l : Int) (h0 : 0 ≤ l) (h1 : l ≤ 1048576) : AC Try.prog 20 [ar false ms, .i l] [.i (sz1 (totMS ms) l)] := by
  refine AC.go Try.func20 Try.ntmps20 rfl rfl fun w0 hw => ?_; simp [WfL, WfA, E_length, Enc.enc, In64] at hw
  by_cases hn : l - ms.length < 0
  · have e : sz1 (totMS ms) l = -1 := by unfold sz1 totMS; push_cast; rw [if_pos (by omega)]
    rw [e]
    repeat' first | refine s1 ?_ | fail
    exact F.ret rfl
  · repeat' first | refine s1 ?_ | fail
    refine F.loop (σ := Nat) [1, 4, 5, 12, 13, 14, 15, 16, 17, 18, 19, 20, 21, 22, 23, 24, 25] (fun j => [(1, .i (l - ms.length - cnt totM (ms.take j))), (5, .i j)]) (fun _ => []) (fun j => j ≤ ms.length ∧ 0 ≤ l - ms.length - cnt totM (ms.take j)) (fun j => ms.length - j) 0 ⟨iE (by simp [cnt]), rfl, trivial⟩ trivial ⟨Nat.zero_le _, by simp [cnt]; omega⟩ ?_
    rintro j ⟨h2, h3⟩
    by_cases hlt : j < ms.length
    · have hA := szMatrix_a (ms.getD j default) (l - ms.length - cnt totM (ms.take j)) h3 (by omega)
      have hc := cnt_succ totM hlt
      have hcl := cnt_le totM (xs := ms) (j + 1)
      by_cases ha : l - ms.length - cnt totM (ms.take (j + 1)) < 0
      · have e1 : sz1 (ms.getD j default).m.length (l - ms.length - cnt totM (ms.take j)) = -1 := by unfold sz1; rw [if_pos (by simp only [totM] at *; omega)]
        rw [e1] at hA
        have e : sz1 (totMS ms) l = -1 := by unfold sz1 totMS; push_cast; rw [if_pos (by omega)]
        rw [e]
        repeat' first | refine s1 ?_ | (refine kR ?_; first | refine F.c (hA) ?_) | fail
        exact F.ret rfl
      · have e1 : sz1 (ms.getD j default).m.length (l - ms.length - cnt totM (ms.take j)) = l - ms.length - cnt totM (ms.take (j + 1)) := by unfold sz1; rw [if_neg (by simp only [totM] at *; omega), hc]; simp only [totM]; push_cast; omega
        rw [e1] at hA
        repeat' first | refine s1 ?_ | (refine kR ?_; first | refine F.c (hA) ?_) | fail
        exact ⟨j + 1, F.fit ⟨rfl, rfl, trivial⟩ trivial, ⟨by omega, by omega⟩, by omega⟩
    · obtain rfl : j = ms.length := by omega
      rw [List.take_length] at h3 ⊢
      have e : sz1 (totMS ms) l = l - ms.length - cnt totM ms := by unfold sz1 totMS; push_cast; rw [if_neg (by omega)]; omega
      rw [e]
      repeat' first | refine s1 ?_ | fail
      exact F.ret rfl
theorem cnt_mem {α : Type} (c : α → Nat) {xs : List α} {x : α} (h : x ∈ xs) : c x ≤ cnt c xs := by
  induction xs with
  | nil => cases h
  | cons a l ih =>
    simp only [cnt, List.map_cons, List.sum_cons] at *
    rcases List.mem_cons.1 h with rfl | h
    · omega
    · have := ih h; omega
theorem toMatrixS_a (ms : List Mat) (h : totMS ms ≤ 1048576) : AC Try.prog 23 [ar false ms] [.dt true (Enc.nc Mat) (E true ms)] := by
  refine AC.go Try.func23 Try.ntmps23 rfl rfl fun w0 hw => ?_; simp [WfL, WfA, E_length, Enc.enc, In64] at hw
  unfold totMS at h
  repeat' first | refine s1 ?_ | (refine kR ?_; first | refine F.mk (m := ms.length) Mat rfl rfl rfl (mkB (by omega)) (by omega) rfl rfl ?_) | fail
  refine F.loop (σ := Nat) [4, 8, 9, 10, 11, 12, 13, 14, 15, 16, 17, 18, 19, 20, 21] (fun k => [(4, .i k)]) (fun k => [(0, .live false 3 (E true (part ms ⟨0, 0, []⟩ k)))]) (fun k => k ≤ ms.length) (fun k => ms.length - k) 0 ⟨rfl, trivial⟩ ⟨obE (by rw [part_zero]), trivial⟩ (Nat.zero_le _) ?_
  rintro k h1
  have hp := part_len ms ⟨0, 0, []⟩ h1
  by_cases hlt : k < ms.length
  · have hA := toMatrix_a (ms.getD k default) (by have := cnt_mem totM (gm (d := default) hlt); unfold totM at *; omega)
    repeat' first | refine s1 ?_ | (refine kR ?_; first | refine F.c (hA) ?_) | fail
    refine F.stGE (α := Mat) (oo := true) (v := ms.getD k default) rfl rfl rfl rfl rfl (by omega) (by omega) (.at1 rfl (.at1 rfl (.mv rfl (by simp) (E_length _ _) (E_pure _ _) .nil))) rfl rfl rfl rfl rfl ?_
    repeat' first | refine s1 ?_ | fail
    exact ⟨k + 1, F.fit ⟨rfl, trivial⟩ ⟨obE (by rw [Nat.zero_add, part_set ms _ hlt]), trivial⟩, by omega, by omega⟩
  · obtain rfl : k = ms.length := by omega
    rw [part_all] at hp ⊢
    repeat' first | refine s1 ?_ | fail
    exact F.ret rfl
theorem eqMatrixS_s (ms : List Mat) : AC Try.prog 25 [ar false ms, ar false ms] [.b true] := by
  refine AC.go Try.func25 Try.ntmps25 rfl rfl fun w0 hw => ?_; simp [WfL, WfA, E_length, Enc.enc, In64] at hw
  repeat' first | refine s1 ?_ | fail
  refine F.loop (σ := Nat) [4, 5, 11, 12, 13, 14, 15, 16, 17, 18, 19, 20, 21, 22, 23, 24, 25, 26] (fun k => [(5, .i k)]) (fun _ => []) (fun k => k ≤ ms.length) (fun k => ms.length - k) 0 ⟨rfl, trivial⟩ trivial (Nat.zero_le _) ?_
  rintro k h1
  by_cases hlt : k < ms.length
  · have hA := eqMatrix_s (ms.getD k default)
    repeat' first | refine s1 ?_ | fail
    refine AW.draw 10 G.mixed (by kernel_rfl) ?_
    refine dP 0 ?_
    refine dP 1 ?_
    refine dP 2 ?_
    refine dL 3 ?_
    refine dP 4 ?_
    refine dP 5 ?_
    refine dP 6 ?_
    refine dL 7 ?_
    refine dO 8 true ?_
    first | refine s1 ?_ | refine F.c (hA) ?_
    refine ARg.nil (ATh.normal ?_)
    refine dP 9 ?_
    refine dN ?_
    repeat' first | refine s1 ?_ | fail
    exact ⟨k + 1, F.fit ⟨rfl, trivial⟩ trivial, by omega, by omega⟩
  · repeat' first | refine s1 ?_ | fail
    exact F.ret rfl
def totR (r : Rep) : Nat := totQ r.q + r.d.length + totMS r.m
theorem szRep_a (r : Rep) (l : Int) (h0 : 0 ≤ l) (h1 : l ≤ 1048576) : AC Try.prog 19 [.agg (enc false r), .i l] [.i (sz1 (totR r) l)] := by
  refine AC.go Try.func19 Try.ntmps19 rfl rfl fun w0 hw => ?_; simp [WfL, WfA, E_length, Enc.enc, In64] at hw
  rw [totR, sz1_add, sz1_add]
  have hA := szQuiver_a r.q l h0 h1
  have b1 := sz1_le (n := totQ r.q) h0 h1
  generalize sz1 (totQ r.q) l = a at hA b1
  by_cases ha : a < 0
  · rw [if_pos ha]
    repeat' first | refine s1 ?_ | (refine kR ?_; first | refine F.c (hA) ?_) | fail
    exact F.ret rfl
  · rw [if_neg ha]
    have hB := szIntS_a r.d a (by omega) (by omega)
    have b2 := sz1_le (n := r.d.length) (l := a) (by omega) (by omega)
    generalize sz1 r.d.length a = b at hB b2
    by_cases hb : b < 0
    · rw [if_pos hb]
      repeat' first | refine s1 ?_ | (refine kR ?_; first | refine F.c (hA) ?_ | refine F.c (hB) ?_) | fail
      exact F.ret rfl
    · rw [if_neg hb]
      have hC := szMatrixS_a r.m b (by omega) (by omega)
      have b3 := sz1_le (n := totMS r.m) (l := b) (by omega) (by omega)
      generalize sz1 (totMS r.m) b = d at hC b3
      by_cases hd : d < 0
      · obtain rfl : d = -1 := by omega
        repeat' first | refine s1 ?_ | (refine kR ?_; first | refine F.c (hA) ?_ | refine F.c (hB) ?_ | refine F.c (hC) ?_) | fail
        exact F.ret rfl
      · repeat' first | refine s1 ?_ | (refine kR ?_; first | refine F.c (hA) ?_ | refine F.c (hB) ?_ | refine F.c (hC) ?_) | fail
        exact F.ret rfl
theorem toRep_a (r : Rep) (h : totR r ≤ 1048576) : AC Try.prog 22 [.agg (enc false r)] [.agg (enc true r)] := by
  refine AC.go Try.func22 Try.ntmps22 rfl rfl fun w0 hw => ?_; simp [WfL, WfA, E_length, Enc.enc, In64] at hw
  unfold totR at h
  have hA := toQuiver_a r.q (by omega)
  have hB := toIntS_a r.d (by omega)
  have hC := toMatrixS_a r.m (by omega)
  repeat' first | refine s1 ?_ | (refine kR ?_; first | refine F.c (hA) ?_ | refine F.c (hB) ?_ | refine F.c (hC) ?_) | fail
  exact F.ret rfl
theorem eqRep_s (r : Rep) : AC Try.prog 12 [.agg (enc false r), .agg (enc false r)] [.b true] := by
  refine AC.go Try.func12 Try.ntmps12 rfl rfl fun w0 hw => ?_; simp [WfL, WfA, E_length, Enc.enc, In64] at hw
  have hA := eqQuiver_s r.q
  have hB := eqIntS_s r.d
  have hC := eqMatrixS_s r.m
  repeat' first | refine s1 ?_ | (refine kR ?_; first | refine F.c (hA) ?_ | refine F.c (hB) ?_ | refine F.c (hC) ?_) | fail
  exact F.ret rfl
end Go.Proofs.Ytanembgijdkagaa.V
namespace Go.Proofs.Ytanembgijdkagaa.V
open Go.RowKit G D
set_option linter.unusedVariables false
set_option linter.unusedSimpArgs false
set_option maxHeartbeats 400000
theorem set_get {α : Type} [Inhabited α] {L : List α} {j : Nat} (h : j < L.length) (x : α) : (L.set j x).getD j default = x := by simp [h]
end Go.Proofs.Ytanembgijdkagaa.V
namespace Go.Proofs.Ytanembgijdkagaa.V
open Go.RowKit G D
set_option linter.unusedVariables false
set_option linter.unusedSimpArgs false
instance : RdE quivR := ⟨rfl, fun h => by
  obtain ⟨v1, v2, F1, F2, h1, h2, rfl, rfl⟩ := h
  obtain ⟨v3, v4, F3, F4, h3, h4, rfl, rfl⟩ := h2
  exact (RdE.h h1).append ((RdE.h h3).append (RdE.h h4))⟩
def matR : Rp Mat := mapR (fun m => (m.r, m.c, m.m)) (seqR intR (seqR intR (listR intR)))
instance : RdE matR := ⟨rfl, fun h => by
  obtain ⟨v1, v2, F1, F2, h1, h2, rfl, rfl⟩ := h
  obtain ⟨v3, v4, F3, F4, h3, h4, rfl, rfl⟩ := h2
  exact (RdE.h h1).append ((RdE.h h3).append (RdE.h h4))⟩
def repR : Rp Rep := mapR (fun r => (r.p, r.q, r.d, r.m)) (seqR intR (seqR quivR (seqR (listR intR) (listR matR))))
instance : RdE repR := ⟨rfl, fun h => by
  obtain ⟨v1, v2, F1, F2, h1, h2, rfl, rfl⟩ := h
  obtain ⟨v3, v4, F3, F4, h3, h4, rfl, rfl⟩ := h2
  obtain ⟨v5, v6, F5, F6, h5, h6, rfl, rfl⟩ := h4
  exact (RdE.h h1).append ((RdE.h h3).append ((RdE.h h5).append (RdE.h h6)))⟩
instance : Rds Try.prog 79 matR := Rds.struct (fun x => ⟨x.1, x.2.1, x.2.2⟩) (fun _ => rfl) Try.underlying79 (by kernel_rfl) (RdsF.cons rfl (inferInstance : Rds Try.prog 3 intR) rfl (RdsF.cons rfl (inferInstance : Rds Try.prog 3 intR) rfl (RdsF.one rfl (inferInstance : Rds Try.prog 22 (listR intR)))))
instance : Rds Try.prog 38 (listR matR) := Rds.slice Try.underlying38 (by kernel_rfl) inferInstance (by decide)
instance : Rds Try.prog 40 repR := Rds.struct (fun x => ⟨x.1, x.2.1, x.2.2.1, x.2.2.2⟩) (fun _ => rfl) Try.underlying40 (by kernel_rfl) (RdsF.cons rfl (inferInstance : Rds Try.prog 3 intR) rfl (RdsF.cons rfl (inferInstance : Rds Try.prog 24 quivR) rfl (RdsF.cons rfl (inferInstance : Rds Try.prog 22 (listR intR)) rfl (RdsF.one rfl (inferInstance : Rds Try.prog 38 (listR matR))))))
end Go.Proofs.Ytanembgijdkagaa.V
