/- Contracts of the laws' helpers on lists of matrices and on representations: sizes, copies, equality, marks. -/
import Derived.Test.YtcalkmlaodjpaaaM2
namespace Go.Proofs.Ytcalkmlaodjpaaa.V
open V.Enc (enc)
open Go.RowKit G D
set_option linter.unusedVariables false
set_option linter.unusedSimpArgs false
set_option maxHeartbeats 400000

/-! ### lists whose elements are marked one after the other -/
section
variable {α : Type} (f : Int → α → α) (c : α → Nat)
def cnt (xs : List α) : Nat := (xs.map c).sum
def mkA : Int → List α → List α
  | _, [] => []
  | k, x :: xs => f k x :: mkA (k + c x) xs
def mkq (k : Int) (xs : List α) (j : Nat) : List α := mkA f c k (xs.take j) ++ xs.drop j
theorem mkA_len : ∀ (k : Int) (xs : List α), (mkA f c k xs).length = xs.length
  | _, [] => rfl
  | k, x :: xs => by simp [mkA, mkA_len]
theorem mkA_snoc : ∀ (k : Int) (xs : List α) (x : α), mkA f c k (xs ++ [x]) = mkA f c k xs ++ [f (k + cnt c xs) x]
  | k, [], x => by simp [mkA, cnt]
  | k, y :: xs, x => by
    have e : k + ↑(c y) + ↑(cnt c xs) = k + ↑(cnt c (y :: xs)) := by simp [cnt]; omega
    simp only [List.cons_append, mkA, mkA_snoc, e]
theorem mkq_zero (k : Int) (xs : List α) : mkq f c k xs 0 = xs := by simp [mkq, mkA]
theorem mkq_all (k : Int) (xs : List α) : mkq f c k xs xs.length = mkA f c k xs := by simp [mkq]
theorem mkq_len {k : Int} {xs : List α} {j : Nat} (h : j ≤ xs.length) : (mkq f c k xs j).length = xs.length := by simp [mkq, mkA_len]; omega
theorem mkq_set [Inhabited α] {k : Int} {xs : List α} {j : Nat} (h : j < xs.length) : (mkq f c k xs j).set j (f (k + cnt c (xs.take j)) (xs.getD j default)) = mkq f c k xs (j + 1) := by
  unfold mkq
  have hl : (mkA f c k (xs.take j)).length = j := by rw [mkA_len]; simp; omega
  rw [List.set_append_right _ _ (by omega), hl, Nat.sub_self, List.drop_eq_getElem_cons h, List.set_cons_zero, List.take_succ_eq_append_getElem h, mkA_snoc, List.append_assoc]
  simp [h]
theorem mkq_get [Inhabited α] {k : Int} {xs : List α} {j : Nat} (h : j < xs.length) : (mkq f c k xs j).getD j default = xs.getD j default := by
  unfold mkq
  have hl : (mkA f c k (xs.take j)).length = j := by rw [mkA_len]; simp; omega
  rw [List.getD_eq_getElem?_getD, List.getElem?_append_right (by omega), hl, Nat.sub_self, List.drop_eq_getElem_cons h]
  simp [h]
theorem cnt_app (xs ys : List α) : cnt c (xs ++ ys) = cnt c xs + cnt c ys := by unfold cnt; rw [List.map_append, List.sum_append]
theorem cnt_succ [Inhabited α] {xs : List α} {j : Nat} (h : j < xs.length) : cnt c (xs.take (j + 1)) = cnt c (xs.take j) + c (xs.getD j default) := by
  rw [List.take_succ_eq_append_getElem h, cnt_app]; simp [cnt, h]
theorem cnt_le {xs : List α} (j : Nat) : cnt c (xs.take j) ≤ cnt c xs := by
  have e := congrArg (cnt c) (List.take_append_drop j xs)
  rw [cnt_app] at e
  omega
theorem mkA_get [Inhabited α] : ∀ {k : Int} {xs : List α} {j : Nat}, j < xs.length → (mkA f c k xs).getD j default = f (k + cnt c (xs.take j)) (xs.getD j default)
  | k, [], j, h => by simp at h
  | k, x :: xs, 0, h => by simp [mkA, cnt]
  | k, x :: xs, j + 1, h => by
    have h' : j < xs.length := by simpa using h
    have e : k + ↑(c x) + ↑(cnt c (xs.take j)) = k + ↑(cnt c ((x :: xs).take (j + 1))) := by simp [cnt]; omega
    have := mkA_get (k := k + c x) h'
    rw [e] at this
    simpa [mkA] using this
end
def totM (m : Mat) : Nat := m.m.length
def ctM (m : Mat) : Nat := m.m.length + 2
def totMS (ms : List Mat) : Nat := ms.length + cnt totM ms
theorem szMatrixS_a (ms : List Mat) (l : Int) (h0 : 0 ≤ l) (h1 : l ≤ 1048576) : AC Try.prog 43 [ar false ms, .i l] [.i (sz1 (totMS ms) l)] := by
  refine AC.go Try.func43 Try.ntmps43 rfl rfl fun w0 hw => ?_; simp [WfL, WfA, E_length, Enc.enc, In64] at hw
  by_cases hn : l - ms.length < 0
  · have e : sz1 (totMS ms) l = -1 := by unfold sz1 totMS; push_cast; rw [if_pos (by omega)]
    rw [e]
    repeat' first | refine s1 ?_ | fail
    exact F.ret rfl
  · repeat' first | refine s1 ?_ | fail
    refine F.loop (σ := Nat) [1, 4, 5, 12, 13, 14, 15, 16, 17, 18, 19, 20, 21, 22, 23, 24, 25] (fun j => [(1, .i (l - ms.length - cnt totM (ms.take j))), (5, .i j)]) (fun _ => []) (fun j => j ≤ ms.length ∧ 0 ≤ l - ms.length - cnt totM (ms.take j)) (fun j => ms.length - j) 0 ⟨iE (by simp [cnt]), rfl, trivial⟩ trivial ⟨Nat.zero_le _, by simp [cnt]; omega⟩ ?_
    rintro j ⟨h2, h3⟩
    by_cases hlt : j < ms.length
    · have hA := szMatrix_a (ms.getD j default) (l - ms.length - cnt totM (ms.take j)) h3 (by omega)
      have hc := cnt_succ totM hlt
      have hcl := cnt_le totM (xs := ms) (j + 1)
      by_cases ha : l - ms.length - cnt totM (ms.take (j + 1)) < 0
      · have e1 : sz1 (ms.getD j default).m.length (l - ms.length - cnt totM (ms.take j)) = -1 := by unfold sz1; rw [if_pos (by simp only [totM] at *; omega)]
        rw [e1] at hA
        have e : sz1 (totMS ms) l = -1 := by unfold sz1 totMS; push_cast; rw [if_pos (by omega)]
        rw [e]
        repeat' first | refine s1 ?_ | (refine kR ?_; first | refine F.c (hA) ?_) | fail
        exact F.ret rfl
      · have e1 : sz1 (ms.getD j default).m.length (l - ms.length - cnt totM (ms.take j)) = l - ms.length - cnt totM (ms.take (j + 1)) := by unfold sz1; rw [if_neg (by simp only [totM] at *; omega), hc]; simp only [totM]; push_cast; omega
        rw [e1] at hA
        repeat' first | refine s1 ?_ | (refine kR ?_; first | refine F.c (hA) ?_) | fail
        exact ⟨j + 1, F.fit ⟨rfl, rfl, trivial⟩ trivial, ⟨by omega, by omega⟩, by omega⟩
    · obtain rfl : j = ms.length := by omega
      rw [List.take_length] at h3 ⊢
      have e : sz1 (totMS ms) l = l - ms.length - cnt totM ms := by unfold sz1 totMS; push_cast; rw [if_neg (by omega)]; omega
      rw [e]
      repeat' first | refine s1 ?_ | fail
      exact F.ret rfl
theorem cnt_mem {α : Type} (c : α → Nat) {xs : List α} {x : α} (h : x ∈ xs) : c x ≤ cnt c xs := by
  induction xs with
  | nil => cases h
  | cons a l ih =>
    simp only [cnt, List.map_cons, List.sum_cons] at *
    rcases List.mem_cons.1 h with rfl | h
    · omega
    · have := ih h; omega
theorem toMatrixS_a (ms : List Mat) (h : totMS ms ≤ 1048576) : AC Try.prog 46 [ar false ms] [.dt true (Enc.nc Mat) (E true ms)] := by
  refine AC.go Try.func46 Try.ntmps46 rfl rfl fun w0 hw => ?_; simp [WfL, WfA, E_length, Enc.enc, In64] at hw
  unfold totMS at h
  repeat' first | refine s1 ?_ | (refine kR ?_; first | refine F.mk (m := ms.length) Mat rfl rfl rfl (mkB (by omega)) (by omega) rfl rfl ?_) | fail
  refine F.loop (σ := Nat) [4, 8, 9, 10, 11, 12, 13, 14, 15, 16, 17, 18, 19, 20, 21] (fun k => [(4, .i k)]) (fun k => [(0, .live false 3 (E true (part ms ⟨0, 0, []⟩ k)))]) (fun k => k ≤ ms.length) (fun k => ms.length - k) 0 ⟨rfl, trivial⟩ ⟨obE (by rw [part_zero]), trivial⟩ (Nat.zero_le _) ?_
  rintro k h1
  have hp := part_len ms ⟨0, 0, []⟩ h1
  by_cases hlt : k < ms.length
  · have hA := toMatrix_a (ms.getD k default) (by have := cnt_mem totM (gm (d := default) hlt); unfold totM at *; omega)
    repeat' first | refine s1 ?_ | (refine kR ?_; first | refine F.c (hA) ?_) | fail
    refine F.stGE (α := Mat) (oo := true) (v := ms.getD k default) rfl rfl rfl rfl rfl (by omega) (by omega) (.at1 rfl (.at1 rfl (.mv rfl (by simp) (E_length _ _) (E_pure _ _) .nil))) rfl rfl rfl rfl rfl ?_
    repeat' first | refine s1 ?_ | fail
    exact ⟨k + 1, F.fit ⟨rfl, trivial⟩ ⟨obE (by rw [Nat.zero_add, part_set ms _ hlt]), trivial⟩, by omega, by omega⟩
  · obtain rfl : k = ms.length := by omega
    rw [part_all] at hp ⊢
    repeat' first | refine s1 ?_ | fail
    exact F.ret rfl
theorem eqMatrixS_s (ms : List Mat) : AC Try.prog 48 [ar false ms, ar false ms] [.b true] := by
  refine AC.go Try.func48 Try.ntmps48 rfl rfl fun w0 hw => ?_; simp [WfL, WfA, E_length, Enc.enc, In64] at hw
  repeat' first | refine s1 ?_ | fail
  refine F.loop (σ := Nat) [4, 5, 11, 12, 13, 14, 15, 16, 17, 18, 19, 20, 21, 22, 23, 24, 25, 26] (fun k => [(5, .i k)]) (fun _ => []) (fun k => k ≤ ms.length) (fun k => ms.length - k) 0 ⟨rfl, trivial⟩ trivial (Nat.zero_le _) ?_
  rintro k h1
  by_cases hlt : k < ms.length
  · have hA := eqMatrix_s (ms.getD k default)
    repeat' first | refine s1 ?_ | fail
    refine AW.draw 10 G.mixed (by kernel_rfl) ?_
    refine dP 0 ?_
    refine dP 1 ?_
    refine dP 2 ?_
    refine dL 3 ?_
    refine dP 4 ?_
    refine dP 5 ?_
    refine dP 6 ?_
    refine dL 7 ?_
    refine dO 8 true ?_
    first | refine s1 ?_ | refine F.c (hA) ?_
    refine ARg.nil (ATh.normal ?_)
    refine dP 9 ?_
    refine dN ?_
    repeat' first | refine s1 ?_ | fail
    exact ⟨k + 1, F.fit ⟨rfl, trivial⟩ trivial, by omega, by omega⟩
  · repeat' first | refine s1 ?_ | fail
    exact F.ret rfl
def totR (r : Rep) : Nat := totQ r.q + r.d.length + totMS r.m
theorem szRep_a (r : Rep) (l : Int) (h0 : 0 ≤ l) (h1 : l ≤ 1048576) : AC Try.prog 42 [.agg (enc false r), .i l] [.i (sz1 (totR r) l)] := by
  refine AC.go Try.func42 Try.ntmps42 rfl rfl fun w0 hw => ?_; simp [WfL, WfA, E_length, Enc.enc, In64] at hw
  rw [totR, sz1_add, sz1_add]
  have hA := szQuiver_a r.q l h0 h1
  have b1 := sz1_le (n := totQ r.q) h0 h1
  generalize sz1 (totQ r.q) l = a at hA b1
  by_cases ha : a < 0
  · rw [if_pos ha]
    repeat' first | refine s1 ?_ | (refine kR ?_; first | refine F.c (hA) ?_) | fail
    exact F.ret rfl
  · rw [if_neg ha]
    have hB := szIntS_a r.d a (by omega) (by omega)
    have b2 := sz1_le (n := r.d.length) (l := a) (by omega) (by omega)
    generalize sz1 r.d.length a = b at hB b2
    by_cases hb : b < 0
    · rw [if_pos hb]
      repeat' first | refine s1 ?_ | (refine kR ?_; first | refine F.c (hA) ?_ | refine F.c (hB) ?_) | fail
      exact F.ret rfl
    · rw [if_neg hb]
      have hC := szMatrixS_a r.m b (by omega) (by omega)
      have b3 := sz1_le (n := totMS r.m) (l := b) (by omega) (by omega)
      generalize sz1 (totMS r.m) b = d at hC b3
      by_cases hd : d < 0
      · obtain rfl : d = -1 := by omega
        repeat' first | refine s1 ?_ | (refine kR ?_; first | refine F.c (hA) ?_ | refine F.c (hB) ?_ | refine F.c (hC) ?_) | fail
        exact F.ret rfl
      · repeat' first | refine s1 ?_ | (refine kR ?_; first | refine F.c (hA) ?_ | refine F.c (hB) ?_ | refine F.c (hC) ?_) | fail
        exact F.ret rfl
theorem toRep_a (r : Rep) (h : totR r ≤ 1048576) : AC Try.prog 45 [.agg (enc false r)] [.agg (enc true r)] := by
  refine AC.go Try.func45 Try.ntmps45 rfl rfl fun w0 hw => ?_; simp [WfL, WfA, E_length, Enc.enc, In64] at hw
  unfold totR at h
  have hA := toQuiver_a r.q (by omega)
  have hB := toIntS_a r.d (by omega)
  have hC := toMatrixS_a r.m (by omega)
  repeat' first | refine s1 ?_ | (refine kR ?_; first | refine F.c (hA) ?_ | refine F.c (hB) ?_ | refine F.c (hC) ?_) | fail
  exact F.ret rfl
theorem eqRep_s (r : Rep) : AC Try.prog 32 [.agg (enc false r), .agg (enc false r)] [.b true] := by
  refine AC.go Try.func32 Try.ntmps32 rfl rfl fun w0 hw => ?_; simp [WfL, WfA, E_length, Enc.enc, In64] at hw
  have hA := eqQuiver_s r.q
  have hB := eqIntS_s r.d
  have hC := eqMatrixS_s r.m
  repeat' first | refine s1 ?_ | (refine kR ?_; first | refine F.c (hA) ?_ | refine F.c (hB) ?_ | refine F.c (hC) ?_) | fail
  exact F.ret rfl
end Go.Proofs.Ytcalkmlaodjpaaa.V
