/- Contracts of the laws' helpers on lists: sizes, copies, equality. -/
import Derived.Test.YtcalkmlaodjpaaaA1
import Derived.Test.YtcalkmlaodjpaaaHl
namespace Go.Proofs.Ytcalkmlaodjpaaa.V
open Go.RowKit G D
set_option linter.unusedVariables false
set_option linter.unusedSimpArgs false
set_option maxHeartbeats 400000

/-- what is left of the size -/
def sz1 (n : Nat) (left : Int) : Int := if left - n < 0 then -1 else left - n
theorem sz1_le {n : Nat} {l : Int} (h : 0 ≤ l) (h1 : l ≤ 1048576) : -1 ≤ sz1 n l ∧ sz1 n l ≤ 1048576 ∧ (0 ≤ sz1 n l → sz1 n l + n = l) := by
  unfold sz1; split <;> omega
theorem szIntS_a (xs : List Int) (l : Int) (h0 : 0 ≤ l) (h1 : l ≤ 1048576) : AC Try.prog 61 [ar false xs, .i l] [.i (sz1 xs.length l)] := by
  refine AC.go Try.func61 Try.ntmps61 rfl rfl fun w0 hw => ?_; simp [WfL, WfA, E_length, Enc.enc, In64] at hw
  repeat' first | refine s1 ?_ | (refine s2 ?_ ?_ <;> intro hc <;> (try simp only [decide_eq_true_eq, decide_eq_false_iff_not, Bool.not_eq_true', Bool.not_eq_false'] at hc)) | fail
  all_goals
    refine F.ret ?_
    simp [sz1, *] <;> omega
def szRows : List (List Int) → Int → Int
  | [], l => l
  | r :: rs, l => if sz1 r.length l < 0 then -1 else szRows rs (sz1 r.length l)
def szSS (m : List (List Int)) (l : Int) : Int := if l - m.length < 0 then -1 else szRows m (l - m.length)
theorem szRows_bd : ∀ (m : List (List Int)) (l : Int), 0 ≤ l → l ≤ 1048576 → 0 ≤ szRows m l → (m.map List.length).sum ≤ l
  | [], l, h, _, _ => by simpa using h
  | r :: rs, l, h, h1, hs => by
    have h2 := sz1_le (n := r.length) h h1
    simp only [szRows] at hs
    split at hs
    · omega
    · have := szRows_bd rs _ (by omega) (by omega) hs
      simp only [List.map_cons, List.sum_cons]
      have := h2.2.2 (by omega)
      push_cast
      omega
theorem szRows_drop {m : List (List Int)} {k : Nat} (hk : k < m.length) (l : Int) : szRows (m.drop k) l = if sz1 (m.getD k default).length l < 0 then -1 else szRows (m.drop (k + 1)) (sz1 (m.getD k default).length l) := by
  rw [List.drop_eq_getElem_cons hk]; simp [szRows, hk]
theorem szIntSS_a (m : List (List Int)) (l : Int) (h0 : 0 ≤ l) (h1 : l ≤ 1048576) : AC Try.prog 15 [ar false m, .i l] [.i (szSS m l)] := by
  refine AC.go Try.func15 Try.ntmps15 rfl rfl fun w0 hw => ?_; simp [WfL, WfA, E_length, Enc.enc, In64] at hw
  by_cases hn : l - m.length < 0
  · repeat' first | refine s1 ?_ | fail
    refine F.ret ?_
    simp [szSS, hn]
  · repeat' first | refine s1 ?_ | fail
    refine F.loop (σ := Nat × Int) [1, 4, 5, 12, 13, 14, 15, 16, 17, 18, 19, 20, 21, 22, 23, 24, 25] (fun s => [(1, .i s.2), (5, .i s.1)]) (fun _ => []) (fun s => s.1 ≤ m.length ∧ 0 ≤ s.2 ∧ s.2 ≤ 1048576 ∧ szSS m l = szRows (m.drop s.1) s.2) (fun s => m.length - s.1) (0, l - m.length) ⟨rfl, rfl, trivial⟩ trivial ⟨Nat.zero_le _, by simp; omega, by simp; omega, by simp [szSS, hn]⟩ ?_
    rintro ⟨k, a⟩ ⟨h2, h3, h4, h5⟩
    dsimp only at h2 h3 h4 h5
    by_cases hlt : k < m.length
    · rw [szRows_drop hlt] at h5
      have h6 := sz1_le (n := (m.getD k default).length) h3 h4
      by_cases hl : sz1 (m.getD k default).length a < 0
      · repeat' first | refine s1 ?_ | (refine kR ?_; first | (refine jCf 61 ?_; refine F.c (szIntS_a (m.getD k default) a h3 h4) ?_)) | fail
        refine F.ret ?_
        rw [h5, if_pos hl]
      · repeat' first | refine s1 ?_ | (refine kR ?_; first | (refine jCf 61 ?_; refine F.c (szIntS_a (m.getD k default) a h3 h4) ?_)) | fail
        rw [if_neg hl] at h5
        exact ⟨(k + 1, sz1 (m.getD k default).length a), F.fit ⟨rfl, rfl, trivial⟩ trivial, ⟨by omega, by omega, by omega, h5⟩, by simp; omega⟩
    · repeat' first | refine s1 ?_ | fail
      refine F.ret ?_
      rw [h5, List.drop_of_length_le (by omega)]; rfl
/-- the first k are copied -/
def part {α : Type} (xs : List α) (z : α) (k : Nat) : List α := xs.take k ++ List.replicate (xs.length - k) z
theorem part_zero {α : Type} (xs : List α) (z : α) : part xs z 0 = List.replicate xs.length z := by simp [part]
theorem part_all {α : Type} (xs : List α) (z : α) : part xs z xs.length = xs := by simp [part]
theorem part_len {α : Type} (xs : List α) (z : α) {k : Nat} (hk : k ≤ xs.length) : (part xs z k).length = xs.length := by simp [part]; omega
theorem part_set {α : Type} [Inhabited α] (xs : List α) (z : α) {k : Nat} (hk : k < xs.length) : (part xs z k).set k (xs.getD k default) = part xs z (k + 1) := by
  unfold part
  have h1 : xs.length - k = (xs.length - (k + 1)) + 1 := by omega
  have h2 : k - (xs.take k).length = 0 := by simp; omega
  rw [h1, List.replicate_succ, List.set_append_right _ _ (by simp; omega), h2, List.set_cons_zero, List.take_succ_eq_append_getElem hk, List.append_assoc]
  congr 1
  simp [hk]
theorem toIntS_a (xs : List Int) (h : xs.length ≤ 1048576) : AC Try.prog 64 [ar false xs] [.dt true 1 (E true xs)] := by
  refine AC.go Try.func64 Try.ntmps64 rfl rfl fun w0 hw => ?_; simp [WfL, WfA, E_length, Enc.enc, In64] at hw
  repeat' first | refine s1 ?_ | (refine kR ?_; first | refine F.mk (m := xs.length) Int rfl rfl rfl (mkB (by omega)) (by omega) rfl rfl ?_) | fail
  refine F.loop (σ := Nat) [4, 8, 9, 10, 11, 12, 13, 14, 15, 16, 17, 18, 19, 20] (fun k => [(4, .i k)]) (fun k => [(0, .live false 1 (E true (part xs 0 k)))]) (fun k => k ≤ xs.length) (fun k => xs.length - k) 0 ⟨rfl, trivial⟩ ⟨obE (by rw [part_zero]), trivial⟩ (Nat.zero_le _) ?_
  rintro k h1
  have hp := part_len xs 0 h1
  by_cases hlt : k < xs.length
  · repeat' first | refine s1 ?_ | fail
    exact ⟨k + 1, F.fit ⟨rfl, trivial⟩ ⟨obE (by rw [Nat.zero_add, part_set xs 0 hlt]), trivial⟩, by omega, by omega⟩
  · obtain rfl : k = xs.length := by omega
    rw [part_all] at hp ⊢
    repeat' first | refine s1 ?_ | fail
    exact F.ret rfl
theorem toIntSS_a (m : List (List Int)) (h : m.length ≤ 1048576) (h2 : ∀ x ∈ m, x.length ≤ 1048576) : AC Try.prog 17 [ar false m] [.dt true 1 (E true m)] := by
  refine AC.go Try.func17 Try.ntmps17 rfl rfl fun w0 hw => ?_; simp [WfL, WfA, E_length, Enc.enc, In64] at hw
  repeat' first | refine s1 ?_ | (refine kR ?_; first | refine F.mk (m := m.length) (List Int) rfl rfl rfl (mkB (by omega)) (by omega) rfl rfl ?_) | fail
  refine F.loop (σ := Nat) [4, 8, 9, 10, 11, 12, 13, 14, 15, 16, 17, 18, 19, 20, 21] (fun k => [(4, .i k)]) (fun k => [(0, .live false 1 (E true (part m [] k)))]) (fun k => k ≤ m.length) (fun k => m.length - k) 0 ⟨rfl, trivial⟩ ⟨obE (by rw [part_zero]), trivial⟩ (Nat.zero_le _) ?_
  rintro k h1
  have hp := part_len m [] h1
  by_cases hlt : k < m.length
  · repeat' first | refine s1 ?_ | (refine kR ?_; first | (refine jCf 64 ?_; refine F.c (toIntS_a (m.getD k default) (h2 _ (gm hlt))) ?_)) | fail
    refine F.stE (α := List Int) (oo := true) (m.getD k default) rfl rfl rfl rfl (by omega) (by omega) rfl (Mv.mv rfl (by simp) (E_length _ _) (E_pure _ _) .nil) rfl rfl rfl rfl rfl ?_
    repeat' first | refine s1 ?_ | fail
    exact ⟨k + 1, F.fit ⟨rfl, trivial⟩ ⟨obE (by rw [Nat.zero_add, part_set m [] hlt]), trivial⟩, by omega, by omega⟩
  · obtain rfl : k = m.length := by omega
    rw [part_all] at hp ⊢
    repeat' first | refine s1 ?_ | fail
    exact F.ret rfl
theorem eqIntS_a (xs ys : List Int) : AC Try.prog 37 [ar false xs, ar false ys] [.b (decide (xs = ys))] := by
  refine AC.go Try.func37 Try.ntmps37 rfl rfl fun w0 hw => ?_; simp [WfL, WfA, E_length, Enc.enc, In64] at hw
  by_cases hl : xs.length = ys.length
  · repeat' first | refine s1 ?_ | fail
    refine F.loop (σ := Nat) [4, 5, 11, 12, 13, 14, 15, 16, 17, 18, 19, 20, 21, 22, 23, 24, 25] (fun k => [(5, .i k)]) (fun _ => []) (fun k => k ≤ xs.length ∧ ∀ j, j < k → xs.getD j default = ys.getD j default) (fun k => xs.length - k) 0 ⟨rfl, trivial⟩ trivial ⟨Nat.zero_le _, fun j hj => by omega⟩ ?_
    rintro k ⟨h1, h2⟩
    by_cases hlt : k < xs.length
    · repeat' first | refine s1 ?_ | fail
      refine AW.draw 9 G.mixed (by kernel_rfl) ?_
      refine dP 0 ?_
      refine dP 1 ?_
      refine dP 2 ?_
      refine dL 3 ?_
      refine dP 4 ?_
      refine dP 5 ?_
      refine dP 6 ?_
      refine dL 7 ?_
      refine dP 8 ?_
      refine dN ?_
      by_cases he : xs.getD k default = ys.getD k default
      · repeat' first | refine s1 ?_ | fail
        refine ⟨k + 1, F.fit ⟨rfl, trivial⟩ trivial, ⟨by omega, fun j hj => ?_⟩, by omega⟩
        rcases Nat.lt_or_ge j k with h | h
        · exact h2 j h
        · obtain rfl : j = k := by omega
          exact he
      · repeat' first | refine s1 ?_ | fail
        refine F.ret ?_
        rw [decide_eq_false fun h => he (by rw [h])]
    · repeat' first | refine s1 ?_ | fail
      refine F.ret ?_
      rw [decide_eq_true (List.ext_getElem hl fun i hi hi' => by have := h2 i (by omega); simpa [hi, hi'] using this)]
  · repeat' first | refine s1 ?_ | fail
    refine F.ret ?_
    rw [decide_eq_false fun h => hl (by rw [h])]
theorem eqIntSS_a (xs ys : List (List Int)) : AC Try.prog 19 [ar false xs, ar false ys] [.b (decide (xs = ys))] := by
  refine AC.go Try.func19 Try.ntmps19 rfl rfl fun w0 hw => ?_; simp [WfL, WfA, E_length, Enc.enc, In64] at hw
  by_cases hl : xs.length = ys.length
  · repeat' first | refine s1 ?_ | fail
    refine F.loop (σ := Nat) [4, 5, 11, 12, 13, 14, 15, 16, 17, 18, 19, 20, 21, 22, 23, 24, 25, 26] (fun k => [(5, .i k)]) (fun _ => []) (fun k => k ≤ xs.length ∧ ∀ j, j < k → xs.getD j default = ys.getD j default) (fun k => xs.length - k) 0 ⟨rfl, trivial⟩ trivial ⟨Nat.zero_le _, fun j hj => by omega⟩ ?_
    rintro k ⟨h1, h2⟩
    by_cases hlt : k < xs.length
    · repeat' first | refine s1 ?_ | fail
      refine AW.draw 10 G.mixed (by kernel_rfl) ?_
      refine dP 0 ?_
      refine dP 1 ?_
      refine dP 2 ?_
      refine dL 3 ?_
      refine dP 4 ?_
      refine dP 5 ?_
      refine dP 6 ?_
      refine dL 7 ?_
      refine dO 8 true ?_
      first | refine s1 ?_ | (refine jCf 37 ?_; refine F.c (eqIntS_a _ _) ?_)
      refine ARg.nil (ATh.normal ?_)
      refine dP 9 ?_
      refine dN ?_
      by_cases he : xs.getD k default = ys.getD k default
      · repeat' first | refine s1 ?_ | fail
        refine ⟨k + 1, F.fit ⟨rfl, trivial⟩ trivial, ⟨by omega, fun j hj => ?_⟩, by omega⟩
        rcases Nat.lt_or_ge j k with h | h
        · exact h2 j h
        · obtain rfl : j = k := by omega
          exact he
      · repeat' first | refine s1 ?_ | fail
        refine F.ret ?_
        rw [decide_eq_false fun h => he (by rw [h])]
    · repeat' first | refine s1 ?_ | fail
      refine F.ret ?_
      rw [decide_eq_true (List.ext_getElem hl fun i hi hi' => by have := h2 i (by omega); simpa [hi, hi'] using this)]
  · repeat' first | refine s1 ?_ | fail
    refine F.ret ?_
    rw [decide_eq_false fun h => hl (by rw [h])]
end Go.Proofs.Ytcalkmlaodjpaaa.V
