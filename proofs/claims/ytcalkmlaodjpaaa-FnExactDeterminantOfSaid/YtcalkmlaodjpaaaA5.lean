/- Contracts: DeterminantOf. -/
import Derived.Test.YtcalkmlaodjpaaaA4
namespace Go.Proofs.Ytcalkmlaodjpaaa.V
open Go.RowKit G D
set_option linter.unusedVariables false
set_option linter.unusedSimpArgs false
set_option maxHeartbeats 400000


theorem IndexFunc2_a (xs : List (List Int)) (f : Nat) [IsFn Try.prog f] (cs : List AV) (p : List Int → Bool) (hcs : ∀ hp, SnapL hp cs cs) (hf : ∀ x ∈ xs, AC Try.prog f (ar false x :: cs) [.b (p x)]) :
    AC Try.prog 120 [ar false xs, .fn f cs] [.i (idxFrom p xs 0)] := by
  refine AC.go Try.func120 Try.ntmps120 rfl rfl fun w0 hw => ?_; simp [WfL, WfA, E_length, Enc.enc, In64] at hw
  repeat' first | refine s1 ?_ | (refine s2 ?_ ?_ <;> intro hc <;> (try simp only [decide_eq_true_eq, decide_eq_false_iff_not, Bool.not_eq_true', Bool.not_eq_false'] at hc)) | fail
  refine F.loop (σ := Nat) [4, 5, 8, 9, 10, 11, 12, 13, 14, 15, 16, 17, 18] (fun k => [(8, .i k)]) (fun _ => []) (fun k => k ≤ xs.length ∧ idxFrom p xs 0 = idxFrom p (xs.drop k) k) (fun k => xs.length - k) 0 ⟨rfl, trivial⟩ trivial ⟨Nat.zero_le _, rfl⟩ ?_
  rintro k ⟨hk, hi⟩
  by_cases hlt : k < xs.length
  · rw [idxFrom_drop p xs hlt] at hi
    cases hpx : p (xs.getD k default) with
    | true =>
      rw [hpx] at hi
      have h1 := hf (xs.getD k default) (gm hlt)
      rw [hpx] at h1
      repeat' first | refine s1 ?_ | (refine kR ?_; first | refine F.cv (h1) ?_) | (refine s2 ?_ ?_ <;> intro hc <;> (try simp only [decide_eq_true_eq, decide_eq_false_iff_not, Bool.not_eq_true', Bool.not_eq_false'] at hc)) | fail
      refine F.ret ?_
      simp [hi]
    | false =>
      rw [hpx] at hi
      have h1 := hf (xs.getD k default) (gm hlt)
      rw [hpx] at h1
      repeat' first | refine s1 ?_ | (refine kR ?_; first | refine F.cv (h1) ?_) | (refine s2 ?_ ?_ <;> intro hc <;> (try simp only [decide_eq_true_eq, decide_eq_false_iff_not, Bool.not_eq_true', Bool.not_eq_false'] at hc)) | fail
      exact ⟨k + 1, F.fit ⟨rfl, trivial⟩ trivial, ⟨by omega, hi⟩, by omega⟩
  · have e : k = xs.length := by omega
    subst e
    repeat' first | refine s1 ?_ | (refine s2 ?_ ?_ <;> intro hc <;> (try simp only [decide_eq_true_eq, decide_eq_false_iff_not, Bool.not_eq_true', Bool.not_eq_false'] at hc)) | fail
    refine F.ret ?_
    simp [hi, idxFrom]
theorem ContainsFunc2_a (xs : List (List Int)) (f : Nat) [IsFn Try.prog f] (cs : List AV) (p : List Int → Bool) (hcs : ∀ hp, SnapL hp cs cs) (hf : ∀ x ∈ xs, AC Try.prog f (ar false x :: cs) [.b (p x)]) :
    AC Try.prog 65 [ar false xs, .fn f cs] [.b (xs.any p)] := by
  refine AC.go Try.func65 Try.ntmps65 rfl rfl fun w0 hw => ?_; simp [WfL, WfA, E_length, Enc.enc, In64] at hw
  repeat' first | refine s1 ?_ | (refine kR ?_; first | refine F.c (IndexFunc2_a xs f cs p hcs hf) ?_) | fail
  exact F.ret (by rw [← idxFrom_any p xs 0])

def okRow (n : Nat) (r : List Int) : Bool := decide (r.length = n) && allIn (-100) 100 r
def okDet (m : List (List Int)) : Bool := decide (m.length ≤ 5) && m.all (okRow m.length)
theorem okDet_rows {m : List (List Int)} (h : okDet m = true) : m.length ≤ 5 ∧ Rows m.length m.length m := by
  simp only [okDet, okRow, Bool.and_eq_true, decide_eq_true_eq, List.all_eq_true, allIn] at h
  exact ⟨h.1, rfl, fun x hx => ⟨(h.2 x hx).1, fun y hy => by have := (h.2 x hx).2 y hy; omega⟩⟩
def detOf (m : List (List Int)) : Int := bif okDet m then det m.length m else 0
theorem implDet1_a (x : List Int) (m : List (List Int)) : AC Try.prog 66 [ar false x, .ip [ar false m]] [.b (!okRow m.length x)] := by
  refine AC.go Try.func66 Try.ntmps66 rfl rfl fun w0 hw => ?_; simp [WfL, WfA, E_length, Enc.enc, In64] at hw
  repeat' first | refine s1 ?_ | (refine kR ?_; first | (refine jCf 67 ?_; refine F.c (allWithin_a _ _ _) ?_)) | (refine s2 ?_ ?_ <;> intro hc <;> (try simp only [decide_eq_true_eq, decide_eq_false_iff_not, Bool.not_eq_true', Bool.not_eq_false'] at hc)) | fail
  all_goals
    refine F.ret ?_
    simp [okRow, *] <;> omega
theorem implDeterminantOf_a (m : List (List Int)) : AC Try.prog 18 [ar false m] [.i (detOf m)] := by
  refine AC.go Try.func18 Try.ntmps18 rfl rfl fun w0 hw => ?_; simp [WfL, WfA, E_length, Enc.enc, In64] at hw
  cases ho : okDet m with
  | true =>
    have h1 := okDet_rows ho
    have h2 : m.any (fun x => !okRow m.length x) = false := by
      simp only [okDet, Bool.and_eq_true] at ho
      rw [← List.not_all_eq_any_not, ho.2]; rfl
    have hC := ContainsFunc2_a m 66 [.ip [ar false m]] (fun x => !okRow m.length x) (fun _ => .ip .nil) (fun x _ => implDet1_a x m)
    rw [h2] at hC
    repeat' first | refine s1 ?_ | (refine kR ?_; first | refine F.c (hC) ?_ | (refine jCf 68 ?_; refine F.c (implDet_a m.length h1.1 m h1.2) ?_)) | fail
    refine F.ret ?_
    simp [detOf, ho]
  | false =>
    have h2 : 5 < m.length ∨ m.any (fun x => !okRow m.length x) = true := by
      simp only [okDet, Bool.and_eq_false_iff, decide_eq_false_iff_not] at ho
      rcases ho with ho | ho
      · exact .inl (by omega)
      · exact .inr (by rw [← List.not_all_eq_any_not, ho]; rfl)
    have hC := ContainsFunc2_a m 66 [.ip [ar false m]] (fun x => !okRow m.length x) (fun _ => .ip .nil) (fun x _ => implDet1_a x m)
    have h0 : detOf m = 0 := by simp [detOf, ho]
    rcases h2 with h2 | h2
    · repeat' first | refine s1 ?_ | fail
      exact F.ret (by rw [h0])
    · rw [h2] at hC
      repeat' first | refine s1 ?_ | (refine kR ?_; first | refine F.c (hC) ?_) | (refine s2 ?_ ?_ <;> intro hc <;> (try simp only [decide_eq_true_eq, decide_eq_false_iff_not, Bool.not_eq_true', Bool.not_eq_false'] at hc)) | fail
      all_goals exact F.ret (by rw [h0])
theorem specDeterminantOf_a (m : List (List Int)) : AC Try.prog 16 [ar false m] [.i (detOf m)] := by
  refine AC.go Try.func16 Try.ntmps16 rfl rfl fun w0 hw => ?_; simp [WfL, WfA, E_length, Enc.enc, In64] at hw
  repeat' first | refine s1 ?_ | fail
  refine F.loop (σ := Nat) [2, 3, 4, 5, 6, 7, 8, 9, 10, 11, 12, 13, 14, 15, 16, 17, 18, 19, 20, 21, 22, 23, 24, 25, 26, 27, 28, 29, 30, 31, 32, 33, 34, 35, 36, 37, 38, 39, 40, 41] (fun k => [(3, .i k)]) (fun _ => []) (fun k => k ≤ m.length ∧ (0 < k → m.length ≤ 5) ∧ ∀ j, j < k → okRow m.length (m.getD j default) = true) (fun k => m.length - k) 0 ⟨rfl, trivial⟩ trivial ⟨Nat.zero_le _, fun h => by omega, fun j hj => by omega⟩ ?_
  rintro k ⟨h1, h2, h3⟩
  have hno : ∀ j, j < m.length → okRow m.length (m.getD j default) = false → detOf m = 0 := fun j hj h => by
    have : okDet m = false := by
      rw [← Bool.not_eq_true]
      intro ho
      simp only [okDet, Bool.and_eq_true, List.all_eq_true] at ho
      have := ho.2 (m.getD j default) (gm hj)
      rw [h] at this; cases this
    simp [detOf, this]
  by_cases hlt : k < m.length
  · by_cases hr : (m.getD k default).length = m.length
    · by_cases h5 : 5 < m.length
      · repeat' first | refine s1 ?_ | fail
        refine F.ret ?_
        have hof : okDet m = false := by rw [okDet, decide_eq_false (by omega), Bool.false_and]
        rw [detOf, hof]; rfl
      · repeat' first | refine s1 ?_ | fail
        refine F.loop (σ := Nat) [2, 4, 24, 25, 26, 27, 28, 29, 30, 31, 32, 33, 34, 35, 36, 37, 38, 39, 40, 41] (fun i => [(4, .i i)]) (fun _ => []) (fun i => i ≤ m.length ∧ ∀ j, j < i → -100 ≤ (m.getD k default).getD j default ∧ (m.getD k default).getD j default ≤ 100) (fun i => m.length - i) 0 ⟨rfl, trivial⟩ trivial ⟨Nat.zero_le _, fun j hj => by omega⟩ ?_
        rintro i ⟨h6, h7⟩
        by_cases hli : i < m.length
        · by_cases hx : -100 ≤ (m.getD k default).getD i default ∧ (m.getD k default).getD i default ≤ 100
          · repeat' first | refine s1 ?_ | (refine kR ?_; first | (refine jCf 62 ?_; refine F.c (l1In_a _ _ _) ?_)) | fail
            refine ⟨i + 1, F.fit ⟨rfl, trivial⟩ trivial, ⟨by omega, fun j hj => ?_⟩, by omega⟩
            rcases Nat.lt_or_ge j i with h | h
            · exact h7 j h
            · obtain rfl : j = i := by omega
              exact hx
          · repeat' first | refine s1 ?_ | (refine kR ?_; first | (refine jCf 62 ?_; refine F.c (l1In_a _ _ _) ?_)) | fail
            refine F.ret ?_
            rw [hno k hlt]
            simp only [okRow, hr, decide_true, Bool.true_and]
            rw [← Bool.not_eq_true]
            intro ha
            exact hx (by have := allIn_spec ha (k := i) (by omega); exact this)
        · repeat' first | refine s1 ?_ | fail
          refine ⟨k + 1, F.fit ⟨rfl, trivial⟩ trivial, ⟨by omega, fun _ => by omega, fun j hj => ?_⟩, by omega⟩
          rcases Nat.lt_or_ge j k with h | h
          · exact h3 j h
          · obtain rfl : j = k := by omega
            simp only [okRow, hr, decide_true, Bool.true_and, allIn, List.all_eq_true, Bool.and_eq_true, decide_eq_true_eq]
            intro x hx
            obtain ⟨i', hi', rfl⟩ := List.mem_iff_getElem.mp hx
            have := h7 i' (by omega)
            generalize m.getD j default = l at this hi'
            simpa [hi'] using this
    · repeat' first | refine s1 ?_ | fail
      refine F.ret ?_
      rw [hno k hlt]
      rw [okRow, decide_eq_false hr, Bool.false_and]
  · have ho : okDet m = true := by
      simp only [okDet, Bool.and_eq_true, decide_eq_true_eq, List.all_eq_true]
      refine ⟨by omega, fun x hx => ?_⟩
      obtain ⟨i', hi', rfl⟩ := List.mem_iff_getElem.mp hx
      have := h3 i' (by omega)
      simpa [hi'] using this
    have h1 := okDet_rows ho
    repeat' first | refine s1 ?_ | (refine kR ?_; first | (refine jCf 63 ?_; refine F.c (specDet_a m.length h1.1 m h1.2) ?_)) | fail
    refine F.ret ?_
    simp [detOf, ho]
end Go.Proofs.Ytcalkmlaodjpaaa.V
