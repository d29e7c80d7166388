/- Contracts: copies, block matrices, sums of representations (the program's). -/
import Derived.Test.YtanembgijdkagaaQeUi
import Derived.Test.YtanembgijdkagaaQeUg
import Derived.Test.YtanembgijdkagaaQeA106
import Derived.Test.YtanembgijdkagaaQeA23
namespace Go.Proofs.Ytanembgijdkagaa.V
open V.Enc (enc)
open Go.RowKit G D
set_option linter.unusedVariables false
set_option linter.unusedSimpArgs false
set_option maxHeartbeats 4000000
set_option maxRecDepth 4000
attribute [local irreducible] AW ARg ARA ARet MRet ASil AC AM ARI
theorem copyMs_a (ms : List Mat) (hl : ms.length ≤ 1000) (hm : ∀ k, k < ms.length → (ms.getD k default).m.length ≤ 1000) : AC Try.prog 158 [ar false ms] [.dt true 3 (E true ms)] := by
  refine AC.go Try.func158 Try.ntmps158 rfl rfl fun w0 hw => ?_; simp [WfL, WfA, E_length, Enc.enc, In64] at hw
  repeat' first | refine s1 ?_ | fail
  refine AW.open 3 3 (.inl rfl) ?_
  refine F.loop (σ := Nat) [3, 5, 8, 9, 10, 11, 12, 13, 14, 15, 16, 17] (fun k => [(3, .sl 0 k 0 k), (8, .i k)]) (fun k => [(0, .live false 3 (E true (ms.take k)))]) (fun k => k ≤ ms.length) (fun k => ms.length - k) 0 ⟨rfl, rfl, trivial⟩ ⟨rfl, trivial⟩ (Nat.zero_le _) ?_
  rintro k k1
  have hp2 : (ms.take k).length = k := by rw [List.length_take]; omega
  by_cases hk : k < ms.length
  · have hC := cloneM_a (ms.getD k default) (by have := hm k hk; omega)
    have ht : ms.take (k + 1) = ms.take k ++ [ms.getD k default] := by
      rw [List.take_succ_eq_append_getElem hk]
      have e : ms.getD k default = ms[k] := by simp [hk]
      rw [e]
    repeat' first | refine s1 ?_ | (refine kR ?_; first | refine F.c (hC) ?_ | refine F.a1 Mat (a := ms.getD k default) ?_) | fail
    exact ⟨k + 1, F.fit ⟨rfl, rfl, trivial⟩ ⟨obE (by rw [ht]), trivial⟩, by omega, by omega⟩
  · obtain rfl : k = ms.length := by omega
    rw [List.take_length]
    repeat' first | refine s1 ?_ | fail
    (refine kZ ?_; exact F.ret rfl)
theorem repClone_a (r : Rep) (hr : isRep r = true) : AC Try.prog 142 [.agg (enc false r)] [.agg (enc true r)] := by
  refine AC.go Try.func142 Try.ntmps142 rfl rfl fun w0 hw => ?_; simp [WfL, WfA, E_length, Enc.enc, In64] at hw
  obtain ⟨r1, r2, r3, r4⟩ := isRep_spec hr
  obtain ⟨c1, c2, c3, c4⟩ := areDims_spec r2
  have h5 := okQ_spec c1
  have hQ := cloneQ_a r.q (by omega)
  have hD := clone_a r.d (by omega)
  have hM := copyMs_a r.m (by omega) (fun k hk => by
    have := (arrow_ok hr hk).1
    simp only [isMat, isVec, Bool.and_eq_true, decide_eq_true_eq] at this
    omega)
  repeat' first | refine s1 ?_ | fail
  refine AW.draw 12 G.mixed (by kernel_rfl) ?_
  refine dP 0 ?_
  refine dL 1 ?_
  refine dP 2 ?_
  refine dL 3 ?_
  refine dP 5 ?_
  refine dL 6 ?_
  refine dP 8 ?_
  refine dL 9 ?_
  refine dO 4 true ?_
  first | refine s1 ?_ | refine F.c (hQ) ?_ | refine F.c (hD) ?_ | refine F.c (hM) ?_
  refine ARg.nil (ATh.normal ?_)
  refine dO 7 true ?_
  first | refine s1 ?_ | refine F.c (hQ) ?_ | refine F.c (hD) ?_ | refine F.c (hM) ?_
  refine ARg.nil (ATh.normal ?_)
  refine dO 10 true ?_
  first | refine s1 ?_ | refine F.c (hQ) ?_ | refine F.c (hD) ?_ | refine F.c (hM) ?_
  refine ARg.nil (ATh.normal ?_)
  refine dP 11 ?_
  refine dO 12 false ?_
  refine s1 ?_
  refine ARg.nil (ATh.normal ?_)
  refine dN ?_
  rotate_left
  all_goals
    repeat' first | refine s1 ?_ | fail
    (refine kZ ?_; exact F.ret rfl)
theorem below_a (r1 r2 c : Nat) (f g : Nat → Nat → Int) (hr : r1 + r2 ≤ 1000) (hc : c ≤ 1000) : AC Try.prog 68 [.agg (enc false (tm r1 c f)), .agg (enc false (tm r2 c g))] [.agg (enc true (tm (r1 + r2) c (belF r1 f g)))] := by
  refine AC.go Try.func68 Try.ntmps68 rfl rfl fun w0 hw => ?_; simp [WfL, WfA, E_length, Enc.enc, In64] at hw
  have hA := rows_a r1 c f (by omega) (by omega)
  have hB := rows_a r2 c g (by omega) (by omega)
  have hF := fromRows_a c (rowsL r1 c f ++ rowsL r2 c g) (by rw [List.length_append, rowsL_len, rowsL_len]; exact hr) hc (fun k hk => by
    rw [List.length_append, rowsL_len, rowsL_len] at hk
    rw [app_getD, rowsL_len]
    by_cases h : k < r1
    · rw [if_pos h, rowsL_get _ _ h, rowL_len]
    · rw [if_neg h, rowsL_get _ _ (by omega), rowL_len])
  rw [bel_rows] at hF
  have l1 := rowsL_len r1 c f
  have l2 := rowsL_len r2 c g
  generalize rowsL r1 c f = X at hA hF l1
  generalize rowsL r2 c g = Y at hB hF l2
  repeat' first | refine s1 ?_ | fail
  refine AW.draw 1 G.mixed (by kernel_rfl) ?_
  refine dP 0 ?_
  refine ARA.any [1, 2, 4] (by kernel_rfl) (by simp) ?_
  intro k hk
  simp only [List.mem_cons, List.not_mem_nil, or_false] at hk
  rcases hk with rfl | rfl | rfl
  refine ⟨_, true, rfl, rfl, ?_⟩
  refine s1 ?_
  refine ARg.nil (ATh.normal ?_)
  refine ARA.any [2, 4] (by kernel_rfl) (by simp) ?_
  intro k hk
  simp only [List.mem_cons, List.not_mem_nil, or_false] at hk
  rcases hk with rfl | rfl
  refine ⟨_, true, rfl, rfl, ?_⟩
  refine s1 ?_
  refine ARg.nil (ATh.normal ?_)
  refine ARA.any [3, 4] (by kernel_rfl) (by simp) ?_
  intro k hk
  simp only [List.mem_cons, List.not_mem_nil, or_false] at hk
  rcases hk with rfl | rfl
  refine ⟨_, false, rfl, rfl, ?_⟩
  first | refine s1 ?_ | refine F.c (hA) ?_
  refine ARg.nil (ATh.normal ?_)
  refine dO 4 true ?_
  refine s1 ?_
  refine ARg.nil (ATh.normal ?_)
  refine dO 5 false ?_
  first | refine s1 ?_ | refine F.c (hB) ?_
  refine ARg.nil (ATh.normal ?_)
  refine dO 6 false ?_
  first | refine s1 ?_ | refine F.aL (List Int) (oo := true) ?_ (hsrc := .own rfl rfl (by rw [E_length]))
  refine ARg.nil (ATh.normal ?_)
  refine dO 7 false ?_
  first | refine s1 ?_ | refine F.c (hF) ?_
  refine ARg.nil (ATh.normal ?_)
  refine dO 8 false ?_
  refine s1 ?_
  refine ARg.nil (ATh.normal ?_)
  refine dN ?_
  rotate_left
  refine ⟨_, true, rfl, rfl, ?_⟩
  refine s1 ?_
  refine ARg.nil (ATh.normal ?_)
  refine dO 3 false ?_
  first | refine s1 ?_ | refine F.c (hA) ?_
  refine ARg.nil (ATh.normal ?_)
  refine dO 5 false ?_
  first | refine s1 ?_ | refine F.c (hB) ?_
  refine ARg.nil (ATh.normal ?_)
  refine dO 6 false ?_
  first | refine s1 ?_ | refine F.aL (List Int) (oo := true) ?_ (hsrc := .own rfl rfl (by rw [E_length]))
  refine ARg.nil (ATh.normal ?_)
  refine dO 7 false ?_
  first | refine s1 ?_ | refine F.c (hF) ?_
  refine ARg.nil (ATh.normal ?_)
  refine dO 8 false ?_
  refine s1 ?_
  refine ARg.nil (ATh.normal ?_)
  refine dN ?_
  rotate_left
  refine ⟨_, true, rfl, rfl, ?_⟩
  refine s1 ?_
  refine ARg.nil (ATh.normal ?_)
  refine dO 2 true ?_
  refine s1 ?_
  refine ARg.nil (ATh.normal ?_)
  refine dO 3 false ?_
  first | refine s1 ?_ | refine F.c (hA) ?_
  refine ARg.nil (ATh.normal ?_)
  refine dO 5 false ?_
  first | refine s1 ?_ | refine F.c (hB) ?_
  refine ARg.nil (ATh.normal ?_)
  refine dO 6 false ?_
  first | refine s1 ?_ | refine F.aL (List Int) (oo := true) ?_ (hsrc := .own rfl rfl (by rw [E_length]))
  refine ARg.nil (ATh.normal ?_)
  refine dO 7 false ?_
  first | refine s1 ?_ | refine F.c (hF) ?_
  refine ARg.nil (ATh.normal ?_)
  refine dO 8 false ?_
  refine s1 ?_
  refine ARg.nil (ATh.normal ?_)
  refine dN ?_
  rotate_left
  refine ⟨_, true, rfl, rfl, ?_⟩
  refine s1 ?_
  refine ARg.nil (ATh.normal ?_)
  refine ARA.any [1, 3, 4] (by kernel_rfl) (by simp) ?_
  intro k hk
  simp only [List.mem_cons, List.not_mem_nil, or_false] at hk
  rcases hk with rfl | rfl | rfl
  refine ⟨_, true, rfl, rfl, ?_⟩
  refine s1 ?_
  refine ARg.nil (ATh.normal ?_)
  refine ARA.any [3, 4] (by kernel_rfl) (by simp) ?_
  intro k hk
  simp only [List.mem_cons, List.not_mem_nil, or_false] at hk
  rcases hk with rfl | rfl
  refine ⟨_, false, rfl, rfl, ?_⟩
  first | refine s1 ?_ | refine F.c (hA) ?_
  refine ARg.nil (ATh.normal ?_)
  refine dO 4 true ?_
  refine s1 ?_
  refine ARg.nil (ATh.normal ?_)
  refine dO 5 false ?_
  first | refine s1 ?_ | refine F.c (hB) ?_
  refine ARg.nil (ATh.normal ?_)
  refine dO 6 false ?_
  first | refine s1 ?_ | refine F.aL (List Int) (oo := true) ?_ (hsrc := .own rfl rfl (by rw [E_length]))
  refine ARg.nil (ATh.normal ?_)
  refine dO 7 false ?_
  first | refine s1 ?_ | refine F.c (hF) ?_
  refine ARg.nil (ATh.normal ?_)
  refine dO 8 false ?_
  refine s1 ?_
  refine ARg.nil (ATh.normal ?_)
  refine dN ?_
  rotate_left
  refine ⟨_, true, rfl, rfl, ?_⟩
  refine s1 ?_
  refine ARg.nil (ATh.normal ?_)
  refine dO 3 false ?_
  first | refine s1 ?_ | refine F.c (hA) ?_
  refine ARg.nil (ATh.normal ?_)
  refine dO 5 false ?_
  first | refine s1 ?_ | refine F.c (hB) ?_
  refine ARg.nil (ATh.normal ?_)
  refine dO 6 false ?_
  first | refine s1 ?_ | refine F.aL (List Int) (oo := true) ?_ (hsrc := .own rfl rfl (by rw [E_length]))
  refine ARg.nil (ATh.normal ?_)
  refine dO 7 false ?_
  first | refine s1 ?_ | refine F.c (hF) ?_
  refine ARg.nil (ATh.normal ?_)
  refine dO 8 false ?_
  refine s1 ?_
  refine ARg.nil (ATh.normal ?_)
  refine dN ?_
  rotate_left
  refine ⟨_, false, rfl, rfl, ?_⟩
  first | refine s1 ?_ | refine F.c (hA) ?_
  refine ARg.nil (ATh.normal ?_)
  refine ARA.any [1, 4] (by kernel_rfl) (by simp) ?_
  intro k hk
  simp only [List.mem_cons, List.not_mem_nil, or_false] at hk
  rcases hk with rfl | rfl
  refine ⟨_, true, rfl, rfl, ?_⟩
  refine s1 ?_
  refine ARg.nil (ATh.normal ?_)
  refine dO 4 true ?_
  refine s1 ?_
  refine ARg.nil (ATh.normal ?_)
  refine dO 5 false ?_
  first | refine s1 ?_ | refine F.c (hB) ?_
  refine ARg.nil (ATh.normal ?_)
  refine dO 6 false ?_
  first | refine s1 ?_ | refine F.aL (List Int) (oo := true) ?_ (hsrc := .own rfl rfl (by rw [E_length]))
  refine ARg.nil (ATh.normal ?_)
  refine dO 7 false ?_
  first | refine s1 ?_ | refine F.c (hF) ?_
  refine ARg.nil (ATh.normal ?_)
  refine dO 8 false ?_
  refine s1 ?_
  refine ARg.nil (ATh.normal ?_)
  refine dN ?_
  rotate_left
  refine ⟨_, true, rfl, rfl, ?_⟩
  refine s1 ?_
  refine ARg.nil (ATh.normal ?_)
  refine ARA.any [1, 5] (by kernel_rfl) (by simp) ?_
  intro k hk
  simp only [List.mem_cons, List.not_mem_nil, or_false] at hk
  rcases hk with rfl | rfl
  refine ⟨_, true, rfl, rfl, ?_⟩
  refine s1 ?_
  refine ARg.nil (ATh.normal ?_)
  refine dO 5 false ?_
  first | refine s1 ?_ | refine F.c (hB) ?_
  refine ARg.nil (ATh.normal ?_)
  refine dO 6 false ?_
  first | refine s1 ?_ | refine F.aL (List Int) (oo := true) ?_ (hsrc := .own rfl rfl (by rw [E_length]))
  refine ARg.nil (ATh.normal ?_)
  refine dO 7 false ?_
  first | refine s1 ?_ | refine F.c (hF) ?_
  refine ARg.nil (ATh.normal ?_)
  refine dO 8 false ?_
  refine s1 ?_
  refine ARg.nil (ATh.normal ?_)
  refine dN ?_
  rotate_left
  refine ⟨_, false, rfl, rfl, ?_⟩
  first | refine s1 ?_ | refine F.c (hB) ?_
  refine ARg.nil (ATh.normal ?_)
  refine ARA.any [1, 6] (by kernel_rfl) (by simp) ?_
  intro k hk
  simp only [List.mem_cons, List.not_mem_nil, or_false] at hk
  rcases hk with rfl | rfl
  refine ⟨_, true, rfl, rfl, ?_⟩
  refine s1 ?_
  refine ARg.nil (ATh.normal ?_)
  refine dO 6 false ?_
  first | refine s1 ?_ | refine F.aL (List Int) (oo := true) ?_ (hsrc := .own rfl rfl (by rw [E_length]))
  refine ARg.nil (ATh.normal ?_)
  refine dO 7 false ?_
  first | refine s1 ?_ | refine F.c (hF) ?_
  refine ARg.nil (ATh.normal ?_)
  refine dO 8 false ?_
  refine s1 ?_
  refine ARg.nil (ATh.normal ?_)
  refine dN ?_
  rotate_left
  refine ⟨_, false, rfl, rfl, ?_⟩
  first | refine s1 ?_ | refine F.aL (List Int) (oo := true) ?_ (hsrc := .own rfl rfl (by rw [E_length]))
  refine ARg.nil (ATh.normal ?_)
  refine dO 1 true ?_
  refine s1 ?_
  refine ARg.nil (ATh.normal ?_)
  refine dO 7 false ?_
  first | refine s1 ?_ | refine F.c (hF) ?_
  refine ARg.nil (ATh.normal ?_)
  refine dO 8 false ?_
  refine s1 ?_
  refine ARg.nil (ATh.normal ?_)
  refine dN ?_
  rotate_left
  refine ⟨_, true, rfl, rfl, ?_⟩
  refine s1 ?_
  refine ARg.nil (ATh.normal ?_)
  refine ARA.any [1, 3] (by kernel_rfl) (by simp) ?_
  intro k hk
  simp only [List.mem_cons, List.not_mem_nil, or_false] at hk
  rcases hk with rfl | rfl
  refine ⟨_, true, rfl, rfl, ?_⟩
  refine s1 ?_
  refine ARg.nil (ATh.normal ?_)
  refine dO 3 false ?_
  first | refine s1 ?_ | refine F.c (hA) ?_
  refine ARg.nil (ATh.normal ?_)
  refine dO 5 false ?_
  first | refine s1 ?_ | refine F.c (hB) ?_
  refine ARg.nil (ATh.normal ?_)
  refine dO 6 false ?_
  first | refine s1 ?_ | refine F.aL (List Int) (oo := true) ?_ (hsrc := .own rfl rfl (by rw [E_length]))
  refine ARg.nil (ATh.normal ?_)
  refine dO 7 false ?_
  first | refine s1 ?_ | refine F.c (hF) ?_
  refine ARg.nil (ATh.normal ?_)
  refine dO 8 false ?_
  refine s1 ?_
  refine ARg.nil (ATh.normal ?_)
  refine dN ?_
  rotate_left
  refine ⟨_, false, rfl, rfl, ?_⟩
  first | refine s1 ?_ | refine F.c (hA) ?_
  refine ARg.nil (ATh.normal ?_)
  refine ARA.any [1, 5] (by kernel_rfl) (by simp) ?_
  intro k hk
  simp only [List.mem_cons, List.not_mem_nil, or_false] at hk
  rcases hk with rfl | rfl
  refine ⟨_, true, rfl, rfl, ?_⟩
  refine s1 ?_
  refine ARg.nil (ATh.normal ?_)
  refine dO 5 false ?_
  first | refine s1 ?_ | refine F.c (hB) ?_
  refine ARg.nil (ATh.normal ?_)
  refine dO 6 false ?_
  first | refine s1 ?_ | refine F.aL (List Int) (oo := true) ?_ (hsrc := .own rfl rfl (by rw [E_length]))
  refine ARg.nil (ATh.normal ?_)
  refine dO 7 false ?_
  first | refine s1 ?_ | refine F.c (hF) ?_
  refine ARg.nil (ATh.normal ?_)
  refine dO 8 false ?_
  refine s1 ?_
  refine ARg.nil (ATh.normal ?_)
  refine dN ?_
  rotate_left
  refine ⟨_, false, rfl, rfl, ?_⟩
  first | refine s1 ?_ | refine F.c (hB) ?_
  refine ARg.nil (ATh.normal ?_)
  refine ARA.any [1, 6] (by kernel_rfl) (by simp) ?_
  intro k hk
  simp only [List.mem_cons, List.not_mem_nil, or_false] at hk
  rcases hk with rfl | rfl
  refine ⟨_, true, rfl, rfl, ?_⟩
  refine s1 ?_
  refine ARg.nil (ATh.normal ?_)
  refine dO 6 false ?_
  first | refine s1 ?_ | refine F.aL (List Int) (oo := true) ?_ (hsrc := .own rfl rfl (by rw [E_length]))
  refine ARg.nil (ATh.normal ?_)
  refine dO 7 false ?_
  first | refine s1 ?_ | refine F.c (hF) ?_
  refine ARg.nil (ATh.normal ?_)
  refine dO 8 false ?_
  refine s1 ?_
  refine ARg.nil (ATh.normal ?_)
  refine dN ?_
  rotate_left
  refine ⟨_, false, rfl, rfl, ?_⟩
  first | refine s1 ?_ | refine F.aL (List Int) (oo := true) ?_ (hsrc := .own rfl rfl (by rw [E_length]))
  refine ARg.nil (ATh.normal ?_)
  refine dO 1 true ?_
  refine s1 ?_
  refine ARg.nil (ATh.normal ?_)
  refine dO 7 false ?_
  first | refine s1 ?_ | refine F.c (hF) ?_
  refine ARg.nil (ATh.normal ?_)
  refine dO 8 false ?_
  refine s1 ?_
  refine ARg.nil (ATh.normal ?_)
  refine dN ?_
  rotate_left
  refine ⟨_, true, rfl, rfl, ?_⟩
  refine s1 ?_
  refine ARg.nil (ATh.normal ?_)
  refine ARA.any [1, 2] (by kernel_rfl) (by simp) ?_
  intro k hk
  simp only [List.mem_cons, List.not_mem_nil, or_false] at hk
  rcases hk with rfl | rfl
  refine ⟨_, true, rfl, rfl, ?_⟩
  refine s1 ?_
  refine ARg.nil (ATh.normal ?_)
  refine dO 2 true ?_
  refine s1 ?_
  refine ARg.nil (ATh.normal ?_)
  refine dO 3 false ?_
  first | refine s1 ?_ | refine F.c (hA) ?_
  refine ARg.nil (ATh.normal ?_)
  refine dO 5 false ?_
  first | refine s1 ?_ | refine F.c (hB) ?_
  refine ARg.nil (ATh.normal ?_)
  refine dO 6 false ?_
  first | refine s1 ?_ | refine F.aL (List Int) (oo := true) ?_ (hsrc := .own rfl rfl (by rw [E_length]))
  refine ARg.nil (ATh.normal ?_)
  refine dO 7 false ?_
  first | refine s1 ?_ | refine F.c (hF) ?_
  refine ARg.nil (ATh.normal ?_)
  refine dO 8 false ?_
  refine s1 ?_
  refine ARg.nil (ATh.normal ?_)
  refine dN ?_
  rotate_left
  refine ⟨_, true, rfl, rfl, ?_⟩
  refine s1 ?_
  refine ARg.nil (ATh.normal ?_)
  refine ARA.any [1, 3] (by kernel_rfl) (by simp) ?_
  intro k hk
  simp only [List.mem_cons, List.not_mem_nil, or_false] at hk
  rcases hk with rfl | rfl
  refine ⟨_, true, rfl, rfl, ?_⟩
  refine s1 ?_
  refine ARg.nil (ATh.normal ?_)
  refine dO 3 false ?_
  first | refine s1 ?_ | refine F.c (hA) ?_
  refine ARg.nil (ATh.normal ?_)
  refine dO 5 false ?_
  first | refine s1 ?_ | refine F.c (hB) ?_
  refine ARg.nil (ATh.normal ?_)
  refine dO 6 false ?_
  first | refine s1 ?_ | refine F.aL (List Int) (oo := true) ?_ (hsrc := .own rfl rfl (by rw [E_length]))
  refine ARg.nil (ATh.normal ?_)
  refine dO 7 false ?_
  first | refine s1 ?_ | refine F.c (hF) ?_
  refine ARg.nil (ATh.normal ?_)
  refine dO 8 false ?_
  refine s1 ?_
  refine ARg.nil (ATh.normal ?_)
  refine dN ?_
  rotate_left
  refine ⟨_, false, rfl, rfl, ?_⟩
  first | refine s1 ?_ | refine F.c (hA) ?_
  refine ARg.nil (ATh.normal ?_)
  refine ARA.any [1, 5] (by kernel_rfl) (by simp) ?_
  intro k hk
  simp only [List.mem_cons, List.not_mem_nil, or_false] at hk
  rcases hk with rfl | rfl
  refine ⟨_, true, rfl, rfl, ?_⟩
  refine s1 ?_
  refine ARg.nil (ATh.normal ?_)
  refine dO 5 false ?_
  first | refine s1 ?_ | refine F.c (hB) ?_
  refine ARg.nil (ATh.normal ?_)
  refine dO 6 false ?_
  first | refine s1 ?_ | refine F.aL (List Int) (oo := true) ?_ (hsrc := .own rfl rfl (by rw [E_length]))
  refine ARg.nil (ATh.normal ?_)
  refine dO 7 false ?_
  first | refine s1 ?_ | refine F.c (hF) ?_
  refine ARg.nil (ATh.normal ?_)
  refine dO 8 false ?_
  refine s1 ?_
  refine ARg.nil (ATh.normal ?_)
  refine dN ?_
  rotate_left
  refine ⟨_, false, rfl, rfl, ?_⟩
  first | refine s1 ?_ | refine F.c (hB) ?_
  refine ARg.nil (ATh.normal ?_)
  refine ARA.any [1, 6] (by kernel_rfl) (by simp) ?_
  intro k hk
  simp only [List.mem_cons, List.not_mem_nil, or_false] at hk
  rcases hk with rfl | rfl
  refine ⟨_, true, rfl, rfl, ?_⟩
  refine s1 ?_
  refine ARg.nil (ATh.normal ?_)
  refine dO 6 false ?_
  first | refine s1 ?_ | refine F.aL (List Int) (oo := true) ?_ (hsrc := .own rfl rfl (by rw [E_length]))
  refine ARg.nil (ATh.normal ?_)
  refine dO 7 false ?_
  first | refine s1 ?_ | refine F.c (hF) ?_
  refine ARg.nil (ATh.normal ?_)
  refine dO 8 false ?_
  refine s1 ?_
  refine ARg.nil (ATh.normal ?_)
  refine dN ?_
  rotate_left
  refine ⟨_, false, rfl, rfl, ?_⟩
  first | refine s1 ?_ | refine F.aL (List Int) (oo := true) ?_ (hsrc := .own rfl rfl (by rw [E_length]))
  refine ARg.nil (ATh.normal ?_)
  refine dO 1 true ?_
  refine s1 ?_
  refine ARg.nil (ATh.normal ?_)
  refine dO 7 false ?_
  first | refine s1 ?_ | refine F.c (hF) ?_
  refine ARg.nil (ATh.normal ?_)
  refine dO 8 false ?_
  refine s1 ?_
  refine ARg.nil (ATh.normal ?_)
  refine dN ?_
  rotate_left
  all_goals
    repeat' first | refine s1 ?_ | fail
    (refine kZ ?_; exact F.ret rfl)
theorem blocks_a (r1 r2 c1 c2 : Nat) (f h g : Nat → Nat → Int) (hr : r1 + r2 ≤ 1000) (hc : c1 + c2 ≤ 1000) : AC Try.prog 67 [.agg (enc false (tm r1 c1 f)), .agg (enc false (tm r1 c2 h)), .agg (enc false (tm r2 c2 g))] [.agg (enc true (tm (r1 + r2) (c1 + c2) (blkF r1 c1 f h g)))] := by
  refine AC.go Try.func67 Try.ntmps67 rfl rfl fun w0 hw => ?_; simp [WfL, WfA, E_length, Enc.enc, In64] at hw
  have hA := beside_a r1 c1 c2 f h (by omega) (by omega)
  have hZ := zeroT_a r2 c1 (by omega) (by omega)
  have hB := beside_a r2 c1 c2 zerF g (by omega) (by omega)
  rw [show tm r2 c1 zerF = tm r2 c1 (fun _ _ => 0) from rfl] at hB
  have hF := below_a r1 r2 (c1 + c2) (besF c1 f h) (besF c1 zerF g) hr hc
  rw [bel_bes] at hF
  generalize tm (r1 + r2) (c1 + c2) (blkF r1 c1 f h g) = V at hF ⊢
  generalize tm r1 (c1 + c2) (besF c1 f h) = X at hA hF
  generalize tm r2 (c1 + c2) (besF c1 zerF g) = Y at hB hF
  generalize tm r2 c1 (fun _ _ => 0) = Z at hZ hB
  repeat' first | refine s1 ?_ | fail
  refine AW.draw 11 G.mixed (by kernel_rfl) ?_
  refine dL 0 ?_
  refine dL 1 ?_
  refine dP 3 ?_
  refine dL 4 ?_
  refine dP 5 ?_
  refine dL 6 ?_
  refine dL 8 ?_
  refine dO 2 true ?_
  first | refine s1 ?_ | refine F.c (hA) ?_
  refine ARg.nil (ATh.normal ?_)
  refine dO 7 true ?_
  first | refine s1 ?_ | refine F.c (hZ) ?_
  refine ARg.nil (ATh.normal ?_)
  refine dO 9 true ?_
  first | refine s1 ?_ | refine F.c (hB) ?_
  refine ARg.nil (ATh.normal ?_)
  refine dO 10 true ?_
  first | refine s1 ?_ | refine F.c (hF) ?_
  refine ARg.nil (ATh.normal ?_)
  refine dO 11 false ?_
  refine s1 ?_
  refine ARg.nil (ATh.normal ?_)
  refine dN ?_
  rotate_left
  all_goals
    repeat' first | refine s1 ?_ | fail
    (refine kZ ?_; exact F.ret rfl)
theorem blocksM_a {p : Int} {x h z : Mat} (hx : isMat p x = true) (hh : isMat p h = true) (hz : isMat p z = true) (e1 : h.r = x.r) (e2 : h.c = z.c) : AC Try.prog 67 [.agg (enc false x), .agg (enc false h), .agg (enc false z)] [.agg (enc true (blkM x z (ent h)))] := by
  obtain ⟨_, x1, x2, _, _⟩ := isMat_spec hx
  obtain ⟨_, z1, z2, _, _⟩ := isMat_spec hz
  have := blocks_a x.r.toNat z.r.toNat x.c.toNat z.c.toNat (ent x) (ent h) (ent z) (by omega) (by omega)
  have eh : tm x.r.toNat z.c.toNat (ent h) = h := by rw [← e1, ← e2]; exact isMat_tm hh
  rw [isMat_tm hx, isMat_tm hz, eh] at this
  exact this
theorem isMat_zero {p : Int} (hF : isF p = true) {r c : Nat} (hr : r ≤ 8) (hc : c ≤ 8) : isMat p (tm r c (fun _ _ => 0)) = true := isMat_tab hF hr hc fun i hi j hj => by
  have := isF_pos hF
  omega
theorem ent_zero {r c : Nat} : ∀ i, i < r → ∀ j, j < c → ent (tm r c (fun _ _ => 0)) i j = 0 := fun i hi j hj => by
  show (tab r c fun _ _ => (0 : Int)).getD (i * c + j) default = 0
  exact tab_get (fun _ _ => (0 : Int)) hi hj
theorem blkM_ext {x z : Mat} {h h' : Nat → Nat → Int} (e : ∀ i, i < x.r.toNat → ∀ j, j < z.c.toNat → h i j = h' i j) : blkM x z h = blkM x z h' := by
  unfold blkM tm
  congr 1
  apply tab_ext
  intro i hi j hj
  unfold blkF
  by_cases h1 : i < x.r.toNat
  · rw [if_pos h1, if_pos h1]
    by_cases h2 : j < x.c.toNat
    · rw [if_pos h2, if_pos h2]
    · rw [if_neg h2, if_neg h2]; exact e i h1 _ (by omega)
  · rw [if_neg h1, if_neg h1]
theorem directSum_a (x y : Rep) (hf : fitR x y = true) : AC Try.prog 120 [.agg (enc false x), .agg (enc false y)] [.agg (enc true (sumR x y fun _ => zerF))] := by
  refine AC.go Try.func120 Try.ntmps120 rfl rfl fun w0 hw => ?_; simp [WfL, WfA, E_length, Enc.enc, In64] at hw
  have hh := Fits.of hf
  have hrx := (fitR_reps hf).1
  have hry := (fitR_reps hf).2
  have h5 := okQ_spec hh.ok
  have hda := hh.da
  have hdb := hh.db
  have hba := hh.ba
  have hbb := hh.bb
  have hF := hh.f
  obtain ⟨r1, r2, r3, r4⟩ := isRep_spec hrx
  obtain ⟨t1, t2, t3, t4⟩ := isRep_spec hry
  have hq := hh.q
  have hmm : y.m.length = x.m.length := by rw [r3, t3, hq]
  have hax := fun i (hi : i < x.m.length) => arrow_ok hrx hi
  have hay := fun i (hi : i < y.m.length) => arrow_ok hry hi
  have hp := hh.p
  have hC := repClone_a x hrx
  have hdl := sumDs_len x y
  have hdg := fun v hv => sumDs_get x y (v := v) hv
  have hml := sumMs_len x y fun _ => zerF
  have hmg := fun i hi => sumMs_get x y (fun _ => zerF) (i := i) hi
  unfold sumR
  generalize sumDs x y = SD at hdl hdg ⊢
  generalize sumMs x y (fun _ => zerF) = SM at hml hmg ⊢
  have dlen := mixL_len (x := SD) (y := x.d) hdl
  have dset := fun k hk => mixL_set (x := SD) (y := x.d) hdl (k := k) hk
  have dget := fun k hk => mixL_get (x := SD) (y := x.d) hdl (k := k) hk
  have d0 := mixL_zero SD x.d
  have dall := mixL_all (x := SD) (y := x.d) hdl
  have mlen := mixL_len (x := SM) (y := x.m) hml
  have mset := fun k hk => mixL_set (x := SM) (y := x.m) hml (k := k) hk
  have m0 := mixL_zero SM x.m
  have mall := mixL_all (x := SM) (y := x.m) hml
  repeat' first | refine s1 ?_ | (refine kR ?_; first | refine F.c (hC) ?_) | fail
  refine F.loop (σ := Nat) [6, 7, 15, 16, 17, 18, 19, 20, 21, 22, 23, 24, 25, 26, 27, 28] (fun k => [(15, .i k)]) (fun k => [(5, .live false 1 (E true (mixL SD x.d k)))]) (fun k => k ≤ y.d.length) (fun k => y.d.length - k) 0 ⟨rfl, trivial⟩ ⟨obE (by rw [d0]), trivial⟩ (Nat.zero_le _) ?_
  rintro k k1
  have hlk := dlen k
  by_cases hk : k < y.d.length
  · have b1 := hba k (by omega)
    have b2 := hbb k hk
    have e1 : (mixL SD x.d k).getD (0 + k) default = x.d.getD k default := by rw [Nat.zero_add]; exact dget k (by omega)
    have e2 : (mixL SD x.d k).set (0 + k) ((mixL SD x.d k).getD (0 + k) default + y.d.getD k default) = mixL SD x.d (k + 1) := by
      rw [e1, Nat.zero_add, ← hdg k (by omega)]; exact dset k (by omega)
    generalize mixL SD x.d k = Z at hlk e1 e2 ⊢
    rw [← e1] at b1
    repeat' first | refine s1 ?_ | fail
    exact ⟨k + 1, F.fit ⟨rfl, trivial⟩ ⟨obE (by rw [e2]), trivial⟩, by omega, by omega⟩
  · obtain rfl : k = y.d.length := by omega
    have e : mixL SD x.d y.d.length = SD := by rw [show y.d.length = SD.length by omega]; exact dall
    rw [e]
    clear e hlk
    repeat' first | refine s1 ?_ | fail
    refine F.loop (σ := Nat) [8, 9, 32, 33, 34, 35, 36, 37, 38, 39, 40, 41, 42, 43, 44, 45, 46, 47, 48, 49, 50, 51, 52, 53, 54, 55, 56, 57] (fun k => [(32, .i k)]) (fun k => [(6, .live false 3 (E true (mixL SM x.m k)))]) (fun k => k ≤ y.m.length) (fun k => y.m.length - k) 0 ⟨rfl, trivial⟩ ⟨obE (by rw [m0]), trivial⟩ (Nat.zero_le _) ?_
    rintro i i1
    have hli := mlen i
    by_cases hi : i < y.m.length
    · obtain ⟨a1, a2, a3, a4, a5⟩ := hax i (by omega)
      obtain ⟨g1, g2, g3, g4, g5⟩ := hay i hi
      rw [← hp] at g1
      obtain ⟨_, x1, x2, _, _⟩ := isMat_spec a1
      obtain ⟨_, y1, y2, _, _⟩ := isMat_spec g1
      have hZ := zeroT_a (x.m.getD i default).r.toNat (y.m.getD i default).c.toNat (by omega) (by omega)
      rw [Int.toNat_of_nonneg x1.1, Int.toNat_of_nonneg y2.1] at hZ
      have hB := blocksM_a a1 (isMat_zero hF (r := (x.m.getD i default).r.toNat) (c := (y.m.getD i default).c.toNat) (by omega) (by omega)) g1 (Int.toNat_of_nonneg x1.1) (Int.toNat_of_nonneg y2.1)
      rw [blkM_ext (h' := zerF) ent_zero] at hB
      have hs := mset i (by omega)
      rw [hmg i (by omega)] at hs
      generalize tm (x.m.getD i default).r.toNat (y.m.getD i default).c.toNat (fun _ _ => 0) = ZM at hZ hB
      generalize blkM (x.m.getD i default) (y.m.getD i default) zerF = SA at hB hs
      generalize mixL SM x.m i = X at hli hs ⊢
      repeat' first | refine s1 ?_ | fail
      refine AW.draw 20 G.mixed (by kernel_rfl) ?_
      refine dP 0 ?_
      refine dL 1 ?_
      refine dP 2 ?_
      refine dP 3 ?_
      refine dL 4 ?_
      refine dP 5 ?_
      refine dP 6 ?_
      refine dL 7 ?_
      refine dP 8 ?_
      refine dL 9 ?_
      refine dP 10 ?_
      refine dP 11 ?_
      refine dP 12 ?_
      refine dL 13 ?_
      refine dP 14 ?_
      refine dL 15 ?_
      refine dL 17 ?_
      refine dO 16 true ?_
      first | refine s1 ?_ | refine F.c (hZ) ?_
      refine ARg.nil (ATh.normal ?_)
      refine dO 18 true ?_
      first | refine s1 ?_ | refine F.c (hB) ?_
      refine ARg.nil (ATh.normal ?_)
      refine dP 19 ?_
      refine dO 20 false ?_
      first | refine s1 ?_ | (refine F.stGE (α := Mat) (oo := true) (v := SA) rfl rfl rfl rfl rfl (by omega) (by omega) (.at1 rfl (.at1 rfl (.mv rfl (by simp) (E_length _ _) (E_pure _ _) .nil))) rfl rfl rfl rfl rfl ?_)
      refine ARg.nil (ATh.normal ?_)
      refine dN ?_
      rotate_left
      all_goals
        rw [Nat.zero_add i]
        repeat' first | refine s1 ?_ | fail
        exact ⟨i + 1, F.fit ⟨rfl, trivial⟩ ⟨obE (by rw [hs]), trivial⟩, by omega, by omega⟩
    · obtain rfl : i = y.m.length := by omega
      have e : mixL SM x.m y.m.length = SM := by rw [show y.m.length = SM.length by omega]; exact mall
      rw [e]
      repeat' first | refine s1 ?_ | fail
      (refine kZ ?_; exact F.ret rfl)
theorem implDirectSum_a (x y : Rep) : AC Try.prog 66 [.agg (enc false x), .agg (enc false y)] [.agg (enc true (sumP x y).1), .b (sumP x y).2] := by
  refine AC.go Try.func66 Try.ntmps66 rfl rfl fun w0 hw => ?_; simp [WfL, WfA, E_length, Enc.enc, In64] at hw
  have hF := fit_a x y
  unfold sumP
  cases hf : fitR x y with
  | false =>
    rw [hf] at hF
    rw [if_neg (by simp)]
    repeat' first | refine s1 ?_ | (refine kR ?_; first | refine F.c (hF) ?_) | fail
    (refine kZ ?_; exact F.ret rfl)
  | true =>
    rw [hf] at hF
    have hD := directSum_a x y hf
    have hR := implIsRep_a (sumR x y fun _ => zerF)
    generalize (sumR x y fun _ => zerF) = S at hD hR ⊢
    cases hr : isRep S with
    | false =>
      rw [hr] at hR
      rw [if_neg (by simp)]
      repeat' first | refine s1 ?_ | (refine kR ?_; first | refine F.c (hF) ?_ | refine F.c (hD) ?_ | refine F.c (hR) ?_) | fail
      (refine kZ ?_; exact F.ret rfl)
    | true =>
      rw [hr] at hR
      rw [if_pos ⟨rfl, rfl⟩]
      repeat' first | refine s1 ?_ | (refine kR ?_; first | refine F.c (hF) ?_ | refine F.c (hD) ?_ | refine F.c (hR) ?_) | fail
      (refine kZ ?_; exact F.ret rfl)
end Go.Proofs.Ytanembgijdkagaa.V
