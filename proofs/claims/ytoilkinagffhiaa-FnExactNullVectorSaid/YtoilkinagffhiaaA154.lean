/- The iterator's own step. -/
import Derived.Test.YtoilkinagffhiaaA151
import Derived.Test.YtoilkinagffhiaaA152
import Derived.Test.YtoilkinagffhiaaA153
namespace Go.Proofs.Ytoilkinagffhiaa.V
open Go.RowKit G D
set_option linter.unusedVariables false
set_option linter.unusedSimpArgs false
set_option maxHeartbeats 4000000
set_option maxRecDepth 4000
attribute [local irreducible] AW ARg ARA ARet MRet ASil AC AM
theorem full_lt {n c j : Nat} (h : j < n) (hf : full c j) (h4 : c / 5 ^ j % 5 ≠ 4) (hc : c < 5 ^ n) : c + 1 < 5 ^ n := by
  have hp : 0 < 5 ^ j := Nat.pow_pos (by omega)
  by_cases e : c + 1 = 5 ^ n
  · exfalso
    unfold full at hf
    rw [hf, show n = j + ((n - j - 1) + 1) by omega, Nat.pow_add, Nat.pow_succ] at e
    have := Nat.eq_of_mul_eq_mul_left hp e
    omega
  · omega
theorem boxX (n : Nat) (hn : 1 ≤ n ∧ n ≤ 5) (l : Nat) : ∃ fn c0 Y XB, Try.prog.funcs[66]? = some fn ∧ fn.body = some (Code.seq c0 (.block 0 (.loop ((Code.seq Y (.cond (.tmp 10) .skip (.exit 0))).seq XB)))) ∧
    ∀ (c : Nat), c < 5 ^ n → ∀ w0 mp (hp : Nat → Ob) (Q : Exit → St → Prop) [ANoPan Q],
      (∀ st', c + 1 < 5 ^ n → Fit (2 :: (List.range 40).drop 4) [] [(5, .live false 1 (E true (dgD n (c + 1))))] ⟨updA (updA (updA (fun t => [.q (fun v => v = .func (.yield l) #[] #[]), .pt 4 1 0 0, .no, .sl 5 n 0 n].getD t .no) 8 (.q (fun v => v = .func (.yield l) #[] #[]))) 9 (.sl 5 n 0 n)) 10 (.b true), upsA [(4, .live false 1 [[.dt false 1 (E false (List.replicate n (4 : Int)))]]), (5, .live false 1 (E true (dgD n c)))] hp, 6⟩ st' → Q .normal st') →
      (∀ st' (l' : List Int), c = 5 ^ n - 1 → Fit (2 :: (List.range 40).drop 4) [] [(5, .live false 1 (E true l'))] ⟨updA (updA (updA (fun t => [.q (fun v => v = .func (.yield l) #[] #[]), .pt 4 1 0 0, .no, .sl 5 n 0 n].getD t .no) 8 (.q (fun v => v = .func (.yield l) #[] #[]))) 9 (.sl 5 n 0 n)) 10 (.b true), upsA [(4, .live false 1 [[.dt false 1 (E false (List.replicate n (4 : Int)))]]), (5, .live false 1 (E true (dgD n c)))] hp, 6⟩ st' → Q .ret st') →
      AW Try.prog 40 w0 mp XB Q ⟨updA (updA (updA (fun t => [.q (fun v => v = .func (.yield l) #[] #[]), .pt 4 1 0 0, .no, .sl 5 n 0 n].getD t .no) 8 (.q (fun v => v = .func (.yield l) #[] #[]))) 9 (.sl 5 n 0 n)) 10 (.b true), upsA [(4, .live false 1 [[.dt false 1 (E false (List.replicate n (4 : Int)))]]), (5, .live false 1 (E true (dgD n c)))] hp, 6⟩ := by
  refine ⟨_, _, _, _, Try.func66, rfl, ?_⟩
  intro c hc w0 mp hp Q hQ qn qr
  repeat' first | refine s1 ?_ | fail
  refine F.loop (σ := Nat) [4, 14, 15, 16, 17, 18, 19, 20, 21, 22, 23, 24, 25, 26, 27, 28, 29, 30, 31] (fun j => [(4, .i ((n : Int) - 1 - j))]) (fun j => [(5, .live false 1 (E true (zJ n c j)))]) (fun j => j ≤ n ∧ full c j) (fun j => n - j) 0 ⟨iE (by omega), trivial⟩ ⟨obE (by rw [zJ_zero]), trivial⟩ ⟨Nat.zero_le _, full_zero c⟩ ?_
  rintro j ⟨j1, j2⟩
  have hzl := zJ_len n c j
  have hrl : (List.replicate n (4 : Int)).length = n := by simp
  by_cases hj : j < n
  · obtain ⟨v, hv⟩ : ∃ v : Nat, n - 1 - j = v := ⟨_, rfl⟩
    have hg := zJ_get (n := n) (c := c) (j := j) (v := v) (by omega)
    rw [if_neg (by omega), show n - 1 - v = j by omega] at hg
    have h4 : (List.replicate n (4 : Int)).getD v default = 4 := by
      rw [List.getD_eq_getElem?_getD, List.getElem?_replicate, if_pos (by omega)]
      rfl
    have hz := zJ_set (c := c) hj
    have hx := zJ_next (c := c) hj j2
    have hcn := full_end (n := n) (c := c)
    rw [hv] at hz hx
    rw [show (n : Int) - 1 - j = (v : Int) by omega]
    generalize List.replicate n (4 : Int) = M at hrl h4 qn ⊢
    by_cases hd : c / 5 ^ j % 5 = 4
    · have hE : (zJ n c j).getD (0 + v) default = M.getD v default := by rw [Nat.zero_add, hg, h4, hd]; rfl
      generalize zJ n c j = X at hzl hg hz hE ⊢
      repeat' first | refine s1 ?_ | fail
      refine AW.draw 13 G.mixed (by kernel_rfl) ?_
      refine dP 0 ?_
      refine dP 1 ?_
      refine dP 2 ?_
      first | refine dT 16 rfl (by first | assumption | rfl | (simp only [decide_eq_true_eq, Bool.not_eq_true', decide_eq_false_iff_not, Bool.and_eq_true, Bool.or_eq_true]; omega)) ?_ | refine dF 16 rfl (by first | assumption | rfl | (simp only [decide_eq_false_iff_not, Bool.not_eq_false', decide_eq_true_eq, Bool.and_eq_false_iff, Bool.or_eq_false_iff]; omega)) ?_ | (refine dD 16 rfl ?_ ?_ <;> intro hc <;> (try simp only [decide_eq_true_eq, decide_eq_false_iff_not, Bool.not_eq_true', Bool.not_eq_false'] at hc)) | skip
      all_goals
        first | refine dK 3 ?_ | refine dP 3 ?_
        first | refine dK 4 ?_ | refine dP 4 ?_
        first | refine dK 5 ?_ | refine dP 5 ?_
        first | refine dK 6 ?_ | refine dL 6 ?_
        first | refine dK 7 ?_ | refine dL 7 ?_
        first | refine dK 8 ?_ | refine dP 8 ?_
        first | refine dK 9 ?_ | refine dP 9 ?_
        first | refine dK 10 ?_ | refine dL 10 ?_
        first | refine dK 11 ?_ | refine dP 11 ?_
        refine dP 12 ?_
        refine dN ?_
      all_goals
        repeat' first | refine s1 ?_ | fail
        exact ⟨j + 1, F.fit ⟨iE (by omega), trivial⟩ ⟨obE (by rw [← hz]; try rw [Nat.zero_add]), trivial⟩, ⟨by omega, full_succ j2 hd⟩, by omega⟩
    · have hE : ¬ (zJ n c j).getD (0 + v) default = M.getD v default := by rw [Nat.zero_add, hg, h4]; omega
      have hx := hx hd
      have hc1 := full_lt (n := n) hj j2 hd hc
      have i1 : In64 ((zJ n c j).getD (0 + v) default + 1) := by rw [Nat.zero_add, hg]; unfold In64; omega
      generalize zJ n c j = X at hzl hg hx hE i1 ⊢
      repeat' first | refine s1 ?_ | fail
      refine AW.draw 13 G.mixed (by kernel_rfl) ?_
      refine dP 0 ?_
      refine dP 1 ?_
      refine dP 2 ?_
      first | refine dT 16 rfl (by first | assumption | rfl | (simp only [decide_eq_true_eq, Bool.not_eq_true', decide_eq_false_iff_not, Bool.and_eq_true, Bool.or_eq_true]; omega)) ?_ | refine dF 16 rfl (by first | assumption | rfl | (simp only [decide_eq_false_iff_not, Bool.not_eq_false', decide_eq_true_eq, Bool.and_eq_false_iff, Bool.or_eq_false_iff]; omega)) ?_ | (refine dD 16 rfl ?_ ?_ <;> intro hc <;> (try simp only [decide_eq_true_eq, decide_eq_false_iff_not, Bool.not_eq_true', Bool.not_eq_false'] at hc)) | skip
      all_goals
        first | refine dK 3 ?_ | refine dP 3 ?_
        first | refine dK 4 ?_ | refine dP 4 ?_
        first | refine dK 5 ?_ | refine dP 5 ?_
        first | refine dK 6 ?_ | refine dL 6 ?_
        first | refine dK 7 ?_ | refine dL 7 ?_
        first | refine dK 8 ?_ | refine dP 8 ?_
        first | refine dK 9 ?_ | refine dP 9 ?_
        first | refine dK 10 ?_ | refine dL 10 ?_
        first | refine dK 11 ?_ | refine dP 11 ?_
        refine dP 12 ?_
        refine dN ?_
      all_goals
        repeat' first | refine s1 ?_ | fail
        exact qn _ hc1 (F.fit trivial ⟨obE (by rw [← hx]; simp only [Nat.zero_add]), trivial⟩)
  · obtain rfl : j = n := by omega
    have hcn := full_end j2 hc
    generalize zJ j c j = X at hzl ⊢
    rw [show (j : Int) - 1 - j = -1 by omega]
    repeat' first | refine s1 ?_ | fail
    refine AW.draw 13 G.mixed (by kernel_rfl) ?_
    refine dP 0 ?_
    refine dP 1 ?_
    refine dP 2 ?_
    first | refine dT 16 rfl (by first | assumption | rfl | (simp only [decide_eq_true_eq, Bool.not_eq_true', decide_eq_false_iff_not, Bool.and_eq_true, Bool.or_eq_true]; omega)) ?_ | refine dF 16 rfl (by first | assumption | rfl | (simp only [decide_eq_false_iff_not, Bool.not_eq_false', decide_eq_true_eq, Bool.and_eq_false_iff, Bool.or_eq_false_iff]; omega)) ?_ | (refine dD 16 rfl ?_ ?_ <;> intro hc <;> (try simp only [decide_eq_true_eq, decide_eq_false_iff_not, Bool.not_eq_true', Bool.not_eq_false'] at hc)) | skip
    all_goals
      first | refine dK 3 ?_ | refine dP 3 ?_
      first | refine dK 4 ?_ | refine dP 4 ?_
      first | refine dK 5 ?_ | refine dP 5 ?_
      first | refine dK 6 ?_ | refine dL 6 ?_
      first | refine dK 7 ?_ | refine dL 7 ?_
      first | refine dK 8 ?_ | refine dP 8 ?_
      first | refine dK 9 ?_ | refine dP 9 ?_
      first | refine dK 10 ?_ | refine dL 10 ?_
      first | refine dK 11 ?_ | refine dP 11 ?_
      refine dP 12 ?_
      refine dN ?_
    all_goals
      repeat' first | refine s1 ?_ | fail
      exact qr _ X hcn (F.fit trivial ⟨rfl, trivial⟩)
end Go.Proofs.Ytoilkinagffhiaa.V
