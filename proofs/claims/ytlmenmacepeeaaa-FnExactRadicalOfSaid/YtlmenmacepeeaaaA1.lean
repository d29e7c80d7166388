/- Contracts of small functions on numbers and lists of numbers. -/
import Derived.Test.YtlmenmacepeeaaaHt
namespace Go.Proofs.Ytlmenmacepeeaaa.V
open Go.RowKit G D
set_option linter.unusedVariables false
set_option linter.unusedSimpArgs false

theorem within_a (n lo hi : Int) : AC Try.prog 198 [.i n, .i lo, .i hi] [.b (decide (lo ≤ n ∧ n ≤ hi))] := by
  refine AC.go Try.func198 Try.ntmps198 rfl rfl fun w0 _ => ?_
  repeat' first | refine s1 ?_ | (refine s2 ?_ ?_ <;> intro hc <;> (try simp only [decide_eq_true_eq, decide_eq_false_iff_not, Bool.not_eq_true', Bool.not_eq_false'] at hc)) | fail
  all_goals
    refine F.ret ?_
    simp [*]
/-- the first place from k on at which p holds; -1 -/
def idxFrom {α : Type} (p : α → Bool) : List α → Nat → Int
  | [], _ => -1
  | x :: l, k => bif p x then (k : Int) else idxFrom p l (k + 1)
theorem idxFrom_any {α : Type} (p : α → Bool) : ∀ (l : List α) (k : Nat), decide (0 ≤ idxFrom p l k) = l.any p
  | [], k => by simp [idxFrom]
  | x :: l, k => by
    cases hp : p x with
    | true => simp [idxFrom, hp]
    | false => simp only [idxFrom, hp, cond_false, List.any_cons, Bool.false_or]; exact idxFrom_any p l (k + 1)
theorem idxFrom_drop {α : Type} [Inhabited α] (p : α → Bool) (l : List α) {k : Nat} (hk : k < l.length) : idxFrom p (l.drop k) k = bif p (l.getD k default) then (k : Int) else idxFrom p (l.drop (k + 1)) (k + 1) := by
  rw [List.drop_eq_getElem_cons hk]; simp [idxFrom, hk]
theorem IndexFunc1_a (xs : List Int) (f : Nat) [IsFn Try.prog f] (cs : List AV) (p : Int → Bool) (hcs : ∀ hp, SnapL hp cs cs) (hf : ∀ x ∈ xs, AC Try.prog f (.i x :: cs) [.b (p x)]) :
    AC Try.prog 215 [ar false xs, .fn f cs] [.i (idxFrom p xs 0)] := by
  refine AC.go Try.func215 Try.ntmps215 rfl rfl fun w0 hw => ?_; simp [WfL, WfA, E_length, Enc.enc, In64] at hw
  repeat' first | refine s1 ?_ | (refine s2 ?_ ?_ <;> intro hc <;> (try simp only [decide_eq_true_eq, decide_eq_false_iff_not, Bool.not_eq_true', Bool.not_eq_false'] at hc)) | fail
  refine F.loop (σ := Nat) [4, 5, 8, 9, 10, 11, 12, 13, 14, 15, 16, 17, 18] (fun k => [(8, .i k)]) (fun _ => []) (fun k => k ≤ xs.length ∧ idxFrom p xs 0 = idxFrom p (xs.drop k) k) (fun k => xs.length - k) 0 ⟨rfl, trivial⟩ trivial ⟨Nat.zero_le _, rfl⟩ ?_
  rintro k ⟨hk, hi⟩
  by_cases hlt : k < xs.length
  · rw [idxFrom_drop p xs hlt] at hi
    cases hpx : p (xs.getD k default) with
    | true =>
      rw [hpx] at hi
      have h1 := hf (xs.getD k default) (gm hlt)
      rw [hpx] at h1
      repeat' first | refine s1 ?_ | (refine kR ?_; first | refine F.cv (h1) ?_) | (refine s2 ?_ ?_ <;> intro hc <;> (try simp only [decide_eq_true_eq, decide_eq_false_iff_not, Bool.not_eq_true', Bool.not_eq_false'] at hc)) | fail
      refine F.ret ?_
      simp [hi]
    | false =>
      rw [hpx] at hi
      have h1 := hf (xs.getD k default) (gm hlt)
      rw [hpx] at h1
      repeat' first | refine s1 ?_ | (refine kR ?_; first | refine F.cv (h1) ?_) | (refine s2 ?_ ?_ <;> intro hc <;> (try simp only [decide_eq_true_eq, decide_eq_false_iff_not, Bool.not_eq_true', Bool.not_eq_false'] at hc)) | fail
      exact ⟨k + 1, F.fit ⟨rfl, trivial⟩ trivial, ⟨by omega, hi⟩, by omega⟩
  · have e : k = xs.length := by omega
    subst e
    repeat' first | refine s1 ?_ | (refine s2 ?_ ?_ <;> intro hc <;> (try simp only [decide_eq_true_eq, decide_eq_false_iff_not, Bool.not_eq_true', Bool.not_eq_false'] at hc)) | fail
    refine F.ret ?_
    simp [hi, idxFrom]
theorem ContainsFunc1_a (xs : List Int) (f : Nat) [IsFn Try.prog f] (cs : List AV) (p : Int → Bool) (hcs : ∀ hp, SnapL hp cs cs) (hf : ∀ x ∈ xs, AC Try.prog f (.i x :: cs) [.b (p x)]) :
    AC Try.prog 199 [ar false xs, .fn f cs] [.b (xs.any p)] := by
  refine AC.go Try.func199 Try.ntmps199 rfl rfl fun w0 hw => ?_; simp [WfL, WfA, E_length, Enc.enc, In64] at hw
  repeat' first | refine s1 ?_ | (refine kR ?_; first | refine F.c (IndexFunc1_a xs f cs p hcs hf) ?_) | fail
  exact F.ret (by rw [← idxFrom_any p xs 0])
theorem allWithin1_a (x lo hi : Int) : AC Try.prog 200 [.i x, .ip [.i lo], .ip [.i hi]] [.b (!decide (lo ≤ x ∧ x ≤ hi))] := by
  refine AC.go Try.func200 Try.ntmps200 rfl rfl fun w0 _ => ?_
  repeat' first | refine s1 ?_ | (refine kR ?_; first | (refine jCf 198 ?_; refine F.c (within_a _ _ _) ?_)) | (refine s2 ?_ ?_ <;> intro hc <;> (try simp only [decide_eq_true_eq, decide_eq_false_iff_not, Bool.not_eq_true', Bool.not_eq_false'] at hc)) | fail
  exact F.ret rfl
theorem allWithin_a (xs : List Int) (lo hi : Int) : AC Try.prog 152 [ar false xs, .i lo, .i hi] [.b (allIn lo hi xs)] := by
  refine AC.go Try.func152 Try.ntmps152 rfl rfl fun w0 hw => ?_; simp [WfL, WfA, E_length, Enc.enc, In64] at hw
  repeat' first | refine s1 ?_ | (refine kR ?_; first | refine F.c (ContainsFunc1_a xs 200 [.ip [.i lo], .ip [.i hi]] (fun x => !decide (lo ≤ x ∧ x ≤ hi)) (fun _ => .ip (.ip .nil)) (fun x _ => allWithin1_a x lo hi)) ?_) | fail
  refine F.ret ?_
  rw [allIn, List.not_any_eq_all_not]; simp
theorem l1In_a (n lo hi : Int) : AC Try.prog 141 [.i n, .i lo, .i hi] [.b (decide (lo ≤ n ∧ n ≤ hi))] := by
  refine AC.go Try.func141 Try.ntmps141 rfl rfl fun w0 _ => ?_
  repeat' first | refine s1 ?_ | (refine s2 ?_ ?_ <;> intro hc <;> (try simp only [decide_eq_true_eq, decide_eq_false_iff_not, Bool.not_eq_true', Bool.not_eq_false'] at hc)) | fail
  all_goals
    refine F.ret ?_
    simp [*]
end Go.Proofs.Ytlmenmacepeeaaa.V
