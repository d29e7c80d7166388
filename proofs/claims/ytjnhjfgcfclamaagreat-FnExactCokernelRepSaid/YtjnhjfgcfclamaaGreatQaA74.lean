/- Contracts: equality of spaces and of lists of them. -/
import Derived.Test.YtjnhjfgcfclamaaGreatQaB8
namespace Go.Proofs.YtjnhjfgcfclamaaGreat.V
open Go.RowKit G D
set_option linter.unusedVariables false
set_option linter.unusedSimpArgs false
set_option maxHeartbeats 4000000
set_option maxRecDepth 4000
attribute [local irreducible] AW ARg ARA ARet MRet ASil AC AM
theorem implEqS1_a (x y : List Int) : AC Tryz.prog 194 [ar false x, ar false y] [.b (decide (x = y))] := by
  refine AC.go Tryz.func194 Tryz.ntmps194 rfl rfl fun w0 hw => ?_; simp [WfL, WfA, E_length, Enc.enc, In64] at hw
  have hE := equal_a x y
  repeat' first | refine s1 ?_ | (refine kR ?_; first | refine F.c (hE) ?_) | fail
  (refine kZ ?_; exact F.ret rfl)
theorem equalFuncI_a (f g : List (List Int)) : AC Tryz.prog 193 [ar false f, ar false g, .fn 194 []] [.b (decide (f = g))] := by
  refine AC.go Tryz.func193 Tryz.ntmps193 rfl rfl fun w0 hw => ?_; simp [WfL, WfA, E_length, Enc.enc, In64] at hw
  by_cases hl : f.length = g.length
  · repeat' first | refine s1 ?_ | fail
    refine F.loop (σ := Nat) [6, 7, 8, 9, 17, 18, 19, 20, 21, 22, 23, 24, 25, 26, 27, 28, 29, 30, 31] (fun k => [(17, .i k)]) (fun _ => []) (fun k => k ≤ f.length ∧ ∀ j, j < k → f.getD j default = g.getD j default) (fun k => f.length - k) 0 ⟨rfl, trivial⟩ trivial ⟨Nat.zero_le _, fun j hj => by omega⟩ ?_
    rintro k ⟨g1, g2⟩
    by_cases hlt : k < f.length
    · have hE := implEqS1_a (f.getD k default) (g.getD k default)
      by_cases hs : f.getD k default = g.getD k default
      · rw [decide_eq_true hs] at hE
        repeat' first | refine s1 ?_ | (refine kR ?_; first | refine F.cv (hE) ?_) | fail
        exact ⟨k + 1, F.fit ⟨rfl, trivial⟩ trivial, ⟨by omega, snocP g2 hs⟩, by omega⟩
      · rw [decide_eq_false hs] at hE
        repeat' first | refine s1 ?_ | (refine kR ?_; first | refine F.cv (hE) ?_) | fail
        refine F.ret ?_
        rw [decide_eq_false]
        rintro rfl
        exact hs rfl
    · obtain rfl : k = f.length := by omega
      repeat' first | refine s1 ?_ | fail
      refine F.ret ?_
      rw [decide_eq_true (ext_getD hl fun j hj => g2 j (by omega))]
  · repeat' first | refine s1 ?_ | fail
    refine F.ret ?_
    rw [decide_eq_false]
    rintro rfl
    exact hl rfl
def sameS (x y : Spc) : Bool := decide (x.n = y.n) && decide (x.b = y.b)
theorem implEqualSpaces_a (x y : Spc) : AC Tryz.prog 149 [.agg (enc false x), .agg (enc false y)] [.b (sameS x y)] := by
  refine AC.go Tryz.func149 Tryz.ntmps149 rfl rfl fun w0 hw => ?_; simp [WfL, WfA, E_length, Enc.enc, In64] at hw
  have hE := equalFuncI_a x.b y.b
  unfold sameS
  by_cases h : x.n = y.n
  · rw [decide_eq_true h]
    repeat' first | refine s1 ?_ | (refine kR ?_; first | refine F.c (hE) ?_) | fail
    refine F.ret ?_
    simp
  · rw [decide_eq_false h]
    repeat' first | refine s1 ?_ | (refine kR ?_; first | refine F.c (hE) ?_) | fail
    refine F.ret ?_
    rfl
end Go.Proofs.YtjnhjfgcfclamaaGreat.V
