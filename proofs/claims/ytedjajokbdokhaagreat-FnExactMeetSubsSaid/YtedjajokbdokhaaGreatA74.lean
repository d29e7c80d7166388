/- Contracts: equality of spaces and of lists of them. -/
import Derived.Test.YtedjajokbdokhaaGreatB8
namespace Go.Proofs.YtedjajokbdokhaaGreat.V
open V.Enc (enc)
open Go.RowKit G D
set_option linter.unusedVariables false
set_option linter.unusedSimpArgs false
set_option maxHeartbeats 4000000
set_option maxRecDepth 4000
attribute [local irreducible] AW ARg ARA ARet MRet ASil AC AM

theorem implEqS1_a (x y : List Int) : AC Tryz.prog 165 [ar false x, ar false y] [.b (decide (x = y))] := by
  refine AC.go Tryz.func165 Tryz.ntmps165 rfl rfl fun w0 hw => ?_; simp [WfL, WfA, E_length, Enc.enc, In64] at hw
  have hE := equal_a x y
  repeat' first | refine s1 ?_ | (refine kR ?_; first | refine F.c (hE) ?_) | fail
  (refine kZ ?_; exact F.ret rfl)
theorem equalFuncI_a (f g : List (List Int)) : AC Tryz.prog 164 [ar false f, ar false g, .fn 165 []] [.b (decide (f = g))] := by
  refine AC.go Tryz.func164 Tryz.ntmps164 rfl rfl fun w0 hw => ?_; simp [WfL, WfA, E_length, Enc.enc, In64] at hw
  by_cases hl : f.length = g.length
  · repeat' first | refine s1 ?_ | fail
    refine F.loop (σ := Nat) [6, 7, 8, 9, 17, 18, 19, 20, 21, 22, 23, 24, 25, 26, 27, 28, 29, 30, 31] (fun k => [(17, .i k)]) (fun _ => []) (fun k => k ≤ f.length ∧ ∀ j, j < k → f.getD j default = g.getD j default) (fun k => f.length - k) 0 ⟨rfl, trivial⟩ trivial ⟨Nat.zero_le _, fun j hj => by omega⟩ ?_
    rintro k ⟨g1, g2⟩
    by_cases hlt : k < f.length
    · have hE := implEqS1_a (f.getD k default) (g.getD k default)
      by_cases hs : f.getD k default = g.getD k default
      · rw [decide_eq_true hs] at hE
        repeat' first | refine s1 ?_ | (refine kR ?_; first | refine F.cv (hE) ?_) | fail
        exact ⟨k + 1, F.fit ⟨rfl, trivial⟩ trivial, ⟨by omega, snocP g2 hs⟩, by omega⟩
      · rw [decide_eq_false hs] at hE
        repeat' first | refine s1 ?_ | (refine kR ?_; first | refine F.cv (hE) ?_) | fail
        refine F.ret ?_
        rw [decide_eq_false]
        rintro rfl
        exact hs rfl
    · obtain rfl : k = f.length := by omega
      repeat' first | refine s1 ?_ | fail
      refine F.ret ?_
      rw [decide_eq_true (ext_getD hl fun j hj => g2 j (by omega))]
  · repeat' first | refine s1 ?_ | fail
    refine F.ret ?_
    rw [decide_eq_false]
    rintro rfl
    exact hl rfl
def sameS (x y : Spc) : Bool := decide (x.n = y.n) && decide (x.b = y.b)
theorem implEqualSpaces_a (x y : Spc) : AC Tryz.prog 113 [.agg (enc false x), .agg (enc false y)] [.b (sameS x y)] := by
  refine AC.go Tryz.func113 Tryz.ntmps113 rfl rfl fun w0 hw => ?_; simp [WfL, WfA, E_length, Enc.enc, In64] at hw
  have hE := equalFuncI_a x.b y.b
  unfold sameS
  by_cases h : x.n = y.n
  · rw [decide_eq_true h]
    repeat' first | refine s1 ?_ | (refine kR ?_; first | refine F.c (hE) ?_) | fail
    refine F.ret ?_
    simp
  · rw [decide_eq_false h]
    repeat' first | refine s1 ?_ | (refine kR ?_; first | refine F.c (hE) ?_) | fail
    refine F.ret ?_
    rfl
theorem specEqualSpaces_a (x y : Spc) (hx : ∀ i, i < x.b.length → (x.b.getD i default).length ≤ 1000000) : AC Tryz.prog 106 [.agg (enc false x), .agg (enc false y)] [.b (sameS x y)] := by
  refine AC.go Tryz.func106 Tryz.ntmps106 rfl rfl fun w0 hw => ?_; simp [WfL, WfA, E_length, Enc.enc, In64] at hw
  have hE := l5Same_a x.b y.b hx
  unfold sameS
  by_cases h : x.n = y.n
  · rw [decide_eq_true h]
    repeat' first | refine s1 ?_ | (refine kR ?_; first | refine F.c (hE) ?_) | fail
    refine F.ret ?_
    simp
  · rw [decide_eq_false h]
    repeat' first | refine s1 ?_ | (refine kR ?_; first | refine F.c (hE) ?_) | fail
    refine F.ret ?_
    rfl
def sameSL (f g : List Spc) : Bool := decide (f.length = g.length) && (List.range f.length).all fun v => sameS (f.getD v default) (g.getD v default)
theorem equalFuncS_a (f g : List Spc) : AC Tryz.prog 112 [ar false f, ar false g, .fn 113 []] [.b (sameSL f g)] := by
  refine AC.go Tryz.func112 Tryz.ntmps112 rfl rfl fun w0 hw => ?_; simp [WfL, WfA, E_length, Enc.enc, In64] at hw
  by_cases hl : f.length = g.length
  · repeat' first | refine s1 ?_ | fail
    refine F.loop (σ := Nat) [6, 7, 8, 9, 17, 18, 19, 20, 21, 22, 23, 24, 25, 26, 27, 28, 29, 30, 31] (fun k => [(17, .i k)]) (fun _ => []) (fun k => k ≤ f.length ∧ ∀ j, j < k → sameS (f.getD j default) (g.getD j default) = true) (fun k => f.length - k) 0 ⟨rfl, trivial⟩ trivial ⟨Nat.zero_le _, fun j hj => by omega⟩ ?_
    rintro k ⟨g1, g2⟩
    by_cases hlt : k < f.length
    · have hE := implEqualSpaces_a (f.getD k default) (g.getD k default)
      cases hs : sameS (f.getD k default) (g.getD k default) with
      | true =>
        rw [hs] at hE
        repeat' first | refine s1 ?_ | (refine kR ?_; first | refine F.cv (hE) ?_) | fail
        exact ⟨k + 1, F.fit ⟨rfl, trivial⟩ trivial, ⟨by omega, snocP g2 hs⟩, by omega⟩
      | false =>
        rw [hs] at hE
        repeat' first | refine s1 ?_ | (refine kR ?_; first | refine F.cv (hE) ?_) | fail
        refine F.ret ?_
        rw [sameSL, all_no hlt hs, Bool.and_false]
    · obtain rfl : k = f.length := by omega
      repeat' first | refine s1 ?_ | fail
      refine F.ret ?_
      rw [sameSL, decide_eq_true hl, all_yes g2]; rfl
  · repeat' first | refine s1 ?_ | fail
    refine F.ret ?_
    rw [sameSL, decide_eq_false hl]; rfl
theorem implEqualSubs_a (f g : List Spc) : AC Tryz.prog 58 [ar false f, ar false g] [.b (sameSL f g)] := by
  refine AC.go Tryz.func58 Tryz.ntmps58 rfl rfl fun w0 hw => ?_; simp [WfL, WfA, E_length, Enc.enc, In64] at hw
  have hE := equalFuncS_a f g
  repeat' first | refine s1 ?_ | (refine kR ?_; first | refine F.c (hE) ?_) | fail
  (refine kZ ?_; exact F.ret rfl)
theorem specEqualSubs_a (f g : List Spc) (hx : ∀ v, v < f.length → ∀ i, i < (f.getD v default).b.length → ((f.getD v default).b.getD i default).length ≤ 1000000) : AC Tryz.prog 53 [ar false f, ar false g] [.b (sameSL f g)] := by
  refine AC.go Tryz.func53 Tryz.ntmps53 rfl rfl fun w0 hw => ?_; simp [WfL, WfA, E_length, Enc.enc, In64] at hw
  by_cases hl : f.length = g.length
  · repeat' first | refine s1 ?_ | fail
    refine F.loop (σ := Nat) [4, 5, 11, 12, 13, 14, 15, 16, 17, 18, 19, 20, 21, 22, 23, 24, 25, 26] (fun k => [(5, .i k)]) (fun _ => []) (fun k => k ≤ f.length ∧ ∀ j, j < k → sameS (f.getD j default) (g.getD j default) = true) (fun k => f.length - k) 0 ⟨rfl, trivial⟩ trivial ⟨Nat.zero_le _, fun j hj => by omega⟩ ?_
    rintro k ⟨g1, g2⟩
    by_cases hlt : k < f.length
    · have hE := specEqualSpaces_a (f.getD k default) (g.getD k default) (hx k hlt)
      cases hs : sameS (f.getD k default) (g.getD k default) with
      | true =>
        rw [hs] at hE
        repeat' first | refine s1 ?_ | fail
        refine AW.draw 10 G.mixed (by kernel_rfl) ?_
        refine dP 0 ?_
        refine dP 1 ?_
        refine dP 2 ?_
        refine dL 3 ?_
        refine dP 4 ?_
        refine dP 5 ?_
        refine dP 6 ?_
        refine dL 7 ?_
        refine dO 8 true ?_
        first | refine s1 ?_ | refine F.c (hE) ?_
        refine ARg.nil (ATh.normal ?_)
        refine dP 9 ?_
        refine dN ?_
        repeat' first | refine s1 ?_ | fail
        exact ⟨k + 1, F.fit ⟨rfl, trivial⟩ trivial, ⟨by omega, snocP g2 hs⟩, by omega⟩
      | false =>
        rw [hs] at hE
        repeat' first | refine s1 ?_ | fail
        refine AW.draw 10 G.mixed (by kernel_rfl) ?_
        refine dP 0 ?_
        refine dP 1 ?_
        refine dP 2 ?_
        refine dL 3 ?_
        refine dP 4 ?_
        refine dP 5 ?_
        refine dP 6 ?_
        refine dL 7 ?_
        refine dO 8 true ?_
        first | refine s1 ?_ | refine F.c (hE) ?_
        refine ARg.nil (ATh.normal ?_)
        refine dP 9 ?_
        refine dN ?_
        repeat' first | refine s1 ?_ | fail
        refine F.ret ?_
        rw [sameSL, all_no hlt hs, Bool.and_false]
    · obtain rfl : k = f.length := by omega
      repeat' first | refine s1 ?_ | fail
      refine F.ret ?_
      rw [sameSL, decide_eq_true hl, all_yes g2]; rfl
  · repeat' first | refine s1 ?_ | fail
    refine F.ret ?_
    rw [sameSL, decide_eq_false hl]; rfl
/-- vectors of valid spaces are short -/
theorem spc_short {p : Int} {s : Spc} (h : isSpc p s = true) : ∀ i, i < s.b.length → (s.b.getD i default).length ≤ 1000000 := fun i hi => by
  obtain ⟨h1, h2, h3, h4⟩ := isSpc_spec h
  have := (h4 _ (gm (d := default) hi)).1
  omega
end Go.Proofs.YtedjajokbdokhaaGreat.V
