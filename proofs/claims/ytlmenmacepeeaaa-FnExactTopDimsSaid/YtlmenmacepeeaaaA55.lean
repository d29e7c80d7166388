/- Contracts: valid spaces, sums of spaces. -/
import Derived.Test.YtlmenmacepeeaaaUq
import Derived.Test.YtlmenmacepeeaaaA54
import Derived.Test.YtlmenmacepeeaaaA6
namespace Go.Proofs.Ytlmenmacepeeaaa.V
open V.Enc (enc)
open Go.RowKit G D
set_option linter.unusedVariables false
set_option linter.unusedSimpArgs false
set_option maxHeartbeats 4000000
set_option maxRecDepth 4000
attribute [local irreducible] AW ARg ARA ARet MRet ASil AC AM

def fineV (p n : Int) (l : List (List Int)) (i : Nat) : Bool := decide (((l.getD i default).length : Int) = n) && isVec p (l.getD i default)
theorem fineB_eq (p n : Int) (l : List (List Int)) : fineB p n l = ((List.range l.length).all (fineV p n l) && (isF p && decide (0 ≤ n ∧ n ≤ 8) && decide (l.length ≤ 16))) := by
  unfold fineB
  congr 1
  rw [Bool.eq_iff_iff, List.all_eq_true, List.all_eq_true]
  constructor
  · intro h i hi
    exact h _ (gm (by simpa using hi))
  · intro h x hx
    obtain ⟨i, hi, rfl⟩ := List.getElem_of_mem hx
    have := h i (by simpa using hi)
    have e : l.getD i default = l[i] := by simp [hi]
    unfold fineV at this
    rwa [e] at this
theorem l5Fine_a (p n : Int) (l : List (List Int)) : AC Try.prog 209 [.i p, .i n, ar false l] [.b (fineB p n l)] := by
  refine AC.go Try.func209 Try.ntmps209 rfl rfl fun w0 hw => ?_; simp [WfL, WfA, E_length, Enc.enc, In64] at hw
  rw [fineB_eq]
  repeat' first | refine s1 ?_ | fail
  refine F.loop (σ := Nat) [6, 7, 8, 9, 10, 11, 12, 13, 14, 15, 16, 17, 18, 19, 20, 21, 22, 23, 24, 25, 26, 27, 28, 29] (fun k => [(7, .i k)]) (fun _ => []) (fun k => k ≤ l.length ∧ ∀ j, j < k → fineV p n l j = true) (fun k => l.length - k) 0 ⟨rfl, trivial⟩ trivial ⟨Nat.zero_le _, fun j hj => by omega⟩ ?_
  rintro k ⟨h1, h2⟩
  by_cases hlt : k < l.length
  · have hV := specIsVector_a p (l.getD k default)
    have hfv : fineV p n l k = (decide (((l.getD k default).length : Int) = n) && isVec p (l.getD k default)) := rfl
    by_cases hl : ((l.getD k default).length : Int) = n
    · rw [decide_eq_true hl] at hfv
      cases hm : isVec p (l.getD k default) with
      | false =>
        rw [hm] at hV
        rw [hm] at hfv
        repeat' first | refine s1 ?_ | (refine kR ?_; first | refine F.c (hV) ?_) | fail
        refine F.ret ?_
        rw [all_no hlt hfv]; rfl
      | true =>
        rw [hm] at hV
        rw [hm] at hfv
        repeat' first | refine s1 ?_ | (refine kR ?_; first | refine F.c (hV) ?_) | fail
        exact ⟨k + 1, F.fit ⟨rfl, trivial⟩ trivial, ⟨by omega, snocP h2 hfv⟩, by omega⟩
    · rw [decide_eq_false hl] at hfv
      repeat' first | refine s1 ?_ | (refine kR ?_; first | refine F.c (hV) ?_) | fail
      refine F.ret ?_
      rw [all_no hlt hfv]; rfl
  · obtain rfl : k = l.length := by omega
    have hF := specIsField_a p
    have hI := l1In_a n 0 8
    rw [all_yes h2, Bool.true_and]
    cases hf : isF p with
    | false =>
      rw [hf] at hF
      repeat' first | refine s1 ?_ | (refine kR ?_; first | refine F.c (hF) ?_) | fail
      (refine kZ ?_; exact F.ret rfl)
    | true =>
      rw [hf] at hF
      by_cases hn : 0 ≤ n ∧ n ≤ 8
      · rw [decide_eq_true hn] at hI ⊢
        repeat' first | refine s1 ?_ | (refine kR ?_; first | refine F.c (hF) ?_ | refine F.c (hI) ?_) | fail
        refine F.ret ?_
        simp
        omega
      · rw [decide_eq_false hn] at hI ⊢
        repeat' first | refine s1 ?_ | (refine kR ?_; first | refine F.c (hF) ?_ | refine F.c (hI) ?_) | fail
        (refine kZ ?_; exact F.ret rfl)
theorem ext_getD {α : Type} [Inhabited α] {x y : List α} (hl : x.length = y.length) (h : ∀ j, j < x.length → x.getD j default = y.getD j default) : x = y := by
  apply List.ext_getElem hl
  intro i h1 h2
  have := h i h1
  simpa [h1, h2] using this
theorem l5Same_a (x y : List (List Int)) (hx : ∀ i, i < x.length → (x.getD i default).length ≤ 1000000) : AC Try.prog 210 [ar false x, ar false y] [.b (decide (x = y))] := by
  refine AC.go Try.func210 Try.ntmps210 rfl rfl fun w0 hw => ?_; simp [WfL, WfA, E_length, Enc.enc, In64] at hw
  by_cases hl : x.length = y.length
  · repeat' first | refine s1 ?_ | fail
    refine F.loop (σ := Nat) [4, 5, 6, 12, 13, 14, 15, 16, 17, 18, 19, 20, 21, 22, 23, 24, 25, 26, 27, 28, 29, 30, 31, 32, 33, 34, 35, 36, 37, 38, 39, 40, 41, 42, 43, 44, 45, 46, 47, 48, 49, 50, 51, 52] (fun i => [(5, .i i)]) (fun _ => []) (fun i => i ≤ x.length ∧ ∀ j, j < i → x.getD j default = y.getD j default) (fun i => x.length - i) 0 ⟨rfl, trivial⟩ trivial ⟨Nat.zero_le _, fun j hj => by omega⟩ ?_
    rintro i ⟨h1, h2⟩
    by_cases hi : i < x.length
    · have hxi := hx i hi
      by_cases hl2 : (x.getD i default).length = (y.getD i default).length
      · repeat' first | refine s1 ?_ | fail
        refine AW.draw 11 G.mixed (by kernel_rfl) ?_
        refine dP 0 ?_
        refine dP 1 ?_
        refine dP 2 ?_
        refine dL 3 ?_
        refine dP 4 ?_
        refine dP 5 ?_
        refine dP 6 ?_
        refine dP 7 ?_
        refine dL 8 ?_
        refine dP 9 ?_
        refine dP 10 ?_
        refine dN ?_
        repeat' first | refine s1 ?_ | fail
        refine F.loop (σ := Nat) [4, 6, 29, 30, 31, 32, 33, 34, 35, 36, 37, 38, 39, 40, 41, 42, 43, 44, 45, 46, 47, 48, 49, 50, 51, 52] (fun k => [(6, .i k)]) (fun _ => []) (fun k => k ≤ (x.getD i default).length ∧ ∀ j, j < k → (x.getD i default).getD j default = (y.getD i default).getD j default) (fun k => (x.getD i default).length - k) 0 ⟨rfl, trivial⟩ trivial ⟨Nat.zero_le _, fun j hj => by omega⟩ ?_
        rintro k ⟨k1, k2⟩
        by_cases hk : k < (x.getD i default).length
        · by_cases he : (x.getD i default).getD k default = (y.getD i default).getD k default
          · repeat' first | refine s1 ?_ | fail
            refine AW.draw 15 G.mixed (by kernel_rfl) ?_
            refine dP 0 ?_
            refine dP 1 ?_
            refine dP 2 ?_
            refine dL 3 ?_
            refine dP 4 ?_
            refine dP 5 ?_
            refine dL 6 ?_
            refine dP 7 ?_
            refine dP 8 ?_
            refine dP 9 ?_
            refine dL 10 ?_
            refine dP 11 ?_
            refine dP 12 ?_
            refine dL 13 ?_
            refine dP 14 ?_
            refine dN ?_
            repeat' first | refine s1 ?_ | fail
            exact ⟨k + 1, F.fit ⟨rfl, trivial⟩ trivial, ⟨by omega, snocP k2 he⟩, by omega⟩
          · repeat' first | refine s1 ?_ | fail
            refine AW.draw 15 G.mixed (by kernel_rfl) ?_
            refine dP 0 ?_
            refine dP 1 ?_
            refine dP 2 ?_
            refine dL 3 ?_
            refine dP 4 ?_
            refine dP 5 ?_
            refine dL 6 ?_
            refine dP 7 ?_
            refine dP 8 ?_
            refine dP 9 ?_
            refine dL 10 ?_
            refine dP 11 ?_
            refine dP 12 ?_
            refine dL 13 ?_
            refine dP 14 ?_
            refine dN ?_
            repeat' first | refine s1 ?_ | fail
            refine F.ret ?_
            rw [decide_eq_false]
            rintro rfl
            exact he rfl
        · have hxy := ext_getD hl2 (fun j hj => k2 j (by omega))
          repeat' first | refine s1 ?_ | fail
          exact ⟨i + 1, F.fit ⟨rfl, trivial⟩ trivial, ⟨by omega, snocP h2 hxy⟩, by omega⟩
      · repeat' first | refine s1 ?_ | fail
        refine AW.draw 11 G.mixed (by kernel_rfl) ?_
        refine dP 0 ?_
        refine dP 1 ?_
        refine dP 2 ?_
        refine dL 3 ?_
        refine dP 4 ?_
        refine dP 5 ?_
        refine dP 6 ?_
        refine dP 7 ?_
        refine dL 8 ?_
        refine dP 9 ?_
        refine dP 10 ?_
        refine dN ?_
        repeat' first | refine s1 ?_ | fail
        refine F.ret ?_
        rw [decide_eq_false]
        rintro rfl
        exact hl2 rfl
    · repeat' first | refine s1 ?_ | fail
      refine F.ret ?_
      rw [decide_eq_true (ext_getD hl fun j hj => h2 j (by omega))]
  · repeat' first | refine s1 ?_ | fail
    refine F.ret ?_
    rw [decide_eq_false]
    rintro rfl
    exact hl rfl
theorem specIsSpace_a (p : Int) (s : Spc) : AC Try.prog 177 [.i p, .agg (enc false s)] [.b (isSpc p s)] := by
  refine AC.go Try.func177 Try.ntmps177 rfl rfl fun w0 hw => ?_; simp [WfL, WfA, E_length, Enc.enc, In64] at hw
  have hF := l5Fine_a p s.n s.b
  unfold isSpc
  cases hf : fineB p s.n s.b with
  | false =>
    rw [hf] at hF
    repeat' first | refine s1 ?_ | (refine kR ?_; first | refine F.c (hF) ?_) | fail
    (refine kZ ?_; exact F.ret rfl)
  | true =>
    rw [hf] at hF
    obtain ⟨h1, h2, h3, h4⟩ := fineB_spec hf
    have hR := l5Rows_a s.n.toNat s.b (by omega) (by omega) h4.len
    have hB := l5Basis_a p s.b.length s.n.toNat (vecF s.b) h1 (by omega) (by omega) h4.bd
    rw [show spanB p s.b.length s.n.toNat (vecF s.b) = spanL p s.n.toNat s.b from rfl] at hB
    have h5 := isF_pos h1
    have hS := l5Same_a (spanL p s.n.toNat s.b) s.b (fun i hi => by
      have h := (spanB_vec (show 0 < p by omega) h4.bd).len i hi
      unfold spanL
      omega)
    rw [Int.toNat_of_nonneg h2.1] at hR
    rw [Bool.true_and]
    generalize spanL p s.n.toNat s.b = SL at hB hS ⊢
    generalize tm s.b.length s.n.toNat (vecF s.b) = T at hR hB
    repeat' first | refine s1 ?_ | (refine kR ?_; first | refine F.c (hF) ?_) | fail
    refine AW.draw 11 G.mixed (by kernel_rfl) ?_
    refine dP 0 ?_
    refine dP 1 ?_
    refine dL 2 ?_
    refine dP 3 ?_
    refine dL 4 ?_
    refine dP 7 ?_
    refine dL 8 ?_
    refine dO 5 true ?_
    first | refine s1 ?_ | refine F.c (hR) ?_ | refine F.c (hB) ?_ | refine F.c (hS) ?_
    refine ARg.nil (ATh.normal ?_)
    refine dO 6 true ?_
    first | refine s1 ?_ | refine F.c (hR) ?_ | refine F.c (hB) ?_ | refine F.c (hS) ?_
    refine ARg.nil (ATh.normal ?_)
    refine dO 9 true ?_
    first | refine s1 ?_ | refine F.c (hR) ?_ | refine F.c (hB) ?_ | refine F.c (hS) ?_
    refine ARg.nil (ATh.normal ?_)
    refine dP 10 ?_
    refine dN ?_
    repeat' first | refine s1 ?_ | fail
    (refine kZ ?_; exact F.ret rfl)
end Go.Proofs.Ytlmenmacepeeaaa.V
