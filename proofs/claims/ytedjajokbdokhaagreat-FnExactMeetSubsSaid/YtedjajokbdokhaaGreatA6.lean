/- Contracts: fields, vectors, matrices, dimensions, equal quivers. -/
import Derived.Test.YtedjajokbdokhaaGreatB1
import Derived.Test.YtedjajokbdokhaaGreatUc
namespace Go.Proofs.YtedjajokbdokhaaGreat.V
open V.Enc (enc)
open Go.RowKit G D
set_option linter.unusedVariables false
set_option linter.unusedSimpArgs false
set_option maxHeartbeats 400000

def isF (p : Int) : Bool := decide (p = 2) || decide (p = 3) || decide (p = 5)
theorem isF_spec {p : Int} : isF p = true ↔ p = 2 ∨ p = 3 ∨ p = 5 := by simp [isF, or_assoc]
def isVec (p : Int) (v : List Int) : Bool := isF p && decide (v.length ≤ 64) && allIn 0 (p - 1) v
def isMat (p : Int) (m : Mat) : Bool := decide (0 ≤ m.r ∧ m.r ≤ 8) && decide (0 ≤ m.c ∧ m.c ≤ 8) && decide ((m.m.length : Int) = m.r * m.c) && isVec p m.m
theorem implIsField_a (p : Int) : AC Tryz.prog 135 [.i p] [.b (isF p)] := by
  refine AC.go Tryz.func135 Tryz.ntmps135 rfl rfl fun w0 hw => ?_; simp [WfL, WfA, E_length, Enc.enc, In64] at hw
  repeat' first | refine s1 ?_ | (refine s2 ?_ ?_ <;> intro hc <;> (try simp only [decide_eq_true_eq, decide_eq_false_iff_not, Bool.not_eq_true', Bool.not_eq_false'] at hc)) | fail
  all_goals
    refine F.ret ?_
    simp [isF, *]
theorem specIsField_a (p : Int) : AC Tryz.prog 143 [.i p] [.b (isF p)] := by
  refine AC.go Tryz.func143 Tryz.ntmps143 rfl rfl fun w0 hw => ?_; simp [WfL, WfA, E_length, Enc.enc, In64] at hw
  repeat' first | refine s1 ?_ | (refine s2 ?_ ?_ <;> intro hc <;> (try simp only [decide_eq_true_eq, decide_eq_false_iff_not, Bool.not_eq_true', Bool.not_eq_false'] at hc)) | fail
  all_goals
    refine F.ret ?_
    simp [isF, *]
theorem implIsVector_a (p : Int) (v : List Int) : AC Tryz.prog 187 [.i p, ar false v] [.b (isVec p v)] := by
  refine AC.go Tryz.func187 Tryz.ntmps187 rfl rfl fun w0 hw => ?_; simp [WfL, WfA, E_length, Enc.enc, In64] at hw
  have hF := implIsField_a p
  cases hf : isF p with
  | true =>
    rw [hf] at hF
    have h3 := isF_spec.mp hf
    repeat' first | refine s1 ?_ | (refine kR ?_; first | refine F.c (hF) ?_ | (refine jCf 185 ?_; refine F.c (allWithin_a _ _ _) ?_)) | (refine s2 ?_ ?_ <;> intro hc <;> (try simp only [decide_eq_true_eq, decide_eq_false_iff_not, Bool.not_eq_true', Bool.not_eq_false'] at hc)) | fail
    all_goals
      refine F.ret ?_
      simp [isVec, *] <;> omega
  | false =>
    rw [hf] at hF
    repeat' first | refine s1 ?_ | (refine kR ?_; first | refine F.c (hF) ?_) | fail
    refine F.ret ?_
    simp [isVec, hf]
theorem allIn_no {lo hi : Int} {xs : List Int} {k : Nat} (hk : k < xs.length) (h : ¬(lo ≤ xs.getD k default ∧ xs.getD k default ≤ hi)) : allIn lo hi xs = false := by
  rw [← Bool.not_eq_true]
  intro ha
  exact h (allIn_spec ha hk)
theorem allIn_all {lo hi : Int} {xs : List Int} (h : ∀ j, j < xs.length → lo ≤ xs.getD j default ∧ xs.getD j default ≤ hi) : allIn lo hi xs = true := by
  simp only [allIn, List.all_eq_true, Bool.and_eq_true, decide_eq_true_eq]
  intro x hx
  obtain ⟨i, hi, rfl⟩ := List.mem_iff_getElem.mp hx
  have := h i hi
  simpa [hi] using this
theorem snocP {p : Nat → Prop} {k : Nat} (h : ∀ j, j < k → p j) (hk : p k) : ∀ j, j < k + 1 → p j := fun j hj => by
  rcases Nat.lt_or_ge j k with h1 | h1
  · exact h j h1
  · obtain rfl : j = k := by omega
    exact hk
theorem all_no {n k : Nat} {f : Nat → Bool} (hk : k < n) (h : f k = false) : (List.range n).all f = false := by
  rw [← Bool.not_eq_true, List.all_eq_true]
  intro ha
  have := ha k (by simpa using hk)
  rw [h] at this; cases this
theorem all_yes {n : Nat} {f : Nat → Bool} (h : ∀ j, j < n → f j = true) : (List.range n).all f = true := by
  rw [List.all_eq_true]
  exact fun x hx => h x (by simpa using hx)
theorem specIsVector_a (p : Int) (v : List Int) : AC Tryz.prog 192 [.i p, ar false v] [.b (isVec p v)] := by
  refine AC.go Tryz.func192 Tryz.ntmps192 rfl rfl fun w0 hw => ?_; simp [WfL, WfA, E_length, Enc.enc, In64] at hw
  have hF := specIsField_a p
  cases hf : isF p with
  | true =>
    rw [hf] at hF
    have h3 := isF_spec.mp hf
    by_cases hl : v.length ≤ 64
    · repeat' first | refine s1 ?_ | (refine kR ?_; first | refine F.c (hF) ?_) | fail
      refine F.loop (σ := Nat) [4, 5, 14, 15, 16, 17, 18, 19, 20, 21, 22, 23, 24, 25, 26, 27] (fun k => [(5, .i k)]) (fun _ => []) (fun k => k ≤ v.length ∧ ∀ j, j < k → 0 ≤ v.getD j default ∧ v.getD j default ≤ p - 1) (fun k => v.length - k) 0 ⟨rfl, trivial⟩ trivial ⟨Nat.zero_le _, fun j hj => by omega⟩ ?_
      rintro k ⟨h1, h2⟩
      by_cases hlt : k < v.length
      · by_cases hx : 0 ≤ v.getD k default ∧ v.getD k default ≤ p - 1
        · repeat' first | refine s1 ?_ | (refine kR ?_; first | (refine jCf 133 ?_; refine F.c (l1In_a _ _ _) ?_)) | fail
          exact ⟨k + 1, F.fit ⟨rfl, trivial⟩ trivial, ⟨by omega, snocP h2 hx⟩, by omega⟩
        · repeat' first | refine s1 ?_ | (refine kR ?_; first | (refine jCf 133 ?_; refine F.c (l1In_a _ _ _) ?_)) | fail
          refine F.ret ?_
          rw [isVec, allIn_no hlt hx, Bool.and_false]
      · repeat' first | refine s1 ?_ | fail
        refine F.ret ?_
        rw [isVec, hf, allIn_all (fun j hj => h2 j (by omega)), decide_eq_true hl]; rfl
    · repeat' first | refine s1 ?_ | (refine kR ?_; first | refine F.c (hF) ?_) | fail
      refine F.ret ?_
      rw [isVec, hf, decide_eq_false hl]; rfl
  | false =>
    rw [hf] at hF
    repeat' first | refine s1 ?_ | (refine kR ?_; first | refine F.c (hF) ?_) | fail
    refine F.ret ?_
    simp [isVec, hf]
theorem mul8 {a b : Int} (ha : 0 ≤ a ∧ a ≤ 8) (hb : 0 ≤ b ∧ b ≤ 8) : 0 ≤ a * b ∧ a * b ≤ 64 := by
  refine ⟨Int.mul_nonneg ha.1 hb.1, ?_⟩
  have := Int.mul_le_mul ha.2 hb.2 hb.1 (by omega : (0 : Int) ≤ 8)
  omega
theorem implIsMatrix_a (p : Int) (m : Mat) : AC Tryz.prog 137 [.i p, .agg (enc false m)] [.b (isMat p m)] := by
  refine AC.go Tryz.func137 Tryz.ntmps137 rfl rfl fun w0 hw => ?_; simp [WfL, WfA, E_length, Enc.enc, In64] at hw
  by_cases hr : 0 ≤ m.r ∧ m.r ≤ 8
  · by_cases hc' : 0 ≤ m.c ∧ m.c ≤ 8
    · have h8 := mul8 hr hc'
      have hi : In64 (m.r * m.c) := by unfold In64; omega
      by_cases hl : (m.m.length : Int) = m.r * m.c
      · repeat' first | refine s1 ?_ | (refine kR ?_; first | (refine jCf 186 ?_; refine F.c (within_a _ _ _) ?_) | (refine jCf 187 ?_; refine F.c (implIsVector_a _ _) ?_)) | fail
        refine F.ret ?_
        simp [isMat, *]
      · repeat' first | refine s1 ?_ | (refine kR ?_; first | (refine jCf 186 ?_; refine F.c (within_a _ _ _) ?_)) | fail
        refine F.ret ?_
        simp [isMat, *]
    · repeat' first | refine s1 ?_ | (refine kR ?_; first | (refine jCf 186 ?_; refine F.c (within_a _ _ _) ?_)) | fail
      refine F.ret ?_
      rw [isMat, decide_eq_false hc']; simp
  · repeat' first | refine s1 ?_ | (refine kR ?_; first | (refine jCf 186 ?_; refine F.c (within_a _ _ _) ?_)) | fail
    refine F.ret ?_
    rw [isMat, decide_eq_false hr]; simp
theorem specIsMatrix_a (p : Int) (m : Mat) : AC Tryz.prog 145 [.i p, .agg (enc false m)] [.b (isMat p m)] := by
  refine AC.go Tryz.func145 Tryz.ntmps145 rfl rfl fun w0 hw => ?_; simp [WfL, WfA, E_length, Enc.enc, In64] at hw
  by_cases hr : 0 ≤ m.r ∧ m.r ≤ 8
  · by_cases hc' : 0 ≤ m.c ∧ m.c ≤ 8
    · have h8 := mul8 hr hc'
      have hi : In64 (m.r * m.c) := by unfold In64; omega
      by_cases hl : (m.m.length : Int) = m.r * m.c
      · repeat' first | refine s1 ?_ | (refine kR ?_; first | (refine jCf 133 ?_; refine F.c (l1In_a _ _ _) ?_) | (refine jCf 192 ?_; refine F.c (specIsVector_a _ _) ?_)) | fail
        refine F.ret ?_
        simp [isMat, *]
      · repeat' first | refine s1 ?_ | (refine kR ?_; first | (refine jCf 133 ?_; refine F.c (l1In_a _ _ _) ?_)) | fail
        refine F.ret ?_
        simp [isMat, *]
    · repeat' first | refine s1 ?_ | (refine kR ?_; first | (refine jCf 133 ?_; refine F.c (l1In_a _ _ _) ?_)) | fail
      refine F.ret ?_
      rw [isMat, decide_eq_false hc']; simp
  · repeat' first | refine s1 ?_ | (refine kR ?_; first | (refine jCf 133 ?_; refine F.c (l1In_a _ _ _) ?_)) | fail
    refine F.ret ?_
    rw [isMat, decide_eq_false hr]; simp
theorem l6Same_a (xs ys : List Int) : AC Tryz.prog 87 [ar false xs, ar false ys] [.b (decide (xs = ys))] := by
  refine AC.go Tryz.func87 Tryz.ntmps87 rfl rfl fun w0 hw => ?_; simp [WfL, WfA, E_length, Enc.enc, In64] at hw
  by_cases hl : xs.length = ys.length
  · repeat' first | refine s1 ?_ | fail
    refine F.loop (σ := Nat) [4, 5, 11, 12, 13, 14, 15, 16, 17, 18, 19, 20, 21, 22, 23, 24, 25] (fun k => [(5, .i k)]) (fun _ => []) (fun k => k ≤ xs.length ∧ ∀ j, j < k → xs.getD j default = ys.getD j default) (fun k => xs.length - k) 0 ⟨rfl, trivial⟩ trivial ⟨Nat.zero_le _, fun j hj => by omega⟩ ?_
    rintro k ⟨h1, h2⟩
    by_cases hlt : k < xs.length
    · repeat' first | refine s1 ?_ | fail
      refine AW.draw 9 G.mixed (by kernel_rfl) ?_
      refine dP 0 ?_
      refine dP 1 ?_
      refine dP 2 ?_
      refine dL 3 ?_
      refine dP 4 ?_
      refine dP 5 ?_
      refine dP 6 ?_
      refine dL 7 ?_
      refine dP 8 ?_
      refine dN ?_
      by_cases he : xs.getD k default = ys.getD k default
      · repeat' first | refine s1 ?_ | fail
        refine ⟨k + 1, F.fit ⟨rfl, trivial⟩ trivial, ⟨by omega, fun j hj => ?_⟩, by omega⟩
        rcases Nat.lt_or_ge j k with h | h
        · exact h2 j h
        · obtain rfl : j = k := by omega
          exact he
      · repeat' first | refine s1 ?_ | fail
        refine F.ret ?_
        rw [decide_eq_false fun h => he (by rw [h])]
    · repeat' first | refine s1 ?_ | fail
      refine F.ret ?_
      rw [decide_eq_true (List.ext_getElem hl fun i hi hi' => by have := h2 i (by omega); simpa [hi, hi'] using this)]
  · repeat' first | refine s1 ?_ | fail
    refine F.ret ?_
    rw [decide_eq_false fun h => hl (by rw [h])]
theorem equal_a (xs ys : List Int) : AC Tryz.prog 118 [ar false xs, ar false ys] [.b (decide (xs = ys))] := by
  refine AC.go Tryz.func118 Tryz.ntmps118 rfl rfl fun w0 hw => ?_; simp [WfL, WfA, E_length, Enc.enc, In64] at hw
  by_cases hl : xs.length = ys.length
  · repeat' first | refine s1 ?_ | fail
    refine F.loop (σ := Nat) [4, 5, 13, 14, 15, 16, 17, 18, 19, 20, 21, 22, 23, 24, 25] (fun k => [(13, .i k)]) (fun _ => []) (fun k => k ≤ xs.length ∧ ∀ j, j < k → xs.getD j default = ys.getD j default) (fun k => xs.length - k) 0 ⟨rfl, trivial⟩ trivial ⟨Nat.zero_le _, fun j hj => by omega⟩ ?_
    rintro k ⟨h1, h2⟩
    by_cases hlt : k < xs.length
    · repeat' first | refine s1 ?_ | fail
      refine AW.draw 9 G.mixed (by kernel_rfl) ?_
      refine dP 0 ?_
      refine dP 1 ?_
      refine dP 2 ?_
      refine dL 3 ?_
      refine dP 4 ?_
      refine dP 5 ?_
      refine dP 6 ?_
      refine dL 7 ?_
      refine dP 8 ?_
      refine dN ?_
      by_cases he : xs.getD k default = ys.getD k default
      · repeat' first | refine s1 ?_ | fail
        refine ⟨k + 1, F.fit ⟨rfl, trivial⟩ trivial, ⟨by omega, fun j hj => ?_⟩, by omega⟩
        rcases Nat.lt_or_ge j k with h | h
        · exact h2 j h
        · obtain rfl : j = k := by omega
          exact he
      · repeat' first | refine s1 ?_ | fail
        refine F.ret ?_
        rw [decide_eq_false fun h => he (by rw [h])]
    · repeat' first | refine s1 ?_ | fail
      refine F.ret ?_
      rw [decide_eq_true (List.ext_getElem hl fun i hi hi' => by have := h2 i (by omega); simpa [hi, hi'] using this)]
  · repeat' first | refine s1 ?_ | fail
    refine F.ret ?_
    rw [decide_eq_false fun h => hl (by rw [h])]
def sameQ (a b : Quiv) : Bool := decide (a.n = b.n) && decide (a.fr = b.fr) && decide (a.to = b.to)
theorem implEqualQuivers_a (a b : Quiv) : AC Tryz.prog 198 [.agg (enc false a), .agg (enc false b)] [.b (sameQ a b)] := by
  refine AC.go Tryz.func198 Tryz.ntmps198 rfl rfl fun w0 hw => ?_; simp [WfL, WfA, E_length, Enc.enc, In64] at hw
  repeat' first | refine s1 ?_ | (refine kR ?_; first | (refine jCf 118 ?_; refine F.c (equal_a _ _) ?_)) | (refine s2 ?_ ?_ <;> intro hc <;> (try simp only [decide_eq_true_eq, decide_eq_false_iff_not, Bool.not_eq_true', Bool.not_eq_false'] at hc)) | fail
  all_goals
    refine F.ret ?_
    simp [sameQ, *]
theorem specEqualQuivers_a (a b : Quiv) : AC Tryz.prog 213 [.agg (enc false a), .agg (enc false b)] [.b (sameQ a b)] := by
  refine AC.go Tryz.func213 Tryz.ntmps213 rfl rfl fun w0 hw => ?_; simp [WfL, WfA, E_length, Enc.enc, In64] at hw
  repeat' first | refine s1 ?_ | (refine kR ?_; first | (refine jCf 87 ?_; refine F.c (l6Same_a _ _) ?_)) | (refine s2 ?_ ?_ <;> intro hc <;> (try simp only [decide_eq_true_eq, decide_eq_false_iff_not, Bool.not_eq_true', Bool.not_eq_false'] at hc)) | fail
  all_goals
    refine F.ret ?_
    simp [sameQ, *]
theorem sum_take {xs : List Int} {k : Nat} (hk : k < xs.length) : (xs.take (k + 1)).sum = (xs.take k).sum + xs.getD k default := by
  rw [List.take_succ_eq_append_getElem hk, List.sum_append]; simp [hk]
theorem sum_bd {xs : List Int} {B : Int} (hB : 0 ≤ B) (h : ∀ j, j < xs.length → -B ≤ xs.getD j default ∧ xs.getD j default ≤ B) : ∀ k, k ≤ xs.length → -(k * B) ≤ (xs.take k).sum ∧ (xs.take k).sum ≤ k * B
  | 0, _ => by simp
  | k + 1, hk => by
    have h1 := sum_bd hB h k (by omega)
    have h2 := h k (by omega)
    rw [sum_take (by omega)]
    have : ((k + 1 : Nat) : Int) * B = k * B + B := by push_cast; rw [Int.add_mul, Int.one_mul]
    omega
theorem sumOf_a (xs : List Int) (hl : xs.length ≤ 1048576) (h : ∀ j, j < xs.length → -1048576 ≤ xs.getD j default ∧ xs.getD j default ≤ 1048576) : AC Tryz.prog 93 [ar false xs] [.i xs.sum] := by
  refine AC.go Tryz.func93 Tryz.ntmps93 rfl rfl fun w0 hw => ?_; simp [WfL, WfA, E_length, Enc.enc, In64] at hw
  repeat' first | refine s1 ?_ | fail
  refine F.loop (σ := Nat) [3, 5, 8, 9, 10, 11, 12, 13, 14, 15] (fun k => [(3, .i (xs.take k).sum), (8, .i k)]) (fun _ => []) (fun k => k ≤ xs.length) (fun k => xs.length - k) 0 ⟨rfl, rfl, trivial⟩ trivial (Nat.zero_le _) ?_
  rintro k h1
  have hb := sum_bd (by decide) h k h1
  by_cases hlt : k < xs.length
  · have h2 := h k hlt
    have hi : In64 ((xs.take k).sum + xs.getD k default) := by unfold In64; omega
    repeat' first | refine s1 ?_ | fail
    exact ⟨k + 1, F.fit ⟨iE (sum_take hlt).symm, rfl, trivial⟩ trivial, by omega, by omega⟩
  · obtain rfl : k = xs.length := by omega
    rw [List.take_length] at hb ⊢
    repeat' first | refine s1 ?_ | fail
    exact F.ret rfl
def areDims (q : Quiv) (d : List Int) : Bool := okQ q && decide ((d.length : Int) = q.n) && allIn 0 4 d && decide (d.sum ≤ 8)
theorem implAreDims_a (q : Quiv) (d : List Int) : AC Tryz.prog 136 [.agg (enc false q), ar false d] [.b (areDims q d)] := by
  refine AC.go Tryz.func136 Tryz.ntmps136 rfl rfl fun w0 hw => ?_; simp [WfL, WfA, E_length, Enc.enc, In64] at hw
  have hQ := implIsQuiver_a q
  cases hq : okQ q with
  | false =>
    rw [hq] at hQ
    repeat' first | refine s1 ?_ | (refine kR ?_; first | refine F.c (hQ) ?_) | fail
    refine F.ret ?_
    simp [areDims, hq]
  | true =>
    rw [hq] at hQ
    have h5 := okQ_spec hq
    by_cases hl : (d.length : Int) = q.n
    · have hA := allWithin_a d 0 4
      cases ha : allIn 0 4 d with
      | false =>
        rw [ha] at hA
        repeat' first | refine s1 ?_ | (refine kR ?_; first | refine F.c (hQ) ?_ | refine F.c (hA) ?_) | fail
        refine F.ret ?_
        simp [areDims, ha]
      | true =>
        rw [ha] at hA
        have hS := sumOf_a d (by omega) (fun j hj => by have := allIn_spec ha hj; simp only [show (default : Int) = 0 from rfl]; omega)
        repeat' first | refine s1 ?_ | (refine kR ?_; first | refine F.c (hQ) ?_ | refine F.c (hA) ?_ | refine F.c (hS) ?_) | fail
        refine F.ret ?_
        simp [areDims, *]
    · repeat' first | refine s1 ?_ | (refine kR ?_; first | refine F.c (hQ) ?_) | fail
      refine F.ret ?_
      rw [areDims, decide_eq_false hl]; simp
theorem specAreDims_a (q : Quiv) (d : List Int) : AC Tryz.prog 144 [.agg (enc false q), ar false d] [.b (areDims q d)] := by
  refine AC.go Tryz.func144 Tryz.ntmps144 rfl rfl fun w0 hw => ?_; simp [WfL, WfA, E_length, Enc.enc, In64] at hw
  have hQ := specIsQuiver_a q
  cases hq : okQ q with
  | false =>
    rw [hq] at hQ
    repeat' first | refine s1 ?_ | (refine kR ?_; first | refine F.c (hQ) ?_) | fail
    refine F.ret ?_
    simp [areDims, hq]
  | true =>
    rw [hq] at hQ
    have h5 := okQ_spec hq
    by_cases hl : (d.length : Int) = q.n
    · repeat' first | refine s1 ?_ | (refine kR ?_; first | refine F.c (hQ) ?_) | fail
      refine F.loop (σ := Nat) [4, 5, 6, 17, 18, 19, 20, 21, 22, 23, 24, 25, 26, 27, 28, 29, 30, 31, 32, 33, 34] (fun k => [(5, .i (d.take k).sum), (6, .i k)]) (fun _ => []) (fun k => k ≤ d.length ∧ (-(k * 4) ≤ (d.take k).sum ∧ (d.take k).sum ≤ k * 4) ∧ ∀ j, j < k → 0 ≤ d.getD j default ∧ d.getD j default ≤ 4) (fun k => d.length - k) 0 ⟨rfl, rfl, trivial⟩ trivial ⟨Nat.zero_le _, by simp, fun j hj => by omega⟩ ?_
      rintro k ⟨h1, hb, h2⟩
      by_cases hlt : k < d.length
      · by_cases hx : 0 ≤ d.getD k default ∧ d.getD k default ≤ 4
        · repeat' first | refine s1 ?_ | (refine kR ?_; first | (refine jCf 133 ?_; refine F.c (l1In_a _ _ _) ?_)) | fail
          exact ⟨k + 1, F.fit ⟨iE (sum_take hlt).symm, rfl, trivial⟩ trivial, ⟨by omega, by rw [sum_take hlt]; push_cast; omega, snocP h2 hx⟩, by omega⟩
        · repeat' first | refine s1 ?_ | (refine kR ?_; first | (refine jCf 133 ?_; refine F.c (l1In_a _ _ _) ?_)) | fail
          refine F.ret ?_
          rw [areDims, allIn_no hlt hx]; simp
      · obtain rfl : k = d.length := by omega
        rw [List.take_length] at hb ⊢
        repeat' first | refine s1 ?_ | fail
        refine F.ret ?_
        rw [areDims, hq, allIn_all h2, decide_eq_true hl]; rfl
    · repeat' first | refine s1 ?_ | (refine kR ?_; first | refine F.c (hQ) ?_) | fail
      refine F.ret ?_
      rw [areDims, decide_eq_false hl]; simp
end Go.Proofs.YtedjajokbdokhaaGreat.V
