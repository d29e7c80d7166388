/- Contracts: fields, vectors, matrices, dimensions, equal quivers. -/
import Derived.Test.YtoilkinagffhiaaB1
import Derived.Test.YtoilkinagffhiaaUc
namespace Go.Proofs.Ytoilkinagffhiaa.V
open Go.RowKit G D
set_option linter.unusedVariables false
set_option linter.unusedSimpArgs false
set_option maxHeartbeats 400000

def isF (p : Int) : Bool := decide (p = 2) || decide (p = 3) || decide (p = 5)
theorem isF_spec {p : Int} : isF p = true ↔ p = 2 ∨ p = 3 ∨ p = 5 := by simp [isF, or_assoc]
def isVec (p : Int) (v : List Int) : Bool := isF p && decide (v.length ≤ 64) && allIn 0 (p - 1) v
def isMat (p : Int) (m : Mat) : Bool := decide (0 ≤ m.r ∧ m.r ≤ 8) && decide (0 ≤ m.c ∧ m.c ≤ 8) && decide ((m.m.length : Int) = m.r * m.c) && isVec p m.m
theorem allIn_no {lo hi : Int} {xs : List Int} {k : Nat} (hk : k < xs.length) (h : ¬(lo ≤ xs.getD k default ∧ xs.getD k default ≤ hi)) : allIn lo hi xs = false := by
  rw [← Bool.not_eq_true]
  intro ha
  exact h (allIn_spec ha hk)
theorem allIn_all {lo hi : Int} {xs : List Int} (h : ∀ j, j < xs.length → lo ≤ xs.getD j default ∧ xs.getD j default ≤ hi) : allIn lo hi xs = true := by
  simp only [allIn, List.all_eq_true, Bool.and_eq_true, decide_eq_true_eq]
  intro x hx
  obtain ⟨i, hi, rfl⟩ := List.mem_iff_getElem.mp hx
  have := h i hi
  simpa [hi] using this
theorem snocP {p : Nat → Prop} {k : Nat} (h : ∀ j, j < k → p j) (hk : p k) : ∀ j, j < k + 1 → p j := fun j hj => by
  rcases Nat.lt_or_ge j k with h1 | h1
  · exact h j h1
  · obtain rfl : j = k := by omega
    exact hk
theorem all_no {n k : Nat} {f : Nat → Bool} (hk : k < n) (h : f k = false) : (List.range n).all f = false := by
  rw [← Bool.not_eq_true, List.all_eq_true]
  intro ha
  have := ha k (by simpa using hk)
  rw [h] at this; cases this
theorem all_yes {n : Nat} {f : Nat → Bool} (h : ∀ j, j < n → f j = true) : (List.range n).all f = true := by
  rw [List.all_eq_true]
  exact fun x hx => h x (by simpa using hx)
theorem mul8 {a b : Int} (ha : 0 ≤ a ∧ a ≤ 8) (hb : 0 ≤ b ∧ b ≤ 8) : 0 ≤ a * b ∧ a * b ≤ 64 := by
  refine ⟨Int.mul_nonneg ha.1 hb.1, ?_⟩
  have := Int.mul_le_mul ha.2 hb.2 hb.1 (by omega : (0 : Int) ≤ 8)
  omega
def sameQ (a b : Quiv) : Bool := decide (a.n = b.n) && decide (a.fr = b.fr) && decide (a.to = b.to)
theorem sum_take {xs : List Int} {k : Nat} (hk : k < xs.length) : (xs.take (k + 1)).sum = (xs.take k).sum + xs.getD k default := by
  rw [List.take_succ_eq_append_getElem hk, List.sum_append]; simp [hk]
theorem sum_bd {xs : List Int} {B : Int} (hB : 0 ≤ B) (h : ∀ j, j < xs.length → -B ≤ xs.getD j default ∧ xs.getD j default ≤ B) : ∀ k, k ≤ xs.length → -(k * B) ≤ (xs.take k).sum ∧ (xs.take k).sum ≤ k * B
  | 0, _ => by simp
  | k + 1, hk => by
    have h1 := sum_bd hB h k (by omega)
    have h2 := h k (by omega)
    rw [sum_take (by omega)]
    have : ((k + 1 : Nat) : Int) * B = k * B + B := by push_cast; rw [Int.add_mul, Int.one_mul]
    omega
theorem sumOf_a (xs : List Int) (hl : xs.length ≤ 1048576) (h : ∀ j, j < xs.length → -1048576 ≤ xs.getD j default ∧ xs.getD j default ≤ 1048576) : AC Try.prog 42 [ar false xs] [.i xs.sum] := by
  refine AC.go Try.func42 Try.ntmps42 rfl rfl fun w0 hw => ?_; simp [WfL, WfA, E_length, Enc.enc, In64] at hw
  repeat' first | refine s1 ?_ | fail
  refine F.loop (σ := Nat) [3, 5, 8, 9, 10, 11, 12, 13, 14, 15] (fun k => [(3, .i (xs.take k).sum), (8, .i k)]) (fun _ => []) (fun k => k ≤ xs.length) (fun k => xs.length - k) 0 ⟨rfl, rfl, trivial⟩ trivial (Nat.zero_le _) ?_
  rintro k h1
  have hb := sum_bd (by decide) h k h1
  by_cases hlt : k < xs.length
  · have h2 := h k hlt
    have hi : In64 ((xs.take k).sum + xs.getD k default) := by unfold In64; omega
    repeat' first | refine s1 ?_ | fail
    exact ⟨k + 1, F.fit ⟨iE (sum_take hlt).symm, rfl, trivial⟩ trivial, by omega, by omega⟩
  · obtain rfl : k = xs.length := by omega
    rw [List.take_length] at hb ⊢
    repeat' first | refine s1 ?_ | fail
    exact F.ret rfl
def areDims (q : Quiv) (d : List Int) : Bool := okQ q && decide ((d.length : Int) = q.n) && allIn 0 4 d && decide (d.sum ≤ 8)
end Go.Proofs.Ytoilkinagffhiaa.V
