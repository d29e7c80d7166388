/- Boxes in plain Lean: the step from one code to the next. -/
import Derived.Test.YtoilkinagffhiaaA144
namespace Go.Proofs.Ytoilkinagffhiaa.V
open Go.RowKit G D
set_option linter.unusedVariables false
set_option linter.unusedSimpArgs false
set_option maxHeartbeats 4000000
set_option maxRecDepth 4000
attribute [local irreducible] AW ARg ARA ARet MRet ASil AC AM

/-- the numbers of a code, the last j of them put to 0 -/
def zJ (n c j : Nat) : List Int := (List.range n).map fun v => if n ≤ v + j then 0 else ((c / 5 ^ (n - 1 - v) % 5 : Nat) : Int)
theorem zJ_len (n c j : Nat) : (zJ n c j).length = n := by simp [zJ]
theorem zJ_get {n c j v : Nat} (h : v < n) : (zJ n c j).getD v default = if n ≤ v + j then 0 else ((c / 5 ^ (n - 1 - v) % 5 : Nat) : Int) := by simp [zJ, h]
theorem zJ_zero (n c : Nat) : zJ n c 0 = dgD n c := by
  apply List.ext_getElem (by simp [zJ, dgD, dgJ])
  intro i h1 h2
  have hi : i < n := by simpa [zJ] using h1
  simp only [zJ, dgD, dgJ, List.getElem_map, List.getElem_range]
  rw [if_neg (by omega), if_pos (by omega)]
theorem zJ_set {n c j : Nat} (h : j < n) : (zJ n c j).set (n - 1 - j) 0 = zJ n c (j + 1) := by
  apply List.ext_getElem (by simp [zJ])
  intro i h1 h2
  have hi : i < n := by simpa [zJ] using h2
  rw [List.getElem_set]
  simp only [zJ, List.getElem_map, List.getElem_range]
  by_cases e : n - 1 - j = i
  · rw [if_pos e, if_pos (by omega)]
  · rw [if_neg e]
    by_cases e2 : n ≤ i + j
    · rw [if_pos e2, if_pos (by omega)]
    · rw [if_neg e2, if_neg (by omega)]
/-- the last j places of c are 4 -/
def full (c j : Nat) : Prop := c + 1 = 5 ^ j * (c / 5 ^ j + 1)
theorem full_zero (c : Nat) : full c 0 := by simp [full]
theorem full_succ {c j : Nat} (h : full c j) (h4 : c / 5 ^ j % 5 = 4) : full c (j + 1) := by
  unfold full at *
  rw [Nat.pow_succ, ← Nat.div_div_eq_div_mul, Nat.mul_assoc]
  rw [h]
  congr 1
  omega
theorem div_next {c j k : Nat} (h : full c j) (h4 : c / 5 ^ j % 5 ≠ 4) : (c + 1) / 5 ^ (j + 1 + k) = c / 5 ^ (j + 1 + k) := by
  have hp : 0 < 5 ^ j := Nat.pow_pos (by omega)
  have e : (c + 1) / 5 ^ j = c / 5 ^ j + 1 := by
    unfold full at h
    rw [h, Nat.mul_comm, Nat.mul_div_cancel _ hp]
  have e2 : 5 ^ (j + 1 + k) = 5 ^ j * 5 * 5 ^ k := by rw [Nat.pow_add, Nat.pow_succ]
  rw [e2, ← Nat.div_div_eq_div_mul, ← Nat.div_div_eq_div_mul, ← Nat.div_div_eq_div_mul, ← Nat.div_div_eq_div_mul, e]
  congr 1
  omega
theorem zJ_next {n c j : Nat} (h : j < n) (hf : full c j) (h4 : c / 5 ^ j % 5 ≠ 4) : (zJ n c j).set (n - 1 - j) ((zJ n c j).getD (n - 1 - j) default + 1) = dgD n (c + 1) := by
  have hp : 0 < 5 ^ j := Nat.pow_pos (by omega)
  have hf' := hf
  unfold full at hf'
  have e0 : (c + 1) / 5 ^ j = c / 5 ^ j + 1 := by rw [hf', Nat.mul_comm, Nat.mul_div_cancel _ hp]
  rw [zJ_get (by omega), if_neg (by omega), show n - 1 - (n - 1 - j) = j by omega]
  apply List.ext_getElem (by simp [zJ, dgD, dgJ])
  intro i h1 h2
  have hi : i < n := by simpa [dgD, dgJ] using h2
  rw [List.getElem_set]
  simp only [zJ, dgD, dgJ, List.getElem_map, List.getElem_range]
  rw [if_pos (show n ≤ i + n by omega)]
  by_cases e : n - 1 - j = i
  · rw [if_pos e, show n - 1 - i = j by omega, e0]
    omega
  · rw [if_neg e]
    by_cases e2 : n ≤ i + j
    · rw [if_pos e2]
      obtain ⟨k, hk⟩ : ∃ k, j = (n - 1 - i) + 1 + k := ⟨j - (n - 1 - i) - 1, by omega⟩
      have : (c + 1) / 5 ^ (n - 1 - i) = 5 * (5 ^ k * (c / 5 ^ j + 1)) := by
        rw [hf', hk, show 5 ^ (n - 1 - i + 1 + k) = 5 ^ (n - 1 - i) * (5 * 5 ^ k) by rw [Nat.pow_add, Nat.pow_succ, Nat.mul_assoc], Nat.mul_assoc, Nat.mul_div_cancel_left _ (Nat.pow_pos (by omega)), Nat.mul_assoc]
      rw [this]
      omega
    · rw [if_neg e2]
      obtain ⟨k, hk⟩ : ∃ k, n - 1 - i = j + 1 + k := ⟨n - 1 - i - j - 1, by omega⟩
      rw [hk, div_next hf h4]
/-- all places are 4: the last code -/
theorem full_end {n c : Nat} (hf : full c n) (hc : c < 5 ^ n) : c = 5 ^ n - 1 := by
  unfold full at hf
  rw [Nat.div_eq_of_lt hc] at hf
  omega
end Go.Proofs.Ytoilkinagffhiaa.V
