/- Null vectors: what a round of the program's loop comes to, in plain Lean. -/
import Derived.Test.YtoilkinagffhiaaA152
namespace Go.Proofs.Ytoilkinagffhiaa.V
open Go.RowKit G D
set_option linter.unusedVariables false
set_option linter.unusedSimpArgs false
set_option maxHeartbeats 4000000
set_option maxRecDepth 4000
attribute [local irreducible] AW ARg ARA ARet MRet ASil AC AM
theorem nulR_sum (q : Quiv) : ∀ k, (nulR q k).2 = (nulR q k).1.sum
  | 0 => rfl
  | k + 1 => by
    have ih := nulR_sum q k
    simp only [nulR]
    unfold nulS
    split
    · rfl
    · exact ih
theorem nulR_len (q : Quiv) : ∀ k, (nulR q k).1 = [] ∨ ((nulR q k).1.length = q.n.toNat ∧ ∀ j, j < q.n.toNat → 0 ≤ (nulR q k).1.getD j default ∧ (nulR q k).1.getD j default ≤ 4)
  | 0 => .inl rfl
  | k + 1 => by
    simp only [nulR]
    unfold nulS
    split
    · exact .inr ⟨dgJ_len _ _ _, fun j hj => dgJ_bd hj⟩
    · exact nulR_len q k
theorem dg_zero {n c : Nat} : ∀ j, j ≤ n → (dgJ n c j).sum = 0 → c % 5 ^ j = 0
  | 0, _, _ => by simp [Nat.mod_one]
  | j + 1, hj, h => by
    rw [dgJ_sum (n := n) (j := j) (by omega)] at h
    have h1 := (dgJ_sb n c j).1
    have h2 : c / 5 ^ j % 5 = 0 := by omega
    have ih := dg_zero (n := n) (c := c) j (by omega) (by omega)
    rw [Nat.pow_succ, Nat.mod_mul, ih, h2]
    rfl
theorem dgD_pos {n c : Nat} (h1 : 1 ≤ c) (h2 : c < 5 ^ n) : 0 < (dgD n c).sum := by
  have h := (dgJ_sb n c n).1
  rcases Int.lt_or_le 0 (dgD n c).sum with h3 | h3
  · exact h3
  · have h4 := dg_zero (n := n) (c := c) n (Nat.le_refl _) (by unfold dgD at h3; omega)
    rw [Nat.mod_eq_of_lt h2] at h4
    omega
theorem dgD_zero (n : Nat) : dgD n 0 = List.replicate n 0 := by
  apply List.ext_getElem (by simp [dgD, dgJ])
  intro i h1 h2
  simp [dgD, dgJ]
theorem dgD_okX {q : Quiv} {n c : Nat} (hq : okQ q = true) (hn : q.n = n) : okX q (dgD n c) = true := by
  have hl : (dgD n c).length = n := dgJ_len _ _ _
  unfold okX
  rw [hq, Bool.true_and, Bool.and_eq_true, decide_eq_true_eq]
  refine ⟨by rw [hl, hn], allIn_all2 fun j hj => ?_⟩
  have := dgJ_bd (n := n) (c := c) (j := n) (v := j) (by omega)
  unfold dgD
  omega
theorem dgD_eul {q : Quiv} {n c : Nat} (hq : okQ q = true) (hn : q.n = n) : eulP q (dgD n c) (dgD n c) = eulF q (dgD n c) (dgD n c) := by
  have h := dgD_okX (c := c) hq hn
  unfold eulP
  rw [if_pos ⟨h, h⟩]
/-- the best so far, as the cell of the variable -/
def bestA : List Int → AV
  | [] => .nl
  | x :: l => .dt true 1 (E true (x :: l))
theorem bestA_ne {l : List Int} (h : l ≠ []) : bestA l = .dt true 1 (E true l) := by
  cases l with
  | nil => exact absurd rfl h
  | cons x l => rfl
/-- a round at code c: the best behind it -/
theorem nul_round {q : Quiv} {n c : Nat} (hq : okQ q = true) (hn : q.n = n) (hn1 : 1 ≤ n) (hc : c < 5 ^ n) :
    (c = 0 ∧ (dgD n c).sum = 0 ∧ (nulR q c).1 = [] ∧ (nulR q (c - 1)).1 = []) ∨ (0 < (dgD n c).sum ∧ (nulR q c).1 = if eulF q (dgD n c) (dgD n c) = 0 ∧ ((nulR q (c - 1)).1 = [] ∨ (dgD n c).sum < (nulR q (c - 1)).1.sum) then dgD n c else (nulR q (c - 1)).1) := by
  have hnn : q.n.toNat = n := by omega
  rcases Nat.eq_zero_or_pos c with e | e
  · subst e
    refine .inl ⟨rfl, ?_, rfl, rfl⟩
    rw [dgD_zero]; simp
  · refine .inr ⟨dgD_pos e hc, ?_⟩
    obtain ⟨k, rfl⟩ : ∃ k, c = k + 1 := ⟨c - 1, by omega⟩
    simp only [Nat.add_sub_cancel]
    have h1 : nulR q (k + 1) = nulS q (k + 1) (nulR q k) := rfl
    rw [h1]
    unfold nulS
    rw [hnn, dgD_eul hq hn, nulR_sum q k]
    have h2 : (nulR q k).1.length = 0 ↔ (nulR q k).1 = [] := List.length_eq_zero_iff
    simp only [h2]
    split <;> rfl
end Go.Proofs.Ytoilkinagffhiaa.V
