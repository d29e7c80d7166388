/- Contracts: null vectors (reference). -/
import Derived.Test.YtoilkinagffhiaaA140
import Derived.Test.YtoilkinagffhiaaA11
namespace Go.Proofs.Ytoilkinagffhiaa.V
open Go.RowKit G D
set_option linter.unusedVariables false
set_option linter.unusedSimpArgs false
set_option maxHeartbeats 4000000
set_option maxRecDepth 4000
attribute [local irreducible] AW ARg ARA ARet MRet ASil AC AM

/-- the numbers of a code: those of the last j places, 0 ahead of them -/
def dgJ (n c j : Nat) : List Int := (List.range n).map fun v => if n ≤ v + j then ((c / 5 ^ (n - 1 - v) % 5 : Nat) : Int) else 0
def dgD (n c : Nat) : List Int := dgJ n c n
theorem dgJ_len (n c j : Nat) : (dgJ n c j).length = n := by simp [dgJ]
theorem dgJ_get {n c j v : Nat} (h : v < n) : (dgJ n c j).getD v default = if n ≤ v + j then ((c / 5 ^ (n - 1 - v) % 5 : Nat) : Int) else 0 := by simp [dgJ, h]
theorem dgJ_zero (n c : Nat) : dgJ n c 0 = List.replicate n 0 := by
  apply List.ext_getElem (by simp [dgJ])
  intro i h1 h2
  have hi : i < n := by simpa [dgJ] using h1
  simp only [dgJ, List.getElem_map, List.getElem_range, List.getElem_replicate]
  rw [if_neg (by omega)]
theorem dgJ_set {n c j : Nat} (h : j < n) : (dgJ n c j).set (n - 1 - j) ((c / 5 ^ j % 5 : Nat) : Int) = dgJ n c (j + 1) := by
  apply List.ext_getElem (by simp [dgJ])
  intro i h1 h2
  have hi : i < n := by simpa [dgJ] using h2
  rw [List.getElem_set]
  simp only [dgJ, List.getElem_map, List.getElem_range]
  by_cases e : n - 1 - j = i
  · rw [if_pos e, if_pos (by omega), show n - 1 - i = j by omega]
  · rw [if_neg e]
    by_cases e2 : n ≤ i + j
    · rw [if_pos e2, if_pos (by omega)]
    · rw [if_neg e2, if_neg (by omega)]
theorem dgJ_bd {n c j v : Nat} (h : v < n) : 0 ≤ (dgJ n c j).getD v default ∧ (dgJ n c j).getD v default ≤ 4 := by
  rw [dgJ_get h]
  split
  · omega
  · exact ⟨Int.le_refl _, by omega⟩
theorem sum_set : ∀ (l : List Int) (k : Nat) (y : Int), k < l.length → (l.set k y).sum = l.sum - l.getD k default + y
  | [], k, y, h => by simp at h
  | a :: l, 0, y, _ => by simp; omega
  | a :: l, k + 1, y, h => by
    have := sum_set l k y (by simpa using h)
    simp only [List.set_cons_succ, List.sum_cons, this]
    have e : (a :: l).getD (k + 1) default = l.getD k default := by simp
    rw [e]
    omega
theorem dgJ_sum {n c j : Nat} (h : j < n) : (dgJ n c (j + 1)).sum = (dgJ n c j).sum + ((c / 5 ^ j % 5 : Nat) : Int) := by
  rw [← dgJ_set h, sum_set _ _ _ (by rw [dgJ_len]; omega), dgJ_get (by omega), if_neg (by omega)]
  omega
theorem sum_bds : ∀ {l : List Int} {B : Int}, (∀ v, v < l.length → 0 ≤ l.getD v default ∧ l.getD v default ≤ B) → 0 ≤ l.sum ∧ l.sum ≤ B * l.length
  | [], B, _ => by simp
  | a :: l, B, h => by
    have h1 := h 0 (by simp)
    have h2 := sum_bds (l := l) (B := B) fun v hv => by simpa using h (v + 1) (by simpa using hv)
    simp only [List.getD_cons_zero] at h1
    simp only [List.sum_cons, List.length_cons, Int.natCast_add, Int.natCast_one, Int.mul_add, Int.mul_one]
    omega
theorem dgJ_sb (n c j : Nat) : 0 ≤ (dgJ n c j).sum ∧ (dgJ n c j).sum ≤ 4 * n := by
  have h := sum_bds (l := dgJ n c j) (B := 4) fun v hv => dgJ_bd (by rwa [dgJ_len] at hv)
  rwa [dgJ_len] at h
/-- what is left of a code behind j places -/
def dgQ (c j : Nat) : Nat := c / 5 ^ j
theorem dgQ_zero (c : Nat) : dgQ c 0 = c := by simp [dgQ]
theorem dgQ_le (c j : Nat) : dgQ c j ≤ c := Nat.div_le_self _ _
theorem dgQ_succ (c j : Nat) : dgQ c (j + 1) = dgQ c j / 5 := by
  unfold dgQ
  rw [Nat.pow_succ, Nat.div_div_eq_div_mul]
/-- the best so far, behind code k -/
def nulS (q : Quiv) (k : Nat) (b : List Int × Int) : List Int × Int := if eulP q (dgD q.n.toNat k) (dgD q.n.toNat k) = 0 ∧ (b.1.length = 0 ∨ (dgD q.n.toNat k).sum < b.2) then (dgD q.n.toNat k, (dgD q.n.toNat k).sum) else b
def nulR (q : Quiv) : Nat → List Int × Int
  | 0 => ([], 0)
  | k + 1 => nulS q (k + 1) (nulR q k)
def nulP (q : Quiv) : List Int × Bool := if kindQ q = 2 then ((nulR q (5 ^ q.n.toNat - 1)).1, decide ((0 : Int) < ((nulR q (5 ^ q.n.toNat - 1)).1.length : Nat))) else ([], false)
theorem nulP_no {q : Quiv} (h : kindQ q ≠ 2) : nulP q = ([], false) := by unfold nulP; rw [if_neg h]
theorem nulP_yes {q : Quiv} (h : kindQ q = 2) : nulP q = ((nulR q (5 ^ q.n.toNat - 1)).1, decide ((0 : Int) < ((nulR q (5 ^ q.n.toNat - 1)).1.length : Nat))) := by unfold nulP; rw [if_pos h]
theorem kind_ok {q : Quiv} (h : kindQ q = 2) : okQ q = true := by
  unfold kindQ at h
  cases hq : okQ q with
  | true => rfl
  | false => rw [hq] at h; cases h
theorem dgD_sum {n c : Nat} : 0 ≤ (dgD n c).sum ∧ (dgD n c).sum ≤ 4 * n := by
  have h := sum_bds (l := dgD n c) (B := 4) fun v hv => dgJ_bd (by rwa [dgD, dgJ_len] at hv)
  have e : (dgD n c).length = n := dgJ_len _ _ _
  rw [e] at h
  exact h
theorem nulS_bd {q : Quiv} {k : Nat} {b : List Int × Int} (hn : q.n.toNat ≤ 5) (h : 0 ≤ b.2 ∧ b.2 ≤ 20 ∧ b.1.length ≤ 5) : 0 ≤ (nulS q k b).2 ∧ (nulS q k b).2 ≤ 20 ∧ (nulS q k b).1.length ≤ 5 := by
  unfold nulS
  have h1 := dgD_sum (n := q.n.toNat) (c := k)
  have e : (dgD q.n.toNat k).length = q.n.toNat := dgJ_len _ _ _
  split
  · dsimp only
    omega
  · exact h
theorem nulR_bd (q : Quiv) (hn : q.n.toNat ≤ 5) : ∀ k, 0 ≤ (nulR q k).2 ∧ (nulR q k).2 ≤ 20 ∧ (nulR q k).1.length ≤ 5
  | 0 => by simp [nulR]
  | k + 1 => nulS_bd hn (nulR_bd q hn k)
end Go.Proofs.Ytoilkinagffhiaa.V
