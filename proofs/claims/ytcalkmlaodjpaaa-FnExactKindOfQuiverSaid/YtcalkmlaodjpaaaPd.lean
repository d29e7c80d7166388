/- Determinants by the first row, in plain Lean. -/
import Derived.Test.YtcalkmlaodjpaaaPa
namespace Go.Proofs.Ytcalkmlaodjpaaa
def sg : Nat → Int
  | 0 => 1
  | k + 1 => -(sg k)
theorem sg_abs : ∀ k, sg k = 1 ∨ sg k = -1
  | 0 => .inl rfl
  | k + 1 => by rcases sg_abs k with h | h <;> simp [sg, h]
def minor (m : List (List Int)) (k : Nat) : List (List Int) := (m.drop 1).map fun r => r.take k ++ r.drop (k + 1)
def det : Nat → List (List Int) → Int
  | 0, _ => 1
  | n + 1, m => (List.range (n + 1)).foldl (fun s k => s + sg k * (m.getD 0 default).getD k default * det n (minor m k)) 0
def dsum (n : Nat) (m : List (List Int)) (k : Nat) : Int := (List.range k).foldl (fun s k => s + sg k * (m.getD 0 default).getD k default * det n (minor m k)) 0
theorem det_dsum (n : Nat) (m : List (List Int)) : det (n + 1) m = dsum n m (n + 1) := rfl
theorem dsum_succ (n : Nat) (m : List (List Int)) (k : Nat) : dsum n m (k + 1) = dsum n m k + sg k * (m.getD 0 default).getD k default * det n (minor m k) := by
  unfold dsum; rw [List.range_succ, List.foldl_append]; rfl
/-- r rows of c numbers between -100 and 100 -/
def Rows (r c : Nat) (m : List (List Int)) : Prop := m.length = r ∧ ∀ x ∈ m, x.length = c ∧ ∀ y ∈ x, -100 ≤ y ∧ y ≤ 100
theorem Rows.minor {r c k : Nat} {m : List (List Int)} (h : Rows (r + 1) (c + 1) m) (hk : k < c + 1) : Rows r c (minor m k) := by
  refine ⟨by simp [Proofs.Ytcalkmlaodjpaaa.minor, h.1], fun x hx => ?_⟩
  obtain ⟨y, hy, rfl⟩ := List.mem_map.1 hx
  have h1 := h.2 y (List.mem_of_mem_drop hy)
  refine ⟨by simp [h1.1]; omega, fun z hz => ?_⟩
  rcases List.mem_append.1 hz with hz | hz
  · exact h1.2 z (List.mem_of_mem_take hz)
  · exact h1.2 z (List.mem_of_mem_drop hz)
theorem Rows.row {r c k : Nat} {m : List (List Int)} (h : Rows r c m) (hk : k < r) : (m.getD k default).length = c ∧ ∀ j, j < c → -100 ≤ (m.getD k default).getD j default ∧ (m.getD k default).getD j default ≤ 100 := by
  have hm : m.getD k default ∈ m := by simp [h.1, hk]
  have h1 := h.2 _ hm
  refine ⟨h1.1, fun j hj => h1.2 _ ?_⟩
  have : j < (m.getD k default).length := by omega
  generalize m.getD k default = l at this
  simp [this]
def bnd : Nat → Int
  | 0 => 1
  | n + 1 => (n + 1) * (100 * bnd n)
theorem bnd_pos : ∀ n, 0 ≤ bnd n
  | 0 => by decide
  | n + 1 => Int.mul_nonneg (by omega) (Int.mul_nonneg (by omega) (bnd_pos n))
theorem mul_abs {a b A B : Int} (hA : 0 ≤ A) (hB : 0 ≤ B) (ha : -A ≤ a ∧ a ≤ A) (hb : -B ≤ b ∧ b ≤ B) : -(A * B) ≤ a * b ∧ a * b ≤ A * B := by
  have h : (a * b).natAbs ≤ (A * B).natAbs := by
    rw [Int.natAbs_mul, Int.natAbs_mul]
    exact Nat.mul_le_mul (by omega) (by omega)
  have : 0 ≤ A * B := Int.mul_nonneg hA hB
  omega
theorem term_bnd {n k : Nat} {m : List (List Int)} (h : Rows (n + 1) (n + 1) m) (hk : k < n + 1) (hd : -bnd n ≤ det n (minor m k) ∧ det n (minor m k) ≤ bnd n) :
    -(100 * bnd n) ≤ sg k * (m.getD 0 default).getD k default * det n (minor m k) ∧ sg k * (m.getD 0 default).getD k default * det n (minor m k) ≤ 100 * bnd n := by
  have h1 := (h.row (k := 0) (by omega)).2 k hk
  refine mul_abs (by omega) (bnd_pos n) ?_ hd
  rcases sg_abs k with e | e <;> rw [e] <;> omega
theorem dsum_bnd {n : Nat} {m : List (List Int)} (h : Rows (n + 1) (n + 1) m) (hd : ∀ k, k < n + 1 → -bnd n ≤ det n (minor m k) ∧ det n (minor m k) ≤ bnd n) : ∀ k, k ≤ n + 1 → -(k * (100 * bnd n)) ≤ dsum n m k ∧ dsum n m k ≤ k * (100 * bnd n)
  | 0, _ => by simp [dsum]
  | k + 1, hk => by
    have h1 := dsum_bnd h hd k (by omega)
    have h2 := term_bnd h (k := k) (by omega) (hd k (by omega))
    rw [dsum_succ]
    have : ((k + 1 : Nat) : Int) * (100 * bnd n) = k * (100 * bnd n) + 100 * bnd n := by push_cast; rw [Int.add_mul, Int.one_mul]
    omega
theorem det_bnd : ∀ (n : Nat) (m : List (List Int)), Rows n n m → -bnd n ≤ det n m ∧ det n m ≤ bnd n
  | 0, m, _ => by simp [det, bnd]
  | n + 1, m, h => by
    have := dsum_bnd h (fun k hk => det_bnd n _ (h.minor hk)) (n + 1) (Nat.le_refl _)
    rw [det_dsum]
    simpa [bnd] using this
theorem bnd_le {n : Nat} (h : n ≤ 5) : bnd n ≤ 1200000000000 := by
  have : n = 0 ∨ n = 1 ∨ n = 2 ∨ n = 3 ∨ n = 4 ∨ n = 5 := by omega
  rcases this with rfl | rfl | rfl | rfl | rfl | rfl <;> decide
end Go.Proofs.Ytcalkmlaodjpaaa
