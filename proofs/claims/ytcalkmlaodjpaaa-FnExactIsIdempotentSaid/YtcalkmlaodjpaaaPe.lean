/- Tables of numbers, and their reduced form by rows. No program is spoken of. -/
import Derived.Test.YtcalkmlaodjpaaaHk
namespace Go.Proofs.Ytcalkmlaodjpaaa.V
open Go.RowKit G D
set_option linter.unusedVariables false
set_option linter.unusedSimpArgs false

/-! ### tables -/
def tab (r c : Nat) (f : Nat → Nat → Int) : List Int := (List.range (r * c)).map fun t => f (t / c) (t % c)
theorem tab_len (r c : Nat) (f : Nat → Nat → Int) : (tab r c f).length = r * c := by simp [tab]
theorem tab_lt {r c i j : Nat} (hi : i < r) (hj : j < c) : i * c + j < r * c := by
  have : (i + 1) * c ≤ r * c := Nat.mul_le_mul_right c hi
  rw [Nat.add_mul, Nat.one_mul] at this; omega
theorem tab_div {c i j : Nat} (hj : j < c) : (i * c + j) / c = i ∧ (i * c + j) % c = j := by
  constructor
  · rw [Nat.mul_comm, Nat.mul_add_div (by omega), Nat.div_eq_of_lt hj]; omega
  · rw [Nat.mul_comm, Nat.mul_add_mod, Nat.mod_eq_of_lt hj]
theorem tab_get {r c i j : Nat} (f : Nat → Nat → Int) (hi : i < r) (hj : j < c) : (tab r c f).getD (i * c + j) default = f i j := by
  have h := tab_lt hi hj
  have d := tab_div (i := i) hj
  simp [tab, h, d.1, d.2]
theorem pos_of_mul {r c t : Nat} (h : t < r * c) : 0 < c := by
  rcases Nat.eq_zero_or_pos c with h0 | h0
  · subst h0; simp at h
  · exact h0
theorem tab_ext {r c : Nat} {f g : Nat → Nat → Int} (h : ∀ i, i < r → ∀ j, j < c → f i j = g i j) : tab r c f = tab r c g := by
  apply List.map_congr_left
  intro t ht
  have ht : t < r * c := by simpa using ht
  have hc := pos_of_mul ht
  exact h _ (Nat.div_lt_of_lt_mul (by rw [Nat.mul_comm]; exact ht)) _ (Nat.mod_lt _ hc)
def updF (f : Nat → Nat → Int) (i j : Nat) (v : Int) : Nat → Nat → Int := fun i' j' => if i' = i ∧ j' = j then v else f i' j'
theorem tab_set {r c i j : Nat} (f : Nat → Nat → Int) (v : Int) (hi : i < r) (hj : j < c) : (tab r c f).set (i * c + j) v = tab r c (updF f i j v) := by
  apply List.ext_getElem (by simp [tab_len])
  intro t h1 h2
  have ht : t < r * c := by simpa [tab_len] using h2
  have e : t / c * c + t % c = t := Nat.div_add_mod' t c
  have d := tab_div (i := i) hj
  rw [List.getElem_set]
  simp only [tab, List.getElem_map, List.getElem_range, updF]
  by_cases h : i * c + j = t
  · rw [if_pos h, if_pos]
    rw [← h]; exact d
  · rw [if_neg h, if_neg]
    rintro ⟨a, b⟩
    exact h (by rw [← a, ← b]; exact e)
theorem tab_of {l : List Int} {r c : Nat} (h : l.length = r * c) : tab r c (fun i j => l.getD (i * c + j) default) = l := by
  apply List.ext_getElem (by rw [tab_len, h])
  intro t h1 h2
  simp only [tab, List.getElem_map, List.getElem_range, Nat.div_add_mod' t c]
  simp [h2]
/-- a row -/
def rowL (c : Nat) (g : Nat → Int) : List Int := (List.range c).map g
theorem rowL_len (c : Nat) (g : Nat → Int) : (rowL c g).length = c := by simp [rowL]
theorem rowL_get {c j : Nat} (g : Nat → Int) (hj : j < c) : (rowL c g).getD j default = g j := by simp [rowL, hj]
theorem rowL_of {l : List Int} {c : Nat} (h : l.length = c) : rowL c (fun j => l.getD j default) = l := by
  subst h
  apply List.ext_getElem (by simp [rowL])
  intro t h1 h2
  simp [rowL, h2]
theorem tab_row {r c i : Nat} (f : Nat → Nat → Int) (hi : i < r) : ((tab r c f).drop (i * c)).take c = rowL c (f i) := by
  have hle : (i + 1) * c ≤ r * c := Nat.mul_le_mul_right c hi
  rw [Nat.add_mul, Nat.one_mul] at hle
  apply List.ext_getElem
  · simp [tab_len, rowL_len]; omega
  · intro t h1 h2
    have ht : t < c := by simpa [rowL_len] using h2
    have d := tab_div (i := i) ht
    simp [tab, rowL, d.1, d.2]
attribute [simp] tab_len rowL_len
theorem tab_in {r c i j : Nat} (hi : i < r) (hj : j < c) (hr : r ≤ 1024) (hc : c ≤ 1024) : In64 ((i : Int) * (c : Int)) ∧ In64 ((i : Int) * (c : Int) + (j : Int)) := by
  have h : (i : Int) * (c : Int) ≤ 1024 * 1024 := Int.mul_le_mul (by omega) (by omega) (by omega) (by omega)
  have h0 : 0 ≤ (i : Int) * (c : Int) := Int.mul_nonneg (by omega) (by omega)
  unfold In64; omega

/-! ### reduced form -/
/-- the first row from a on, of n, with a number that is not 0 in column k -/
def findR (f : Nat → Nat → Int) (k : Nat) : Nat → Nat → Nat
  | 0, a => a
  | n + 1, a => if f a k = 0 then findR f k n (a + 1) else a
theorem findR_bd (f : Nat → Nat → Int) (k : Nat) : ∀ n a, a ≤ findR f k n a ∧ findR f k n a ≤ a + n
  | 0, a => by simp [findR]
  | n + 1, a => by
    simp only [findR]
    split
    · have := findR_bd f k n (a + 1); omega
    · omega
theorem findR_ne {f : Nat → Nat → Int} {k : Nat} : ∀ {n a : Nat}, findR f k n a < a + n → f (findR f k n a) k ≠ 0
  | 0, a, h => by simp [findR] at h
  | n + 1, a, h => by
    simp only [findR] at h ⊢
    split
    · rename_i h0
      rw [if_pos h0] at h
      exact findR_ne (by omega)
    · assumption
theorem findR_z {f : Nat → Nat → Int} {k : Nat} : ∀ {n a : Nat} {i : Nat}, a ≤ i → i < findR f k n a → f i k = 0
  | 0, a, i, h1, h2 => by simp [findR] at h2; omega
  | n + 1, a, i, h1, h2 => by
    simp only [findR] at h2
    split at h2
    · rename_i h0
      rcases Nat.lt_or_ge a i with h | h
      · exact findR_z (by omega) h2
      · obtain rfl : a = i := by omega
        exact h0
    · omega
def swapF (f : Nat → Nat → Int) (t a : Nat) : Nat → Nat → Int := fun i j => if i = t then f a j else if i = a then f t j else f i j
def scaleF (p : Int) (f : Nat → Nat → Int) (t : Nat) (s : Int) : Nat → Nat → Int := fun i j => if i = t then f i j * s % p else f i j
def clearF (p : Int) (f : Nat → Nat → Int) (t k : Nat) : Nat → Nat → Int := fun i j => if i = t then f i j else (f i j + (p - f i k) * f t j) % p
def powP (p x : Int) : Nat → Int
  | 0 => 1
  | n + 1 => powP p x n * x % p
def invP (p x : Int) : Int := powP p x (max (p - 2) 1).toNat
def stepE (p : Int) (r : Nat) (s : (Nat → Nat → Int) × List Nat) (k : Nat) : (Nat → Nat → Int) × List Nat :=
  if findR s.1 k (r - s.2.length) s.2.length = r then s else
    (clearF p (scaleF p (swapF s.1 s.2.length (findR s.1 k (r - s.2.length) s.2.length)) s.2.length (invP p (swapF s.1 s.2.length (findR s.1 k (r - s.2.length) s.2.length) s.2.length k))) s.2.length k, s.2 ++ [k])
def redK (p : Int) (r : Nat) (f : Nat → Nat → Int) : Nat → (Nat → Nat → Int) × List Nat
  | 0 => (f, [])
  | k + 1 => stepE p r (redK p r f k) k
/-- entries from 0 to p - 1 -/
def BdF (p : Int) (r c : Nat) (f : Nat → Nat → Int) : Prop := ∀ i, i < r → ∀ j, j < c → 0 ≤ f i j ∧ f i j ≤ p - 1
theorem mod_bd {p x : Int} (hp : 0 < p) : 0 ≤ x % p ∧ x % p ≤ p - 1 := by
  have h1 := Int.emod_nonneg x (show p ≠ 0 by omega)
  have h2 := Int.emod_lt_of_pos x hp
  omega
theorem BdF.swap {p : Int} {r c : Nat} {f : Nat → Nat → Int} (h : BdF p r c f) {t a : Nat} (ht : t < r) (ha : a < r) : BdF p r c (swapF f t a) := fun i hi j hj => by
  unfold swapF
  split
  · exact h a ha j hj
  · split
    · exact h t ht j hj
    · exact h i hi j hj
theorem BdF.scale {p : Int} {r c : Nat} {f : Nat → Nat → Int} (h : BdF p r c f) (hp : 0 < p) {t : Nat} {s : Int} : BdF p r c (scaleF p f t s) := fun i hi j hj => by
  unfold scaleF
  split
  · exact mod_bd hp
  · exact h i hi j hj
theorem BdF.clear {p : Int} {r c : Nat} {f : Nat → Nat → Int} (h : BdF p r c f) (hp : 0 < p) {t k : Nat} : BdF p r c (clearF p f t k) := fun i hi j hj => by
  unfold clearF
  split
  · exact h i hi j hj
  · exact mod_bd hp
theorem redK_bd {p : Int} (hp : 0 < p) {r c : Nat} {f : Nat → Nat → Int} (h : BdF p r c f) : ∀ k, BdF p r c (redK p r f k).1 ∧ (redK p r f k).2.length ≤ r ∧ (redK p r f k).2.length ≤ k ∧ ∀ x ∈ (redK p r f k).2, x < k
  | 0 => ⟨h, by simp [redK], by simp [redK], by simp [redK]⟩
  | k + 1 => by
    obtain ⟨h1, h2, h3, h4⟩ := redK_bd hp h k
    simp only [redK, stepE]
    have hb := findR_bd (redK p r f k).1 k (r - (redK p r f k).2.length) (redK p r f k).2.length
    split
    · exact ⟨h1, h2, by omega, fun x hx => by have := h4 x hx; omega⟩
    · refine ⟨((h1.swap (by omega) (by omega)).scale hp).clear hp, by simp; omega, by simp; omega, fun x hx => ?_⟩
      rcases List.mem_append.1 hx with hx | hx
      · have := h4 x hx; omega
      · simp at hx; omega
/-- behind the last row nothing changes -/
theorem stepE_full {p : Int} {r : Nat} {s : (Nat → Nat → Int) × List Nat} (h : s.2.length = r) (k : Nat) : stepE p r s k = s := by
  unfold stepE
  rw [if_pos (by rw [h, Nat.sub_self]; rfl)]
theorem redK_full {p : Int} {r : Nat} {f : Nat → Nat → Int} {k : Nat} (h : (redK p r f k).2.length = r) : ∀ n, redK p r f (k + n) = redK p r f k
  | 0 => rfl
  | n + 1 => by rw [← Nat.add_assoc, redK, redK_full h n, stepE_full h]
/-! progress of the three parts of a step -/
def swK (f : Nat → Nat → Int) (t a c : Nat) : Nat → Nat → Int := fun i j => if j < c then swapF f t a i j else f i j
theorem swK_zero (f : Nat → Nat → Int) (t a : Nat) : swK f t a 0 = f := by funext i j; simp [swK]
theorem swK_set (f : Nat → Nat → Int) (t a c : Nat) : updF (updF (swK f t a c) t c (f a c)) a c (f t c) = swK f t a (c + 1) := by
  funext i j
  simp only [swK, swapF, updF]
  by_cases h1 : j = c
  · subst h1
    by_cases h2 : i = a
    · subst h2
      by_cases h3 : i = t
      · subst h3; simp
      · simp [h3]
    · by_cases h3 : i = t
      · subst h3; simp [h2]
      · simp [h2, h3]
  · have : j < c + 1 ↔ j < c := by omega
    simp [h1, this]
theorem swK_at (f : Nat → Nat → Int) (t a c i : Nat) : swK f t a c i c = f i c := by simp [swK]
def scK (p : Int) (f : Nat → Nat → Int) (t : Nat) (s : Int) (c : Nat) : Nat → Nat → Int := fun i j => if i = t ∧ j < c then f i j * s % p else f i j
theorem scK_zero (p : Int) (f : Nat → Nat → Int) (t : Nat) (s : Int) : scK p f t s 0 = f := by funext i j; simp [scK]
theorem scK_at (p : Int) (f : Nat → Nat → Int) (t : Nat) (s : Int) (c i : Nat) : scK p f t s c i c = f i c := by simp [scK]
theorem scK_set (p : Int) (f : Nat → Nat → Int) (t : Nat) (s : Int) (c : Nat) : updF (scK p f t s c) t c (f t c * s % p) = scK p f t s (c + 1) := by
  funext i j
  simp only [scK, updF]
  by_cases h1 : i = t
  · subst h1
    by_cases h2 : j = c
    · subst h2; simp
    · have : j < c + 1 ↔ j < c := by omega
      simp [h2, this]
  · simp [h1]
/-- rows below i0 are cleared, and in row i0 the first c0 numbers -/
def clK (p : Int) (f : Nat → Nat → Int) (t k i0 c0 : Nat) : Nat → Nat → Int := fun i j => if i ≠ t ∧ (i < i0 ∨ (i = i0 ∧ j < c0)) then (f i j + (p - f i k) * f t j) % p else f i j
theorem clK_zero (p : Int) (f : Nat → Nat → Int) (t k : Nat) : clK p f t k 0 0 = f := by funext i j; simp [clK]
theorem clK_top (p : Int) (f : Nat → Nat → Int) (t k i0 c0 j : Nat) : clK p f t k i0 c0 t j = f t j := by simp [clK]
theorem clK_at (p : Int) (f : Nat → Nat → Int) (t k i0 c0 : Nat) : clK p f t k i0 c0 i0 c0 = f i0 c0 := by simp [clK]
theorem clK_row (p : Int) (f : Nat → Nat → Int) (t k i0 j : Nat) : clK p f t k i0 0 i0 j = f i0 j := by simp [clK]
theorem clK_set (p : Int) (f : Nat → Nat → Int) (t k i0 c0 : Nat) (h : i0 ≠ t) : updF (clK p f t k i0 c0) i0 c0 ((f i0 c0 + (p - f i0 k) * f t c0) % p) = clK p f t k i0 (c0 + 1) := by
  funext i j
  simp only [clK, updF]
  by_cases h1 : i = i0
  · subst h1
    by_cases h2 : j = c0
    · subst h2; simp [h]
    · have : j < c0 + 1 ↔ j < c0 := by omega
      simp [h2, this]
  · simp [h1]
theorem clK_next (p : Int) (f : Nat → Nat → Int) (t k i0 r c : Nat) : tab r c (clK p f t k i0 c) = tab r c (clK p f t k (i0 + 1) 0) := tab_ext fun i hi j hj => by
  have e : (i ≠ t ∧ (i < i0 ∨ i = i0 ∧ j < c)) ↔ (i ≠ t ∧ (i < i0 + 1 ∨ i = i0 + 1 ∧ j < 0)) := by omega
  simp only [clK, e]
theorem clK_own (p : Int) (f : Nat → Nat → Int) (k i0 : Nat) : clK p f i0 k i0 0 = clK p f i0 k (i0 + 1) 0 := by
  funext i j
  have e : (i ≠ i0 ∧ (i < i0 ∨ i = i0 ∧ j < 0)) ↔ (i ≠ i0 ∧ (i < i0 + 1 ∨ i = i0 + 1 ∧ j < 0)) := by omega
  simp only [clK, e]
theorem clK_all (p : Int) (f : Nat → Nat → Int) (t k r c : Nat) : tab r c (clK p f t k r 0) = tab r c (clearF p f t k) := tab_ext fun i hi j hj => by
  by_cases h : i = t
  · simp [clK, clearF, h]
  · simp [clK, clearF, h, hi]
theorem swK_all (f : Nat → Nat → Int) (t a r c : Nat) : tab r c (swK f t a c) = tab r c (swapF f t a) := tab_ext fun i hi j hj => by simp [swK, hj]
theorem scK_all (p : Int) (f : Nat → Nat → Int) (t : Nat) (s : Int) (r c : Nat) : tab r c (scK p f t s c) = tab r c (scaleF p f t s) := tab_ext fun i hi j hj => by simp [scK, scaleF, hj]
/-- what is taken away is what is added -/
theorem sub_mod (p x g y : Int) : (x - g * y) % p = (x + (p - g) * y) % p := by
  have : x + (p - g) * y = x - g * y + p * y := by rw [Int.sub_mul]; omega
  rw [this, Int.add_mul_emod_self_left]
/-! the rank is 0 where all numbers are 0 -/
theorem redK_rank0 {p : Int} {r c : Nat} {f : Nat → Nat → Int} (h : ∀ i, i < r → ∀ j, j < c → f i j = 0) : ∀ k, k ≤ c → redK p r f k = (f, [])
  | 0, _ => rfl
  | k + 1, hk => by
    rw [redK, redK_rank0 h k (by omega), stepE]
    have hb := findR_bd f k r 0
    have : findR f k r 0 = r := by
      rcases Nat.lt_or_ge (findR f k r 0) r with hl | hl
      · exact absurd (h _ hl k (by omega)) (findR_ne (by omega))
      · omega
    simp [this]
theorem redK_mono {p : Int} {r : Nat} {f : Nat → Nat → Int} (k : Nat) : ∀ n, (redK p r f k).2.length ≤ (redK p r f (k + n)).2.length
  | 0 => Nat.le_refl _
  | n + 1 => by
    have := redK_mono (p := p) (r := r) (f := f) k n
    rw [← Nat.add_assoc, redK, stepE]
    split
    · exact this
    · simp; omega
theorem redK_rank1 {p : Int} {r c : Nat} {f : Nat → Nat → Int} {i j : Nat} (hi : i < r) (hj : j < c) (h : f i j ≠ 0) : (redK p r f c).2.length ≠ 0 := by
  intro h0
  have hm := redK_mono (p := p) (r := r) (f := f) (j + 1) (c - (j + 1))
  rw [show j + 1 + (c - (j + 1)) = c by omega, h0] at hm
  have h1 : (redK p r f j).2.length ≤ (redK p r f (j + 1)).2.length := redK_mono j 1
  have hpre : ∀ k, k ≤ j → (redK p r f k).2.length = 0 → redK p r f k = (f, []) := by
    intro k
    induction k with
    | zero => intro _ _; rfl
    | succ k ih =>
      intro hk h2
      have h3 : (redK p r f k).2.length ≤ (redK p r f (k + 1)).2.length := redK_mono k 1
      have h4 := ih (by omega) (by omega)
      rw [redK, stepE] at h2 ⊢
      split
      · exact h4
      · rename_i hn
        rw [if_neg hn] at h2
        simp at h2
  have h2 := hpre j (Nat.le_refl _) (by omega)
  rw [redK, h2, stepE] at hm
  have hz : findR f j r 0 ≤ i := by
    rcases Nat.lt_or_ge i (findR f j r 0) with hl | hl
    · exact absurd (findR_z (by omega) hl) h
    · exact hl
  simp only [List.length_nil, Nat.sub_zero] at hm
  rw [if_neg (by omega)] at hm
  simp at hm
end Go.Proofs.Ytcalkmlaodjpaaa.V
