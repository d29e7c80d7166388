/- Digits of numbers, combinations of the basis of the morphisms, searches among numbers. No program is walked. -/
import Derived.Test.YtanembgijdkagaaQsA51
import Derived.Test.YtanembgijdkagaaQsA78
import Derived.Test.YtanembgijdkagaaQsA42
namespace Go.Proofs.Ytanembgijdkagaa.V
open Go.RowKit G D
set_option linter.unusedVariables false
set_option linter.unusedSimpArgs false
set_option maxHeartbeats 1000000
set_option maxRecDepth 4000
/-- a number without its last j digits -/
def quoN (p c : Int) : Nat → Int
  | 0 => c
  | j + 1 => quoN p c j / p
theorem quoN_bd {p c : Int} (hp : 0 < p) (h : 0 ≤ c) : ∀ j, 0 ≤ quoN p c j ∧ quoN p c j ≤ c
  | 0 => ⟨h, Int.le_refl _⟩
  | j + 1 => by
    obtain ⟨a, b⟩ := quoN_bd hp h j
    have h1 : 0 ≤ quoN p c j / p := Int.ediv_nonneg a (by omega)
    have h2 : quoN p c j / p ≤ quoN p c j := Int.ediv_le_self _ a
    exact ⟨h1, Int.le_trans h2 b⟩
/-- digit i of n digits -/
def digN (p c : Int) (n i : Nat) : Int := quoN p c (n - 1 - i) % p
def digV (p c : Int) (n : Nat) : List Int := (List.range n).map (digN p c n)
theorem digV_len (p c : Int) (n : Nat) : (digV p c n).length = n := by simp [digV]
theorem digV_get (p c : Int) {n i : Nat} (h : i < n) : (digV p c n).getD i default = digN p c n i := by simp [digV, h]
theorem digN_bd {p c : Int} (hp : 0 < p) (n i : Nat) : 0 ≤ digN p c n i ∧ digN p c n i ≤ p - 1 := mod_bd hp
/-- the digits from place m on -/
def digK (p c : Int) (n m : Nat) : List Int := (List.range n).map fun i => if m ≤ i then digN p c n i else 0
theorem digK_len (p c : Int) (n m : Nat) : (digK p c n m).length = n := by simp [digK]
theorem digK_all (p c : Int) (n : Nat) : digK p c n n = List.replicate n 0 := by
  apply List.ext_getElem (by simp [digK])
  intro i h1 h2
  have : i < n := by simpa using h2
  simp [digK, show ¬ n ≤ i by omega]
theorem digK_zero (p c : Int) (n : Nat) : digK p c n 0 = digV p c n := by simp [digK, digV]
theorem digK_set (p c : Int) {n m : Nat} (h : m < n) : (digK p c n (m + 1)).set m (quoN p c (n - 1 - m) % p) = digK p c n m := by
  apply List.ext_getElem (by simp [digK])
  intro i h1 h2
  rw [List.getElem_set]
  simp only [digK, List.getElem_map, List.getElem_range]
  by_cases e : m = i
  · subst e; simp [digN]
  · have : m + 1 ≤ i ↔ m ≤ i := by omega
    simp [e, this]
end Go.Proofs.Ytanembgijdkagaa.V
