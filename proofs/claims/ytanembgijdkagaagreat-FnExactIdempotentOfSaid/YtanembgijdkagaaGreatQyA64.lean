/- Kernels and meets of spaces, all of a space, the socle, plain. No program is walked. -/
import Derived.Test.YtanembgijdkagaaGreatQyA51
namespace Go.Proofs.YtanembgijdkagaaGreat.V
open Go.RowKit G D
set_option linter.unusedVariables false
set_option linter.unusedSimpArgs false
set_option maxHeartbeats 1000000
set_option maxRecDepth 4000
theorem fcF_bd {p : Int} {n : Nat} {l : List (List Int)} (h : VecB p n l) : BdF p n l.length (fcF l) := fun i hi j hj => (h (l.getD j default) (gm hj)).2 i hi
theorem kerV_bd {p : Int} {c : Nat} {g : Nat → Nat → Int} {piv : List Nat} {k : Nat} (hp : 2 ≤ p) : ∀ n, ∀ j, j < c → 0 ≤ (kerV p c g piv k n).getD j default ∧ (kerV p c g piv k n).getD j default ≤ p - 1
  | 0, j, hj => by
    have := unitL_get (k := k) hj
    show 0 ≤ (unitL c k).getD j default ∧ _
    rw [kerV, this]
    split <;> omega
  | n + 1, j, hj => by
    rw [kerV]
    by_cases e : piv.getD n 0 = j
    · subst e
      rw [set_get (by rw [kerV_len]; exact hj)]
      exact mod_bd (by omega)
    · have e2 : ((kerV p c g piv k n).set (piv.getD n 0) (-(g n k) % p)).getD j default = (kerV p c g piv k n).getD j default := set_ne e _
      rw [e2]
      exact kerV_bd hp n j hj
theorem kerL_vec {p : Int} {r c : Nat} {f : Nat → Nat → Int} (hp : 2 ≤ p) : VecB p c (kerL p r c f) := fun x hx => by
  simp only [kerL, List.mem_map] at hx
  obtain ⟨k, _, rfl⟩ := hx
  exact ⟨kerV_len .., fun j hj => kerV_bd hp _ j hj⟩
theorem kerL_le (p : Int) (r c : Nat) (f : Nat → Nat → Int) : (kerL p r c f).length ≤ c := by
  rw [kerL, List.length_map]; exact freeL_le ..
/-- a sum of the first m vectors of a list, each k times -/
def cmbV (p : Int) (n : Nat) (l : List (List Int)) (k : List Int) : Nat → List Int
  | 0 => List.replicate n 0
  | m + 1 => addK p (k.getD m default) 0 (l.getD m default) (cmbV p n l k m) n
theorem cmbV_len (p : Int) (n : Nat) (l : List (List Int)) (k : List Int) : ∀ m, (cmbV p n l k m).length = n
  | 0 => by simp [cmbV]
  | m + 1 => by rw [cmbV, addK_len, cmbV_len p n l k m]
theorem cmbV_bd {p : Int} {n : Nat} {l : List (List Int)} {k : List Int} (hp : 2 ≤ p) : ∀ m, ∀ j, j < n → 0 ≤ (cmbV p n l k m).getD j default ∧ (cmbV p n l k m).getD j default ≤ p - 1
  | 0, j, hj => by
    have : (cmbV p n l k 0).getD j default = 0 := by simp [cmbV, hj]
    rw [this]; omega
  | m + 1, j, hj => by
    have hl := cmbV_len p n l k m
    have e : (cmbV p n l k (m + 1)).getD j default = ((cmbV p n l k m).getD j default + k.getD m default * (l.getD m default).getD j default) % p := by
      rw [cmbV]
      simp only [addK, List.getD_eq_getElem?_getD, List.getElem?_map, List.getElem?_range (show j < (cmbV p n l k m).length by omega), Option.map_some, Option.getD_some]
      rw [if_pos (by omega)]
      rfl
    rw [e]
    exact mod_bd (by omega)
/-- what combinations of both bases that are 0 tell -/
def metK (p : Int) (a b : Spc) : List (List Int) := kerL p a.n.toNat (a.b ++ b.b).length (fcF (a.b ++ b.b))
def metL (p : Int) (a b : Spc) : List (List Int) := (metK p a b).map fun k => cmbV p a.n.toNat a.b k a.b.length
def metS (p : Int) (a b : Spc) : Spc := ⟨a.n, spanL p a.n.toNat (metL p a b)⟩
theorem metL_vec {p : Int} {a b : Spc} (hp : 2 ≤ p) : VecB p a.n.toNat (metL p a b) := fun x hx => by
  simp only [metL, List.mem_map] at hx
  obtain ⟨k, _, rfl⟩ := hx
  exact ⟨cmbV_len .., fun j hj => cmbV_bd hp _ j hj⟩
theorem metL_len (p : Int) (a b : Spc) : (metL p a b).length = (metK p a b).length := by simp [metL]
theorem metK_le (p : Int) (a b : Spc) : (metK p a b).length ≤ a.b.length + b.b.length := by
  have := kerL_le p a.n.toNat (a.b ++ b.b).length (fcF (a.b ++ b.b))
  rw [List.length_append] at this
  unfold metK
  rw [List.length_append]
  exact this
theorem metS_ok {p : Int} {a b : Spc} (ha : isSpc p a = true) : isSpc p (metS p a b) = true := by
  obtain ⟨h1, h2, h3, h4⟩ := isSpc_spec ha
  have hp := isF_pos h1
  have := isSpc_span h1 (show a.n.toNat ≤ 8 by omega) (metL_vec (a := a) (b := b) hp.1).bd
  rw [Int.toNat_of_nonneg h2.1] at this
  exact this
def idF : Nat → Nat → Int := fun i j => if i = j then 1 else 0
theorem idF_bd {p : Int} (hp : 2 ≤ p) (n : Nat) : BdF p n n idF := fun i _ j _ => by
  unfold idF; split <;> omega
end Go.Proofs.YtanembgijdkagaaGreat.V
