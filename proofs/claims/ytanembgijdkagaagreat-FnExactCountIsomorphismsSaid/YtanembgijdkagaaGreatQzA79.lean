/- When two spaces have only 0 in common: counted by dimensions. No program is walked. -/
import Derived.Test.YtanembgijdkagaaGreatQzA64
import Derived.Test.YtanembgijdkagaaGreatQzA78
namespace Go.Proofs.YtanembgijdkagaaGreat.V
open Go.RowKit G D
set_option linter.unusedVariables false
set_option linter.unusedSimpArgs false
set_option maxHeartbeats 1000000
set_option maxRecDepth 4000
def dotV (f : Nat → Int) (x : List Int) (c : Nat) : Int := sumN (fun j => f j * x.getD j default) c
theorem dotV_set (f : Nat → Int) (x : List Int) (a : Nat) (y : Int) (ha : a < x.length) : ∀ c, dotV f (x.set a y) c = dotV f x c + if a < c then f a * (y - x.getD a default) else 0
  | 0 => by simp [dotV, sumN]
  | c + 1 => by
    have ih := dotV_set f x a y ha c
    simp only [dotV, sumN] at ih ⊢
    rw [ih]
    by_cases e : a = c
    · subst e
      rw [set_get ha, if_neg (by omega), if_pos (by omega), Int.mul_sub]; omega
    · rw [set_ne e _]
      by_cases e2 : a < c
      · rw [if_pos e2, if_pos (by omega)]; omega
      · rw [if_neg e2, if_neg (by omega)]; omega
theorem dotV_unit (f : Nat → Int) (n k : Nat) (hk : k < n) : dotV f (unitL n k) n = f k := by
  have h := sumN_one f k n
  rw [if_pos hk] at h
  rw [← h]
  exact sumN_eq _ fun j hj => by rw [unitL_get hj, Int.mul_comm]
theorem kerV_free {p : Int} {c : Nat} {g : Nat → Nat → Int} {piv : List Nat} {k j : Nat} (hj : j < c) : ∀ n, (∀ i, i < n → piv.getD i 0 ≠ j) → (kerV p c g piv k n).getD j default = if j = k then 1 else 0
  | 0, _ => unitL_get hj
  | n + 1, h => by
    rw [kerV, set_ne (h n (by omega)) _]
    exact kerV_free hj n fun i hi => h i (by omega)
theorem ker_dot {p : Int} {r c : Nat} {g : Nat → Nat → Int} {piv : List Nat} (h : Ech r c g piv) {k : Nat} (hk : k < c) (hkp : k ∉ piv) {i : Nat} (hi : i < piv.length) : ∀ n, n ≤ piv.length → Cg p (dotV (g i) (kerV p c g piv k n) c) (if i < n then 0 else g i k)
  | 0, _ => by rw [kerV, dotV_unit _ _ _ hk, if_neg (by omega)]; exact .refl _
  | n + 1, hn => by
    have ih := ker_dot (p := p) h hk hkp hi n (by omega)
    have hpn := h.lt n (by omega)
    have hne : piv.getD n 0 ≠ k := fun e => hkp (by rw [← e]; have : n < piv.length := by omega
                                                    simp [this])
    have h0 : (kerV p c g piv k n).getD (piv.getD n 0) default = 0 := by
      rw [kerV_free hpn n fun t ht => by have := h.inc t n ht (by omega); omega, if_neg hne]
    rw [kerV, dotV_set _ _ _ _ (by rw [kerV_len]; exact hpn), if_pos hpn, h0, Int.sub_zero, h.one i hi n (by omega)]
    by_cases e : i = n
    · subst e
      rw [if_pos rfl, if_pos (by omega), Int.one_mul]
      rw [if_neg (by omega)] at ih
      have := ih.add (Cg.mod p (-(g i k)))
      rwa [show g i k + -(g i k) = 0 by omega] at this
    · rw [if_neg e, Int.zero_mul, Int.add_zero]
      by_cases e2 : i < n
      · rw [if_pos e2] at ih; rw [if_pos (by omega)]; exact ih
      · rw [if_neg e2] at ih; rw [if_neg (by omega)]; exact ih
theorem dotV_cg {p : Int} {f g : Nat → Int} {x : List Int} {c : Nat} (h : ∀ j, j < c → Cg p (f j) (g j)) : Cg p (dotV f x c) (dotV g x c) := sumN_cg _ fun j hj => (h j hj).mul (.refl _)
theorem dotV_comb (co : Nat → Int) (f : Nat → Nat → Int) (x : List Int) (c r : Nat) : dotV (fun j => sumN (fun i => co i * f i j) r) x c = sumN (fun i => co i * dotV (f i) x c) r := by
  unfold dotV
  rw [sumN_eq (g := fun j => sumN (fun i => co i * f i j * x.getD j default) r) _ fun j _ => by
    rw [Int.mul_comm, ← sumN_mul]
    exact sumN_eq _ fun i _ => Int.mul_comm .., sumN_swap]
  refine sumN_eq _ fun i _ => ?_
  rw [← sumN_mul]
  exact sumN_eq _ fun j _ => Int.mul_assoc ..
/-- a vector of the kernel, and its 1 -/
theorem kerL_spec {p : Int} {r c : Nat} {f : Nat → Nat → Int} (hF : isF p = true) (hb : BdF p r c f) {x : List Int} (hx : x ∈ kerL p r c f) : (∀ i, i < r → Cg p (dotV (f i) x c) 0) ∧ ∃ j, j < c ∧ x.getD j default = 1 := by
  obtain ⟨h1, h2⟩ := redK_ech hF hb c (Nat.le_refl _)
  simp only [kerL, List.mem_map] at hx
  obtain ⟨k, hk, rfl⟩ := hx
  obtain ⟨k1, k2⟩ := freeL_lt k hk
  constructor
  · intro i hi
    obtain ⟨co, e⟩ := h2.1 i hi
    refine (dotV_cg e).trans ?_
    rw [dotV_comb]
    refine (sumN_cg (g := fun _ => 0) _ fun t ht => ?_).trans (by rw [sumN_zero (h := fun _ => 0) _ fun _ _ => rfl]; exact .refl _)
    have hz : Cg p (dotV ((redK p r f c).1 t) (kerV p c (redK p r f c).1 (redK p r f c).2 k (redK p r f c).2.length) c) 0 := by
      by_cases et : t < (redK p r f c).2.length
      · have := ker_dot (p := p) h1 k1 k2 et _ (Nat.le_refl _)
        rwa [if_pos et] at this
      · refine (dotV_cg (g := fun _ => 0) fun j hj => by rw [h1.low t (by omega) ht j hj]; exact .refl _).trans ?_
        unfold dotV
        rw [sumN_zero _ fun j _ => Int.zero_mul _]; exact .refl _
    have := (Cg.refl (co t)).mul hz
    rwa [Int.mul_zero] at this
  · refine ⟨k, k1, ?_⟩
    rw [kerV_free k1 _ fun i hi e => k2 (by rw [← e]; simp [hi]), if_pos rfl]
theorem cmbV_cg {p : Int} {n : Nat} {l : List (List Int)} {k : List Int} {t : Nat} (ht : t < n) : ∀ m, Cg p ((cmbV p n l k m).getD t default) (sumN (fun i => k.getD i default * vecF l i t) m)
  | 0 => by
    have : (cmbV p n l k 0).getD t default = 0 := by simp [cmbV, ht]
    rw [this]; exact .refl _
  | m + 1 => by
    rw [cmbV, addK_get0 _ _ _ _ (by rw [cmbV_len]; exact ht) ht, sumN]
    exact (Cg.mod _ _).trans ((cmbV_cg ht m).add (.refl _))
end Go.Proofs.YtanembgijdkagaaGreat.V
