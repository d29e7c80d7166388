/- Columns without a leading one, kernels, solutions of systems. No program is walked. -/
import Derived.Test.YtlmenmacepeeaaaA33
import Derived.Test.YtlmenmacepeeaaaA35
namespace Go.Proofs.Ytlmenmacepeeaaa.V
open Go.RowKit G D
set_option linter.unusedVariables false
set_option linter.unusedSimpArgs false
set_option maxHeartbeats 1000000
set_option maxRecDepth 4000

theorem ints_mem (l : List Nat) (k : Nat) : ((k : Int) ∈ ints l) ↔ k ∈ l := by
  simp only [ints, List.mem_map]
  constructor
  · rintro ⟨x, hx, h⟩
    have : x = k := by omega
    subst this; exact hx
  · intro h; exact ⟨k, h, rfl⟩
/-- the columns without a leading one -/
def freeL (c : Nat) (piv : List Nat) : List Nat := (List.range c).filter fun k => decide (k ∉ piv)
theorem pw_filter (c : Nat) (q : Nat → Bool) : ((List.range c).filter q).Pairwise (· < ·) := List.Pairwise.filter _ List.pairwise_lt_range
theorem piv_filter {c : Nat} {piv : List Nat} (h : piv.Pairwise (· < ·)) (hl : ∀ x ∈ piv, x < c) : (List.range c).filter (fun k => decide (k ∈ piv)) = piv :=
  inc_ext (pw_filter c _) h fun x => by simp; exact hl x
theorem freeL_len {c : Nat} {piv : List Nat} (h : piv.Pairwise (· < ·)) (hl : ∀ x ∈ piv, x < c) : (freeL c piv).length + piv.length = c := by
  have h1 := List.length_eq_countP_add_countP (fun k => decide (k ∈ piv)) (l := List.range c)
  rw [List.countP_eq_length_filter, List.countP_eq_length_filter, piv_filter h hl, List.length_range] at h1
  have e : freeL c piv = (List.range c).filter (fun k => decide ¬decide (k ∈ piv) = true) := by
    unfold freeL; congr 1; funext k; simp
  rw [e]; omega
theorem freeL_succ (c : Nat) (piv : List Nat) : freeL (c + 1) piv = if c ∈ piv then freeL c piv else freeL c piv ++ [c] := by
  unfold freeL
  rw [List.range_succ, List.filter_append]
  by_cases h : c ∈ piv <;> simp [h]
theorem freeL_lt {c : Nat} {piv : List Nat} : ∀ k ∈ freeL c piv, k < c ∧ k ∉ piv := fun k hk => by
  simpa [freeL] using hk
theorem freeL_le (c : Nat) (piv : List Nat) : (freeL c piv).length ≤ c := by
  have := List.length_filter_le (fun k => decide (k ∉ piv)) (List.range c)
  rw [List.length_range] at this
  exact this
/-- the vector of the kernel at a column without a leading one, when n leading ones are done -/
def kerV (p : Int) (c : Nat) (g : Nat → Nat → Int) (piv : List Nat) (k : Nat) : Nat → List Int
  | 0 => unitL c k
  | n + 1 => (kerV p c g piv k n).set (piv.getD n 0) (-(g n k) % p)
theorem kerV_len (p : Int) (c : Nat) (g : Nat → Nat → Int) (piv : List Nat) (k : Nat) : ∀ n, (kerV p c g piv k n).length = c
  | 0 => unitL_len c k
  | n + 1 => by rw [kerV, List.length_set, kerV_len p c g piv k n]
theorem neg_mod (p x : Int) : (p - x) % p = -x % p := by
  rw [show p - x = -x + p * 1 by omega, Int.add_mul_emod_self_left]
def kerL (p : Int) (r c : Nat) (f : Nat → Nat → Int) : List (List Int) := (freeL c (redK p r f c).2).map fun k => kerV p c (redK p r f c).1 (redK p r f c).2 k (redK p r f c).2.length
/-- the equations with a column beside -/
def augF (c : Nat) (f : Nat → Nat → Int) (v : List Int) : Nat → Nat → Int := fun i j => if j < c then f i j else v.getD i default
def solV (c : Nat) (g : Nat → Nat → Int) (piv : List Nat) : Nat → List Int
  | 0 => List.replicate c 0
  | n + 1 => (solV c g piv n).set (piv.getD n 0) (g n c)
theorem solV_len (c : Nat) (g : Nat → Nat → Int) (piv : List Nat) : ∀ n, (solV c g piv n).length = c
  | 0 => by simp [solV]
  | n + 1 => by rw [solV, List.length_set, solV_len c g piv n]
def solL (p : Int) (r c : Nat) (f : Nat → Nat → Int) (v : List Int) : List Int × Bool := if c ∈ (redK p r (augF c f v) (c + 1)).2 then ([], false) else (solV c (redK p r (augF c f v) (c + 1)).1 (redK p r (augF c f v) (c + 1)).2 (redK p r (augF c f v) (c + 1)).2.length, true)
theorem redK_pw {p : Int} {r c : Nat} {f : Nat → Nat → Int} (hF : isF p = true) (hb : BdF p r c f) : (redK p r f c).2.Pairwise (· < ·) := (redK_ech hF hb c (Nat.le_refl _)).1.pw
/-- the number of vectors of the kernel -/
theorem kerL_len {p : Int} {r c : Nat} {f : Nat → Nat → Int} (hF : isF p = true) (hb : BdF p r c f) : (kerL p r c f).length + (redK p r f c).2.length = c := by
  have h := redK_bd (by have := isF_pos hF; omega) hb c
  rw [kerL, List.length_map]
  exact freeL_len (redK_pw hF hb) h.2.2.2
end Go.Proofs.Ytlmenmacepeeaaa.V
