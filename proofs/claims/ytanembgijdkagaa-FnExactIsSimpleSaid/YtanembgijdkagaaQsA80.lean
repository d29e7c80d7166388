/- The representation of a part, plain. No program is walked. -/
import Derived.Test.YtanembgijdkagaaQsA78
import Derived.Test.YtanembgijdkagaaQsC1
import Derived.Test.YtanembgijdkagaaQsA51
namespace Go.Proofs.Ytanembgijdkagaa.V
open Go.RowKit G D
set_option linter.unusedVariables false
set_option linter.unusedSimpArgs false
set_option maxHeartbeats 1000000
set_option maxRecDepth 4000
def subF (p : Int) (m : Mat) (a b : Spc) : Nat → Nat → Int := fun i j => (appV p m (a.b.getD j default)).getD (leadV (b.b.getD i default)).toNat default
def subM (p : Int) (m : Mat) (a b : Spc) : Mat := tm b.b.length a.b.length (subF p m a b)
def subA (r : Rep) (s : List Spc) (i : Nat) : Mat := subM r.p (r.m.getD i default) (s.getD (r.q.fr.getD i default).toNat default) (s.getD (r.q.to.getD i default).toNat default)
def subMs (r : Rep) (s : List Spc) : List Mat := (List.range r.m.length).map (subA r s)
def subR (r : Rep) (s : List Spc) : Rep := ⟨r.p, r.q, dimS s, subMs r s⟩
theorem dimS_get {s : List Spc} {v : Nat} (h : v < s.length) : (dimS s).getD v default = ((s.getD v default).b.length : Int) := by simp [dimS, h]
theorem isSpc_le {p : Int} {s : Spc} (h : isSpc p s = true) : s.b.length ≤ s.n.toNat := by
  obtain ⟨h1, h2, h3, h4⟩ := isSpc_spec h
  have hp := isF_pos h1
  simp only [isSpc, Bool.and_eq_true, decide_eq_true_eq] at h
  have := (spanB_le (show 0 < p by omega) h4.bd).2
  rw [show spanB p s.b.length s.n.toNat (vecF s.b) = s.b from h.2] at this
  exact this
theorem sum_le : ∀ {a b : List Int}, a.length = b.length → (∀ j, j < a.length → a.getD j default ≤ b.getD j default) → a.sum ≤ b.sum
  | [], [], _, _ => by simp
  | x :: a, y :: b, hl, h => by
    have h1 := h 0 (by simp)
    have h2 := sum_le (a := a) (b := b) (by simpa using hl) fun j hj => by simpa using h (j + 1) (by simpa using hj)
    simp only [List.getD_cons_zero] at h1
    simp only [List.sum_cons]
    omega
theorem sum_eq_of : ∀ {a b : List Int}, a.length = b.length → (∀ j, j < a.length → a.getD j default ≤ b.getD j default) → a.sum = b.sum → a = b
  | [], [], _, _, _ => rfl
  | x :: a, y :: b, hl, h, he => by
    have h1 := h 0 (by simp)
    have hh : ∀ j, j < a.length → a.getD j default ≤ b.getD j default := fun j hj => by simpa using h (j + 1) (by simpa using hj)
    have h2 := sum_le (a := a) (b := b) (by simpa using hl) hh
    simp only [List.getD_cons_zero] at h1
    simp only [List.sum_cons] at he
    have : x = y := by omega
    subst this
    rw [sum_eq_of (by simpa using hl) hh (by omega)]
end Go.Proofs.Ytanembgijdkagaa.V
