/- The representation of a part, plain. No program is walked. -/
import Derived.Test.YtjnhjfgcfclamaaGreatQaA78
import Derived.Test.YtjnhjfgcfclamaaGreatQaC1
import Derived.Test.YtjnhjfgcfclamaaGreatQaA64
namespace Go.Proofs.YtjnhjfgcfclamaaGreat.V
open Go.RowKit G D
set_option linter.unusedVariables false
set_option linter.unusedSimpArgs false
set_option maxHeartbeats 1000000
set_option maxRecDepth 4000
def subF (p : Int) (m : Mat) (a b : Spc) : Nat → Nat → Int := fun i j => (appV p m (a.b.getD j default)).getD (leadV (b.b.getD i default)).toNat default
def subM (p : Int) (m : Mat) (a b : Spc) : Mat := tm b.b.length a.b.length (subF p m a b)
def subA (r : Rep) (s : List Spc) (i : Nat) : Mat := subM r.p (r.m.getD i default) (s.getD (r.q.fr.getD i default).toNat default) (s.getD (r.q.to.getD i default).toNat default)
def subMs (r : Rep) (s : List Spc) : List Mat := (List.range r.m.length).map (subA r s)
theorem subMs_len (r : Rep) (s : List Spc) : (subMs r s).length = r.m.length := by simp [subMs]
theorem subMs_get (r : Rep) (s : List Spc) {i : Nat} (hi : i < r.m.length) : (subMs r s).getD i default = subA r s i := by simp [subMs, hi]
def subR (r : Rep) (s : List Spc) : Rep := ⟨r.p, r.q, dimS s, subMs r s⟩
/-- the matrix that carries a part into all -/
def incM (s : Spc) : Mat := tm s.n.toNat s.b.length (fcF s.b)
def incL (s : List Spc) : List Mat := s.map incM
theorem incL_len (s : List Spc) : (incL s).length = s.length := by simp [incL]
theorem incL_take {s : List Spc} {k : Nat} (h : k < s.length) : (incL s).take (k + 1) = (incL s).take k ++ [incM (s.getD k default)] := by
  have e : s.getD k default = s[k] := by simp [h]
  rw [incL, List.take_succ_eq_append_getElem (by simpa using h), e]
  simp
theorem dimS_get {s : List Spc} {v : Nat} (h : v < s.length) : (dimS s).getD v default = ((s.getD v default).b.length : Int) := by simp [dimS, h]
theorem isSpc_le {p : Int} {s : Spc} (h : isSpc p s = true) : s.b.length ≤ s.n.toNat := by
  obtain ⟨h1, h2, h3, h4⟩ := isSpc_spec h
  have hp := isF_pos h1
  simp only [isSpc, Bool.and_eq_true, decide_eq_true_eq] at h
  have := (spanB_le (show 0 < p by omega) h4.bd).2
  rw [show spanB p s.b.length s.n.toNat (vecF s.b) = s.b from h.2] at this
  exact this
/-- where the leading ones are -/
theorem lead_lt {p : Int} {s : Spc} (h : isSpc p s = true) {i : Nat} (hi : i < s.b.length) : 0 ≤ leadV (s.b.getD i default) ∧ (leadV (s.b.getD i default)).toNat < s.n.toNat := by
  obtain ⟨h1, h2, h3, h4⟩ := isSpc_spec h
  obtain ⟨piv, e, l⟩ := isSpc_ech h
  rw [e.lead_at l h4 hi]
  have := e.lt i (by omega)
  exact ⟨by omega, by rw [Int.toNat_natCast]; exact this⟩
theorem sum_le : ∀ {a b : List Int}, a.length = b.length → (∀ j, j < a.length → a.getD j default ≤ b.getD j default) → a.sum ≤ b.sum
  | [], [], _, _ => by simp
  | x :: a, y :: b, hl, h => by
    have h1 := h 0 (by simp)
    have h2 := sum_le (a := a) (b := b) (by simpa using hl) fun j hj => by simpa using h (j + 1) (by simpa using hj)
    simp only [List.getD_cons_zero] at h1
    simp only [List.sum_cons]
    omega
theorem sub_dims {r : Rep} {s : List Spc} (h : isSub r s = true) : (dimS s).length = r.d.length ∧ (∀ v, v < r.d.length → 0 ≤ (dimS s).getD v default ∧ (dimS s).getD v default ≤ r.d.getD v default) ∧ (dimS s).sum ≤ r.d.sum ∧ ∀ v, v < r.d.length → (dimS s).getD v default ≤ 4 := by
  obtain ⟨h1, h2, h3, h4⟩ := isSub_spec h
  obtain ⟨r1, r2, r3, r4⟩ := isRep_spec h1
  obtain ⟨c1, c2, c3, _⟩ := areDims_spec r2
  have hl := dimS_len s
  have key : ∀ v, v < r.d.length → 0 ≤ (dimS s).getD v default ∧ (dimS s).getD v default ≤ r.d.getD v default := fun v hv => by
    obtain ⟨a1, a2⟩ := h3 v (by omega)
    have hd : 0 ≤ r.d.getD v default ∧ r.d.getD v default ≤ 4 := allIn_spec c3 hv
    have := isSpc_le a1
    rw [dimS_get (by omega)]
    omega
  refine ⟨by omega, key, sum_le (by omega) fun j hj => (key j (by omega)).2, fun v hv => ?_⟩
  have hd : 0 ≤ r.d.getD v default ∧ r.d.getD v default ≤ 4 := allIn_spec c3 hv
  have := key v hv
  omega
end Go.Proofs.YtjnhjfgcfclamaaGreat.V
