/- Contracts: the coboundary of a family of matrices. -/
import Derived.Test.YtlmenmacepeeaaaA29
import Derived.Test.YtlmenmacepeeaaaA30
import Derived.Test.YtlmenmacepeeaaaUm
namespace Go.Proofs.Ytlmenmacepeeaaa.V
open Go.RowKit G D
set_option linter.unusedVariables false
set_option linter.unusedSimpArgs false
set_option maxHeartbeats 4000000
set_option maxRecDepth 4000
attribute [local irreducible] AW ARg ARA ARet MRet ASil AC AM

def cobP (a b : Rep) (f : List Mat) : List Mat × Bool := if areM a b f = true then (cobL a b f, true) else ([], false)
theorem cobP_ct (a b : Rep) (f : List Mat) : cnt ctM (cobP a b f).1 ≤ 1000 := by
  unfold cobP
  by_cases h : areM a b f = true
  · rw [if_pos h]
    have hf := (areM_spec h).1
    have hh := Fits.of hf
    have h5 := okQ_spec hh.ok
    have hN := szA_le hh a.q.fr.length (Nat.le_refl _)
    rw [← cob_cut h]
    generalize hX : tab (szA a b a.q.fr.length) 1 (mulF a.p (ent (eqM a b)) (ent (colM a b f)) (szT a b a.d.length)) = X
    have hXl : X.length = szA a b a.q.fr.length := by rw [← hX, tab_len, Nat.mul_one]
    have := cnt_bd (c := ctM) (B := 98) (xs := cutL a b X) fun x hx => by
      simp only [cutL, List.mem_map] at hx
      obtain ⟨i, _, rfl⟩ := hx
      simp only [ctM, cutM, List.length_drop, List.length_take]
      omega
    rw [cutL_len] at this
    show cnt ctM (cutL a b X) ≤ 1000
    omega
  · rw [if_neg h]; simp [cnt]
end Go.Proofs.Ytlmenmacepeeaaa.V
