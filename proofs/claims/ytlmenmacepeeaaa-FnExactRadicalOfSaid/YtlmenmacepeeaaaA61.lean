/- How much the radical's memory holds. No program is walked. -/
import Derived.Test.YtlmenmacepeeaaaA59
import Derived.Test.YtlmenmacepeeaaaA60
namespace Go.Proofs.Ytlmenmacepeeaaa.V
open Go.RowKit G D
set_option linter.unusedVariables false
set_option linter.unusedSimpArgs false
set_option maxHeartbeats 400000
theorem spc_ct {p : Int} {s : Spc} (h : isSpc p s = true) : ctS s ≤ 129 ∧ lnS s ≤ 16 := by
  obtain ⟨h1, h2, h3, h4⟩ := isSpc_spec h
  have := cnt_bd (c := ctL) (B := 8) (xs := s.b) fun x hx => by
    have := (h4 x hx).1
    show x.length ≤ 8
    omega
  unfold ctS lnS
  omega
theorem radP_ct (r : Rep) : cnt ctS (radP r).1 + cnt lnS (radP r).1 ≤ 1000 := by
  unfold radP
  by_cases h : isRep r = true
  · rw [if_pos h]
    obtain ⟨r1, r2, r3, r4⟩ := isRep_spec h
    obtain ⟨c1, c2, c3, _⟩ := areDims_spec r2
    have h5 := okQ_spec c1
    have hl := radK_len r r.q.fr.length
    have key : ∀ x ∈ radL r, ctS x ≤ 129 ∧ lnS x ≤ 16 := fun x hx => by
      obtain ⟨v, hv, rfl⟩ := List.getElem_of_mem hx
      have hv' : v < r.d.length := by rw [← hl]; exact hv
      have := (radK_ok h r.q.fr.length (Nat.le_refl _) v hv').2
      have e : (radK r r.q.fr.length).getD v default = (radL r)[v] := by
        show (radL r).getD v default = _
        simp [hv]
      rw [e] at this
      exact spc_ct this
    have k1 := cnt_bd (c := ctS) (B := 129) (xs := radL r) fun x hx => (key x hx).1
    have k2 := cnt_bd (c := lnS) (B := 16) (xs := radL r) fun x hx => (key x hx).2
    have hl2 : (radL r).length = r.d.length := hl
    show cnt ctS (radL r) + cnt lnS (radL r) ≤ 1000
    omega
  · rw [if_neg h]; simp [cnt]
end Go.Proofs.Ytlmenmacepeeaaa.V
