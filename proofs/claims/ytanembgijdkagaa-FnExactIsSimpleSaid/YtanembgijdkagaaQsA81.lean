/- The layers of the radical, plain: program and reference end alike. No program is walked. -/
import Derived.Test.YtanembgijdkagaaQsA80
namespace Go.Proofs.Ytanembgijdkagaa.V
open Go.RowKit G D
set_option linter.unusedVariables false
set_option linter.unusedSimpArgs false
set_option maxHeartbeats 1000000
set_option maxRecDepth 4000
/-- the radical's representation -/
def radR (r : Rep) : Rep := subR r (radL r)
/-- the reference's loop, of which f rounds are left -/
def layR : Nat → Rep → List (List Int) → List (List Int) × Bool
  | 0, _, _ => ([], false)
  | f + 1, x, out => if x.d.sum = 0 then (out, true) else layR f (radR x) (out ++ [topD x])
theorem zsum : ∀ n : Nat, (List.replicate n (0 : Int)).sum = 0
  | 0 => rfl
  | n + 1 => by rw [List.replicate_succ, List.sum_cons, zsum n]; rfl
theorem rep_sum {r : Rep} (h : isRep r = true) : 0 ≤ r.d.sum ∧ r.d.sum ≤ 8 := by
  obtain ⟨h1, h2, h3, h4⟩ := isRep_spec h
  obtain ⟨c1, c2, c3, c4⟩ := areDims_spec h2
  have : (List.replicate r.d.length (0 : Int)).sum ≤ r.d.sum := sum_le (by simp) fun j hj => by
    have hj : j < r.d.length := by simpa using hj
    have hd : 0 ≤ r.d.getD j default ∧ r.d.getD j default ≤ 4 := allIn_spec c3 hj
    have e : (List.replicate r.d.length (0 : Int)).getD j default = 0 := by simp [hj]
    rw [e]; exact hd.1
  rw [zsum] at this
  exact ⟨this, c4⟩
/-- what the loop holds on to -/
structure LayI (r0 : Rep) (f : Nat) (x : Rep) (out : List (List Int)) : Prop where
  ok : isRep x = true
  lt : x.d.sum + 1 ≤ f
  eq : layR 9 r0 [] = layR f x out
  le : f ≤ 9
  ln : out.length + f = 9
theorem LayI.start {r : Rep} (h : isRep r = true) : LayI r 9 r [] := ⟨h, by have := rep_sum h; omega, rfl, by omega, rfl⟩
end Go.Proofs.Ytanembgijdkagaa.V
