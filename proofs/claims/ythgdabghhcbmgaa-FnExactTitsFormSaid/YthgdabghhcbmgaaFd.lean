/- Contracts of IsQuiver of the program and of the reference. -/
import Derived.Test.YthgdabghhcbmgaaFc
namespace Go.Proofs.Ythgdabghhcbmgaa.F
open Go.RowKit G D
set_option linter.unusedVariables false
set_option maxHeartbeats 4000000

theorem implIsQuiver_c (q : Quiv) (vs : List Value) (F : List Nat) (w : World) (hq : quivR.V w q vs F) :
    Run Try.prog 43 [.agg vs.toArray] w fun v w' => v = .bool (okQ q) ∧ Later w w' := by
  obtain ⟨v1, v2, F1, F2, rfl, rfl, hn, hq1, hq2⟩ := quivR.open hq
  obtain ⟨p1, c1, rfl, hpc, hcm, hp⟩ := listR.open1 hq1
  obtain ⟨p2, c2, rfl, hpc2, hcm2, hp2⟩ := listR.open1 hq2
  have hH := Hp.init w
  refine Run.go Try.func43 Try.ntmps43 rfl rfl ?_
  by_cases h1 : 1 ≤ q.n ∧ q.n ≤ 5
  · have e1 : (decide (1 ≤ q.n) && decide (q.n ≤ 5)) = true := by simp [h1]
    repeat' first | refine go1 ?_ | (refine jR ?_; first | (refine Rg.call (within_c _ _ _ _) rfl rfl rfl ?_; rintro v w1 ⟨rfl, rfl⟩; rw [e1])) | (refine go2 ?_ ?_ <;> intro hc) | (clear hH; intro b w1 hH) | (clear hH; intro w1 hH)
    · refine Rg.call (allWithin_c q.fr 0 (q.n - 1) _ _ _ (intsR.later hq1 hH.low)) rfl rfl rfl ?_
      rintro v w2 ⟨rfl, hl2⟩
      replace hH := hH.later hl2
      cases ha : allIn 0 (q.n - 1) q.fr with
      | false =>
        repeat' first | refine go1 ?_ | (refine go2 ?_ ?_ <;> intro hc) | (clear hH; intro b w1 hH) | (clear hH; intro w1 hH)
        exact Fin.oneB rfl rfl ⟨by simp [okQ, ha], hH.low⟩
      | true =>
        repeat' first | refine go1 ?_ | (refine go2 ?_ ?_ <;> intro hc) | (clear hH; intro b w1 hH) | (clear hH; intro w1 hH)
        refine Rg.call (allWithin_c q.to 0 (q.n - 1) _ _ _ (intsR.later hq2 hH.low)) rfl rfl rfl ?_
        rintro v w3 ⟨rfl, hl3⟩
        replace hH := hH.later hl3
        repeat' first | refine go1 ?_ | (refine go2 ?_ ?_ <;> intro hc) | (clear hH; intro b w1 hH) | (clear hH; intro w1 hH)
        refine Fin.oneB rfl rfl ⟨?_, hH.low⟩
        have e2 : q.fr.length = q.to.length := by omega
        have e3 : q.fr.length ≤ 6 := by omega
        simp [okQ, ha, h1, e3, ← e2]
    · refine Fin.oneB rfl rfl ⟨?_, hH.low⟩
      have e3 : ¬ q.fr.length ≤ 6 := by omega
      simp [okQ, e3]
    · refine Fin.oneB rfl rfl ⟨?_, hH.low⟩
      have e2 : ¬ q.fr.length = q.to.length := by omega
      simp [okQ, e2]
  · have e1 : (decide (1 ≤ q.n) && decide (q.n ≤ 5)) = false := by
      rw [Bool.and_eq_false_iff, decide_eq_false_iff_not, decide_eq_false_iff_not]; omega
    repeat' first | refine go1 ?_ | (refine jR ?_; first | (refine Rg.call (within_c _ _ _ _) rfl rfl rfl ?_; rintro v w1 ⟨rfl, rfl⟩; rw [e1])) | (refine go2 ?_ ?_ <;> intro hc) | (clear hH; intro b w1 hH) | (clear hH; intro w1 hH)
    refine Fin.oneB rfl rfl ⟨?_, hH.low⟩
    simp [okQ, e1]
end Go.Proofs.Ythgdabghhcbmgaa.F
