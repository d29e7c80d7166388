/- Contracts of the reference's IsQuiver and l18Vector, of areNumbers, and of both Euler forms. -/
import Derived.Test.YthgdabghhcbmgaaFd
namespace Go.Proofs.Ythgdabghhcbmgaa.F
open Go.RowKit G D
set_option linter.unusedVariables false
set_option maxHeartbeats 4000000

theorem specIsQuiver_c (q : Quiv) (vs : List Value) (F : List Nat) (w : World) (hq : quivR.V w q vs F) :
    Run Try.prog 42 [.agg vs.toArray] w fun v w' => v = .bool (okQ q) ∧ Later w w' := by
  obtain ⟨v1, v2, F1, F2, rfl, rfl, hn, hq1, hq2⟩ := quivR.open hq
  obtain ⟨p1, c1, rfl, hpc, hcm, hp⟩ := listR.open1 hq1
  obtain ⟨p2, c2, rfl, hpc2, hcm2, hp2⟩ := listR.open1 hq2
  have hH := Hp.init w
  have hw1 : 1 ≤ q.n ∧ q.n ≤ 5 → IntKind.i64.wrap (q.n - 1) = q.n - 1 := fun h => wrap_in ⟨by omega, by omega⟩
  refine Run.go Try.func42 Try.ntmps42 rfl rfl ?_
  repeat' first | refine go1 ?_ | (refine go2 ?_ ?_ <;> intro hc) | (clear hH; intro b w1 hH) | (clear hH; intro w1 hH)
  refine Wp.loopS (σ := Nat) [2, 3, 4, 5, 6, 7, 8, 9, 10, 11, 12, 13, 14, 15, 16, 17, 18, 19, 20, 21, 22, 23, 24, 25, 26, 27, 28, 29, 30, 31, 32, 33, 34, 35, 36, 37, 38, 39] (fun k => [(3, .int .i64 (k : Int))])
    (fun k wr => k ≤ q.fr.length ∧ k ≤ q.to.length ∧ Hp w wr [(b, [Value.int IntKind.i64 q.n, Value.slice p1 q.fr.length c1, Value.slice p2 q.to.length c2], 29)] [] ∧ (1 ≤ q.n ∧ q.n ≤ 5 → allIn 0 (q.n - 1) (q.fr.take k) = true ∧ allIn 0 (q.n - 1) (q.to.take k) = true))
    (fun k => q.fr.length - k) 0 ⟨rfl, trivial⟩ ⟨Nat.zero_le _, Nat.zero_le _, hH, fun _ => ⟨rfl, rfl⟩⟩ ?_
  clear hH
  rintro k wr h ⟨hk1, hk2, hH, hall⟩
  have fin : ¬ (k < q.fr.length ∧ k < q.to.length) → okQ q = (decide (1 ≤ q.n) && decide (q.n ≤ 5) && decide (q.fr.length ≤ 6) && decide (q.to.length = q.fr.length)) := fun hend => by
    cases hr : (decide (1 ≤ q.n) && decide (q.n ≤ 5)) with
    | false => simp [okQ, hr]
    | true =>
      have hr' : 1 ≤ q.n ∧ q.n ≤ 5 := by simpa using hr
      by_cases he : q.fr.length = q.to.length
      · obtain ⟨a1, a2⟩ := hall hr'
        rw [List.take_of_length_le (by omega)] at a1 a2
        simp [okQ, hr', a1, a2, he]
      · have he2 : ¬ q.to.length = q.fr.length := fun e => he e.symm
        simp [okQ, he, he2]
  repeat' first | refine go1 ?_ | (refine go2 ?_ ?_ <;> intro hc) | (clear hH; intro b w1 hH) | (clear hH; intro w1 hH)
  · -- one more arrow
    obtain ⟨a1, o1, rfl, hca, hia, _⟩ := hp.intD (k := k) (by omega)
    obtain ⟨a2, o2, rfl, hcb, hib, _⟩ := hp2.intD (k := k) (by omega)
    have h1 := hH.low.cell hca
    have h2 := hH.low.cell hcb
    have hHb := hH.blk 0 rfl
    have badF : (decide (0 ≤ q.fr.getD k 0) && decide (q.fr.getD k 0 ≤ IntKind.i64.wrap (q.n - 1))) = false → okQ q = false := fun hf => by
      cases hr : (decide (1 ≤ q.n) && decide (q.n ≤ 5)) with
      | false => simp [okQ, hr]
      | true =>
        have hr' : 1 ≤ q.n ∧ q.n ≤ 5 := by simpa using hr
        rw [hw1 hr'] at hf
        have := allIn_false (by omega) hf
        simp [okQ, this]
    have badT : (decide (0 ≤ q.to.getD k 0) && decide (q.to.getD k 0 ≤ IntKind.i64.wrap (q.n - 1))) = false → okQ q = false := fun hf => by
      cases hr : (decide (1 ≤ q.n) && decide (q.n ≤ 5)) with
      | false => simp [okQ, hr]
      | true =>
        have hr' : 1 ≤ q.n ∧ q.n ≤ 5 := by simpa using hr
        rw [hw1 hr'] at hf
        have := allIn_false (by omega) hf
        simp [okQ, this]
    refine Wp.draw 22 mixed (by kernel_rfl) ?_
    refine td 0 ?_
    refine td 1 ?_
    refine td 2 ?_
    refine td 3 ?_
    refine td 4 ?_
    refine td 5 ?_
    refine td 6 ?_
    first | refine td 7 ?_ | refine tk 7 rfl (by kernel_rfl) (Sil.subW rfl rfl) rfl rfl ?_
    refine RgA.only 8 rfl (by kernel_rfl) ?_
    refine Rg.call (l1In_c _ _ _ _) rfl rfl rfl ?_
    rintro v w1 ⟨rfl, rfl⟩
    refine Rg.nil (Th.normal ⟨.inr (Later.refl _), ?_⟩)
    cases hA : (decide (0 ≤ q.fr.getD k 0) && decide (q.fr.getD k 0 ≤ IntKind.i64.wrap (q.n - 1))) with
    | false =>
      refine td 9 ?_
      refine td 10 ?_
      first | refine sd 11 ?_ | refine td 11 ?_
      first | refine sd 12 ?_ | refine td 12 ?_
      first | refine sd 13 ?_ | refine td 13 ?_
      first | refine sd 14 ?_ | refine td 14 ?_
      first | refine sd 15 ?_ | refine td 15 ?_
      first | refine sd 16 ?_ | refine td 16 ?_
      first | refine sd 17 ?_ | refine td 17 ?_
      first | refine sd 18 ?_ | refine td 18 ?_ | refine tk 18 rfl (by kernel_rfl) (Sil.subW rfl rfl) rfl rfl ?_
      first | refine sd 19 ?_ | refine td 19 ?_
      first | refine sd 20 ?_ | refine td 20 ?_
      refine td 21 ?_
      refine RgA.nil (by kernel_rfl) ?_
      repeat' first | refine go1 ?_ | (refine go2 ?_ ?_ <;> intro hc) | (clear hH; intro b w1 hH) | (clear hH; intro w1 hH)
      exact Fin.oneB rfl rfl ⟨by rw [badF hA], hH.low.drew⟩
    | true =>
      refine td 9 ?_
      refine td 10 ?_
      first | refine sd 11 ?_ | refine td 11 ?_
      first | refine sd 12 ?_ | refine td 12 ?_
      first | refine sd 13 ?_ | refine td 13 ?_
      first | refine sd 14 ?_ | refine td 14 ?_
      first | refine sd 15 ?_ | refine td 15 ?_
      first | refine sd 16 ?_ | refine td 16 ?_
      first | refine sd 17 ?_ | refine td 17 ?_
      first | refine sd 18 ?_ | refine td 18 ?_ | refine tk 18 rfl (by kernel_rfl) (Sil.subW rfl rfl) rfl rfl ?_
      refine RgA.only 19 rfl (by kernel_rfl) ?_
      refine Rg.call (l1In_c _ _ _ _) rfl rfl rfl ?_
      rintro v w1 ⟨rfl, rfl⟩
      refine Rg.nil (Th.normal ⟨.inr (Later.refl _), ?_⟩)
      cases hB : (decide (0 ≤ q.to.getD k 0) && decide (q.to.getD k 0 ≤ IntKind.i64.wrap (q.n - 1))) with
      | false =>
        first | refine sd 20 ?_ | refine td 20 ?_
        refine td 21 ?_
        refine RgA.nil (by kernel_rfl) ?_
        repeat' first | refine go1 ?_ | (refine go2 ?_ ?_ <;> intro hc) | (clear hH; intro b w1 hH) | (clear hH; intro w1 hH)
        exact Fin.oneB rfl rfl ⟨by rw [badT hB], hH.low.drew⟩
      | true =>
        first | refine sd 20 ?_ | refine td 20 ?_
        refine td 21 ?_
        refine RgA.nil (by kernel_rfl) ?_
        repeat' first | refine go1 ?_ | (refine go2 ?_ ?_ <;> intro hc) | (clear hH; intro b w1 hH) | (clear hH; intro w1 hH)
        refine ⟨k + 1, ⟨rfl, trivial⟩, agr, ⟨by omega, by omega, hH.drew, fun hr => ?_⟩, by omega⟩
        obtain ⟨x1, x2⟩ := hall hr
        rw [hw1 hr] at hA hB
        rw [allIn_take (by omega), allIn_take (by omega), x1, x2, hA, hB]
        exact ⟨rfl, rfl⟩
  all_goals
    refine Rg.call (l1In_c _ _ _ _) rfl rfl rfl ?_
    rintro v w1 ⟨rfl, rfl⟩
    cases hr : (decide (1 ≤ q.n) && decide (q.n ≤ 5)) with
    | false =>
      repeat' first | refine go1 ?_ | (refine go2 ?_ ?_ <;> intro hc) | (clear hH; intro b w1 hH) | (clear hH; intro w1 hH)
      exact Fin.oneB rfl rfl ⟨boolEq (by rw [fin (by omega), hr]; rfl), hH.low⟩
    | true =>
      repeat' first | refine go1 ?_ | (refine go2 ?_ ?_ <;> intro hc) | (clear hH; intro b w1 hH) | (clear hH; intro w1 hH)
      all_goals
        refine Fin.oneB rfl rfl ⟨boolEq ?_, hH.low⟩
        rw [fin (by omega), hr, Bool.eq_iff_iff]
        simp
        omega
end Go.Proofs.Ythgdabghhcbmgaa.F
