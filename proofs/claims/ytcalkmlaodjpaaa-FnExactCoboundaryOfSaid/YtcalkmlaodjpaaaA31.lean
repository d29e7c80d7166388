/- Contracts: the coboundary of a family of matrices. -/
import Derived.Test.YtcalkmlaodjpaaaA29
import Derived.Test.YtcalkmlaodjpaaaA30
import Derived.Test.YtcalkmlaodjpaaaUm
namespace Go.Proofs.Ytcalkmlaodjpaaa.V
open V.Enc (enc)
open Go.RowKit G D
set_option linter.unusedVariables false
set_option linter.unusedSimpArgs false
set_option maxHeartbeats 4000000
set_option maxRecDepth 4000
attribute [local irreducible] AW ARg ARA ARet MRet ASil AC AM

def cobP (a b : Rep) (f : List Mat) : List Mat × Bool := if areM a b f = true then (cobL a b f, true) else ([], false)
theorem implCoboundaryOf_a (a b : Rep) (f : List Mat) : AC Try.prog 58 [.agg (enc false a), .agg (enc false b), ar false f] [.dt true 3 (E true (cobP a b f).1), .b (cobP a b f).2] := by
  refine AC.go Try.func58 Try.ntmps58 rfl rfl fun w0 hw => ?_; simp [WfL, WfA, E_length, Enc.enc, In64] at hw
  have hA := implAreMatrices_a a b f
  unfold cobP
  cases h : areM a b f with
  | false =>
    rw [h] at hA
    rw [if_neg (by simp)]
    repeat' first | refine s1 ?_ | (refine kR ?_; first | refine F.c (hA) ?_) | fail
    (refine kZ ?_; exact F.ret rfl)
  | true =>
    rw [h] at hA
    have hC := coboundary_a a b f h
    rw [if_pos rfl]
    generalize cobL a b f = L at hC ⊢
    repeat' first | refine s1 ?_ | (refine kR ?_; first | refine F.c (hA) ?_ | refine F.c (hC) ?_) | fail
    (refine kZ ?_; exact F.ret rfl)
theorem specCoboundaryOf_a (a b : Rep) (f : List Mat) : AC Try.prog 57 [.agg (enc false a), .agg (enc false b), ar false f] [.dt true 3 (E true (cobP a b f).1), .b (cobP a b f).2] := by
  refine AC.go Try.func57 Try.ntmps57 rfl rfl fun w0 hw => ?_; simp [WfL, WfA, E_length, Enc.enc, In64] at hw
  have hA := specAreMatrices_a a b f
  unfold cobP
  cases h : areM a b f with
  | false =>
    rw [h] at hA
    rw [if_neg (by simp)]
    repeat' first | refine s1 ?_ | (refine kR ?_; first | refine F.c (hA) ?_) | fail
    (refine kZ ?_; exact F.ret rfl)
  | true =>
    rw [h] at hA
    have hf := (areM_spec h).1
    have hh := Fits.of hf
    have h5 := okQ_spec hh.ok
    have hda := hh.da
    have hp := isF_pos hh.f
    have hn := szT_le hh a.d.length (Nat.le_refl _)
    have hN := szA_le hh a.q.fr.length (Nat.le_refl _)
    have hl := catM_len h f.length (Nat.le_refl _)
    rw [List.take_length, (areM_spec h).2.1] at hl
    have hE := l11Equations_a a b hf
    have hS := l11Size_a a b hh
    have hF := l11Flat_a f (by omega)
    have hM := l3Multiply_a a.p (szA a b a.q.fr.length) (szT a b a.d.length) 1 (ent (eqM a b)) (ent (colM a b f)) hh.f (by omega) (by omega) (by omega) (eqM_bd (by omega)) (colM_bd h)
    rw [eqM_tm (by omega), colM_tm h] at hM
    unfold colM at hM
    rw [show (⟨szA a b a.q.fr.length, szT a b a.d.length, eqA a b a.q.fr.length⟩ : Mat) = eqM a b from rfl] at hE
    have hc := cob_cut h
    unfold colM at hc
    have hXl : (tab (szA a b a.q.fr.length) 1 (mulF a.p (ent (eqM a b)) (ent ⟨szT a b a.d.length, 1, catM f⟩) (szT a b a.d.length))).length = szA a b a.q.fr.length := by rw [tab_len, Nat.mul_one]
    rw [tm] at hM
    generalize tab (szA a b a.q.fr.length) 1 (mulF a.p (ent (eqM a b)) (ent ⟨szT a b a.d.length, 1, catM f⟩) (szT a b a.d.length)) = X at hM hc hXl
    have hK := l19Cut_a a b X hh (by omega) (by omega)
    rw [hc] at hK
    generalize cobL a b f = L at hK ⊢
    generalize eqM a b = M at hE hM
    generalize catM f = C at hF hM hl
    rw [if_pos rfl]
    repeat' first | refine s1 ?_ | (refine kR ?_; first | refine F.c (hA) ?_) | fail
    refine AW.draw 13 G.mixed (by kernel_rfl) ?_
    refine dP 0 ?_
    refine dL 1 ?_
    refine dL 2 ?_
    refine dL 3 ?_
    refine dL 5 ?_
    refine dL 6 ?_
    refine dP 8 ?_
    refine ARA.any [4, 12] (by kernel_rfl) (by simp) ?_
    intro k hk
    simp only [List.mem_cons, List.not_mem_nil, or_false] at hk
    rcases hk with rfl | rfl
    · refine ⟨_, true, rfl, rfl, ?_⟩
      first | refine s1 ?_ | refine F.c (hE) ?_ | refine F.c (hS) ?_ | refine F.c (hF) ?_ | refine F.c (hM) ?_
      refine ARg.nil (ATh.normal ?_)
      refine ARA.any [7, 12] (by kernel_rfl) (by simp) ?_
      intro k hk
      simp only [List.mem_cons, List.not_mem_nil, or_false] at hk
      rcases hk with rfl | rfl
      · refine ⟨_, true, rfl, rfl, ?_⟩
        first | refine s1 ?_ | refine F.c (hE) ?_ | refine F.c (hS) ?_ | refine F.c (hF) ?_ | refine F.c (hM) ?_
        refine ARg.nil (ATh.normal ?_)
        refine ARA.any [9, 12] (by kernel_rfl) (by simp) ?_
        intro k hk
        simp only [List.mem_cons, List.not_mem_nil, or_false] at hk
        rcases hk with rfl | rfl
        · refine ⟨_, true, rfl, rfl, ?_⟩
          first | refine s1 ?_ | refine F.c (hE) ?_ | refine F.c (hS) ?_ | refine F.c (hF) ?_ | refine F.c (hM) ?_
          refine ARg.nil (ATh.normal ?_)
          refine dP 10 ?_
          refine ARA.any [11, 12] (by kernel_rfl) (by simp) ?_
          intro k hk
          simp only [List.mem_cons, List.not_mem_nil, or_false] at hk
          rcases hk with rfl | rfl
          · refine ⟨_, true, rfl, rfl, ?_⟩
            first | refine s1 ?_ | refine F.c (hE) ?_ | refine F.c (hS) ?_ | refine F.c (hF) ?_ | refine F.c (hM) ?_
            refine ARg.nil (ATh.normal ?_)
            refine dO 12 true ?_
            refine s1 ?_
            refine ARg.nil (ATh.normal ?_)
            refine dO 13 false ?_
            refine s1 ?_
            refine ARg.nil (ATh.normal ?_)
            refine dN ?_
            repeat' first | refine s1 ?_ | (refine kR ?_; first | refine F.c (hK) ?_) | fail
            (refine kZ ?_; exact F.ret rfl)
          · refine ⟨_, true, rfl, rfl, ?_⟩
            refine s1 ?_
            refine ARg.nil (ATh.normal ?_)
            refine dO 11 true ?_
            first | refine s1 ?_ | refine F.c (hE) ?_ | refine F.c (hS) ?_ | refine F.c (hF) ?_ | refine F.c (hM) ?_
            refine ARg.nil (ATh.normal ?_)
            refine dO 13 false ?_
            refine s1 ?_
            refine ARg.nil (ATh.normal ?_)
            refine dN ?_
            repeat' first | refine s1 ?_ | (refine kR ?_; first | refine F.c (hK) ?_) | fail
            (refine kZ ?_; exact F.ret rfl)
        · refine ⟨_, true, rfl, rfl, ?_⟩
          refine s1 ?_
          refine ARg.nil (ATh.normal ?_)
          refine dO 9 true ?_
          first | refine s1 ?_ | refine F.c (hE) ?_ | refine F.c (hS) ?_ | refine F.c (hF) ?_ | refine F.c (hM) ?_
          refine ARg.nil (ATh.normal ?_)
          refine dP 10 ?_
          refine dO 11 true ?_
          first | refine s1 ?_ | refine F.c (hE) ?_ | refine F.c (hS) ?_ | refine F.c (hF) ?_ | refine F.c (hM) ?_
          refine ARg.nil (ATh.normal ?_)
          refine dO 13 false ?_
          refine s1 ?_
          refine ARg.nil (ATh.normal ?_)
          refine dN ?_
          repeat' first | refine s1 ?_ | (refine kR ?_; first | refine F.c (hK) ?_) | fail
          (refine kZ ?_; exact F.ret rfl)
      · refine ⟨_, true, rfl, rfl, ?_⟩
        refine s1 ?_
        refine ARg.nil (ATh.normal ?_)
        refine dO 7 true ?_
        first | refine s1 ?_ | refine F.c (hE) ?_ | refine F.c (hS) ?_ | refine F.c (hF) ?_ | refine F.c (hM) ?_
        refine ARg.nil (ATh.normal ?_)
        refine dO 9 true ?_
        first | refine s1 ?_ | refine F.c (hE) ?_ | refine F.c (hS) ?_ | refine F.c (hF) ?_ | refine F.c (hM) ?_
        refine ARg.nil (ATh.normal ?_)
        refine dP 10 ?_
        refine dO 11 true ?_
        first | refine s1 ?_ | refine F.c (hE) ?_ | refine F.c (hS) ?_ | refine F.c (hF) ?_ | refine F.c (hM) ?_
        refine ARg.nil (ATh.normal ?_)
        refine dO 13 false ?_
        refine s1 ?_
        refine ARg.nil (ATh.normal ?_)
        refine dN ?_
        repeat' first | refine s1 ?_ | (refine kR ?_; first | refine F.c (hK) ?_) | fail
        (refine kZ ?_; exact F.ret rfl)
    · refine ⟨_, true, rfl, rfl, ?_⟩
      refine s1 ?_
      refine ARg.nil (ATh.normal ?_)
      refine dO 4 true ?_
      first | refine s1 ?_ | refine F.c (hE) ?_ | refine F.c (hS) ?_ | refine F.c (hF) ?_ | refine F.c (hM) ?_
      refine ARg.nil (ATh.normal ?_)
      refine dO 7 true ?_
      first | refine s1 ?_ | refine F.c (hE) ?_ | refine F.c (hS) ?_ | refine F.c (hF) ?_ | refine F.c (hM) ?_
      refine ARg.nil (ATh.normal ?_)
      refine dO 9 true ?_
      first | refine s1 ?_ | refine F.c (hE) ?_ | refine F.c (hS) ?_ | refine F.c (hF) ?_ | refine F.c (hM) ?_
      refine ARg.nil (ATh.normal ?_)
      refine dP 10 ?_
      refine dO 11 true ?_
      first | refine s1 ?_ | refine F.c (hE) ?_ | refine F.c (hS) ?_ | refine F.c (hF) ?_ | refine F.c (hM) ?_
      refine ARg.nil (ATh.normal ?_)
      refine dO 13 false ?_
      refine s1 ?_
      refine ARg.nil (ATh.normal ?_)
      refine dN ?_
      repeat' first | refine s1 ?_ | (refine kR ?_; first | refine F.c (hK) ?_) | fail
      (refine kZ ?_; exact F.ret rfl)
theorem cobP_ct (a b : Rep) (f : List Mat) : cnt ctM (cobP a b f).1 ≤ 1000 := by
  unfold cobP
  by_cases h : areM a b f = true
  · rw [if_pos h]
    have hf := (areM_spec h).1
    have hh := Fits.of hf
    have h5 := okQ_spec hh.ok
    have hN := szA_le hh a.q.fr.length (Nat.le_refl _)
    rw [← cob_cut h]
    generalize hX : tab (szA a b a.q.fr.length) 1 (mulF a.p (ent (eqM a b)) (ent (colM a b f)) (szT a b a.d.length)) = X
    have hXl : X.length = szA a b a.q.fr.length := by rw [← hX, tab_len, Nat.mul_one]
    have := cnt_bd (c := ctM) (B := 98) (xs := cutL a b X) fun x hx => by
      simp only [cutL, List.mem_map] at hx
      obtain ⟨i, _, rfl⟩ := hx
      simp only [ctM, cutM, List.length_drop, List.length_take]
      omega
    rw [cutL_len] at this
    show cnt ctM (cutL a b X) ≤ 1000
    omega
  · rw [if_neg h]; simp [cnt]
end Go.Proofs.Ytcalkmlaodjpaaa.V
