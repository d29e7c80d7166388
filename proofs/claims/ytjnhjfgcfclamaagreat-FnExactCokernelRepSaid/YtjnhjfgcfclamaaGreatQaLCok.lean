/- The law FnExactCokernelRep holds for every input: program and reference return the same, the arguments stay as they were, and what is returned is in memory of its own. No condition. -/
import Derived.Test.YtjnhjfgcfclamaaGreatQaUm
import Derived.Test.YtjnhjfgcfclamaaGreatQaUg
import Derived.Test.YtjnhjfgcfclamaaGreatQaA90
import Derived.Test.YtjnhjfgcfclamaaGreatQaA76
import Derived.Test.YtjnhjfgcfclamaaGreatQaDown
import Derived.OpenShut
namespace Go.Proofs.YtjnhjfgcfclamaaGreat
open Go.ChangeShapes Go.WideShapes Go.ChangeAt Go.RowKit G D V
set_option linter.unusedVariables false
set_option linter.unusedSimpArgs false
set_option maxHeartbeats 8000000
set_option maxRecDepth 4000
attribute [local irreducible] V.AW V.ARg V.ARA V.ARet V.MRet V.ASil V.AC V.AM
theorem fnExactCokernelRep.ac (a : Rep) (b : Rep) (f : List Mat) : AC Tryz.prog 6 [.agg (enc false a), .agg (enc false b), ar false f] [.b true] := by
  refine AC.go Tryz.func6 Tryz.ntmps6 rfl rfl fun w0 hw => ?_; simp [WfL, WfA, E_length, Enc.enc, In64] at hw
  have hZ0 := szRep_a a 1048576 (by decide) (by decide)
  have hb0 := sz1_le' (n := totR a) (l := 1048576)
  generalize sz1 (totR a) 1048576 = z0 at hZ0 hb0
  by_cases hs0 : 0 ≤ z0
  · have hb0 := hb0 hs0
    have hZ1 := szRep_a b z0 hs0 (by omega)
    have hb1 := sz1_le' (n := totR b) (l := z0)
    generalize sz1 (totR b) z0 = z1 at hZ1 hb1
    by_cases hs1 : 0 ≤ z1
    · have hb1 := hb1 hs1
      have hZ2 := szMatrixS_a f z1 hs1 (by omega)
      have hb2 := sz1_le' (n := totMS f) (l := z1)
      generalize sz1 (totMS f) z1 = z2 at hZ2 hb2
      by_cases hs2 : 0 ≤ z2
      · have hb2 := hb2 hs2
        have hT0 := toRep_a a (by omega)
        have hT1 := toRep_a b (by omega)
        have hT2 := toMatrixS_a f (by omega)
        have hQ0 := eqRep_s a
        have hQ1 := eqRep_s b
        have hQ2 := eqMatrixS_s f
        have hS := specCokernelRep_a a b f
        have hI := implCokernelRep_a a b f
        have hc := cokP_ct a b f
        generalize cokP a b f = R at hS hI hc
        obtain ⟨r0, r1, r2⟩ := R
        dsimp only at hS hI hc
        have hE0 := eqRep_s r0
        have hE1 := eqMatrixS_s r1
        have hN2 : (r2 != r2) = false := by simp
        have hct_a := ctR_le a
        have hct_b := ctR_le b
        have hct_f := ctMS_le f
        obtain ⟨_, _, _, _, _, _, _, _, hMa0, _⟩ := markR_o a (1) (by omega) (by omega)
        obtain ⟨_, _, _, _, _, _, _, _, hMa1, _⟩ := markR_o b (1 + (ctR a : Nat)) (by omega) (by omega)
        obtain ⟨_, _, hMa2, _⟩ := markMS_o f (1 + (ctR a : Nat) + (ctR b : Nat)) (by omega) (by omega)
        obtain ⟨_, _, _, _, _, _, _, _, hM0, hH0⟩ := markR_k r0 (1) (by omega) (by omega)
        obtain ⟨_, _, hM1, hH1⟩ := markMS_k r1 (1 + (ctR r0 : Nat)) (by omega) (by omega)
        repeat' first | refine s1 ?_ | (refine kR ?_; first | refine F.c (hZ0) ?_ | refine F.sil (A.neqBB rfl rfl) rfl rfl ?_) | fail
        repeat' first | refine s1 ?_ | (refine kR ?_; first | refine F.c (hZ1) ?_ | refine F.sil (A.neqBB rfl rfl) rfl rfl ?_) | fail
        repeat' first | refine s1 ?_ | (refine kR ?_; first | refine F.c (hZ2) ?_ | refine F.sil (A.neqBB rfl rfl) rfl rfl ?_) | fail
        apply V.tailed
        · intro tail
          refine AW.draw 12 G.mixed (by kernel_rfl) ?_
          refine dL 0 ?_
          refine dL 2 ?_
          refine dP 4 ?_
          refine ARA.any [1, 11] (by kernel_rfl) (by simp) ?_
          intro k hk
          simp only [List.mem_cons, List.not_mem_nil, or_false] at hk
          rcases hk with rfl | rfl
          refine ⟨_, true, rfl, rfl, ?_⟩
          first | refine s1 ?_ | refine F.c (hT0) ?_ | refine F.c (hT1) ?_ | refine F.c (hT2) ?_ | refine F.c (hS) ?_
          refine ARg.nil (ATh.normal ?_)
          refine ARA.any [3, 11] (by kernel_rfl) (by simp) ?_
          intro k hk
          simp only [List.mem_cons, List.not_mem_nil, or_false] at hk
          rcases hk with rfl | rfl
          refine ⟨_, true, rfl, rfl, ?_⟩
          first | refine s1 ?_ | refine F.c (hT0) ?_ | refine F.c (hT1) ?_ | refine F.c (hT2) ?_ | refine F.c (hS) ?_
          refine ARg.nil (ATh.normal ?_)
          refine ARA.any [5, 11] (by kernel_rfl) (by simp) ?_
          intro k hk
          simp only [List.mem_cons, List.not_mem_nil, or_false] at hk
          rcases hk with rfl | rfl
          refine ⟨_, true, rfl, rfl, ?_⟩
          first | refine s1 ?_ | refine F.c (hT0) ?_ | refine F.c (hT1) ?_ | refine F.c (hT2) ?_ | refine F.c (hS) ?_
          refine ARg.nil (ATh.normal ?_)
          refine ARA.any [6, 11] (by kernel_rfl) (by simp) ?_
          intro k hk
          simp only [List.mem_cons, List.not_mem_nil, or_false] at hk
          rcases hk with rfl | rfl
          refine ⟨_, true, rfl, rfl, ?_⟩
          first | refine s1 ?_ | refine F.c (hT0) ?_ | refine F.c (hT1) ?_ | refine F.c (hT2) ?_ | refine F.c (hS) ?_
          refine ARg.nil (ATh.normal ?_)
          refine dP 7 ?_
          refine dP 8 ?_
          refine dP 9 ?_
          refine dP 10 ?_
          refine dO 11 true ?_
          refine s1 ?_
          refine ARg.nil (ATh.normal ?_)
          refine dO 12 false ?_
          refine s1 ?_
          refine ARg.nil (ATh.normal ?_)
          refine dP 13 ?_
          refine dP 14 ?_
          refine dN ?_
          rotate_left
          refine ⟨_, true, rfl, rfl, ?_⟩
          refine s1 ?_
          refine ARg.nil (ATh.normal ?_)
          refine dO 6 true ?_
          first | refine s1 ?_ | refine F.c (hT0) ?_ | refine F.c (hT1) ?_ | refine F.c (hT2) ?_ | refine F.c (hS) ?_
          refine ARg.nil (ATh.normal ?_)
          refine dP 7 ?_
          refine dP 8 ?_
          refine dP 9 ?_
          refine dP 10 ?_
          refine dO 12 false ?_
          refine s1 ?_
          refine ARg.nil (ATh.normal ?_)
          refine dP 13 ?_
          refine dP 14 ?_
          refine dN ?_
          rotate_left
          refine ⟨_, true, rfl, rfl, ?_⟩
          refine s1 ?_
          refine ARg.nil (ATh.normal ?_)
          refine dO 5 true ?_
          first | refine s1 ?_ | refine F.c (hT0) ?_ | refine F.c (hT1) ?_ | refine F.c (hT2) ?_ | refine F.c (hS) ?_
          refine ARg.nil (ATh.normal ?_)
          refine dO 6 true ?_
          first | refine s1 ?_ | refine F.c (hT0) ?_ | refine F.c (hT1) ?_ | refine F.c (hT2) ?_ | refine F.c (hS) ?_
          refine ARg.nil (ATh.normal ?_)
          refine dP 7 ?_
          refine dP 8 ?_
          refine dP 9 ?_
          refine dP 10 ?_
          refine dO 12 false ?_
          refine s1 ?_
          refine ARg.nil (ATh.normal ?_)
          refine dP 13 ?_
          refine dP 14 ?_
          refine dN ?_
          rotate_left
          refine ⟨_, true, rfl, rfl, ?_⟩
          refine s1 ?_
          refine ARg.nil (ATh.normal ?_)
          refine dO 3 true ?_
          first | refine s1 ?_ | refine F.c (hT0) ?_ | refine F.c (hT1) ?_ | refine F.c (hT2) ?_ | refine F.c (hS) ?_
          refine ARg.nil (ATh.normal ?_)
          refine dO 5 true ?_
          first | refine s1 ?_ | refine F.c (hT0) ?_ | refine F.c (hT1) ?_ | refine F.c (hT2) ?_ | refine F.c (hS) ?_
          refine ARg.nil (ATh.normal ?_)
          refine dO 6 true ?_
          first | refine s1 ?_ | refine F.c (hT0) ?_ | refine F.c (hT1) ?_ | refine F.c (hT2) ?_ | refine F.c (hS) ?_
          refine ARg.nil (ATh.normal ?_)
          refine dP 7 ?_
          refine dP 8 ?_
          refine dP 9 ?_
          refine dP 10 ?_
          refine dO 12 false ?_
          refine s1 ?_
          refine ARg.nil (ATh.normal ?_)
          refine dP 13 ?_
          refine dP 14 ?_
          refine dN ?_
          rotate_left
          refine ⟨_, true, rfl, rfl, ?_⟩
          refine s1 ?_
          refine ARg.nil (ATh.normal ?_)
          refine dO 1 true ?_
          first | refine s1 ?_ | refine F.c (hT0) ?_ | refine F.c (hT1) ?_ | refine F.c (hT2) ?_ | refine F.c (hS) ?_
          refine ARg.nil (ATh.normal ?_)
          refine dO 3 true ?_
          first | refine s1 ?_ | refine F.c (hT0) ?_ | refine F.c (hT1) ?_ | refine F.c (hT2) ?_ | refine F.c (hS) ?_
          refine ARg.nil (ATh.normal ?_)
          refine dO 5 true ?_
          first | refine s1 ?_ | refine F.c (hT0) ?_ | refine F.c (hT1) ?_ | refine F.c (hT2) ?_ | refine F.c (hS) ?_
          refine ARg.nil (ATh.normal ?_)
          refine dO 6 true ?_
          first | refine s1 ?_ | refine F.c (hT0) ?_ | refine F.c (hT1) ?_ | refine F.c (hT2) ?_ | refine F.c (hS) ?_
          refine ARg.nil (ATh.normal ?_)
          refine dP 7 ?_
          refine dP 8 ?_
          refine dP 9 ?_
          refine dP 10 ?_
          refine dO 12 false ?_
          refine s1 ?_
          refine ARg.nil (ATh.normal ?_)
          refine dP 13 ?_
          refine dP 14 ?_
          refine dN ?_
          rotate_left
          all_goals
            refine V.AW.freezeP (α := Rep) (oo := false) a 3 rfl rfl ?_
            refine V.AW.freezeP (α := Rep) (oo := false) b 4 rfl rfl ?_
            refine V.AW.putV 8 2 rfl rfl rfl rfl (E_length _ _) (E_pure _ _) rfl ?_
            refine V.AW.putV 8 3 rfl rfl rfl rfl (E_length _ _) (E_pure _ _) rfl ?_
            refine V.AW.putV 8 4 rfl rfl rfl rfl (E_length _ _) (E_pure _ _) rfl ?_
            refine V.AW.putV 8 5 rfl rfl rfl rfl (E_length _ _) (E_pure _ _) rfl ?_
            refine V.AW.freezeP (α := Rep) (oo := true) r0 8 rfl rfl ?_
            refine V.AW.freezeA (α := Mat) 9 rfl rfl rfl ?_
            refine V.AW.only [(3, .ip (enc false a)), (4, .ip (enc false b)), (2, ar false f), (8, .ip (enc false r0)), (9, ar false r1), (10, .b r2), (6, .b false)] [] 17 ⟨rfl, rfl, rfl, rfl, rfl, rfl, rfl, trivial⟩ trivial rfl ?_
            exact tail
        repeat' first | refine s1 ?_ | (refine kR ?_; first | refine F.c (hT0) ?_ | refine F.sil (A.neqBB rfl rfl) rfl rfl ?_) | fail
        repeat' first | refine s1 ?_ | (refine kR ?_; first | refine F.c (hT1) ?_ | refine F.sil (A.neqBB rfl rfl) rfl rfl ?_) | fail
        repeat' first | refine s1 ?_ | (refine kR ?_; first | refine F.c (hT2) ?_ | refine F.sil (A.neqBB rfl rfl) rfl rfl ?_) | fail
        repeat' first | refine s1 ?_ | (refine kR ?_; first | refine F.c (hI) ?_ | refine F.sil (A.neqBB rfl rfl) rfl rfl ?_) | fail
        repeat' first | refine s1 ?_ | (refine kR ?_; first | refine F.c (hE0) ?_ | refine F.sil (A.neqBB rfl rfl) rfl rfl ?_) | fail
        repeat' first | refine s1 ?_ | (refine kR ?_; first | refine F.c (hE1) ?_ | refine F.sil (A.neqBB rfl rfl) rfl rfl ?_) | fail
        refine AW.draw 5 G.mixed (by kernel_rfl) ?_
        refine dL 0 ?_
        refine dL 1 ?_
        refine dO 2 true ?_
        first | refine s1 ?_ | refine F.c (hT0) ?_ | refine F.c (hQ0) ?_
        refine ARg.nil (ATh.normal ?_)
        refine dO 3 true ?_
        first | refine s1 ?_ | refine F.c (hT0) ?_ | refine F.c (hQ0) ?_
        refine ARg.nil (ATh.normal ?_)
        refine dP 4 ?_
        refine dN ?_
        repeat' first | refine s1 ?_ | fail
        refine AW.draw 5 G.mixed (by kernel_rfl) ?_
        refine dL 0 ?_
        refine dL 1 ?_
        refine dO 2 true ?_
        first | refine s1 ?_ | refine F.c (hT1) ?_ | refine F.c (hQ1) ?_
        refine ARg.nil (ATh.normal ?_)
        refine dO 3 true ?_
        first | refine s1 ?_ | refine F.c (hT1) ?_ | refine F.c (hQ1) ?_
        refine ARg.nil (ATh.normal ?_)
        refine dP 4 ?_
        refine dN ?_
        repeat' first | refine s1 ?_ | (refine kR ?_; first | refine F.c (hT2) ?_ | refine F.sil (A.neqBB rfl rfl) rfl rfl ?_) | fail
        repeat' first | refine s1 ?_ | (refine kR ?_; first | refine F.c (hQ2) ?_ | refine F.sil (A.neqBB rfl rfl) rfl rfl ?_) | fail
        repeat' first | refine s1 ?_ | (refine kR ?_; first | refine F.m [17, 18, 19, 20] (hMa0) ?_ | refine F.sil (A.neqBB rfl rfl) rfl rfl ?_) | fail
        repeat' first | refine s1 ?_ | (refine kR ?_; first | refine F.m [22, 23, 24, 25] (hMa1) ?_ | refine F.sil (A.neqBB rfl rfl) rfl rfl ?_) | fail
        repeat' first | refine s1 ?_ | (refine kR ?_; first | refine F.m [27] (hMa2) ?_ | refine F.sil (A.neqBB rfl rfl) rfl rfl ?_) | fail
        repeat' first | refine s1 ?_ | (refine kR ?_; first | refine F.c (hE0) ?_ | refine F.sil (A.neqBB rfl rfl) rfl rfl ?_) | fail
        repeat' first | refine s1 ?_ | (refine kR ?_; first | refine F.c (hE1) ?_ | refine F.sil (A.neqBB rfl rfl) rfl rfl ?_) | fail
        repeat' first | refine s1 ?_ | (refine kR ?_; first | refine F.m [28, 29, 30, 31] (hM0) ?_ | refine F.sil (A.neqBB rfl rfl) rfl rfl ?_) | fail
        repeat' first | refine s1 ?_ | (refine kR ?_; first | refine F.m [32] (hM1) ?_ | refine F.sil (A.neqBB rfl rfl) rfl rfl ?_) | fail
        repeat' first | refine s1 ?_ | (refine kR ?_; first | refine F.c (hH0) ?_ | refine F.sil (A.neqBB rfl rfl) rfl rfl ?_) | fail
        repeat' first | refine s1 ?_ | (refine kR ?_; first | refine F.c (hH1) ?_ | refine F.sil (A.neqBB rfl rfl) rfl rfl ?_) | fail
        refine AW.draw 12 G.mixed (by kernel_rfl) ?_
        refine dL 0 ?_
        refine dL 2 ?_
        refine dP 4 ?_
        refine ARA.any [1, 11] (by kernel_rfl) (by simp) ?_
        intro k hk
        simp only [List.mem_cons, List.not_mem_nil, or_false] at hk
        rcases hk with rfl | rfl
        refine ⟨_, true, rfl, rfl, ?_⟩
        first | refine s1 ?_ | refine F.c (hT0) ?_ | refine F.c (hT1) ?_ | refine F.c (hT2) ?_ | refine F.c (hI) ?_
        refine ARg.nil (ATh.normal ?_)
        refine ARA.any [3, 11] (by kernel_rfl) (by simp) ?_
        intro k hk
        simp only [List.mem_cons, List.not_mem_nil, or_false] at hk
        rcases hk with rfl | rfl
        refine ⟨_, true, rfl, rfl, ?_⟩
        first | refine s1 ?_ | refine F.c (hT0) ?_ | refine F.c (hT1) ?_ | refine F.c (hT2) ?_ | refine F.c (hI) ?_
        refine ARg.nil (ATh.normal ?_)
        refine ARA.any [5, 11] (by kernel_rfl) (by simp) ?_
        intro k hk
        simp only [List.mem_cons, List.not_mem_nil, or_false] at hk
        rcases hk with rfl | rfl
        refine ⟨_, true, rfl, rfl, ?_⟩
        first | refine s1 ?_ | refine F.c (hT0) ?_ | refine F.c (hT1) ?_ | refine F.c (hT2) ?_ | refine F.c (hI) ?_
        refine ARg.nil (ATh.normal ?_)
        refine ARA.any [6, 11] (by kernel_rfl) (by simp) ?_
        intro k hk
        simp only [List.mem_cons, List.not_mem_nil, or_false] at hk
        rcases hk with rfl | rfl
        refine ⟨_, true, rfl, rfl, ?_⟩
        first | refine s1 ?_ | refine F.c (hT0) ?_ | refine F.c (hT1) ?_ | refine F.c (hT2) ?_ | refine F.c (hI) ?_
        refine ARg.nil (ATh.normal ?_)
        refine dP 7 ?_
        refine dP 8 ?_
        refine dP 9 ?_
        refine dP 10 ?_
        refine dO 11 true ?_
        refine s1 ?_
        refine ARg.nil (ATh.normal ?_)
        refine dO 12 false ?_
        refine s1 ?_
        refine ARg.nil (ATh.normal ?_)
        refine dP 13 ?_
        refine dP 14 ?_
        refine dN ?_
        rotate_left
        refine ⟨_, true, rfl, rfl, ?_⟩
        refine s1 ?_
        refine ARg.nil (ATh.normal ?_)
        refine dO 6 true ?_
        first | refine s1 ?_ | refine F.c (hT0) ?_ | refine F.c (hT1) ?_ | refine F.c (hT2) ?_ | refine F.c (hI) ?_
        refine ARg.nil (ATh.normal ?_)
        refine dP 7 ?_
        refine dP 8 ?_
        refine dP 9 ?_
        refine dP 10 ?_
        refine dO 12 false ?_
        refine s1 ?_
        refine ARg.nil (ATh.normal ?_)
        refine dP 13 ?_
        refine dP 14 ?_
        refine dN ?_
        rotate_left
        refine ⟨_, true, rfl, rfl, ?_⟩
        refine s1 ?_
        refine ARg.nil (ATh.normal ?_)
        refine dO 5 true ?_
        first | refine s1 ?_ | refine F.c (hT0) ?_ | refine F.c (hT1) ?_ | refine F.c (hT2) ?_ | refine F.c (hI) ?_
        refine ARg.nil (ATh.normal ?_)
        refine dO 6 true ?_
        first | refine s1 ?_ | refine F.c (hT0) ?_ | refine F.c (hT1) ?_ | refine F.c (hT2) ?_ | refine F.c (hI) ?_
        refine ARg.nil (ATh.normal ?_)
        refine dP 7 ?_
        refine dP 8 ?_
        refine dP 9 ?_
        refine dP 10 ?_
        refine dO 12 false ?_
        refine s1 ?_
        refine ARg.nil (ATh.normal ?_)
        refine dP 13 ?_
        refine dP 14 ?_
        refine dN ?_
        rotate_left
        refine ⟨_, true, rfl, rfl, ?_⟩
        refine s1 ?_
        refine ARg.nil (ATh.normal ?_)
        refine dO 3 true ?_
        first | refine s1 ?_ | refine F.c (hT0) ?_ | refine F.c (hT1) ?_ | refine F.c (hT2) ?_ | refine F.c (hI) ?_
        refine ARg.nil (ATh.normal ?_)
        refine dO 5 true ?_
        first | refine s1 ?_ | refine F.c (hT0) ?_ | refine F.c (hT1) ?_ | refine F.c (hT2) ?_ | refine F.c (hI) ?_
        refine ARg.nil (ATh.normal ?_)
        refine dO 6 true ?_
        first | refine s1 ?_ | refine F.c (hT0) ?_ | refine F.c (hT1) ?_ | refine F.c (hT2) ?_ | refine F.c (hI) ?_
        refine ARg.nil (ATh.normal ?_)
        refine dP 7 ?_
        refine dP 8 ?_
        refine dP 9 ?_
        refine dP 10 ?_
        refine dO 12 false ?_
        refine s1 ?_
        refine ARg.nil (ATh.normal ?_)
        refine dP 13 ?_
        refine dP 14 ?_
        refine dN ?_
        rotate_left
        refine ⟨_, true, rfl, rfl, ?_⟩
        refine s1 ?_
        refine ARg.nil (ATh.normal ?_)
        refine dO 1 true ?_
        first | refine s1 ?_ | refine F.c (hT0) ?_ | refine F.c (hT1) ?_ | refine F.c (hT2) ?_ | refine F.c (hI) ?_
        refine ARg.nil (ATh.normal ?_)
        refine dO 3 true ?_
        first | refine s1 ?_ | refine F.c (hT0) ?_ | refine F.c (hT1) ?_ | refine F.c (hT2) ?_ | refine F.c (hI) ?_
        refine ARg.nil (ATh.normal ?_)
        refine dO 5 true ?_
        first | refine s1 ?_ | refine F.c (hT0) ?_ | refine F.c (hT1) ?_ | refine F.c (hT2) ?_ | refine F.c (hI) ?_
        refine ARg.nil (ATh.normal ?_)
        refine dO 6 true ?_
        first | refine s1 ?_ | refine F.c (hT0) ?_ | refine F.c (hT1) ?_ | refine F.c (hT2) ?_ | refine F.c (hI) ?_
        refine ARg.nil (ATh.normal ?_)
        refine dP 7 ?_
        refine dP 8 ?_
        refine dP 9 ?_
        refine dP 10 ?_
        refine dO 12 false ?_
        refine s1 ?_
        refine ARg.nil (ATh.normal ?_)
        refine dP 13 ?_
        refine dP 14 ?_
        refine dN ?_
        rotate_left
        all_goals
          repeat' first | refine s1 ?_ | (refine kR ?_; first | refine F.c (hE0) ?_ | refine F.sil (A.neqBB rfl rfl) rfl rfl ?_) | fail
          repeat' first | refine s1 ?_ | (refine kR ?_; first | refine F.c (hE1) ?_ | refine F.sil (A.neqBB rfl rfl) rfl rfl ?_) | fail
          repeat' first | refine s1 ?_ | (refine kR ?_; first | refine F.c (hH0) ?_ | refine F.sil (A.neqBB rfl rfl) rfl rfl ?_) | fail
          repeat' first | refine s1 ?_ | (refine kR ?_; first | refine F.c (hH1) ?_ | refine F.sil (A.neqBB rfl rfl) rfl rfl ?_) | fail
          repeat' first | refine s1 ?_ | (refine kR ?_; first | refine F.sil (A.neqBB rfl rfl) rfl rfl ?_) | fail
          (refine kZ ?_; exact F.ret rfl)
      · repeat' first | refine s1 ?_ | (refine kR ?_; first | refine F.c (hZ0) ?_ | refine F.c (hZ1) ?_ | refine F.c (hZ2) ?_) | fail
        (refine kZ ?_; exact F.ret rfl)
    · repeat' first | refine s1 ?_ | (refine kR ?_; first | refine F.c (hZ0) ?_ | refine F.c (hZ1) ?_) | fail
      (refine kZ ?_; exact F.ret rfl)
  · repeat' first | refine s1 ?_ | (refine kR ?_; first | refine F.c (hZ0) ?_) | fail
    (refine kZ ?_; exact F.ret rfl)
theorem fnExactCokernelRep.walk (w : World) (x0 : Rep) (us0 : List Value) (F0 : List Nat) (h0 : repR.V w x0 us0 F0) (x1 : Rep) (us1 : List Value) (F1 : List Nat) (h1 : repR.V w x1 us1 F1) (x2 : List Mat) (v2 : Value) (F2 : List Nat) (h2 : (listR V.matR).V w x2 [v2] F2) : Run Tryz.prog 6 [.agg us0.toArray, .agg us1.toArray, v2] w fun v w' => v = .bool true ∧ Later w w' :=
  (fnExactCokernelRep.ac x0 x1 x2).law (.agg (RdE.h h0) (.agg (RdE.h h1) (.cons (RdE.h h2) (.nil w))))
namespace fnExactCokernelRep
theorem own : ownKnob Tryz.prog.godebug = none := by kernel_rfl
theorem laidOut : laidOutB Tryz.prog = true := by kernel_rfl
set_option maxRecDepth 100000 in
theorem lifted (os : Os) (started : os.Started) (H : Type) (enc : TypeId × Value → H) :
    ReturnsInHanded {} Tryz.checked os 6 .any (Rows.fnExactCokernelRepSpec.pre6 enc Tryz.prog Tryz.f6 Rows.fnExactCokernelRepRow.domain false) (Rows.fnExactCokernelRepSpec.post enc Tryz.prog Tryz.f6 false true false false) := by
  refine returnsInHanded_of_change (C := Tryz.checked) own started (by kernel_rfl) Tryz.func6
    (ChangeSpec.witness6 (enc := enc) (C := Tryz.checked) false ⟨#[], #[.agg #[.int .i64 0, .int .i64 0, .slice none 0 0, .slice none 0 0, .slice none 0 0, .slice none 0 0], .agg #[.int .i64 0, .int .i64 0, .slice none 0 0, .slice none 0 0, .slice none 0 0, .slice none 0 0], .slice none 0 0], []⟩ 8 (by kernel_rfl) (by kernel_rfl) (by kernel_rfl) (by kernel_rfl)) ?_
  intro W base args ds gs before hval0 hW hcnd _
  have hval : ∀ (j : Nat) t v, Tryz.f6.params[j]? = some t → args[j]? = some v → Value.okWide Tryz.prog W .any base t v := hval0
  have hW' := hW
  obtain ⟨p, q, hA0, hV, rfl, hfz, hnd⟩ := hW
  have hA : DataW.TrodAll enc Tryz.prog W 0 (fun _ => true) true Tryz.f6.params.toList args.toList ds p := hA0
  rw [Tryz.params6] at hA hval
  obtain ⟨v0, vs0, d0, ds0, p0, q0, hargs, rfl, rfl, h0, r0⟩ := trodAll_cons hA
  obtain ⟨v1, vs1, d1, ds1, p1, q1, rfl, rfl, rfl, h1, r1⟩ := trodAll_cons r0
  obtain ⟨v2, vs2, d2, ds2, p2, q2, rfl, rfl, rfl, h2, r2⟩ := trodAll_cons r1
  obtain ⟨rfl, rfl, rfl⟩ := trodAll_nil r2
  obtain rfl : args = #[v0, v1, v2] := by cases args; simp_all
  obtain ⟨rfl, rfl⟩ := trodVars_none hV
  obtain ⟨⟨l0⟩, rfl, hsz0⟩ := okWide_struct Tryz.underlying27 (hval 0 27 v0 rfl rfl)
  have k0 := h0
  have lt0 : ∀ x ∈ p0, x.block < W.heap.size := by obtain ⟨m, hm⟩ := k0; exact DataW.trod_lt m _ _ _ hm
  obtain ⟨x0, F0, R0⟩ := Rds.argG (inferInstance : Rds Tryz.prog 27 _) k0
  obtain ⟨⟨l1⟩, rfl, hsz1⟩ := okWide_struct Tryz.underlying27 (hval 1 27 v1 rfl rfl)
  have k1 := h1
  have lt1 : ∀ x ∈ p1, x.block < W.heap.size := by obtain ⟨m, hm⟩ := k1; exact DataW.trod_lt m _ _ _ hm
  obtain ⟨x1, F1, R1⟩ := Rds.argG (inferInstance : Rds Tryz.prog 27 _) k1
  obtain ⟨a2, len2, cap2, rfl⟩ := okWide_slice Tryz.underlying25 (hval 2 25 v2 rfl rfl)
  have k2 := h2
  have lt2 : ∀ x ∈ p2, x.block < W.heap.size := by obtain ⟨m, hm⟩ := k2; exact DataW.trod_lt m _ _ _ hm
  obtain ⟨x2, F2, R2⟩ := Rds.arg1 (inferInstance : Rds Tryz.prog 25 _) k2 rfl
  clear hA0 hval0
  refine (Run.calls (walk W x0 _ F0 R0 x1 _ F1 R1 x2 _ F2 R2)).mono fun e W' ⟨v, he, hv, bel⟩ => ?_
  subst he
  subst hv
  exact ⟨_, rfl, _, _, _, [], _, [], hW', trodAll_mk1 (shut_bool Tryz.underlying4 _), (trodAll_cons_mk (Below.trod laidOut (by kernel_rfl) (of_decide_eq_true (by kernel_rfl)) k0 bel lt0) (trodAll_cons_mk (Below.trod laidOut (by kernel_rfl) (of_decide_eq_true (by kernel_rfl)) k1 bel lt1) (trodAll_cons_mk (Below.trod laidOut (by kernel_rfl) (of_decide_eq_true (by kernel_rfl)) k2 bel lt2) trodAll_mk0))), rfl, bel.frame _, fun h => by cases h⟩
theorem down : V.downB Tryz.prog [] [46, 45, 74, 31, 10, 55, 54, 76, 33, 13, 105, 157, 156, 106, 132, 107, 64, 209, 210, 181, 130, 93, 95, 52, 131, 80, 198, 199, 158, 110, 50, 147, 109, 75, 145, 146, 90, 81, 91, 108, 92, 48, 53, 118, 72, 94, 51, 29, 32, 111, 161, 200, 196, 174, 160, 159, 69, 112, 162, 113, 68, 189, 206, 171, 122, 154, 139, 169, 120, 135, 202, 173, 124, 172, 123, 175, 126, 125, 77, 83, 117, 215, 204, 165, 217, 214, 203, 164, 116, 78, 192, 195, 150, 148, 193, 194, 149, 97, 104, 102, 99, 197, 155, 168, 152, 151, 98, 57, 103, 205, 170, 121, 166, 167, 119, 153, 100, 73, 30, 34, 39, 59, 60, 17, 16, 40, 62, 21, 19, 41, 63, 23, 22, 6] = true := by kernel_rfl
theorem closed : joinedFacts Tryz.pinned.checked.prog 6 Tryz.f6 Rows.fnExactCokernelRepSpec Rows.fnExactCokernelRepRow = true := by
  have h : Program.recurses Tryz.pinned.checked.prog 6 = Program.unfollowed Tryz.pinned.checked.prog 6 := V.recurses_down _ down (by kernel_rfl)
  unfold joinedFacts
  rw [h]
  change _ = _
  kernel_rfl
theorem over : Rows.fnExactCokernelRepRow.holds Tryz.pinned (OpenSpec.ofChange Rows.fnExactCokernelRepSpec) :=
  OpenClaim.holds_of_wide 6 Tryz.f6 rfl rfl rfl rfl rfl rfl rfl ⟨rfl, rfl, rfl, rfl, rfl⟩ rfl rfl rfl rfl rfl (by kernel_rfl) Tryz.func6 closed
    (of_decide_eq_true (by kernel_rfl)) (by unfold Func.isWrapper; first | (rw [if_pos (by decide +kernel)]; kernel_rfl) | (rw [if_neg (by decide +kernel)]; exact ⟨rfl, rfl⟩))
    (fun os started H enc _ => lifted os started H enc)
theorem proved : Rows.FnExactCokernelRepSaid := over
end fnExactCokernelRep
end Go.Proofs.YtjnhjfgcfclamaaGreat
