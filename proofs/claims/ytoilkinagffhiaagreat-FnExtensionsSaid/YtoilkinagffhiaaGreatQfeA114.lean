/- Texts that the proof needs: A114. -/
import Derived.Test.YtoilkinagffhiaaGreatQfeA106
namespace Go.Proofs.YtoilkinagffhiaaGreat.V
open Go.RowKit G D
set_option linter.unusedVariables false
set_option linter.unusedSimpArgs false
set_option maxHeartbeats 4000000
set_option maxRecDepth 4000
attribute [local irreducible] AW ARg ARA ARet MRet ASil AC AM ARI
theorem take_at {α : Type} [Inhabited α] {l : List α} {k : Nat} (h : k < l.length) : l.take (k + 1) = l.take k ++ [l.getD k default] := by
 have e : l.getD k default = l[k] := by simp [h]
 rw [List.take_succ_eq_append_getElem h, e]
theorem l8Copy_a (r : Rep) (hr : isRep r = true) : AC Tryz.prog 124 [.agg (enc false r)] [.agg (enc true r)] := by
  refine AC.go Tryz.func124 Tryz.ntmps124 rfl rfl fun w0 hw => ?_; simp [WfL, WfA, E_length, Enc.enc, In64] at hw
  obtain ⟨r1, r2, r3, r4⟩ := isRep_spec hr
  obtain ⟨c1, c2, c3, c4⟩ := areDims_spec r2
  have h5 := okQ_spec c1
  have hC := l6Copy_a r.q (by omega)
  have hL := fun i (hi : i < r.m.length) => l3Copy_a (r.m.getD i default) (by
    have := (arrow_ok hr hi).1
    simp only [isMat, isVec, Bool.and_eq_true, decide_eq_true_eq] at this
    omega)
  have hmt := fun i (hi : i < r.m.length) => take_at (l := r.m) hi
  repeat' first | refine s1 ?_ | fail
  refine AW.freezeP (α := Rep) (oo := false) r 1 rfl rfl ?_
  apply V.tailedT
  · intro tail1
    apply V.tailedT
    · intro tail2
      apply V.tailedT
      · intro tail3
        refine AW.drawI G.mixed (by kernel_rfl) (by rfl) ?_
        intro T w1 MP1 I0
        refine iP 0 ?_
        refine iL 1 ?_
        refine iP 2 ?_
        refine iL 3 ?_
        refine iP 6 ?_
        refine iL 7 ?_
        refine ARI.any [4, 5, 9, 11] (by kernel_rfl) (by simp) ?_
        intro k hk
        simp only [List.mem_cons, List.not_mem_nil, or_false] at hk
        rcases hk with rfl | rfl | rfl | rfl
        refine ⟨_, rfl, ?_⟩
        first | refine s1 ?_ | refine F.c (hC) ?_
        refine tN ?_
        refine ARI.any [5, 9, 11] (by kernel_rfl) (by simp) ?_
        intro k hk
        simp only [List.mem_cons, List.not_mem_nil, or_false] at hk
        rcases hk with rfl | rfl | rfl
        refine ⟨_, rfl, ?_⟩
        refine s1 ?_
        refine tN ?_
        refine ARI.any [8, 9, 11] (by kernel_rfl) (by simp) ?_
        intro k hk
        simp only [List.mem_cons, List.not_mem_nil, or_false] at hk
        rcases hk with rfl | rfl | rfl
        refine ⟨_, rfl, ?_⟩
        first | refine s1 ?_ | refine F.appLN (α := Int) (oo := true) (.inr rfl) rfl .imm rfl rfl (by omega) (by omega) rfl rfl rfl rfl ?_
        refine tN ?_
        refine ARI.any [9, 11] (by kernel_rfl) (by simp) ?_
        intro k hk
        simp only [List.mem_cons, List.not_mem_nil, or_false] at hk
        rcases hk with rfl | rfl
        refine ⟨_, rfl, ?_⟩
        refine s1 ?_
        refine tN ?_
        refine iP 10 ?_
        refine iO 11 ?_
        refine s1 ?_
        refine tN ?_
        refine iO 12 ?_
        refine s1 ?_
        refine tN ?_
        refine iN ?_
        rotate_left
        refine ⟨_, rfl, ?_⟩
        refine s1 ?_
        refine tN ?_
        refine iO 9 ?_
        refine s1 ?_
        refine tN ?_
        refine iP 10 ?_
        refine iO 12 ?_
        refine s1 ?_
        refine tN ?_
        refine iN ?_
        rotate_left
        refine ⟨_, rfl, ?_⟩
        refine s1 ?_
        refine tN ?_
        refine ARI.any [8, 11] (by kernel_rfl) (by simp) ?_
        intro k hk
        simp only [List.mem_cons, List.not_mem_nil, or_false] at hk
        rcases hk with rfl | rfl
        refine ⟨_, rfl, ?_⟩
        first | refine s1 ?_ | refine F.appLN (α := Int) (oo := true) (.inr rfl) rfl .imm rfl rfl (by omega) (by omega) rfl rfl rfl rfl ?_
        refine tN ?_
        refine iP 10 ?_
        refine iO 11 ?_
        refine s1 ?_
        refine tN ?_
        refine iO 12 ?_
        refine s1 ?_
        refine tN ?_
        refine iN ?_
        rotate_left
        refine ⟨_, rfl, ?_⟩
        refine s1 ?_
        refine tN ?_
        refine iO 8 ?_
        first | refine s1 ?_ | refine F.appLN (α := Int) (oo := true) (.inr rfl) rfl .imm rfl rfl (by omega) (by omega) rfl rfl rfl rfl ?_
        refine tN ?_
        refine iP 10 ?_
        refine iO 12 ?_
        refine s1 ?_
        refine tN ?_
        refine iN ?_
        rotate_left
        refine ⟨_, rfl, ?_⟩
        refine s1 ?_
        refine tN ?_
        refine ARI.any [8, 9] (by kernel_rfl) (by simp) ?_
        intro k hk
        simp only [List.mem_cons, List.not_mem_nil, or_false] at hk
        rcases hk with rfl | rfl
        refine ⟨_, rfl, ?_⟩
        first | refine s1 ?_ | refine F.appLN (α := Int) (oo := true) (.inr rfl) rfl .imm rfl rfl (by omega) (by omega) rfl rfl rfl rfl ?_
        refine tN ?_
        refine iO 9 ?_
        refine s1 ?_
        refine tN ?_
        refine iP 10 ?_
        refine iO 12 ?_
        refine s1 ?_
        refine tN ?_
        refine iN ?_
        rotate_left
        refine ⟨_, rfl, ?_⟩
        refine s1 ?_
        refine tN ?_
        refine iO 8 ?_
        first | refine s1 ?_ | refine F.appLN (α := Int) (oo := true) (.inr rfl) rfl .imm rfl rfl (by omega) (by omega) rfl rfl rfl rfl ?_
        refine tN ?_
        refine iP 10 ?_
        refine iO 12 ?_
        refine s1 ?_
        refine tN ?_
        refine iN ?_
        rotate_left
        refine ⟨_, rfl, ?_⟩
        refine s1 ?_
        refine tN ?_
        refine ARI.any [5, 11] (by kernel_rfl) (by simp) ?_
        intro k hk
        simp only [List.mem_cons, List.not_mem_nil, or_false] at hk
        rcases hk with rfl | rfl
        refine ⟨_, rfl, ?_⟩
        refine s1 ?_
        refine tN ?_
        refine ARI.any [8, 11] (by kernel_rfl) (by simp) ?_
        intro k hk
        simp only [List.mem_cons, List.not_mem_nil, or_false] at hk
        rcases hk with rfl | rfl
        refine ⟨_, rfl, ?_⟩
        first | refine s1 ?_ | refine F.appLN (α := Int) (oo := true) (.inr rfl) rfl .imm rfl rfl (by omega) (by omega) rfl rfl rfl rfl ?_
        refine tN ?_
        refine iP 10 ?_
        refine iO 11 ?_
        refine s1 ?_
        refine tN ?_
        refine iO 12 ?_
        refine s1 ?_
        refine tN ?_
        refine iN ?_
        rotate_left
        refine ⟨_, rfl, ?_⟩
        refine s1 ?_
        refine tN ?_
        refine iO 8 ?_
        first | refine s1 ?_ | refine F.appLN (α := Int) (oo := true) (.inr rfl) rfl .imm rfl rfl (by omega) (by omega) rfl rfl rfl rfl ?_
        refine tN ?_
        refine iP 10 ?_
        refine iO 12 ?_
        refine s1 ?_
        refine tN ?_
        refine iN ?_
        rotate_left
        refine ⟨_, rfl, ?_⟩
        refine s1 ?_
        refine tN ?_
        refine iO 5 ?_
        refine s1 ?_
        refine tN ?_
        refine iO 8 ?_
        first | refine s1 ?_ | refine F.appLN (α := Int) (oo := true) (.inr rfl) rfl .imm rfl rfl (by omega) (by omega) rfl rfl rfl rfl ?_
        refine tN ?_
        refine iP 10 ?_
        refine iO 12 ?_
        refine s1 ?_
        refine tN ?_
        refine iN ?_
        rotate_left
        refine ⟨_, rfl, ?_⟩
        refine s1 ?_
        refine tN ?_
        refine ARI.any [5, 9] (by kernel_rfl) (by simp) ?_
        intro k hk
        simp only [List.mem_cons, List.not_mem_nil, or_false] at hk
        rcases hk with rfl | rfl
        refine ⟨_, rfl, ?_⟩
        refine s1 ?_
        refine tN ?_
        refine ARI.any [8, 9] (by kernel_rfl) (by simp) ?_
        intro k hk
        simp only [List.mem_cons, List.not_mem_nil, or_false] at hk
        rcases hk with rfl | rfl
        refine ⟨_, rfl, ?_⟩
        first | refine s1 ?_ | refine F.appLN (α := Int) (oo := true) (.inr rfl) rfl .imm rfl rfl (by omega) (by omega) rfl rfl rfl rfl ?_
        refine tN ?_
        refine iO 9 ?_
        refine s1 ?_
        refine tN ?_
        refine iP 10 ?_
        refine iO 12 ?_
        refine s1 ?_
        refine tN ?_
        refine iN ?_
        rotate_left
        refine ⟨_, rfl, ?_⟩
        refine s1 ?_
        refine tN ?_
        refine iO 8 ?_
        first | refine s1 ?_ | refine F.appLN (α := Int) (oo := true) (.inr rfl) rfl .imm rfl rfl (by omega) (by omega) rfl rfl rfl rfl ?_
        refine tN ?_
        refine iP 10 ?_
        refine iO 12 ?_
        refine s1 ?_
        refine tN ?_
        refine iN ?_
        rotate_left
        refine ⟨_, rfl, ?_⟩
        refine s1 ?_
        refine tN ?_
        refine iO 5 ?_
        refine s1 ?_
        refine tN ?_
        refine iO 8 ?_
        first | refine s1 ?_ | refine F.appLN (α := Int) (oo := true) (.inr rfl) rfl .imm rfl rfl (by omega) (by omega) rfl rfl rfl rfl ?_
        refine tN ?_
        refine iP 10 ?_
        refine iO 12 ?_
        refine s1 ?_
        refine tN ?_
        refine iN ?_
        rotate_left
        refine ⟨_, rfl, ?_⟩
        refine s1 ?_
        refine tN ?_
        refine ARI.any [4, 9, 11] (by kernel_rfl) (by simp) ?_
        intro k hk
        simp only [List.mem_cons, List.not_mem_nil, or_false] at hk
        rcases hk with rfl | rfl | rfl
        refine ⟨_, rfl, ?_⟩
        first | refine s1 ?_ | refine F.c (hC) ?_
        refine tN ?_
        refine ARI.any [8, 9, 11] (by kernel_rfl) (by simp) ?_
        intro k hk
        simp only [List.mem_cons, List.not_mem_nil, or_false] at hk
        rcases hk with rfl | rfl | rfl
        refine ⟨_, rfl, ?_⟩
        first | refine s1 ?_ | refine F.appLN (α := Int) (oo := true) (.inr rfl) rfl .imm rfl rfl (by omega) (by omega) rfl rfl rfl rfl ?_
        refine tN ?_
        refine ARI.any [9, 11] (by kernel_rfl) (by simp) ?_
        intro k hk
        simp only [List.mem_cons, List.not_mem_nil, or_false] at hk
        rcases hk with rfl | rfl
        refine ⟨_, rfl, ?_⟩
        refine s1 ?_
        refine tN ?_
        refine iP 10 ?_
        refine iO 11 ?_
        refine s1 ?_
        refine tN ?_
        refine iO 12 ?_
        refine s1 ?_
        refine tN ?_
        refine iN ?_
        rotate_left
        refine ⟨_, rfl, ?_⟩
        refine s1 ?_
        refine tN ?_
        refine iO 9 ?_
        refine s1 ?_
        refine tN ?_
        refine iP 10 ?_
        refine iO 12 ?_
        refine s1 ?_
        refine tN ?_
        refine iN ?_
        rotate_left
        refine ⟨_, rfl, ?_⟩
        refine s1 ?_
        refine tN ?_
        refine ARI.any [8, 11] (by kernel_rfl) (by simp) ?_
        intro k hk
        simp only [List.mem_cons, List.not_mem_nil, or_false] at hk
        rcases hk with rfl | rfl
        refine ⟨_, rfl, ?_⟩
        first | refine s1 ?_ | refine F.appLN (α := Int) (oo := true) (.inr rfl) rfl .imm rfl rfl (by omega) (by omega) rfl rfl rfl rfl ?_
        refine tN ?_
        refine iP 10 ?_
        refine iO 11 ?_
        refine s1 ?_
        refine tN ?_
        refine iO 12 ?_
        refine s1 ?_
        refine tN ?_
        refine iN ?_
        rotate_left
        refine ⟨_, rfl, ?_⟩
        refine s1 ?_
        refine tN ?_
        refine iO 8 ?_
        first | refine s1 ?_ | refine F.appLN (α := Int) (oo := true) (.inr rfl) rfl .imm rfl rfl (by omega) (by omega) rfl rfl rfl rfl ?_
        refine tN ?_
        refine iP 10 ?_
        refine iO 12 ?_
        refine s1 ?_
        refine tN ?_
        refine iN ?_
        rotate_left
        refine ⟨_, rfl, ?_⟩
        refine s1 ?_
        refine tN ?_
        refine ARI.any [8, 9] (by kernel_rfl) (by simp) ?_
        intro k hk
        simp only [List.mem_cons, List.not_mem_nil, or_false] at hk
        rcases hk with rfl | rfl
        refine ⟨_, rfl, ?_⟩
        first | refine s1 ?_ | refine F.appLN (α := Int) (oo := true) (.inr rfl) rfl .imm rfl rfl (by omega) (by omega) rfl rfl rfl rfl ?_
        refine tN ?_
        refine iO 9 ?_
        refine s1 ?_
        refine tN ?_
        refine iP 10 ?_
        refine iO 12 ?_
        refine s1 ?_
        refine tN ?_
        refine iN ?_
        rotate_left
        refine ⟨_, rfl, ?_⟩
        refine s1 ?_
        refine tN ?_
        refine iO 8 ?_
        first | refine s1 ?_ | refine F.appLN (α := Int) (oo := true) (.inr rfl) rfl .imm rfl rfl (by omega) (by omega) rfl rfl rfl rfl ?_
        refine tN ?_
        refine iP 10 ?_
        refine iO 12 ?_
        refine s1 ?_
        refine tN ?_
        refine iN ?_
        rotate_left
        refine ⟨_, rfl, ?_⟩
        refine s1 ?_
        refine tN ?_
        refine ARI.any [4, 11] (by kernel_rfl) (by simp) ?_
        intro k hk
        simp only [List.mem_cons, List.not_mem_nil, or_false] at hk
        rcases hk with rfl | rfl
        refine ⟨_, rfl, ?_⟩
        first | refine s1 ?_ | refine F.c (hC) ?_
        refine tN ?_
        refine ARI.any [8, 11] (by kernel_rfl) (by simp) ?_
        intro k hk
        simp only [List.mem_cons, List.not_mem_nil, or_false] at hk
        rcases hk with rfl | rfl
        refine ⟨_, rfl, ?_⟩
        first | refine s1 ?_ | refine F.appLN (α := Int) (oo := true) (.inr rfl) rfl .imm rfl rfl (by omega) (by omega) rfl rfl rfl rfl ?_
        refine tN ?_
        refine iP 10 ?_
        refine iO 11 ?_
        refine s1 ?_
        refine tN ?_
        refine iO 12 ?_
        refine s1 ?_
        refine tN ?_
        refine iN ?_
        rotate_left
        refine ⟨_, rfl, ?_⟩
        refine s1 ?_
        refine tN ?_
        refine iO 8 ?_
        first | refine s1 ?_ | refine F.appLN (α := Int) (oo := true) (.inr rfl) rfl .imm rfl rfl (by omega) (by omega) rfl rfl rfl rfl ?_
        refine tN ?_
        refine iP 10 ?_
        refine iO 12 ?_
        refine s1 ?_
        refine tN ?_
        refine iN ?_
        rotate_left
        refine ⟨_, rfl, ?_⟩
        refine s1 ?_
        refine tN ?_
        refine iO 4 ?_
        first | refine s1 ?_ | refine F.c (hC) ?_
        refine tN ?_
        refine iO 8 ?_
        first | refine s1 ?_ | refine F.appLN (α := Int) (oo := true) (.inr rfl) rfl .imm rfl rfl (by omega) (by omega) rfl rfl rfl rfl ?_
        refine tN ?_
        refine iP 10 ?_
        refine iO 12 ?_
        refine s1 ?_
        refine tN ?_
        refine iN ?_
        rotate_left
        refine ⟨_, rfl, ?_⟩
        refine s1 ?_
        refine tN ?_
        refine ARI.any [4, 9] (by kernel_rfl) (by simp) ?_
        intro k hk
        simp only [List.mem_cons, List.not_mem_nil, or_false] at hk
        rcases hk with rfl | rfl
        refine ⟨_, rfl, ?_⟩
        first | refine s1 ?_ | refine F.c (hC) ?_
        refine tN ?_
        refine ARI.any [8, 9] (by kernel_rfl) (by simp) ?_
        intro k hk
        simp only [List.mem_cons, List.not_mem_nil, or_false] at hk
        rcases hk with rfl | rfl
        refine ⟨_, rfl, ?_⟩
        first | refine s1 ?_ | refine F.appLN (α := Int) (oo := true) (.inr rfl) rfl .imm rfl rfl (by omega) (by omega) rfl rfl rfl rfl ?_
        refine tN ?_
        refine iO 9 ?_
        refine s1 ?_
        refine tN ?_
        refine iP 10 ?_
        refine iO 12 ?_
        refine s1 ?_
        refine tN ?_
        refine iN ?_
        rotate_left
        refine ⟨_, rfl, ?_⟩
        refine s1 ?_
        refine tN ?_
        refine iO 8 ?_
        first | refine s1 ?_ | refine F.appLN (α := Int) (oo := true) (.inr rfl) rfl .imm rfl rfl (by omega) (by omega) rfl rfl rfl rfl ?_
        refine tN ?_
        refine iP 10 ?_
        refine iO 12 ?_
        refine s1 ?_
        refine tN ?_
        refine iN ?_
        rotate_left
        refine ⟨_, rfl, ?_⟩
        refine s1 ?_
        refine tN ?_
        refine iO 4 ?_
        first | refine s1 ?_ | refine F.c (hC) ?_
        refine tN ?_
        refine iO 8 ?_
        first | refine s1 ?_ | refine F.appLN (α := Int) (oo := true) (.inr rfl) rfl .imm rfl rfl (by omega) (by omega) rfl rfl rfl rfl ?_
        refine tN ?_
        refine iP 10 ?_
        refine iO 12 ?_
        refine s1 ?_
        refine tN ?_
        refine iN ?_
        rotate_left
        refine ⟨_, rfl, ?_⟩
        refine s1 ?_
        refine tN ?_
        refine ARI.any [4, 5, 11] (by kernel_rfl) (by simp) ?_
        intro k hk
        simp only [List.mem_cons, List.not_mem_nil, or_false] at hk
        rcases hk with rfl | rfl | rfl
        refine ⟨_, rfl, ?_⟩
        first | refine s1 ?_ | refine F.c (hC) ?_
        refine tN ?_
        refine ARI.any [5, 11] (by kernel_rfl) (by simp) ?_
        intro k hk
        simp only [List.mem_cons, List.not_mem_nil, or_false] at hk
        rcases hk with rfl | rfl
        refine ⟨_, rfl, ?_⟩
        refine s1 ?_
        refine tN ?_
        refine ARI.any [8, 11] (by kernel_rfl) (by simp) ?_
        intro k hk
        simp only [List.mem_cons, List.not_mem_nil, or_false] at hk
        rcases hk with rfl | rfl
        refine ⟨_, rfl, ?_⟩
        first | refine s1 ?_ | refine F.appLN (α := Int) (oo := true) (.inr rfl) rfl .imm rfl rfl (by omega) (by omega) rfl rfl rfl rfl ?_
        refine tN ?_
        refine iP 10 ?_
        refine iO 11 ?_
        refine s1 ?_
        refine tN ?_
        refine iO 12 ?_
        refine s1 ?_
        refine tN ?_
        refine iN ?_
        rotate_left
        refine ⟨_, rfl, ?_⟩
        refine s1 ?_
        refine tN ?_
        refine iO 8 ?_
        first | refine s1 ?_ | refine F.appLN (α := Int) (oo := true) (.inr rfl) rfl .imm rfl rfl (by omega) (by omega) rfl rfl rfl rfl ?_
        refine tN ?_
        refine iP 10 ?_
        refine iO 12 ?_
        refine s1 ?_
        refine tN ?_
        refine iN ?_
        rotate_left
        refine ⟨_, rfl, ?_⟩
        refine s1 ?_
        refine tN ?_
        refine iO 5 ?_
        refine s1 ?_
        refine tN ?_
        refine iO 8 ?_
        first | refine s1 ?_ | refine F.appLN (α := Int) (oo := true) (.inr rfl) rfl .imm rfl rfl (by omega) (by omega) rfl rfl rfl rfl ?_
        refine tN ?_
        refine iP 10 ?_
        refine iO 12 ?_
        refine s1 ?_
        refine tN ?_
        refine iN ?_
        rotate_left
        refine ⟨_, rfl, ?_⟩
        refine s1 ?_
        refine tN ?_
        refine ARI.any [4, 11] (by kernel_rfl) (by simp) ?_
        intro k hk
        simp only [List.mem_cons, List.not_mem_nil, or_false] at hk
        rcases hk with rfl | rfl
        refine ⟨_, rfl, ?_⟩
        first | refine s1 ?_ | refine F.c (hC) ?_
        refine tN ?_
        refine ARI.any [8, 11] (by kernel_rfl) (by simp) ?_
        intro k hk
        simp only [List.mem_cons, List.not_mem_nil, or_false] at hk
        rcases hk with rfl | rfl
        refine ⟨_, rfl, ?_⟩
        first | refine s1 ?_ | refine F.appLN (α := Int) (oo := true) (.inr rfl) rfl .imm rfl rfl (by omega) (by omega) rfl rfl rfl rfl ?_
        refine tN ?_
        refine iP 10 ?_
        refine iO 11 ?_
        refine s1 ?_
        refine tN ?_
        refine iO 12 ?_
        refine s1 ?_
        refine tN ?_
        refine iN ?_
        rotate_left
        refine ⟨_, rfl, ?_⟩
        refine s1 ?_
        refine tN ?_
        refine iO 8 ?_
        first | refine s1 ?_ | refine F.appLN (α := Int) (oo := true) (.inr rfl) rfl .imm rfl rfl (by omega) (by omega) rfl rfl rfl rfl ?_
        refine tN ?_
        refine iP 10 ?_
        refine iO 12 ?_
        refine s1 ?_
        refine tN ?_
        refine iN ?_
        rotate_left
        refine ⟨_, rfl, ?_⟩
        refine s1 ?_
        refine tN ?_
        refine iO 4 ?_
        first | refine s1 ?_ | refine F.c (hC) ?_
        refine tN ?_
        refine iO 8 ?_
        first | refine s1 ?_ | refine F.appLN (α := Int) (oo := true) (.inr rfl) rfl .imm rfl rfl (by omega) (by omega) rfl rfl rfl rfl ?_
        refine tN ?_
        refine iP 10 ?_
        refine iO 12 ?_
        refine s1 ?_
        refine tN ?_
        refine iN ?_
        rotate_left
        refine ⟨_, rfl, ?_⟩
        refine s1 ?_
        refine tN ?_
        refine ARI.any [4, 5] (by kernel_rfl) (by simp) ?_
        intro k hk
        simp only [List.mem_cons, List.not_mem_nil, or_false] at hk
        rcases hk with rfl | rfl
        refine ⟨_, rfl, ?_⟩
        first | refine s1 ?_ | refine F.c (hC) ?_
        refine tN ?_
        refine iO 5 ?_
        refine s1 ?_
        refine tN ?_
        refine iO 8 ?_
        first | refine s1 ?_ | refine F.appLN (α := Int) (oo := true) (.inr rfl) rfl .imm rfl rfl (by omega) (by omega) rfl rfl rfl rfl ?_
        refine tN ?_
        refine iP 10 ?_
        refine iO 12 ?_
        refine s1 ?_
        refine tN ?_
        refine iN ?_
        rotate_left
        refine ⟨_, rfl, ?_⟩
        refine s1 ?_
        refine tN ?_
        refine iO 4 ?_
        first | refine s1 ?_ | refine F.c (hC) ?_
        refine tN ?_
        refine iO 8 ?_
        first | refine s1 ?_ | refine F.appLN (α := Int) (oo := true) (.inr rfl) rfl .imm rfl rfl (by omega) (by omega) rfl rfl rfl rfl ?_
        refine tN ?_
        refine iP 10 ?_
        refine iO 12 ?_
        refine s1 ?_
        refine tN ?_
        refine iN ?_
        rotate_left
        refine ⟨_, rfl, ?_⟩
        refine s1 ?_
        refine tN ?_
        refine ARI.any [4, 5, 9] (by kernel_rfl) (by simp) ?_
        intro k hk
        simp only [List.mem_cons, List.not_mem_nil, or_false] at hk
        rcases hk with rfl | rfl | rfl
        refine ⟨_, rfl, ?_⟩
        first | refine s1 ?_ | refine F.c (hC) ?_
        refine tN ?_
        refine ARI.any [5, 9] (by kernel_rfl) (by simp) ?_
        intro k hk
        simp only [List.mem_cons, List.not_mem_nil, or_false] at hk
        rcases hk with rfl | rfl
        refine ⟨_, rfl, ?_⟩
        refine s1 ?_
        refine tN ?_
        refine ARI.any [8, 9] (by kernel_rfl) (by simp) ?_
        intro k hk
        simp only [List.mem_cons, List.not_mem_nil, or_false] at hk
        rcases hk with rfl | rfl
        refine ⟨_, rfl, ?_⟩
        first | refine s1 ?_ | refine F.appLN (α := Int) (oo := true) (.inr rfl) rfl .imm rfl rfl (by omega) (by omega) rfl rfl rfl rfl ?_
        refine tN ?_
        refine iO 9 ?_
        refine s1 ?_
        refine tN ?_
        refine iP 10 ?_
        refine iO 12 ?_
        refine s1 ?_
        refine tN ?_
        refine iN ?_
        rotate_left
        refine ⟨_, rfl, ?_⟩
        refine s1 ?_
        refine tN ?_
        refine iO 8 ?_
        first | refine s1 ?_ | refine F.appLN (α := Int) (oo := true) (.inr rfl) rfl .imm rfl rfl (by omega) (by omega) rfl rfl rfl rfl ?_
        refine tN ?_
        refine iP 10 ?_
        refine iO 12 ?_
        refine s1 ?_
        refine tN ?_
        refine iN ?_
        rotate_left
        refine ⟨_, rfl, ?_⟩
        refine s1 ?_
        refine tN ?_
        refine iO 5 ?_
        refine s1 ?_
        refine tN ?_
        refine iO 8 ?_
        first | refine s1 ?_ | refine F.appLN (α := Int) (oo := true) (.inr rfl) rfl .imm rfl rfl (by omega) (by omega) rfl rfl rfl rfl ?_
        refine tN ?_
        refine iP 10 ?_
        refine iO 12 ?_
        refine s1 ?_
        refine tN ?_
        refine iN ?_
        rotate_left
        refine ⟨_, rfl, ?_⟩
        refine s1 ?_
        refine tN ?_
        refine ARI.any [4, 9] (by kernel_rfl) (by simp) ?_
        intro k hk
        simp only [List.mem_cons, List.not_mem_nil, or_false] at hk
        rcases hk with rfl | rfl
        refine ⟨_, rfl, ?_⟩
        first | refine s1 ?_ | refine F.c (hC) ?_
        refine tN ?_
        refine ARI.any [8, 9] (by kernel_rfl) (by simp) ?_
        intro k hk
        simp only [List.mem_cons, List.not_mem_nil, or_false] at hk
        rcases hk with rfl | rfl
        refine ⟨_, rfl, ?_⟩
        first | refine s1 ?_ | refine F.appLN (α := Int) (oo := true) (.inr rfl) rfl .imm rfl rfl (by omega) (by omega) rfl rfl rfl rfl ?_
        refine tN ?_
        refine iO 9 ?_
        refine s1 ?_
        refine tN ?_
        refine iP 10 ?_
        refine iO 12 ?_
        refine s1 ?_
        refine tN ?_
        refine iN ?_
        rotate_left
        refine ⟨_, rfl, ?_⟩
        refine s1 ?_
        refine tN ?_
        refine iO 8 ?_
        first | refine s1 ?_ | refine F.appLN (α := Int) (oo := true) (.inr rfl) rfl .imm rfl rfl (by omega) (by omega) rfl rfl rfl rfl ?_
        refine tN ?_
        refine iP 10 ?_
        refine iO 12 ?_
        refine s1 ?_
        refine tN ?_
        refine iN ?_
        rotate_left
        refine ⟨_, rfl, ?_⟩
        refine s1 ?_
        refine tN ?_
        refine iO 4 ?_
        first | refine s1 ?_ | refine F.c (hC) ?_
        refine tN ?_
        refine iO 8 ?_
        first | refine s1 ?_ | refine F.appLN (α := Int) (oo := true) (.inr rfl) rfl .imm rfl rfl (by omega) (by omega) rfl rfl rfl rfl ?_
        refine tN ?_
        refine iP 10 ?_
        refine iO 12 ?_
        refine s1 ?_
        refine tN ?_
        refine iN ?_
        rotate_left
        refine ⟨_, rfl, ?_⟩
        refine s1 ?_
        refine tN ?_
        refine ARI.any [4, 5] (by kernel_rfl) (by simp) ?_
        intro k hk
        simp only [List.mem_cons, List.not_mem_nil, or_false] at hk
        rcases hk with rfl | rfl
        refine ⟨_, rfl, ?_⟩
        first | refine s1 ?_ | refine F.c (hC) ?_
        refine tN ?_
        refine iO 5 ?_
        refine s1 ?_
        refine tN ?_
        refine iO 8 ?_
        first | refine s1 ?_ | refine F.appLN (α := Int) (oo := true) (.inr rfl) rfl .imm rfl rfl (by omega) (by omega) rfl rfl rfl rfl ?_
        refine tN ?_
        refine iP 10 ?_
        refine iO 12 ?_
        refine s1 ?_
        refine tN ?_
        refine iN ?_
        rotate_left
        refine ⟨_, rfl, ?_⟩
        refine s1 ?_
        refine tN ?_
        refine iO 4 ?_
        first | refine s1 ?_ | refine F.c (hC) ?_
        refine tN ?_
        refine iO 8 ?_
        first | refine s1 ?_ | refine F.appLN (α := Int) (oo := true) (.inr rfl) rfl .imm rfl rfl (by omega) (by omega) rfl rfl rfl rfl ?_
        refine tN ?_
        refine iP 10 ?_
        refine iO 12 ?_
        refine s1 ?_
        refine tN ?_
        refine iN ?_
        rotate_left
        all_goals
          repeat' first | refine s1 ?_ | fail
          first
            | (refine AW.only [(1, .ip (enc false r)), (2, .pt 1 1 0 0), (3, .pt 2 1 0 0), (4, .i 0)] [(1, .live false 6 [[.i 0, .i 0, .nl, .nl, .nl, .nl]]), (3, .live false 1 (E true r.q.fr)), (4, .live false 1 (E true r.q.to)), (5, .live false 1 (E true r.d)), (2, .live false 6 [[.i r.p, .i r.q.n, .sl 3 r.q.fr.length 0 r.q.fr.length, .sl 4 r.q.to.length 0 r.q.to.length, .sl 5 r.d.length 0 r.d.length, .em]])] 6 ⟨rfl, rfl, rfl, rfl, trivial⟩ ⟨rfl, rfl, rfl, rfl, rfl, trivial⟩ rfl ?_
               exact tail1.t)
            | (refine AW.only [(1, .ip (enc false r)), (2, .pt 1 1 0 0), (3, .pt 4 1 0 0), (4, .i 0)] [(1, .live false 6 [[.i 0, .i 0, .nl, .nl, .nl, .nl]]), (2, .live false 1 (E true r.q.fr)), (3, .live false 1 (E true r.q.to)), (5, .live false 1 (E true r.d)), (4, .live false 6 [[.i r.p, .i r.q.n, .sl 2 r.q.fr.length 0 r.q.fr.length, .sl 3 r.q.to.length 0 r.q.to.length, .sl 5 r.d.length 0 r.d.length, .em]])] 6 ⟨rfl, rfl, rfl, rfl, trivial⟩ ⟨rfl, rfl, rfl, rfl, rfl, trivial⟩ rfl ?_
               exact tail2.t)
            | (refine AW.only [(1, .ip (enc false r)), (2, .pt 1 1 0 0), (3, .pt 5 1 0 0), (4, .i 0)] [(1, .live false 6 [[.i 0, .i 0, .nl, .nl, .nl, .nl]]), (2, .live false 1 (E true r.q.fr)), (3, .live false 1 (E true r.q.to)), (4, .live false 1 (E true r.d)), (5, .live false 6 [[.i r.p, .i r.q.n, .sl 2 r.q.fr.length 0 r.q.fr.length, .sl 3 r.q.to.length 0 r.q.to.length, .sl 4 r.d.length 0 r.d.length, .em]])] 6 ⟨rfl, rfl, rfl, rfl, trivial⟩ ⟨rfl, rfl, rfl, rfl, rfl, trivial⟩ rfl ?_
               exact tail3.t)
      · refine AW.openV (o := 5) (j := 5) 3 rfl rfl (.inr rfl) rfl ?_
        refine F.loop (σ := Nat) [4, 16, 17, 18, 19, 20, 21, 22, 23, 24, 25, 26, 27, 28, 29, 30, 31, 32, 33] (fun k => [(4, .i k)]) (fun k => [(5, .live false 6 [[.i r.p, .i r.q.n, .sl 2 r.q.fr.length 0 r.q.fr.length, .sl 3 r.q.to.length 0 r.q.to.length, .sl 4 r.d.length 0 r.d.length, .sl 6 k 0 k]]), (6, .live false 3 (E true (r.m.take k)))]) (fun k => k ≤ r.m.length) (fun k => r.m.length - k) 0 ⟨rfl, trivial⟩ ⟨rfl, rfl, trivial⟩ (Nat.zero_le _) ?_
        rintro i i1
        have hp4 : (r.m.take i).length = i := by rw [List.length_take]; omega
        by_cases hi : i < r.m.length
        · have hB := hL i hi
          have ht := hmt i hi
          repeat' first | refine s1 ?_ | fail
          refine AW.draw 9 G.mixed (by kernel_rfl) ?_
          refine dP 0 ?_
          refine dL 1 ?_
          refine dP 2 ?_
          refine dL 3 ?_
          refine dP 4 ?_
          refine dP 5 ?_
          refine dL 6 ?_
          refine dO 7 true ?_
          first | refine s1 ?_ | refine F.c (hB) ?_
          refine tN ?_
          refine dO 8 true ?_
          refine s1 ?_
          refine tN ?_
          refine dO 9 false ?_
          first | refine s1 ?_ | refine F.a1 Mat (a := r.m.getD i default) ?_
          refine tN ?_
          refine dP 10 ?_
          refine dO 11 false ?_
          refine s1 ?_
          refine tN ?_
          refine dN ?_
          rotate_left
          all_goals
            repeat' first | refine s1 ?_ | fail
            exact ⟨i + 1, F.fit ⟨rfl, trivial⟩ ⟨rfl, obE (by rw [ht]), trivial⟩, by omega, by omega⟩
        · obtain rfl : i = r.m.length := by omega
          have e : r.m.take r.m.length = r.m := List.take_of_length_le (by omega)
          rw [e]
          clear hp4 e
          repeat' first | refine s1 ?_ | fail
          (refine kZ ?_; exact F.ret rfl)
    · refine AW.openV (o := 4) (j := 5) 3 rfl rfl (.inr rfl) rfl ?_
      refine F.loop (σ := Nat) [4, 16, 17, 18, 19, 20, 21, 22, 23, 24, 25, 26, 27, 28, 29, 30, 31, 32, 33] (fun k => [(4, .i k)]) (fun k => [(4, .live false 6 [[.i r.p, .i r.q.n, .sl 2 r.q.fr.length 0 r.q.fr.length, .sl 3 r.q.to.length 0 r.q.to.length, .sl 5 r.d.length 0 r.d.length, .sl 6 k 0 k]]), (6, .live false 3 (E true (r.m.take k)))]) (fun k => k ≤ r.m.length) (fun k => r.m.length - k) 0 ⟨rfl, trivial⟩ ⟨rfl, rfl, trivial⟩ (Nat.zero_le _) ?_
      rintro i i1
      have hp4 : (r.m.take i).length = i := by rw [List.length_take]; omega
      by_cases hi : i < r.m.length
      · have hB := hL i hi
        have ht := hmt i hi
        repeat' first | refine s1 ?_ | fail
        refine AW.draw 9 G.mixed (by kernel_rfl) ?_
        refine dP 0 ?_
        refine dL 1 ?_
        refine dP 2 ?_
        refine dL 3 ?_
        refine dP 4 ?_
        refine dP 5 ?_
        refine dL 6 ?_
        refine dO 7 true ?_
        first | refine s1 ?_ | refine F.c (hB) ?_
        refine tN ?_
        refine dO 8 true ?_
        refine s1 ?_
        refine tN ?_
        refine dO 9 false ?_
        first | refine s1 ?_ | refine F.a1 Mat (a := r.m.getD i default) ?_
        refine tN ?_
        refine dP 10 ?_
        refine dO 11 false ?_
        refine s1 ?_
        refine tN ?_
        refine dN ?_
        rotate_left
        all_goals
          repeat' first | refine s1 ?_ | fail
          exact ⟨i + 1, F.fit ⟨rfl, trivial⟩ ⟨rfl, obE (by rw [ht]), trivial⟩, by omega, by omega⟩
      · obtain rfl : i = r.m.length := by omega
        have e : r.m.take r.m.length = r.m := List.take_of_length_le (by omega)
        rw [e]
        clear hp4 e
        repeat' first | refine s1 ?_ | fail
        (refine kZ ?_; exact F.ret rfl)
  · refine AW.openV (o := 2) (j := 5) 3 rfl rfl (.inr rfl) rfl ?_
    refine F.loop (σ := Nat) [4, 16, 17, 18, 19, 20, 21, 22, 23, 24, 25, 26, 27, 28, 29, 30, 31, 32, 33] (fun k => [(4, .i k)]) (fun k => [(2, .live false 6 [[.i r.p, .i r.q.n, .sl 3 r.q.fr.length 0 r.q.fr.length, .sl 4 r.q.to.length 0 r.q.to.length, .sl 5 r.d.length 0 r.d.length, .sl 6 k 0 k]]), (6, .live false 3 (E true (r.m.take k)))]) (fun k => k ≤ r.m.length) (fun k => r.m.length - k) 0 ⟨rfl, trivial⟩ ⟨rfl, rfl, trivial⟩ (Nat.zero_le _) ?_
    rintro i i1
    have hp4 : (r.m.take i).length = i := by rw [List.length_take]; omega
    by_cases hi : i < r.m.length
    · have hB := hL i hi
      have ht := hmt i hi
      repeat' first | refine s1 ?_ | fail
      refine AW.draw 9 G.mixed (by kernel_rfl) ?_
      refine dP 0 ?_
      refine dL 1 ?_
      refine dP 2 ?_
      refine dL 3 ?_
      refine dP 4 ?_
      refine dP 5 ?_
      refine dL 6 ?_
      refine dO 7 true ?_
      first | refine s1 ?_ | refine F.c (hB) ?_
      refine tN ?_
      refine dO 8 true ?_
      refine s1 ?_
      refine tN ?_
      refine dO 9 false ?_
      first | refine s1 ?_ | refine F.a1 Mat (a := r.m.getD i default) ?_
      refine tN ?_
      refine dP 10 ?_
      refine dO 11 false ?_
      refine s1 ?_
      refine tN ?_
      refine dN ?_
      rotate_left
      all_goals
        repeat' first | refine s1 ?_ | fail
        exact ⟨i + 1, F.fit ⟨rfl, trivial⟩ ⟨rfl, obE (by rw [ht]), trivial⟩, by omega, by omega⟩
    · obtain rfl : i = r.m.length := by omega
      have e : r.m.take r.m.length = r.m := List.take_of_length_le (by omega)
      rw [e]
      clear hp4 e
      repeat' first | refine s1 ?_ | fail
      (refine kZ ?_; exact F.ret rfl)
end Go.Proofs.YtoilkinagffhiaaGreat.V
