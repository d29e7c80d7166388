/- The law FnExactIsSplitSequence holds for every input: program and reference return the same, the arguments stay as they were. No condition. -/
import Derived.Test.YtanembgijdkagaaGreatHeaded
import Derived.Test.YtanembgijdkagaaGreatQzUm
import Derived.Test.YtanembgijdkagaaGreatQzUg
import Derived.Test.YtanembgijdkagaaGreatQzA105
import Derived.Test.YtanembgijdkagaaGreatQzDown
import Derived.OpenShut
namespace Go.Proofs.YtanembgijdkagaaGreat
open V.Enc (enc)
open Go.ChangeShapes Go.WideShapes Go.ChangeAt Go.RowKit G D V
set_option linter.unusedVariables false
set_option linter.unusedSimpArgs false
set_option maxHeartbeats 8000000
set_option maxRecDepth 4000
attribute [local irreducible] V.AW V.ARg V.ARA V.ARet V.MRet V.ASil V.AC V.AM
theorem fnExactIsSplitSequence.ac (a : Rep) (b : Rep) (f : List Mat) : AC Tryz.prog 5 [.agg (enc false a), .agg (enc false b), ar false f] [.b true] := by
  refine AC.go Tryz.func5 Tryz.ntmps5 rfl rfl fun w0 hw => ?_; simp [WfL, WfA, E_length, Enc.enc, In64] at hw
  have hZ0 := szRep_a a 1048576 (by decide) (by decide)
  have hb0 := sz1_le' (n := totR a) (l := 1048576)
  generalize sz1 (totR a) 1048576 = z0 at hZ0 hb0
  by_cases hs0 : 0 ≤ z0
  · have hb0 := hb0 hs0
    have hZ1 := szRep_a b z0 hs0 (by omega)
    have hb1 := sz1_le' (n := totR b) (l := z0)
    generalize sz1 (totR b) z0 = z1 at hZ1 hb1
    by_cases hs1 : 0 ≤ z1
    · have hb1 := hb1 hs1
      have hZ2 := szMatrixS_a f z1 hs1 (by omega)
      have hb2 := sz1_le' (n := totMS f) (l := z1)
      generalize sz1 (totMS f) z1 = z2 at hZ2 hb2
      by_cases hs2 : 0 ≤ z2
      · have hb2 := hb2 hs2
        have hT0 := toRep_a a (by omega)
        have hT1 := toRep_a b (by omega)
        have hT2 := toMatrixS_a f (by omega)
        have hQ0 := eqRep_s a
        have hQ1 := eqRep_s b
        have hQ2 := eqMatrixS_s f
        have hS := specIsSplitSequence_a a b f
        have hI := implIsSplitSequence_a a b f
        generalize splB a b f = r0 at hS hI 
        have hN0 : (r0 != r0) = false := by simp
        repeat' first | refine s1 ?_ | (refine kR ?_; first | refine F.c (hZ0) ?_ | refine F.sil (A.neqBB rfl rfl) rfl rfl ?_) | fail
        repeat' first | refine s1 ?_ | (refine kR ?_; first | refine F.c (hZ1) ?_ | refine F.sil (A.neqBB rfl rfl) rfl rfl ?_) | fail
        repeat' first | refine s1 ?_ | (refine kR ?_; first | refine F.c (hZ2) ?_ | refine F.sil (A.neqBB rfl rfl) rfl rfl ?_) | fail
        refine AW.draw 8 G.mixed (by kernel_rfl) ?_
        refine dL 0 ?_
        refine dL 2 ?_
        refine dP 4 ?_
        refine dO 1 true ?_
        first | refine s1 ?_ | refine F.c (hT0) ?_ | refine F.c (hT1) ?_ | refine F.c (hT2) ?_ | refine F.c (hS) ?_
        refine ARg.nil (ATh.normal ?_)
        refine dO 3 true ?_
        first | refine s1 ?_ | refine F.c (hT0) ?_ | refine F.c (hT1) ?_ | refine F.c (hT2) ?_ | refine F.c (hS) ?_
        refine ARg.nil (ATh.normal ?_)
        refine dO 5 true ?_
        first | refine s1 ?_ | refine F.c (hT0) ?_ | refine F.c (hT1) ?_ | refine F.c (hT2) ?_ | refine F.c (hS) ?_
        refine ARg.nil (ATh.normal ?_)
        refine dO 6 true ?_
        first | refine s1 ?_ | refine F.c (hT0) ?_ | refine F.c (hT1) ?_ | refine F.c (hT2) ?_ | refine F.c (hS) ?_
        refine ARg.nil (ATh.normal ?_)
        refine dP 7 ?_
        refine dN ?_
        repeat' first | refine s1 ?_ | (refine kR ?_; first | refine F.c (hT0) ?_ | refine F.sil (A.neqBB rfl rfl) rfl rfl ?_) | fail
        repeat' first | refine s1 ?_ | (refine kR ?_; first | refine F.c (hT1) ?_ | refine F.sil (A.neqBB rfl rfl) rfl rfl ?_) | fail
        repeat' first | refine s1 ?_ | (refine kR ?_; first | refine F.c (hT2) ?_ | refine F.sil (A.neqBB rfl rfl) rfl rfl ?_) | fail
        repeat' first | refine s1 ?_ | (refine kR ?_; first | refine F.c (hI) ?_ | refine F.sil (A.neqBB rfl rfl) rfl rfl ?_) | fail
        refine AW.draw 5 G.mixed (by kernel_rfl) ?_
        refine dL 0 ?_
        refine dL 1 ?_
        refine dO 2 true ?_
        first | refine s1 ?_ | refine F.c (hT0) ?_ | refine F.c (hQ0) ?_
        refine ARg.nil (ATh.normal ?_)
        refine dO 3 true ?_
        first | refine s1 ?_ | refine F.c (hT0) ?_ | refine F.c (hQ0) ?_
        refine ARg.nil (ATh.normal ?_)
        refine dP 4 ?_
        refine dN ?_
        repeat' first | refine s1 ?_ | fail
        refine AW.draw 5 G.mixed (by kernel_rfl) ?_
        refine dL 0 ?_
        refine dL 1 ?_
        refine dO 2 true ?_
        first | refine s1 ?_ | refine F.c (hT1) ?_ | refine F.c (hQ1) ?_
        refine ARg.nil (ATh.normal ?_)
        refine dO 3 true ?_
        first | refine s1 ?_ | refine F.c (hT1) ?_ | refine F.c (hQ1) ?_
        refine ARg.nil (ATh.normal ?_)
        refine dP 4 ?_
        refine dN ?_
        repeat' first | refine s1 ?_ | (refine kR ?_; first | refine F.c (hT2) ?_ | refine F.sil (A.neqBB rfl rfl) rfl rfl ?_) | fail
        repeat' first | refine s1 ?_ | (refine kR ?_; first | refine F.c (hQ2) ?_ | refine F.sil (A.neqBB rfl rfl) rfl rfl ?_) | fail
        repeat' first | refine s1 ?_ | (refine kR ?_; first | refine F.sil (A.neqBB rfl rfl) rfl rfl ?_) | fail
        (refine kZ ?_; exact F.ret rfl)
      · repeat' first | refine s1 ?_ | (refine kR ?_; first | refine F.c (hZ0) ?_ | refine F.c (hZ1) ?_ | refine F.c (hZ2) ?_) | fail
        (refine kZ ?_; exact F.ret rfl)
    · repeat' first | refine s1 ?_ | (refine kR ?_; first | refine F.c (hZ0) ?_ | refine F.c (hZ1) ?_) | fail
      (refine kZ ?_; exact F.ret rfl)
  · repeat' first | refine s1 ?_ | (refine kR ?_; first | refine F.c (hZ0) ?_) | fail
    (refine kZ ?_; exact F.ret rfl)
theorem fnExactIsSplitSequence.walk (w : World) (x0 : Rep) (us0 : List Value) (F0 : List Nat) (h0 : repR.V w x0 us0 F0) (x1 : Rep) (us1 : List Value) (F1 : List Nat) (h1 : repR.V w x1 us1 F1) (x2 : List Mat) (v2 : Value) (F2 : List Nat) (h2 : (listR V.matR).V w x2 [v2] F2) : Run Tryz.prog 5 [.agg us0.toArray, .agg us1.toArray, v2] w fun v w' => v = .bool true ∧ Later w w' :=
  (fnExactIsSplitSequence.ac x0 x1 x2).law (.agg (RdE.h h0) (.agg (RdE.h h1) (.cons (RdE.h h2) (.nil w))))
namespace fnExactIsSplitSequence
theorem own : ownKnob Tryz.prog.godebug = none := by kernel_rfl
theorem laidOut : laidOutB Tryz.prog = true := by kernel_rfl
set_option maxRecDepth 100000 in
theorem lifted (os : Os) (started : os.Started) (H : Type) (enc : TypeId × Value → H) :
    ReturnsInHanded {} Tryz.checked os 5 .any (Rows.fnExactIsSplitSequenceSpec.pre6 enc Tryz.prog Tryz.f5 Rows.fnExactIsSplitSequenceRow.domain false) (Rows.fnExactIsSplitSequenceSpec.post enc Tryz.prog Tryz.f5 false true false false) := by
  refine returnsInHanded_of_change (C := Tryz.checked) own started (by kernel_rfl) Tryz.func5
    (ChangeSpec.witness6 (enc := enc) (C := Tryz.checked) false ⟨#[], #[.agg #[.int .i64 0, .int .i64 0, .slice none 0 0, .slice none 0 0, .slice none 0 0, .slice none 0 0], .agg #[.int .i64 0, .int .i64 0, .slice none 0 0, .slice none 0 0, .slice none 0 0, .slice none 0 0], .slice none 0 0], []⟩ 8 (by kernel_rfl) (by kernel_rfl) (by kernel_rfl) (by kernel_rfl)) ?_
  intro W base args ds gs before hval0 hW hcnd _
  have hval : ∀ (j : Nat) t v, Tryz.f5.params[j]? = some t → args[j]? = some v → Value.okWide Tryz.prog W .any base t v := hval0
  have hW' := hW
  obtain ⟨p, q, hA0, hV, rfl, hfz, hnd⟩ := hW
  have hA : DataW.TrodAll enc Tryz.prog W 0 (fun _ => true) true Tryz.f5.params.toList args.toList ds p := hA0
  rw [Tryz.params5] at hA hval
  obtain ⟨v0, vs0, d0, ds0, p0, q0, hargs, rfl, rfl, h0, r0⟩ := trodAll_cons hA
  obtain ⟨v1, vs1, d1, ds1, p1, q1, rfl, rfl, rfl, h1, r1⟩ := trodAll_cons r0
  obtain ⟨v2, vs2, d2, ds2, p2, q2, rfl, rfl, rfl, h2, r2⟩ := trodAll_cons r1
  obtain ⟨rfl, rfl, rfl⟩ := trodAll_nil r2
  obtain rfl : args = #[v0, v1, v2] := by cases args; simp_all
  obtain ⟨rfl, rfl⟩ := trodVars_none hV
  obtain ⟨⟨l0⟩, rfl, hsz0⟩ := okWide_struct Tryz.underlying27 (hval 0 27 v0 rfl rfl)
  have k0 := h0
  have lt0 : ∀ x ∈ p0, x.block < W.heap.size := by obtain ⟨m, hm⟩ := k0; exact DataW.trod_lt m _ _ _ hm
  obtain ⟨x0, F0, R0⟩ := Rds.argG (inferInstance : Rds Tryz.prog 27 _) k0
  obtain ⟨⟨l1⟩, rfl, hsz1⟩ := okWide_struct Tryz.underlying27 (hval 1 27 v1 rfl rfl)
  have k1 := h1
  have lt1 : ∀ x ∈ p1, x.block < W.heap.size := by obtain ⟨m, hm⟩ := k1; exact DataW.trod_lt m _ _ _ hm
  obtain ⟨x1, F1, R1⟩ := Rds.argG (inferInstance : Rds Tryz.prog 27 _) k1
  obtain ⟨a2, len2, cap2, rfl⟩ := okWide_slice Tryz.underlying25 (hval 2 25 v2 rfl rfl)
  have k2 := h2
  have lt2 : ∀ x ∈ p2, x.block < W.heap.size := by obtain ⟨m, hm⟩ := k2; exact DataW.trod_lt m _ _ _ hm
  obtain ⟨x2, F2, R2⟩ := Rds.arg1 (inferInstance : Rds Tryz.prog 25 _) k2 rfl
  clear hA0 hval0
  refine (Run.calls (walk W x0 _ F0 R0 x1 _ F1 R1 x2 _ F2 R2)).mono fun e W' ⟨v, he, hv, bel⟩ => ?_
  subst he
  subst hv
  exact ⟨_, rfl, _, _, _, [], _, [], hW', trodAll_mk1 (shut_bool Tryz.underlying4 _), (trodAll_cons_mk (Below.trod laidOut (by kernel_rfl) (of_decide_eq_true (by kernel_rfl)) k0 bel lt0) (trodAll_cons_mk (Below.trod laidOut (by kernel_rfl) (of_decide_eq_true (by kernel_rfl)) k1 bel lt1) (trodAll_cons_mk (Below.trod laidOut (by kernel_rfl) (of_decide_eq_true (by kernel_rfl)) k2 bel lt2) trodAll_mk0))), rfl, bel.frame _, fun h => by cases h⟩
theorem down : V.downB Tryz.prog [] [39, 38, 61, 17, 10, 45, 44, 70, 19, 12, 128, 168, 167, 129, 169, 130, 82, 55, 116, 53, 156, 90, 107, 91, 157, 118, 159, 160, 121, 191, 158, 119, 62, 69, 151, 104, 122, 103, 105, 41, 63, 64, 120, 65, 68, 67, 66, 18, 132, 47, 199, 212, 193, 174, 173, 135, 133, 175, 134, 85, 78, 117, 57, 161, 95, 127, 147, 97, 146, 165, 190, 154, 192, 162, 194, 164, 163, 123, 213, 195, 166, 125, 152, 113, 71, 124, 73, 72, 112, 111, 155, 76, 110, 211, 189, 153, 109, 48, 74, 184, 148, 126, 75, 20, 52, 51, 77, 21, 14, 5] = true := by kernel_rfl
theorem rec0 : Program.recurses Tryz.pinned.checked.prog 5 = Program.unfollowed Tryz.pinned.checked.prog 5 := V.recurses_down _ down (by kernel_rfl)
theorem unf : Program.unfollowed Tryz.pinned.checked.prog 5 = Rows.fnExactIsSplitSequenceRow.unfollowed := by kernel_rfl
theorem inp : Program.inPlace Tryz.pinned.checked.prog 5 = Rows.fnExactIsSplitSequenceRow.inPlace := by kernel_rfl
theorem vnm : Program.varsNamed Tryz.pinned.checked.prog 5 = Rows.fnExactIsSplitSequenceRow.named := by kernel_rfl
theorem closed : joinedFacts Tryz.pinned.checked.prog 5 Tryz.f5 Rows.fnExactIsSplitSequenceSpec Rows.fnExactIsSplitSequenceRow = true := by
  unfold joinedFacts
  rw [rec0, unf, inp, vnm, V.hdEnter, V.hdLifts, V.hdMake]
  change _ = _
  kernel_rfl
theorem over : Rows.fnExactIsSplitSequenceRow.holds Tryz.pinned (OpenSpec.ofChange Rows.fnExactIsSplitSequenceSpec) :=
  OpenClaim.holds_of_wide 5 Tryz.f5 rfl rfl rfl rfl rfl rfl rfl ⟨rfl, rfl, rfl, rfl, rfl⟩ rfl rfl rfl rfl rfl (by kernel_rfl) Tryz.func5 closed
    (of_decide_eq_true (by kernel_rfl)) (by unfold Func.isWrapper; first | (rw [if_pos (by decide +kernel)]; kernel_rfl) | (rw [if_neg (by decide +kernel)]; exact ⟨rfl, rfl⟩))
    (fun os started H enc _ => lifted os started H enc)
theorem proved : Rows.FnExactIsSplitSequenceSaid := over
end fnExactIsSplitSequence
end Go.Proofs.YtanembgijdkagaaGreat
