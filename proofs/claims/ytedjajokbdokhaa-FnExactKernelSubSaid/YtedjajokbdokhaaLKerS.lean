/- The law FnExactKernelSub holds for every input: program and reference return the same, the arguments stay as they were, and what is returned is in memory of its own. No condition. -/
import Derived.Test.YtedjajokbdokhaaHeaded
import Derived.Test.YtedjajokbdokhaaUm
import Derived.Test.YtedjajokbdokhaaA73
import Derived.Test.YtedjajokbdokhaaDown
import Derived.OpenShut
namespace Go.Proofs.Ytedjajokbdokhaa
open V.Enc (enc)
open Go.ChangeShapes Go.WideShapes Go.ChangeAt Go.RowKit G D V
set_option linter.unusedVariables false
set_option linter.unusedSimpArgs false
set_option maxHeartbeats 8000000
set_option maxRecDepth 4000
attribute [local irreducible] V.AW V.ARg V.ARA V.ARet V.MRet V.ASil V.AC V.AM
theorem fnExactKernelSub.ac (a : Rep) (b : Rep) (f : List Mat) : AC Try.prog 6 [.agg (enc false a), .agg (enc false b), ar false f] [.b true] := by
  refine AC.go Try.func6 Try.ntmps6 rfl rfl fun w0 hw => ?_; simp [WfL, WfA, E_length, Enc.enc, In64] at hw
  have hZ0 := szRep_a a 1048576 (by decide) (by decide)
  have hb0 := sz1_le' (n := totR a) (l := 1048576)
  generalize sz1 (totR a) 1048576 = z0 at hZ0 hb0
  by_cases hs0 : 0 ≤ z0
  · have hb0 := hb0 hs0
    have hZ1 := szRep_a b z0 hs0 (by omega)
    have hb1 := sz1_le' (n := totR b) (l := z0)
    generalize sz1 (totR b) z0 = z1 at hZ1 hb1
    by_cases hs1 : 0 ≤ z1
    · have hb1 := hb1 hs1
      have hZ2 := szMatrixS_a f z1 hs1 (by omega)
      have hb2 := sz1_le' (n := totMS f) (l := z1)
      generalize sz1 (totMS f) z1 = z2 at hZ2 hb2
      by_cases hs2 : 0 ≤ z2
      · have hb2 := hb2 hs2
        have hT0 := toRep_a a (by omega)
        have hT1 := toRep_a b (by omega)
        have hT2 := toMatrixS_a f (by omega)
        have hQ0 := eqRep_s a
        have hQ1 := eqRep_s b
        have hQ2 := eqMatrixS_s f
        have hS := specKernelSub_a a b f
        have hI := implKernelSub_a a b f
        have hc := kerP_ct a b f
        generalize kerP a b f = R at hS hI hc
        obtain ⟨r0, r1⟩ := R
        dsimp only at hS hI hc
        have hE0 := eqSpaceS_s r0
        have hN1 : (r1 != r1) = false := by simp
        have hct_a := ctR_le a
        have hct_b := ctR_le b
        have hct_f := ctMS_le f
        obtain ⟨_, _, _, _, _, _, _, _, hMa0, _⟩ := markR_o a (1) (by omega) (by omega)
        obtain ⟨_, _, _, _, _, _, _, _, hMa1, _⟩ := markR_o b (1 + (ctR a : Nat)) (by omega) (by omega)
        obtain ⟨_, _, hMa2, _⟩ := markMS_o f (1 + (ctR a : Nat) + (ctR b : Nat)) (by omega) (by omega)
        obtain ⟨_, _, hM0, hH0⟩ := markSpS_k r0 (1) (by omega) (by omega)
        repeat' first | refine s1 ?_ | (refine kR ?_; first | refine F.c (hZ0) ?_ | refine F.sil (A.neqBB rfl rfl) rfl rfl ?_) | fail
        repeat' first | refine s1 ?_ | (refine kR ?_; first | refine F.c (hZ1) ?_ | refine F.sil (A.neqBB rfl rfl) rfl rfl ?_) | fail
        repeat' first | refine s1 ?_ | (refine kR ?_; first | refine F.c (hZ2) ?_ | refine F.sil (A.neqBB rfl rfl) rfl rfl ?_) | fail
        refine AW.draw 12 G.mixed (by kernel_rfl) ?_
        refine dL 0 ?_
        refine dL 2 ?_
        refine dP 4 ?_
        refine dO 1 true ?_
        first | refine s1 ?_ | refine F.c (hT0) ?_ | refine F.c (hT1) ?_ | refine F.c (hT2) ?_ | refine F.c (hS) ?_
        refine ARg.nil (ATh.normal ?_)
        refine dO 3 true ?_
        first | refine s1 ?_ | refine F.c (hT0) ?_ | refine F.c (hT1) ?_ | refine F.c (hT2) ?_ | refine F.c (hS) ?_
        refine ARg.nil (ATh.normal ?_)
        refine dO 5 true ?_
        first | refine s1 ?_ | refine F.c (hT0) ?_ | refine F.c (hT1) ?_ | refine F.c (hT2) ?_ | refine F.c (hS) ?_
        refine ARg.nil (ATh.normal ?_)
        refine dO 6 true ?_
        first | refine s1 ?_ | refine F.c (hT0) ?_ | refine F.c (hT1) ?_ | refine F.c (hT2) ?_ | refine F.c (hS) ?_
        refine ARg.nil (ATh.normal ?_)
        refine dP 7 ?_
        refine dP 8 ?_
        refine dP 9 ?_
        refine dP 10 ?_
        refine dP 11 ?_
        refine dN ?_
        repeat' first | refine s1 ?_ | (refine kR ?_; first | refine F.c (hT0) ?_ | refine F.sil (A.neqBB rfl rfl) rfl rfl ?_) | fail
        repeat' first | refine s1 ?_ | (refine kR ?_; first | refine F.c (hT1) ?_ | refine F.sil (A.neqBB rfl rfl) rfl rfl ?_) | fail
        repeat' first | refine s1 ?_ | (refine kR ?_; first | refine F.c (hT2) ?_ | refine F.sil (A.neqBB rfl rfl) rfl rfl ?_) | fail
        repeat' first | refine s1 ?_ | (refine kR ?_; first | refine F.c (hI) ?_ | refine F.sil (A.neqBB rfl rfl) rfl rfl ?_) | fail
        repeat' first | refine s1 ?_ | (refine kR ?_; first | refine F.c (hE0) ?_ | refine F.sil (A.neqBB rfl rfl) rfl rfl ?_) | fail
        refine AW.draw 5 G.mixed (by kernel_rfl) ?_
        refine dL 0 ?_
        refine dL 1 ?_
        refine dO 2 true ?_
        first | refine s1 ?_ | refine F.c (hT0) ?_ | refine F.c (hQ0) ?_
        refine ARg.nil (ATh.normal ?_)
        refine dO 3 true ?_
        first | refine s1 ?_ | refine F.c (hT0) ?_ | refine F.c (hQ0) ?_
        refine ARg.nil (ATh.normal ?_)
        refine dP 4 ?_
        refine dN ?_
        repeat' first | refine s1 ?_ | fail
        refine AW.draw 5 G.mixed (by kernel_rfl) ?_
        refine dL 0 ?_
        refine dL 1 ?_
        refine dO 2 true ?_
        first | refine s1 ?_ | refine F.c (hT1) ?_ | refine F.c (hQ1) ?_
        refine ARg.nil (ATh.normal ?_)
        refine dO 3 true ?_
        first | refine s1 ?_ | refine F.c (hT1) ?_ | refine F.c (hQ1) ?_
        refine ARg.nil (ATh.normal ?_)
        refine dP 4 ?_
        refine dN ?_
        repeat' first | refine s1 ?_ | (refine kR ?_; first | refine F.c (hT2) ?_ | refine F.sil (A.neqBB rfl rfl) rfl rfl ?_) | fail
        repeat' first | refine s1 ?_ | (refine kR ?_; first | refine F.c (hQ2) ?_ | refine F.sil (A.neqBB rfl rfl) rfl rfl ?_) | fail
        repeat' first | refine s1 ?_ | (refine kR ?_; first | refine F.m [12, 13, 14, 15] (hMa0) ?_ | refine F.sil (A.neqBB rfl rfl) rfl rfl ?_) | fail
        repeat' first | refine s1 ?_ | (refine kR ?_; first | refine F.m [17, 18, 19, 20] (hMa1) ?_ | refine F.sil (A.neqBB rfl rfl) rfl rfl ?_) | fail
        repeat' first | refine s1 ?_ | (refine kR ?_; first | refine F.m [22] (hMa2) ?_ | refine F.sil (A.neqBB rfl rfl) rfl rfl ?_) | fail
        repeat' first | refine s1 ?_ | (refine kR ?_; first | refine F.c (hE0) ?_ | refine F.sil (A.neqBB rfl rfl) rfl rfl ?_) | fail
        repeat' first | refine s1 ?_ | (refine kR ?_; first | refine F.m [23] (hM0) ?_ | refine F.sil (A.neqBB rfl rfl) rfl rfl ?_) | fail
        repeat' first | refine s1 ?_ | (refine kR ?_; first | refine F.c (hH0) ?_ | refine F.sil (A.neqBB rfl rfl) rfl rfl ?_) | fail
        refine AW.draw 12 G.mixed (by kernel_rfl) ?_
        refine dL 0 ?_
        refine dL 2 ?_
        refine dP 4 ?_
        refine dO 1 true ?_
        first | refine s1 ?_ | refine F.c (hT0) ?_ | refine F.c (hT1) ?_ | refine F.c (hT2) ?_ | refine F.c (hI) ?_
        refine ARg.nil (ATh.normal ?_)
        refine dO 3 true ?_
        first | refine s1 ?_ | refine F.c (hT0) ?_ | refine F.c (hT1) ?_ | refine F.c (hT2) ?_ | refine F.c (hI) ?_
        refine ARg.nil (ATh.normal ?_)
        refine dO 5 true ?_
        first | refine s1 ?_ | refine F.c (hT0) ?_ | refine F.c (hT1) ?_ | refine F.c (hT2) ?_ | refine F.c (hI) ?_
        refine ARg.nil (ATh.normal ?_)
        refine dO 6 true ?_
        first | refine s1 ?_ | refine F.c (hT0) ?_ | refine F.c (hT1) ?_ | refine F.c (hT2) ?_ | refine F.c (hI) ?_
        refine ARg.nil (ATh.normal ?_)
        refine dP 7 ?_
        refine dP 8 ?_
        refine dP 9 ?_
        refine dP 10 ?_
        refine dP 11 ?_
        refine dN ?_
        repeat' first | refine s1 ?_ | (refine kR ?_; first | refine F.c (hE0) ?_ | refine F.sil (A.neqBB rfl rfl) rfl rfl ?_) | fail
        repeat' first | refine s1 ?_ | (refine kR ?_; first | refine F.c (hH0) ?_ | refine F.sil (A.neqBB rfl rfl) rfl rfl ?_) | fail
        repeat' first | refine s1 ?_ | (refine kR ?_; first | refine F.sil (A.neqBB rfl rfl) rfl rfl ?_) | fail
        (refine kZ ?_; exact F.ret rfl)
      · repeat' first | refine s1 ?_ | (refine kR ?_; first | refine F.c (hZ0) ?_ | refine F.c (hZ1) ?_ | refine F.c (hZ2) ?_) | fail
        (refine kZ ?_; exact F.ret rfl)
    · repeat' first | refine s1 ?_ | (refine kR ?_; first | refine F.c (hZ0) ?_ | refine F.c (hZ1) ?_) | fail
      (refine kZ ?_; exact F.ret rfl)
  · repeat' first | refine s1 ?_ | (refine kR ?_; first | refine F.c (hZ0) ?_) | fail
    (refine kZ ?_; exact F.ret rfl)
theorem fnExactKernelSub.walk (w : World) (x0 : Rep) (us0 : List Value) (F0 : List Nat) (h0 : repR.V w x0 us0 F0) (x1 : Rep) (us1 : List Value) (F1 : List Nat) (h1 : repR.V w x1 us1 F1) (x2 : List Mat) (v2 : Value) (F2 : List Nat) (h2 : (listR V.matR).V w x2 [v2] F2) : Run Try.prog 6 [.agg us0.toArray, .agg us1.toArray, v2] w fun v w' => v = .bool true ∧ Later w w' :=
  (fnExactKernelSub.ac x0 x1 x2).law (.agg (RdE.h h0) (.agg (RdE.h h1) (.cons (RdE.h h2) (.nil w))))
namespace fnExactKernelSub
theorem own : ownKnob Try.prog.godebug = none := by kernel_rfl
theorem laidOut : laidOutB Try.prog = true := by kernel_rfl
set_option maxRecDepth 100000 in
theorem lifted (os : Os) (started : os.Started) (H : Type) (enc : TypeId × Value → H) :
    ReturnsInHanded {} Try.checked os 6 .any (Rows.fnExactKernelSubSpec.pre6 enc Try.prog Try.f6 Rows.fnExactKernelSubRow.domain false) (Rows.fnExactKernelSubSpec.post enc Try.prog Try.f6 false true false false) := by
  refine returnsInHanded_of_change (C := Try.checked) own started (by kernel_rfl) Try.func6
    (ChangeSpec.witness6 (enc := enc) (C := Try.checked) false ⟨#[], #[.agg #[.int .i64 0, .int .i64 0, .slice none 0 0, .slice none 0 0, .slice none 0 0, .slice none 0 0], .agg #[.int .i64 0, .int .i64 0, .slice none 0 0, .slice none 0 0, .slice none 0 0, .slice none 0 0], .slice none 0 0], []⟩ 8 (by kernel_rfl) (by kernel_rfl) (by kernel_rfl) (by kernel_rfl)) ?_
  intro W base args ds gs before hval0 hW hcnd _
  have hval : ∀ (j : Nat) t v, Try.f6.params[j]? = some t → args[j]? = some v → Value.okWide Try.prog W .any base t v := hval0
  have hW' := hW
  obtain ⟨p, q, hA0, hV, rfl, hfz, hnd⟩ := hW
  have hA : DataW.TrodAll enc Try.prog W 0 (fun _ => true) true Try.f6.params.toList args.toList ds p := hA0
  rw [Try.params6] at hA hval
  obtain ⟨v0, vs0, d0, ds0, p0, q0, hargs, rfl, rfl, h0, r0⟩ := trodAll_cons hA
  obtain ⟨v1, vs1, d1, ds1, p1, q1, rfl, rfl, rfl, h1, r1⟩ := trodAll_cons r0
  obtain ⟨v2, vs2, d2, ds2, p2, q2, rfl, rfl, rfl, h2, r2⟩ := trodAll_cons r1
  obtain ⟨rfl, rfl, rfl⟩ := trodAll_nil r2
  obtain rfl : args = #[v0, v1, v2] := by cases args; simp_all
  obtain ⟨rfl, rfl⟩ := trodVars_none hV
  obtain ⟨⟨l0⟩, rfl, hsz0⟩ := okWide_struct Try.underlying27 (hval 0 27 v0 rfl rfl)
  have k0 := h0
  have lt0 : ∀ x ∈ p0, x.block < W.heap.size := by obtain ⟨m, hm⟩ := k0; exact DataW.trod_lt m _ _ _ hm
  obtain ⟨x0, F0, R0⟩ := Rds.argG (inferInstance : Rds Try.prog 27 _) k0
  obtain ⟨⟨l1⟩, rfl, hsz1⟩ := okWide_struct Try.underlying27 (hval 1 27 v1 rfl rfl)
  have k1 := h1
  have lt1 : ∀ x ∈ p1, x.block < W.heap.size := by obtain ⟨m, hm⟩ := k1; exact DataW.trod_lt m _ _ _ hm
  obtain ⟨x1, F1, R1⟩ := Rds.argG (inferInstance : Rds Try.prog 27 _) k1
  obtain ⟨a2, len2, cap2, rfl⟩ := okWide_slice Try.underlying25 (hval 2 25 v2 rfl rfl)
  have k2 := h2
  have lt2 : ∀ x ∈ p2, x.block < W.heap.size := by obtain ⟨m, hm⟩ := k2; exact DataW.trod_lt m _ _ _ hm
  obtain ⟨x2, F2, R2⟩ := Rds.arg1 (inferInstance : Rds Try.prog 25 _) k2 rfl
  clear hA0 hval0
  refine (Run.calls (walk W x0 _ F0 R0 x1 _ F1 R1 x2 _ F2 R2)).mono fun e W' ⟨v, he, hv, bel⟩ => ?_
  subst he
  subst hv
  exact ⟨_, rfl, _, _, _, [], _, [], hW', trodAll_mk1 (shut_bool Try.underlying4 _), (trodAll_cons_mk (Below.trod laidOut (by kernel_rfl) (of_decide_eq_true (by kernel_rfl)) k0 bel lt0) (trodAll_cons_mk (Below.trod laidOut (by kernel_rfl) (of_decide_eq_true (by kernel_rfl)) k1 bel lt1) (trodAll_cons_mk (Below.trod laidOut (by kernel_rfl) (of_decide_eq_true (by kernel_rfl)) k2 bel lt2) trodAll_mk0))), rfl, bel.frame _, fun h => by cases h⟩
theorem down : V.downB Try.prog [] [30, 29, 38, 16, 7, 32, 31, 42, 18, 9, 106, 118, 122, 107, 119, 95, 73, 126, 117, 94, 60, 96, 77, 61, 62, 39, 97, 98, 65, 78, 51, 64, 63, 40, 27, 53, 82, 110, 121, 103, 80, 79, 81, 54, 83, 55, 33, 127, 120, 99, 66, 111, 92, 88, 101, 91, 113, 102, 68, 100, 67, 104, 70, 69, 43, 128, 123, 114, 89, 125, 116, 93, 59, 124, 115, 90, 58, 52, 28, 11, 72, 45, 20, 36, 46, 21, 12, 14, 37, 22, 13, 47, 23, 15, 48, 24, 6] = true := by kernel_rfl
theorem rec0 : Program.recurses Try.pinned.checked.prog 6 = Program.unfollowed Try.pinned.checked.prog 6 := V.recurses_down _ down (by kernel_rfl)
theorem unf : Program.unfollowed Try.pinned.checked.prog 6 = Rows.fnExactKernelSubRow.unfollowed := by kernel_rfl
theorem inp : Program.inPlace Try.pinned.checked.prog 6 = Rows.fnExactKernelSubRow.inPlace := by kernel_rfl
theorem vnm : Program.varsNamed Try.pinned.checked.prog 6 = Rows.fnExactKernelSubRow.named := by kernel_rfl
theorem closed : joinedFacts Try.pinned.checked.prog 6 Try.f6 Rows.fnExactKernelSubSpec Rows.fnExactKernelSubRow = true := by
  unfold joinedFacts
  rw [rec0, unf, inp, vnm, V.hdEnter, V.hdLifts, V.hdMake]
  change _ = _
  kernel_rfl
theorem over : Rows.fnExactKernelSubRow.holds Try.pinned (OpenSpec.ofChange Rows.fnExactKernelSubSpec) :=
  OpenClaim.holds_of_wide 6 Try.f6 rfl rfl rfl rfl rfl rfl rfl ⟨rfl, rfl, rfl, rfl, rfl⟩ rfl rfl rfl rfl rfl (by kernel_rfl) Try.func6 closed
    (of_decide_eq_true (by kernel_rfl)) (by unfold Func.isWrapper; first | (rw [if_pos (by decide +kernel)]; kernel_rfl) | (rw [if_neg (by decide +kernel)]; exact ⟨rfl, rfl⟩))
    (fun os started H enc _ => lifted os started H enc)
theorem proved : Rows.FnExactKernelSubSaid := over
end fnExactKernelSub
end Go.Proofs.Ytedjajokbdokhaa
