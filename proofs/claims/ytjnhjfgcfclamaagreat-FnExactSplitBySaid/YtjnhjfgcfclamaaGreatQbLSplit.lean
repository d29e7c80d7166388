/- The law FnExactSplitBy holds for every input: program and reference return the same, the arguments stay as they were, and what is returned is in memory of its own. No condition. -/
import Derived.Test.YtjnhjfgcfclamaaGreatQbUm
import Derived.Test.YtjnhjfgcfclamaaGreatQbUg
import Derived.Test.YtjnhjfgcfclamaaGreatQbA94
import Derived.Test.YtjnhjfgcfclamaaGreatQbC1
import Derived.Test.YtjnhjfgcfclamaaGreatQbDown
import Derived.OpenShut
namespace Go.Proofs.YtjnhjfgcfclamaaGreat
open Go.ChangeShapes Go.WideShapes Go.ChangeAt Go.RowKit G D V
set_option linter.unusedVariables false
set_option linter.unusedSimpArgs false
set_option maxHeartbeats 8000000
set_option maxRecDepth 4000
attribute [local irreducible] V.AW V.ARg V.ARA V.ARet V.MRet V.ASil V.AC V.AM
theorem fnExactSplitBy.ac (r : Rep) (f : List Mat) : AC Tryz.prog 9 [.agg (enc false r), ar false f] [.b true] := by
  refine AC.go Tryz.func9 Tryz.ntmps9 rfl rfl fun w0 hw => ?_; simp [WfL, WfA, E_length, Enc.enc, In64] at hw
  have hZ0 := szRep_a r 1048576 (by decide) (by decide)
  have hb0 := sz1_le' (n := totR r) (l := 1048576)
  generalize sz1 (totR r) 1048576 = z0 at hZ0 hb0
  by_cases hs0 : 0 ≤ z0
  · have hb0 := hb0 hs0
    have hZ1 := szMatrixS_a f z0 hs0 (by omega)
    have hb1 := sz1_le' (n := totMS f) (l := z0)
    generalize sz1 (totMS f) z0 = z1 at hZ1 hb1
    by_cases hs1 : 0 ≤ z1
    · have hb1 := hb1 hs1
      have hT0 := toRep_a r (by omega)
      have hT1 := toMatrixS_a f (by omega)
      have hQ0 := eqRep_s r
      have hQ1 := eqMatrixS_s f
      have hS := specSplitBy_a r f
      have hI := implSplitBy_a r f
      have hc := spP_ct r f
      generalize spP r f = R at hS hI hc
      obtain ⟨r0, r1, r2⟩ := R
      dsimp only at hS hI hc
      have hE0 := eqSpaceS_s r0
      have hE1 := eqSpaceS_s r1
      have hN2 : (r2 != r2) = false := by simp
      have hct_r := ctR_le r
      have hct_f := ctMS_le f
      obtain ⟨_, _, _, _, _, _, _, _, hMa0, _⟩ := markR_o r (1) (by omega) (by omega)
      obtain ⟨_, _, hMa1, _⟩ := markMS_o f (1 + (ctR r : Nat)) (by omega) (by omega)
      obtain ⟨_, _, hM0, hH0⟩ := markSpS_k r0 (1) (by omega) (by omega)
      obtain ⟨_, _, hM1, hH1⟩ := markSpS_k r1 (1 + (cnt ctS r0 : Nat)) (by omega) (by omega)
      repeat' first | refine s1 ?_ | (refine kR ?_; first | refine F.c (hZ0) ?_ | refine F.sil (A.neqBB rfl rfl) rfl rfl ?_) | fail
      repeat' first | refine s1 ?_ | (refine kR ?_; first | refine F.c (hZ1) ?_ | refine F.sil (A.neqBB rfl rfl) rfl rfl ?_) | fail
      repeat' first | refine s1 ?_ | (refine kR ?_; first | refine F.c (hT0) ?_ | refine F.sil (A.neqBB rfl rfl) rfl rfl ?_) | fail
      repeat' first | refine s1 ?_ | (refine kR ?_; first | refine F.c (hT1) ?_ | refine F.sil (A.neqBB rfl rfl) rfl rfl ?_) | fail
      repeat' first | refine s1 ?_ | (refine kR ?_; first | refine F.c (hS) ?_ | refine F.sil (A.neqBB rfl rfl) rfl rfl ?_) | fail
      repeat' first | refine s1 ?_ | (refine kR ?_; first | refine F.c (hT0) ?_ | refine F.sil (A.neqBB rfl rfl) rfl rfl ?_) | fail
      repeat' first | refine s1 ?_ | (refine kR ?_; first | refine F.c (hT1) ?_ | refine F.sil (A.neqBB rfl rfl) rfl rfl ?_) | fail
      repeat' first | refine s1 ?_ | (refine kR ?_; first | refine F.c (hI) ?_ | refine F.sil (A.neqBB rfl rfl) rfl rfl ?_) | fail
      repeat' first | refine s1 ?_ | (refine kR ?_; first | refine F.c (hE0) ?_ | refine F.sil (A.neqBB rfl rfl) rfl rfl ?_) | fail
      repeat' first | refine s1 ?_ | (refine kR ?_; first | refine F.c (hE1) ?_ | refine F.sil (A.neqBB rfl rfl) rfl rfl ?_) | fail
      refine AW.draw 5 G.mixed (by kernel_rfl) ?_
      refine dL 0 ?_
      refine dL 1 ?_
      refine dO 2 true ?_
      first | refine s1 ?_ | refine F.c (hT0) ?_ | refine F.c (hQ0) ?_
      refine ARg.nil (ATh.normal ?_)
      refine dO 3 true ?_
      first | refine s1 ?_ | refine F.c (hT0) ?_ | refine F.c (hQ0) ?_
      refine ARg.nil (ATh.normal ?_)
      refine dP 4 ?_
      refine dN ?_
      repeat' first | refine s1 ?_ | (refine kR ?_; first | refine F.c (hT1) ?_ | refine F.sil (A.neqBB rfl rfl) rfl rfl ?_) | fail
      repeat' first | refine s1 ?_ | (refine kR ?_; first | refine F.c (hQ1) ?_ | refine F.sil (A.neqBB rfl rfl) rfl rfl ?_) | fail
      repeat' first | refine s1 ?_ | (refine kR ?_; first | refine F.m [8, 9, 10, 11] (hMa0) ?_ | refine F.sil (A.neqBB rfl rfl) rfl rfl ?_) | fail
      repeat' first | refine s1 ?_ | (refine kR ?_; first | refine F.m [13] (hMa1) ?_ | refine F.sil (A.neqBB rfl rfl) rfl rfl ?_) | fail
      repeat' first | refine s1 ?_ | (refine kR ?_; first | refine F.c (hE0) ?_ | refine F.sil (A.neqBB rfl rfl) rfl rfl ?_) | fail
      repeat' first | refine s1 ?_ | (refine kR ?_; first | refine F.c (hE1) ?_ | refine F.sil (A.neqBB rfl rfl) rfl rfl ?_) | fail
      repeat' first | refine s1 ?_ | (refine kR ?_; first | refine F.m [14] (hM0) ?_ | refine F.sil (A.neqBB rfl rfl) rfl rfl ?_) | fail
      repeat' first | refine s1 ?_ | (refine kR ?_; first | refine F.m [15] (hM1) ?_ | refine F.sil (A.neqBB rfl rfl) rfl rfl ?_) | fail
      repeat' first | refine s1 ?_ | (refine kR ?_; first | refine F.c (hH0) ?_ | refine F.sil (A.neqBB rfl rfl) rfl rfl ?_) | fail
      repeat' first | refine s1 ?_ | (refine kR ?_; first | refine F.c (hH1) ?_ | refine F.sil (A.neqBB rfl rfl) rfl rfl ?_) | fail
      repeat' first | refine s1 ?_ | (refine kR ?_; first | refine F.c (hT0) ?_ | refine F.sil (A.neqBB rfl rfl) rfl rfl ?_) | fail
      repeat' first | refine s1 ?_ | (refine kR ?_; first | refine F.c (hT1) ?_ | refine F.sil (A.neqBB rfl rfl) rfl rfl ?_) | fail
      repeat' first | refine s1 ?_ | (refine kR ?_; first | refine F.c (hI) ?_ | refine F.sil (A.neqBB rfl rfl) rfl rfl ?_) | fail
      repeat' first | refine s1 ?_ | (refine kR ?_; first | refine F.c (hE0) ?_ | refine F.sil (A.neqBB rfl rfl) rfl rfl ?_) | fail
      repeat' first | refine s1 ?_ | (refine kR ?_; first | refine F.c (hE1) ?_ | refine F.sil (A.neqBB rfl rfl) rfl rfl ?_) | fail
      repeat' first | refine s1 ?_ | (refine kR ?_; first | refine F.c (hH0) ?_ | refine F.sil (A.neqBB rfl rfl) rfl rfl ?_) | fail
      repeat' first | refine s1 ?_ | (refine kR ?_; first | refine F.c (hH1) ?_ | refine F.sil (A.neqBB rfl rfl) rfl rfl ?_) | fail
      repeat' first | refine s1 ?_ | (refine kR ?_; first | refine F.sil (A.neqBB rfl rfl) rfl rfl ?_) | fail
      (refine kZ ?_; exact F.ret rfl)
    · repeat' first | refine s1 ?_ | (refine kR ?_; first | refine F.c (hZ0) ?_ | refine F.c (hZ1) ?_) | fail
      (refine kZ ?_; exact F.ret rfl)
  · repeat' first | refine s1 ?_ | (refine kR ?_; first | refine F.c (hZ0) ?_) | fail
    (refine kZ ?_; exact F.ret rfl)
theorem fnExactSplitBy.walk (w : World) (x0 : Rep) (us0 : List Value) (F0 : List Nat) (h0 : repR.V w x0 us0 F0) (x1 : List Mat) (v1 : Value) (F1 : List Nat) (h1 : (listR V.matR).V w x1 [v1] F1) : Run Tryz.prog 9 [.agg us0.toArray, v1] w fun v w' => v = .bool true ∧ Later w w' :=
  (fnExactSplitBy.ac x0 x1).law (.agg (RdE.h h0) (.cons (RdE.h h1) (.nil w)))
namespace fnExactSplitBy
theorem own : ownKnob Tryz.prog.godebug = none := by kernel_rfl
theorem laidOut : laidOutB Tryz.prog = true := by kernel_rfl
set_option maxRecDepth 100000 in
theorem lifted (os : Os) (started : os.Started) (H : Type) (enc : TypeId × Value → H) :
    ReturnsInHanded {} Tryz.checked os 9 .any (Rows.fnExactSplitBySpec.pre6 enc Tryz.prog Tryz.f9 Rows.fnExactSplitByRow.domain false) (Rows.fnExactSplitBySpec.post enc Tryz.prog Tryz.f9 false true false false) := by
  refine returnsInHanded_of_change (C := Tryz.checked) own started (by kernel_rfl) Tryz.func9
    (ChangeSpec.witness6 (enc := enc) (C := Tryz.checked) false ⟨#[], #[.agg #[.int .i64 0, .int .i64 0, .slice none 0 0, .slice none 0 0, .slice none 0 0, .slice none 0 0], .slice none 0 0], []⟩ 8 (by kernel_rfl) (by kernel_rfl) (by kernel_rfl) (by kernel_rfl)) ?_
  intro W base args ds gs before hval0 hW hcnd _
  have hval : ∀ (j : Nat) t v, Tryz.f9.params[j]? = some t → args[j]? = some v → Value.okWide Tryz.prog W .any base t v := hval0
  have hW' := hW
  obtain ⟨p, q, hA0, hV, rfl, hfz, hnd⟩ := hW
  have hA : DataW.TrodAll enc Tryz.prog W 0 (fun _ => true) true Tryz.f9.params.toList args.toList ds p := hA0
  rw [Tryz.params9] at hA hval
  obtain ⟨v0, vs0, d0, ds0, p0, q0, hargs, rfl, rfl, h0, r0⟩ := trodAll_cons hA
  obtain ⟨v1, vs1, d1, ds1, p1, q1, rfl, rfl, rfl, h1, r1⟩ := trodAll_cons r0
  obtain ⟨rfl, rfl, rfl⟩ := trodAll_nil r1
  obtain rfl : args = #[v0, v1] := by cases args; simp_all
  obtain ⟨rfl, rfl⟩ := trodVars_none hV
  obtain ⟨⟨l0⟩, rfl, hsz0⟩ := okWide_struct Tryz.underlying27 (hval 0 27 v0 rfl rfl)
  have k0 := h0
  have lt0 : ∀ x ∈ p0, x.block < W.heap.size := by obtain ⟨m, hm⟩ := k0; exact DataW.trod_lt m _ _ _ hm
  obtain ⟨x0, F0, R0⟩ := Rds.argG (inferInstance : Rds Tryz.prog 27 _) k0
  obtain ⟨a1, len1, cap1, rfl⟩ := okWide_slice Tryz.underlying25 (hval 1 25 v1 rfl rfl)
  have k1 := h1
  have lt1 : ∀ x ∈ p1, x.block < W.heap.size := by obtain ⟨m, hm⟩ := k1; exact DataW.trod_lt m _ _ _ hm
  obtain ⟨x1, F1, R1⟩ := Rds.arg1 (inferInstance : Rds Tryz.prog 25 _) k1 rfl
  clear hA0 hval0
  refine (Run.calls (walk W x0 _ F0 R0 x1 _ F1 R1)).mono fun e W' ⟨v, he, hv, bel⟩ => ?_
  subst he
  subst hv
  exact ⟨_, rfl, _, _, _, [], _, [], hW', trodAll_mk1 (shut_bool Tryz.underlying4 _), (trodAll_cons_mk (Below.trod laidOut (by kernel_rfl) (of_decide_eq_true (by kernel_rfl)) k0 bel lt0) (trodAll_cons_mk (Below.trod laidOut (by kernel_rfl) (of_decide_eq_true (by kernel_rfl)) k1 bel lt1) trodAll_mk0)), rfl, bel.frame _, fun h => by cases h⟩
theorem down : V.downB Tryz.prog [] [46, 45, 74, 31, 10, 55, 54, 76, 33, 13, 105, 157, 156, 106, 132, 107, 64, 209, 210, 181, 130, 93, 95, 52, 131, 80, 190, 140, 84, 198, 199, 158, 118, 141, 50, 147, 109, 85, 110, 75, 87, 146, 142, 86, 42, 111, 161, 200, 196, 174, 160, 159, 69, 112, 162, 113, 68, 189, 206, 171, 122, 154, 139, 169, 120, 135, 202, 173, 124, 172, 123, 175, 126, 125, 77, 166, 143, 217, 214, 203, 164, 205, 170, 121, 191, 215, 204, 165, 116, 144, 83, 117, 78, 101, 88, 43, 39, 26, 61, 18, 59, 60, 17, 16, 40, 62, 21, 19, 27, 20, 41, 28, 44, 9] = true := by kernel_rfl
theorem closed : joinedFacts Tryz.pinned.checked.prog 9 Tryz.f9 Rows.fnExactSplitBySpec Rows.fnExactSplitByRow = true := by
  have h : Program.recurses Tryz.pinned.checked.prog 9 = Program.unfollowed Tryz.pinned.checked.prog 9 := V.recurses_down _ down (by kernel_rfl)
  unfold joinedFacts
  rw [h]
  change _ = _
  kernel_rfl
theorem over : Rows.fnExactSplitByRow.holds Tryz.pinned (OpenSpec.ofChange Rows.fnExactSplitBySpec) :=
  OpenClaim.holds_of_wide 9 Tryz.f9 rfl rfl rfl rfl rfl rfl rfl ⟨rfl, rfl, rfl, rfl, rfl⟩ rfl rfl rfl rfl rfl (by kernel_rfl) Tryz.func9 closed
    (of_decide_eq_true (by kernel_rfl)) (by unfold Func.isWrapper; first | (rw [if_pos (by decide +kernel)]; kernel_rfl) | (rw [if_neg (by decide +kernel)]; exact ⟨rfl, rfl⟩))
    (fun os started H enc _ => lifted os started H enc)
theorem proved : Rows.FnExactSplitBySaid := over
end fnExactSplitBy
end Go.Proofs.YtjnhjfgcfclamaaGreat
