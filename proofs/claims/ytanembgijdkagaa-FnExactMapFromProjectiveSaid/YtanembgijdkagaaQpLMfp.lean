/- The law FnExactMapFromProjective holds for every input: program and reference return the same, the arguments stay as they were, and what is returned is in memory of its own. No condition. -/
import Derived.Test.YtanembgijdkagaaHeaded
import Derived.Test.YtanembgijdkagaaQpUm
import Derived.Test.YtanembgijdkagaaQpUg
import Derived.Test.YtanembgijdkagaaQpA96
import Derived.Test.YtanembgijdkagaaQpDown
import Derived.OpenShut
namespace Go.Proofs.Ytanembgijdkagaa
open V.Enc (enc)
open Go.ChangeShapes Go.WideShapes Go.ChangeAt Go.RowKit G D V
set_option linter.unusedVariables false
set_option linter.unusedSimpArgs false
set_option maxHeartbeats 8000000
set_option maxRecDepth 4000
attribute [local irreducible] V.AW V.ARg V.ARA V.ARet V.MRet V.ASil V.AC V.AM
theorem fnExactMapFromProjective.ac (r : Rep) (v : Int) (x : List Int) : AC Try.prog 7 [.agg (enc false r), .i v, ar false x] [.b true] := by
  refine AC.go Try.func7 Try.ntmps7 rfl rfl fun w0 hw => ?_; simp [WfL, WfA, E_length, Enc.enc, In64] at hw
  by_cases hl_x : x.length ≤ 1048576
  · replace hl_x := hl_x
    have hZ0 := szRep_a r 1048576 (by decide) (by decide)
    have hb0 := sz1_le' (n := totR r) (l := 1048576)
    generalize sz1 (totR r) 1048576 = z0 at hZ0 hb0
    by_cases hs0 : 0 ≤ z0
    · have hb0 := hb0 hs0
      have hT0 := toRep_a r (by omega)
      have hT1 := toIntS_a x (by omega)
      have hQ0 := eqRep_s r
      have hQ1 := eqIntS_s x
      have hS := specMapFromProjective_a r v x
      have hI := implMapFromProjective_a r v x
      have hc := mfpP_ct r v x
      generalize mfpP r v x = R at hS hI hc
      obtain ⟨r0, r1⟩ := R
      dsimp only at hS hI hc
      have hE0 := eqMatrixS_s r0
      have hN1 : (r1 != r1) = false := by simp
      have hct_r := ctR_le r
      obtain ⟨_, _, _, _, _, _, _, _, hMa0, _⟩ := markR_o r (1) (by omega) (by omega)
      obtain ⟨_, _, hMa1, _⟩ := markI_o x (1 + (ctR r : Nat)) (by omega) (by omega)
      obtain ⟨_, _, hM0, hH0⟩ := markMS_k r0 (1) (by omega) (by omega)
      repeat' first | refine s1 ?_ | (refine kR ?_; first | refine F.c (hZ0) ?_ | refine F.sil (A.neqBB rfl rfl) rfl rfl ?_) | fail
      repeat' first | refine s1 ?_ | (refine kR ?_; first | refine F.c (hT0) ?_ | refine F.sil (A.neqBB rfl rfl) rfl rfl ?_) | fail
      repeat' first | refine s1 ?_ | (refine kR ?_; first | refine F.c (hT1) ?_ | refine F.sil (A.neqBB rfl rfl) rfl rfl ?_) | fail
      repeat' first | refine s1 ?_ | (refine kR ?_; first | refine F.c (hS) ?_ | refine F.sil (A.neqBB rfl rfl) rfl rfl ?_) | fail
      repeat' first | refine s1 ?_ | (refine kR ?_; first | refine F.c (hT0) ?_ | refine F.sil (A.neqBB rfl rfl) rfl rfl ?_) | fail
      repeat' first | refine s1 ?_ | (refine kR ?_; first | refine F.c (hT1) ?_ | refine F.sil (A.neqBB rfl rfl) rfl rfl ?_) | fail
      repeat' first | refine s1 ?_ | (refine kR ?_; first | refine F.c (hI) ?_ | refine F.sil (A.neqBB rfl rfl) rfl rfl ?_) | fail
      repeat' first | refine s1 ?_ | (refine kR ?_; first | refine F.c (hE0) ?_ | refine F.sil (A.neqBB rfl rfl) rfl rfl ?_) | fail
      refine AW.draw 5 G.mixed (by kernel_rfl) ?_
      refine dL 0 ?_
      refine dL 1 ?_
      refine dO 2 true ?_
      first | refine s1 ?_ | refine F.c (hT0) ?_ | refine F.c (hQ0) ?_
      refine ARg.nil (ATh.normal ?_)
      refine dO 3 true ?_
      first | refine s1 ?_ | refine F.c (hT0) ?_ | refine F.c (hQ0) ?_
      refine ARg.nil (ATh.normal ?_)
      refine dP 4 ?_
      refine dN ?_
      repeat' first | refine s1 ?_ | (refine kR ?_; first | refine F.c (hT1) ?_ | refine F.sil (A.neqBB rfl rfl) rfl rfl ?_) | fail
      repeat' first | refine s1 ?_ | (refine kR ?_; first | refine F.c (hQ1) ?_ | refine F.sil (A.neqBB rfl rfl) rfl rfl ?_) | fail
      repeat' first | refine s1 ?_ | (refine kR ?_; first | refine F.m [7, 8, 9, 10] (hMa0) ?_ | refine F.sil (A.neqBB rfl rfl) rfl rfl ?_) | fail
      repeat' first | refine s1 ?_ | (refine kR ?_; first | refine F.m [12] (hMa1) ?_ | refine F.sil (A.neqBB rfl rfl) rfl rfl ?_) | fail
      repeat' first | refine s1 ?_ | (refine kR ?_; first | refine F.c (hE0) ?_ | refine F.sil (A.neqBB rfl rfl) rfl rfl ?_) | fail
      repeat' first | refine s1 ?_ | (refine kR ?_; first | refine F.m [13] (hM0) ?_ | refine F.sil (A.neqBB rfl rfl) rfl rfl ?_) | fail
      repeat' first | refine s1 ?_ | (refine kR ?_; first | refine F.c (hH0) ?_ | refine F.sil (A.neqBB rfl rfl) rfl rfl ?_) | fail
      repeat' first | refine s1 ?_ | (refine kR ?_; first | refine F.c (hT0) ?_ | refine F.sil (A.neqBB rfl rfl) rfl rfl ?_) | fail
      repeat' first | refine s1 ?_ | (refine kR ?_; first | refine F.c (hT1) ?_ | refine F.sil (A.neqBB rfl rfl) rfl rfl ?_) | fail
      repeat' first | refine s1 ?_ | (refine kR ?_; first | refine F.c (hI) ?_ | refine F.sil (A.neqBB rfl rfl) rfl rfl ?_) | fail
      repeat' first | refine s1 ?_ | (refine kR ?_; first | refine F.c (hE0) ?_ | refine F.sil (A.neqBB rfl rfl) rfl rfl ?_) | fail
      repeat' first | refine s1 ?_ | (refine kR ?_; first | refine F.c (hH0) ?_ | refine F.sil (A.neqBB rfl rfl) rfl rfl ?_) | fail
      repeat' first | refine s1 ?_ | (refine kR ?_; first | refine F.sil (A.neqBB rfl rfl) rfl rfl ?_) | fail
      (refine kZ ?_; exact F.ret rfl)
    · repeat' first | refine s1 ?_ | (refine kR ?_; first | refine F.c (hZ0) ?_) | fail
      (refine kZ ?_; exact F.ret rfl)
  · repeat' first | refine s1 ?_ | fail
    (refine kZ ?_; exact F.ret rfl)
theorem fnExactMapFromProjective.walk (w : World) (x0 : Rep) (us0 : List Value) (F0 : List Nat) (h0 : repR.V w x0 us0 F0) (x1 : Int) (hx1 : In64 x1) (x2 : List Int) (v2 : Value) (F2 : List Nat) (h2 : (listR intR).V w x2 [v2] F2) : Run Try.prog 7 [.agg us0.toArray, .int .i64 x1, v2] w fun v w' => v = .bool true ∧ Later w w' :=
  (fnExactMapFromProjective.ac x0 x1 x2).law (.agg (RdE.h h0) (.int hx1 (.cons (RdE.h h2) (.nil w))))
namespace fnExactMapFromProjective
theorem own : ownKnob Try.prog.godebug = none := by kernel_rfl
theorem laidOut : laidOutB Try.prog = true := by kernel_rfl
set_option maxRecDepth 100000 in
theorem lifted (os : Os) (started : os.Started) (H : Type) (enc : TypeId × Value → H) :
    ReturnsInHanded {} Try.checked os 7 .any (Rows.fnExactMapFromProjectiveSpec.pre6 enc Try.prog Try.f7 Rows.fnExactMapFromProjectiveRow.domain false) (Rows.fnExactMapFromProjectiveSpec.post enc Try.prog Try.f7 false true false false) := by
  refine returnsInHanded_of_change (C := Try.checked) own started (by kernel_rfl) Try.func7
    (ChangeSpec.witness6 (enc := enc) (C := Try.checked) false ⟨#[], #[.agg #[.int .i64 0, .int .i64 0, .slice none 0 0, .slice none 0 0, .slice none 0 0, .slice none 0 0], .int .i64 0, .slice none 0 0], []⟩ 8 (by kernel_rfl) (by kernel_rfl) (by kernel_rfl) (by kernel_rfl)) ?_
  intro W base args ds gs before hval0 hW hcnd _
  have hval : ∀ (j : Nat) t v, Try.f7.params[j]? = some t → args[j]? = some v → Value.okWide Try.prog W .any base t v := hval0
  have hW' := hW
  obtain ⟨p, q, hA0, hV, rfl, hfz, hnd⟩ := hW
  have hA : DataW.TrodAll enc Try.prog W 0 (fun _ => true) true Try.f7.params.toList args.toList ds p := hA0
  rw [Try.params7] at hA hval
  obtain ⟨v0, vs0, d0, ds0, p0, q0, hargs, rfl, rfl, h0, r0⟩ := trodAll_cons hA
  obtain ⟨v1, vs1, d1, ds1, p1, q1, rfl, rfl, rfl, h1, r1⟩ := trodAll_cons r0
  obtain ⟨v2, vs2, d2, ds2, p2, q2, rfl, rfl, rfl, h2, r2⟩ := trodAll_cons r1
  obtain ⟨rfl, rfl, rfl⟩ := trodAll_nil r2
  obtain rfl : args = #[v0, v1, v2] := by cases args; simp_all
  obtain ⟨rfl, rfl⟩ := trodVars_none hV
  obtain ⟨⟨l0⟩, rfl, hsz0⟩ := okWide_struct Try.underlying40 (hval 0 40 v0 rfl rfl)
  have k0 := h0
  have lt0 : ∀ x ∈ p0, x.block < W.heap.size := by obtain ⟨m, hm⟩ := k0; exact DataW.trod_lt m _ _ _ hm
  obtain ⟨x0, F0, R0⟩ := Rds.argG (inferInstance : Rds Try.prog 40 _) k0
  obtain ⟨a1, rfl, rfl, rfl, w1⟩ := open_int Try.underlying3 (hval 1 3 v1 rfl rfl) h1
  have b1 : In64 a1 := by simpa [Lit.wf, IntKind.min, IntKind.max, IntKind.signed, IntKind.bits, In64] using w1
  obtain ⟨a2, len2, cap2, rfl⟩ := okWide_slice Try.underlying22 (hval 2 22 v2 rfl rfl)
  have k2 := h2
  have lt2 : ∀ x ∈ p2, x.block < W.heap.size := by obtain ⟨m, hm⟩ := k2; exact DataW.trod_lt m _ _ _ hm
  obtain ⟨x2, F2, R2⟩ := Rds.arg1 (inferInstance : Rds Try.prog 22 _) k2 rfl
  clear hA0 hval0
  refine (Run.calls (walk W x0 _ F0 R0 a1 b1 x2 _ F2 R2)).mono fun e W' ⟨v, he, hv, bel⟩ => ?_
  subst he
  subst hv
  exact ⟨_, rfl, _, _, _, [], _, [], hW', trodAll_mk1 (shut_bool Try.underlying4 _), (trodAll_cons_mk (Below.trod laidOut (by kernel_rfl) (of_decide_eq_true (by kernel_rfl)) k0 bel lt0) (trodAll_cons_mk (shut_int Try.underlying3 w1) (trodAll_cons_mk (Below.trod laidOut (by kernel_rfl) (of_decide_eq_true (by kernel_rfl)) k2 bel lt2) trodAll_mk0))), rfl, bel.frame _, fun h => by cases h⟩
theorem rec0 : Program.recurses Try.pinned.checked.prog 7 = true := V.recurses_at 100 100 (by kernel_rfl) (by kernel_rfl) (by kernel_rfl)
theorem unf : Program.unfollowed Try.pinned.checked.prog 7 = Rows.fnExactMapFromProjectiveRow.unfollowed := by kernel_rfl
theorem inp : Program.inPlace Try.pinned.checked.prog 7 = Rows.fnExactMapFromProjectiveRow.inPlace := by kernel_rfl
theorem vnm : Program.varsNamed Try.pinned.checked.prog 7 = Rows.fnExactMapFromProjectiveRow.named := by kernel_rfl
theorem closed : joinedFacts Try.pinned.checked.prog 7 Try.f7 Rows.fnExactMapFromProjectiveSpec Rows.fnExactMapFromProjectiveRow = true := by
  unfold joinedFacts
  rw [rec0, unf, inp, vnm, V.hdEnter, V.hdLifts, V.hdMake]
  change _ = _
  kernel_rfl
theorem over : Rows.fnExactMapFromProjectiveRow.holds Try.pinned (OpenSpec.ofChange Rows.fnExactMapFromProjectiveSpec) :=
  OpenClaim.holds_of_wide 7 Try.f7 rfl rfl rfl rfl rfl rfl rfl ⟨rfl, rfl, rfl, rfl, rfl⟩ rfl rfl rfl rfl rfl (by kernel_rfl) Try.func7 closed
    (of_decide_eq_true (by kernel_rfl)) (by unfold Func.isWrapper; first | (rw [if_pos (by decide +kernel)]; kernel_rfl) | (rw [if_neg (by decide +kernel)]; exact ⟨rfl, rfl⟩))
    (fun os started H enc _ => lifted os started H enc)
theorem proved : Rows.FnExactMapFromProjectiveSaid := over
end fnExactMapFromProjective
end Go.Proofs.Ytanembgijdkagaa
