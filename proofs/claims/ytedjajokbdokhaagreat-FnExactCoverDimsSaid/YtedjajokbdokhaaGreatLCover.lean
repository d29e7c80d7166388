/- The law FnExactCoverDims holds for every input: program and reference return the same, the arguments stay as they were, and what is returned is in memory of its own. No condition. -/
import Derived.Test.YtedjajokbdokhaaGreatHeaded
import Derived.Test.YtedjajokbdokhaaGreatUm
import Derived.Test.YtedjajokbdokhaaGreatA82
import Derived.Test.YtedjajokbdokhaaGreatDown
import Derived.OpenShut
namespace Go.Proofs.YtedjajokbdokhaaGreat
open V.Enc (enc)
open Go.ChangeShapes Go.WideShapes Go.ChangeAt Go.RowKit G D V
set_option linter.unusedVariables false
set_option linter.unusedSimpArgs false
set_option maxHeartbeats 8000000
set_option maxRecDepth 4000
attribute [local irreducible] V.AW V.ARg V.ARA V.ARet V.MRet V.ASil V.AC V.AM
theorem fnExactCoverDims.ac (r : Rep) : AC Tryz.prog 7 [.agg (enc false r)] [.b true] := by
  refine AC.go Tryz.func7 Tryz.ntmps7 rfl rfl fun w0 hw => ?_; simp [WfL, WfA, E_length, Enc.enc, In64] at hw
  have hZ0 := szRep_a r 1048576 (by decide) (by decide)
  have hb0 := sz1_le' (n := totR r) (l := 1048576)
  generalize sz1 (totR r) 1048576 = z0 at hZ0 hb0
  by_cases hs0 : 0 ≤ z0
  · have hb0 := hb0 hs0
    have hT0 := toRep_a r (by omega)
    have hQ0 := eqRep_s r
    have hS := specCoverDims_a r
    have hI := implCoverDims_a r
    have hc := covD_len r
    generalize covD r = r0 at hS hI hc
    have hE0 := eqIntS_s r0
    have hct_r := ctR_le r
    obtain ⟨_, _, _, _, _, _, _, _, hMa0, _⟩ := markR_o r (1) (by omega) (by omega)
    obtain ⟨_, _, hM0, hH0⟩ := markI_k r0 (1) (by omega) (by omega)
    repeat' first | refine s1 ?_ | (refine kR ?_; first | refine F.c (hZ0) ?_) | fail
    repeat' first | refine s1 ?_ | (refine kR ?_; first | refine F.c (hT0) ?_) | fail
    repeat' first | refine s1 ?_ | (refine kR ?_; first | refine F.c (hS) ?_) | fail
    repeat' first | refine s1 ?_ | (refine kR ?_; first | refine F.c (hT0) ?_) | fail
    repeat' first | refine s1 ?_ | (refine kR ?_; first | refine F.c (hI) ?_) | fail
    repeat' first | refine s1 ?_ | (refine kR ?_; first | refine F.c (hE0) ?_) | fail
    refine AW.draw 5 G.mixed (by kernel_rfl) ?_
    refine dL 0 ?_
    refine dL 1 ?_
    refine dO 2 true ?_
    first | refine s1 ?_ | refine F.c (hT0) ?_ | refine F.c (hQ0) ?_
    refine ARg.nil (ATh.normal ?_)
    refine dO 3 true ?_
    first | refine s1 ?_ | refine F.c (hT0) ?_ | refine F.c (hQ0) ?_
    refine ARg.nil (ATh.normal ?_)
    refine dP 4 ?_
    refine dN ?_
    repeat' first | refine s1 ?_ | (refine kR ?_; first | refine F.m [6, 7, 8, 9] (hMa0) ?_) | fail
    repeat' first | refine s1 ?_ | (refine kR ?_; first | refine F.c (hE0) ?_) | fail
    repeat' first | refine s1 ?_ | (refine kR ?_; first | refine F.m [11] (hM0) ?_) | fail
    repeat' first | refine s1 ?_ | (refine kR ?_; first | refine F.c (hH0) ?_) | fail
    repeat' first | refine s1 ?_ | (refine kR ?_; first | refine F.c (hT0) ?_) | fail
    repeat' first | refine s1 ?_ | (refine kR ?_; first | refine F.c (hI) ?_) | fail
    repeat' first | refine s1 ?_ | (refine kR ?_; first | refine F.c (hE0) ?_) | fail
    repeat' first | refine s1 ?_ | (refine kR ?_; first | refine F.c (hH0) ?_) | fail
    repeat' first | refine s1 ?_ | fail
    (refine kZ ?_; exact F.ret rfl)
  · repeat' first | refine s1 ?_ | (refine kR ?_; first | refine F.c (hZ0) ?_) | fail
    (refine kZ ?_; exact F.ret rfl)
theorem fnExactCoverDims.walk (w : World) (x0 : Rep) (us0 : List Value) (F0 : List Nat) (h0 : repR.V w x0 us0 F0) : Run Tryz.prog 7 [.agg us0.toArray] w fun v w' => v = .bool true ∧ Later w w' :=
  (fnExactCoverDims.ac x0).law (.agg (RdE.h h0) (.nil w))
namespace fnExactCoverDims
theorem own : ownKnob Tryz.prog.godebug = none := by kernel_rfl
theorem laidOut : laidOutB Tryz.prog = true := by kernel_rfl
set_option maxRecDepth 100000 in
theorem lifted (os : Os) (started : os.Started) (H : Type) (enc : TypeId × Value → H) :
    ReturnsInHanded {} Tryz.checked os 7 .any (Rows.fnExactCoverDimsSpec.pre6 enc Tryz.prog Tryz.f7 Rows.fnExactCoverDimsRow.domain false) (Rows.fnExactCoverDimsSpec.post enc Tryz.prog Tryz.f7 false true false false) := by
  refine returnsInHanded_of_change (C := Tryz.checked) own started (by kernel_rfl) Tryz.func7
    (ChangeSpec.witness6 (enc := enc) (C := Tryz.checked) false ⟨#[], #[.agg #[.int .i64 0, .int .i64 0, .slice none 0 0, .slice none 0 0, .slice none 0 0, .slice none 0 0]], []⟩ 8 (by kernel_rfl) (by kernel_rfl) (by kernel_rfl) (by kernel_rfl)) ?_
  intro W base args ds gs before hval0 hW hcnd _
  have hval : ∀ (j : Nat) t v, Tryz.f7.params[j]? = some t → args[j]? = some v → Value.okWide Tryz.prog W .any base t v := hval0
  have hW' := hW
  obtain ⟨p, q, hA0, hV, rfl, hfz, hnd⟩ := hW
  have hA : DataW.TrodAll enc Tryz.prog W 0 (fun _ => true) true Tryz.f7.params.toList args.toList ds p := hA0
  rw [Tryz.params7] at hA hval
  obtain ⟨v0, vs0, d0, ds0, p0, q0, hargs, rfl, rfl, h0, r0⟩ := trodAll_cons hA
  obtain ⟨rfl, rfl, rfl⟩ := trodAll_nil r0
  obtain rfl : args = #[v0] := by cases args; simp_all
  obtain ⟨rfl, rfl⟩ := trodVars_none hV
  obtain ⟨⟨l0⟩, rfl, hsz0⟩ := okWide_struct Tryz.underlying27 (hval 0 27 v0 rfl rfl)
  have k0 := h0
  have lt0 : ∀ x ∈ p0, x.block < W.heap.size := by obtain ⟨m, hm⟩ := k0; exact DataW.trod_lt m _ _ _ hm
  obtain ⟨x0, F0, R0⟩ := Rds.argG (inferInstance : Rds Tryz.prog 27 _) k0
  clear hA0 hval0
  refine (Run.calls (walk W x0 _ F0 R0)).mono fun e W' ⟨v, he, hv, bel⟩ => ?_
  subst he
  subst hv
  exact ⟨_, rfl, _, _, _, [], _, [], hW', trodAll_mk1 (shut_bool Tryz.underlying4 _), (trodAll_cons_mk (Below.trod laidOut (by kernel_rfl) (of_decide_eq_true (by kernel_rfl)) k0 bel lt0) trodAll_mk0), rfl, bel.frame _, fun h => by cases h⟩
theorem rec0 : Program.recurses Tryz.pinned.checked.prog 7 = true := V.recurses_at 207 207 (by kernel_rfl) (by kernel_rfl) (by kernel_rfl)
theorem unf : Program.unfollowed Tryz.pinned.checked.prog 7 = Rows.fnExactCoverDimsRow.unfollowed := by kernel_rfl
theorem inp : Program.inPlace Tryz.pinned.checked.prog 7 = Rows.fnExactCoverDimsRow.inPlace := by kernel_rfl
theorem vnm : Program.varsNamed Tryz.pinned.checked.prog 7 = Rows.fnExactCoverDimsRow.named := by kernel_rfl
theorem closed : joinedFacts Tryz.pinned.checked.prog 7 Tryz.f7 Rows.fnExactCoverDimsSpec Rows.fnExactCoverDimsRow = true := by
  unfold joinedFacts
  rw [rec0, unf, inp, vnm, V.hdEnter, V.hdLifts, V.hdMake]
  change _ = _
  kernel_rfl
theorem over : Rows.fnExactCoverDimsRow.holds Tryz.pinned (OpenSpec.ofChange Rows.fnExactCoverDimsSpec) :=
  OpenClaim.holds_of_wide 7 Tryz.f7 rfl rfl rfl rfl rfl rfl rfl ⟨rfl, rfl, rfl, rfl, rfl⟩ rfl rfl rfl rfl rfl (by kernel_rfl) Tryz.func7 closed
    (of_decide_eq_true (by kernel_rfl)) (by unfold Func.isWrapper; first | (rw [if_pos (by decide +kernel)]; kernel_rfl) | (rw [if_neg (by decide +kernel)]; exact ⟨rfl, rfl⟩))
    (fun os started H enc _ => lifted os started H enc)
theorem proved : Rows.FnExactCoverDimsSaid := over
end fnExactCoverDims
end Go.Proofs.YtedjajokbdokhaaGreat
