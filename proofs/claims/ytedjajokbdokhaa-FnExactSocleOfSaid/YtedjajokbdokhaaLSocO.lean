/- The law FnExactSocleOf holds for every input: program and reference return the same, the arguments stay as they were, and what is returned is in memory of its own. No condition. -/
import Derived.Test.YtedjajokbdokhaaHeaded
import Derived.Test.YtedjajokbdokhaaUm
import Derived.Test.YtedjajokbdokhaaC2
import Derived.Test.YtedjajokbdokhaaDown
import Derived.OpenShut
namespace Go.Proofs.Ytedjajokbdokhaa
open V.Enc (enc)
open Go.ChangeShapes Go.WideShapes Go.ChangeAt Go.RowKit G D V
set_option linter.unusedVariables false
set_option linter.unusedSimpArgs false
set_option maxHeartbeats 8000000
set_option maxRecDepth 4000
attribute [local irreducible] V.AW V.ARg V.ARA V.ARet V.MRet V.ASil V.AC V.AM
theorem fnExactSocleOf.ac (r : Rep) : AC Try.prog 5 [.agg (enc false r)] [.b true] := by
  refine AC.go Try.func5 Try.ntmps5 rfl rfl fun w0 hw => ?_; simp [WfL, WfA, E_length, Enc.enc, In64] at hw
  have hZ0 := szRep_a r 1048576 (by decide) (by decide)
  have hb0 := sz1_le' (n := totR r) (l := 1048576)
  generalize sz1 (totR r) 1048576 = z0 at hZ0 hb0
  by_cases hs0 : 0 ≤ z0
  · have hb0 := hb0 hs0
    have hT0 := toRep_a r (by omega)
    have hQ0 := eqRep_s r
    have hS := specSocleOf_a r
    have hI := implSocleOf_a r
    have hc := socP_ct r
    generalize socP r = R at hS hI hc
    obtain ⟨r0, r1⟩ := R
    dsimp only at hS hI hc
    have hE0 := eqSpaceS_s r0
    have hN1 : (r1 != r1) = false := by simp
    have hct_r := ctR_le r
    obtain ⟨_, _, _, _, _, _, _, _, hMa0, _⟩ := markR_o r (1) (by omega) (by omega)
    obtain ⟨_, _, hM0, hH0⟩ := markSpS_k r0 (1) (by omega) (by omega)
    repeat' first | refine s1 ?_ | (refine kR ?_; first | refine F.c (hZ0) ?_ | refine F.sil (A.neqBB rfl rfl) rfl rfl ?_) | fail
    repeat' first | refine s1 ?_ | (refine kR ?_; first | refine F.c (hT0) ?_ | refine F.sil (A.neqBB rfl rfl) rfl rfl ?_) | fail
    repeat' first | refine s1 ?_ | (refine kR ?_; first | refine F.c (hS) ?_ | refine F.sil (A.neqBB rfl rfl) rfl rfl ?_) | fail
    repeat' first | refine s1 ?_ | (refine kR ?_; first | refine F.c (hT0) ?_ | refine F.sil (A.neqBB rfl rfl) rfl rfl ?_) | fail
    repeat' first | refine s1 ?_ | (refine kR ?_; first | refine F.c (hI) ?_ | refine F.sil (A.neqBB rfl rfl) rfl rfl ?_) | fail
    repeat' first | refine s1 ?_ | (refine kR ?_; first | refine F.c (hE0) ?_ | refine F.sil (A.neqBB rfl rfl) rfl rfl ?_) | fail
    refine AW.draw 5 G.mixed (by kernel_rfl) ?_
    refine dL 0 ?_
    refine dL 1 ?_
    refine dO 2 true ?_
    first | refine s1 ?_ | refine F.c (hT0) ?_ | refine F.c (hQ0) ?_
    refine ARg.nil (ATh.normal ?_)
    refine dO 3 true ?_
    first | refine s1 ?_ | refine F.c (hT0) ?_ | refine F.c (hQ0) ?_
    refine ARg.nil (ATh.normal ?_)
    refine dP 4 ?_
    refine dN ?_
    repeat' first | refine s1 ?_ | (refine kR ?_; first | refine F.m [6, 7, 8, 9] (hMa0) ?_ | refine F.sil (A.neqBB rfl rfl) rfl rfl ?_) | fail
    repeat' first | refine s1 ?_ | (refine kR ?_; first | refine F.c (hE0) ?_ | refine F.sil (A.neqBB rfl rfl) rfl rfl ?_) | fail
    repeat' first | refine s1 ?_ | (refine kR ?_; first | refine F.m [11] (hM0) ?_ | refine F.sil (A.neqBB rfl rfl) rfl rfl ?_) | fail
    repeat' first | refine s1 ?_ | (refine kR ?_; first | refine F.c (hH0) ?_ | refine F.sil (A.neqBB rfl rfl) rfl rfl ?_) | fail
    repeat' first | refine s1 ?_ | (refine kR ?_; first | refine F.c (hT0) ?_ | refine F.sil (A.neqBB rfl rfl) rfl rfl ?_) | fail
    repeat' first | refine s1 ?_ | (refine kR ?_; first | refine F.c (hI) ?_ | refine F.sil (A.neqBB rfl rfl) rfl rfl ?_) | fail
    repeat' first | refine s1 ?_ | (refine kR ?_; first | refine F.c (hE0) ?_ | refine F.sil (A.neqBB rfl rfl) rfl rfl ?_) | fail
    repeat' first | refine s1 ?_ | (refine kR ?_; first | refine F.c (hH0) ?_ | refine F.sil (A.neqBB rfl rfl) rfl rfl ?_) | fail
    repeat' first | refine s1 ?_ | (refine kR ?_; first | refine F.sil (A.neqBB rfl rfl) rfl rfl ?_) | fail
    (refine kZ ?_; exact F.ret rfl)
  · repeat' first | refine s1 ?_ | (refine kR ?_; first | refine F.c (hZ0) ?_) | fail
    (refine kZ ?_; exact F.ret rfl)
theorem fnExactSocleOf.walk (w : World) (x0 : Rep) (us0 : List Value) (F0 : List Nat) (h0 : repR.V w x0 us0 F0) : Run Try.prog 5 [.agg us0.toArray] w fun v w' => v = .bool true ∧ Later w w' :=
  (fnExactSocleOf.ac x0).law (.agg (RdE.h h0) (.nil w))
namespace fnExactSocleOf
theorem own : ownKnob Try.prog.godebug = none := by kernel_rfl
theorem laidOut : laidOutB Try.prog = true := by kernel_rfl
set_option maxRecDepth 100000 in
theorem lifted (os : Os) (started : os.Started) (H : Type) (enc : TypeId × Value → H) :
    ReturnsInHanded {} Try.checked os 5 .any (Rows.fnExactSocleOfSpec.pre6 enc Try.prog Try.f5 Rows.fnExactSocleOfRow.domain false) (Rows.fnExactSocleOfSpec.post enc Try.prog Try.f5 false true false false) := by
  refine returnsInHanded_of_change (C := Try.checked) own started (by kernel_rfl) Try.func5
    (ChangeSpec.witness6 (enc := enc) (C := Try.checked) false ⟨#[], #[.agg #[.int .i64 0, .int .i64 0, .slice none 0 0, .slice none 0 0, .slice none 0 0, .slice none 0 0]], []⟩ 8 (by kernel_rfl) (by kernel_rfl) (by kernel_rfl) (by kernel_rfl)) ?_
  intro W base args ds gs before hval0 hW hcnd _
  have hval : ∀ (j : Nat) t v, Try.f5.params[j]? = some t → args[j]? = some v → Value.okWide Try.prog W .any base t v := hval0
  have hW' := hW
  obtain ⟨p, q, hA0, hV, rfl, hfz, hnd⟩ := hW
  have hA : DataW.TrodAll enc Try.prog W 0 (fun _ => true) true Try.f5.params.toList args.toList ds p := hA0
  rw [Try.params5] at hA hval
  obtain ⟨v0, vs0, d0, ds0, p0, q0, hargs, rfl, rfl, h0, r0⟩ := trodAll_cons hA
  obtain ⟨rfl, rfl, rfl⟩ := trodAll_nil r0
  obtain rfl : args = #[v0] := by cases args; simp_all
  obtain ⟨rfl, rfl⟩ := trodVars_none hV
  obtain ⟨⟨l0⟩, rfl, hsz0⟩ := okWide_struct Try.underlying27 (hval 0 27 v0 rfl rfl)
  have k0 := h0
  have lt0 : ∀ x ∈ p0, x.block < W.heap.size := by obtain ⟨m, hm⟩ := k0; exact DataW.trod_lt m _ _ _ hm
  obtain ⟨x0, F0, R0⟩ := Rds.argG (inferInstance : Rds Try.prog 27 _) k0
  clear hA0 hval0
  refine (Run.calls (walk W x0 _ F0 R0)).mono fun e W' ⟨v, he, hv, bel⟩ => ?_
  subst he
  subst hv
  exact ⟨_, rfl, _, _, _, [], _, [], hW', trodAll_mk1 (shut_bool Try.underlying4 _), (trodAll_cons_mk (Below.trod laidOut (by kernel_rfl) (of_decide_eq_true (by kernel_rfl)) k0 bel lt0) trodAll_mk0), rfl, bel.frame _, fun h => by cases h⟩
theorem down : V.downB Try.prog [] [30, 29, 38, 16, 7, 32, 31, 42, 18, 9, 106, 118, 122, 107, 119, 95, 73, 96, 74, 97, 77, 98, 65, 63, 49, 78, 51, 64, 40, 108, 109, 75, 76, 50, 25, 53, 82, 110, 121, 103, 80, 79, 81, 54, 83, 55, 33, 111, 84, 92, 91, 85, 56, 113, 128, 123, 114, 88, 89, 125, 116, 93, 59, 124, 115, 90, 58, 112, 87, 86, 57, 35, 26, 11, 72, 45, 20, 36, 46, 21, 12, 14, 37, 22, 13, 47, 23, 15, 48, 24, 5] = true := by kernel_rfl
theorem rec0 : Program.recurses Try.pinned.checked.prog 5 = Program.unfollowed Try.pinned.checked.prog 5 := V.recurses_down _ down (by kernel_rfl)
theorem unf : Program.unfollowed Try.pinned.checked.prog 5 = Rows.fnExactSocleOfRow.unfollowed := by kernel_rfl
theorem inp : Program.inPlace Try.pinned.checked.prog 5 = Rows.fnExactSocleOfRow.inPlace := by kernel_rfl
theorem vnm : Program.varsNamed Try.pinned.checked.prog 5 = Rows.fnExactSocleOfRow.named := by kernel_rfl
theorem closed : joinedFacts Try.pinned.checked.prog 5 Try.f5 Rows.fnExactSocleOfSpec Rows.fnExactSocleOfRow = true := by
  unfold joinedFacts
  rw [rec0, unf, inp, vnm, V.hdEnter, V.hdLifts, V.hdMake]
  change _ = _
  kernel_rfl
theorem over : Rows.fnExactSocleOfRow.holds Try.pinned (OpenSpec.ofChange Rows.fnExactSocleOfSpec) :=
  OpenClaim.holds_of_wide 5 Try.f5 rfl rfl rfl rfl rfl rfl rfl ⟨rfl, rfl, rfl, rfl, rfl⟩ rfl rfl rfl rfl rfl (by kernel_rfl) Try.func5 closed
    (of_decide_eq_true (by kernel_rfl)) (by unfold Func.isWrapper; first | (rw [if_pos (by decide +kernel)]; kernel_rfl) | (rw [if_neg (by decide +kernel)]; exact ⟨rfl, rfl⟩))
    (fun os started H enc _ => lifted os started H enc)
theorem proved : Rows.FnExactSocleOfSaid := over
end fnExactSocleOf
end Go.Proofs.Ytedjajokbdokhaa
