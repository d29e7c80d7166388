/- The law FnExactIsSimple holds for every input: program and reference return the same, the arguments stay as they were. No condition. -/
import Derived.Test.YtanembgijdkagaaHeaded
import Derived.Test.YtanembgijdkagaaQsUm
import Derived.Test.YtanembgijdkagaaQsUg
import Derived.Test.YtanembgijdkagaaQsA110
import Derived.Test.YtanembgijdkagaaQsDown
import Derived.OpenShut
namespace Go.Proofs.Ytanembgijdkagaa
open V.Enc (enc)
open Go.ChangeShapes Go.WideShapes Go.ChangeAt Go.RowKit G D V
set_option linter.unusedVariables false
set_option linter.unusedSimpArgs false
set_option maxHeartbeats 8000000
set_option maxRecDepth 4000
attribute [local irreducible] V.AW V.ARg V.ARA V.ARet V.MRet V.ASil V.AC V.AM
theorem fnExactIsSimple.ac (r : Rep) : AC Try.prog 6 [.agg (enc false r)] [.b true] := by
  refine AC.go Try.func6 Try.ntmps6 rfl rfl fun w0 hw => ?_; simp [WfL, WfA, E_length, Enc.enc, In64] at hw
  have hZ0 := szRep_a r 1048576 (by decide) (by decide)
  have hb0 := sz1_le' (n := totR r) (l := 1048576)
  generalize sz1 (totR r) 1048576 = z0 at hZ0 hb0
  by_cases hs0 : 0 ≤ z0
  · have hb0 := hb0 hs0
    have hT0 := toRep_a r (by omega)
    have hQ0 := eqRep_s r
    have hS := specIsSimple_a r
    have hI := implIsSimple_a r
    generalize simB r = r0 at hS hI 
    have hN0 : (r0 != r0) = false := by simp
    repeat' first | refine s1 ?_ | (refine kR ?_; first | refine F.c (hZ0) ?_ | refine F.sil (A.neqBB rfl rfl) rfl rfl ?_) | fail
    repeat' first | refine s1 ?_ | (refine kR ?_; first | refine F.c (hT0) ?_ | refine F.sil (A.neqBB rfl rfl) rfl rfl ?_) | fail
    repeat' first | refine s1 ?_ | (refine kR ?_; first | refine F.c (hS) ?_ | refine F.sil (A.neqBB rfl rfl) rfl rfl ?_) | fail
    repeat' first | refine s1 ?_ | (refine kR ?_; first | refine F.c (hT0) ?_ | refine F.sil (A.neqBB rfl rfl) rfl rfl ?_) | fail
    repeat' first | refine s1 ?_ | (refine kR ?_; first | refine F.c (hI) ?_ | refine F.sil (A.neqBB rfl rfl) rfl rfl ?_) | fail
    refine AW.draw 5 G.mixed (by kernel_rfl) ?_
    refine dL 0 ?_
    refine dL 1 ?_
    refine dO 2 true ?_
    first | refine s1 ?_ | refine F.c (hT0) ?_ | refine F.c (hQ0) ?_
    refine ARg.nil (ATh.normal ?_)
    refine dO 3 true ?_
    first | refine s1 ?_ | refine F.c (hT0) ?_ | refine F.c (hQ0) ?_
    refine ARg.nil (ATh.normal ?_)
    refine dP 4 ?_
    refine dN ?_
    repeat' first | refine s1 ?_ | fail
    repeat' first | refine s1 ?_ | (refine kR ?_; first | refine F.sil (A.neqBB rfl rfl) rfl rfl ?_) | fail
    (refine kZ ?_; exact F.ret rfl)
  · repeat' first | refine s1 ?_ | (refine kR ?_; first | refine F.c (hZ0) ?_) | fail
    (refine kZ ?_; exact F.ret rfl)
theorem fnExactIsSimple.walk (w : World) (x0 : Rep) (us0 : List Value) (F0 : List Nat) (h0 : repR.V w x0 us0 F0) : Run Try.prog 6 [.agg us0.toArray] w fun v w' => v = .bool true ∧ Later w w' :=
  (fnExactIsSimple.ac x0).law (.agg (RdE.h h0) (.nil w))
namespace fnExactIsSimple
theorem own : ownKnob Try.prog.godebug = none := by kernel_rfl
theorem laidOut : laidOutB Try.prog = true := by kernel_rfl
set_option maxRecDepth 100000 in
theorem lifted (os : Os) (started : os.Started) (H : Type) (enc : TypeId × Value → H) :
    ReturnsInHanded {} Try.checked os 6 .any (Rows.fnExactIsSimpleSpec.pre6 enc Try.prog Try.f6 Rows.fnExactIsSimpleRow.domain false) (Rows.fnExactIsSimpleSpec.post enc Try.prog Try.f6 false true false false) := by
  refine returnsInHanded_of_change (C := Try.checked) own started (by kernel_rfl) Try.func6
    (ChangeSpec.witness6 (enc := enc) (C := Try.checked) false ⟨#[], #[.agg #[.int .i64 0, .int .i64 0, .slice none 0 0, .slice none 0 0, .slice none 0 0, .slice none 0 0]], []⟩ 8 (by kernel_rfl) (by kernel_rfl) (by kernel_rfl) (by kernel_rfl)) ?_
  intro W base args ds gs before hval0 hW hcnd _
  have hval : ∀ (j : Nat) t v, Try.f6.params[j]? = some t → args[j]? = some v → Value.okWide Try.prog W .any base t v := hval0
  have hW' := hW
  obtain ⟨p, q, hA0, hV, rfl, hfz, hnd⟩ := hW
  have hA : DataW.TrodAll enc Try.prog W 0 (fun _ => true) true Try.f6.params.toList args.toList ds p := hA0
  rw [Try.params6] at hA hval
  obtain ⟨v0, vs0, d0, ds0, p0, q0, hargs, rfl, rfl, h0, r0⟩ := trodAll_cons hA
  obtain ⟨rfl, rfl, rfl⟩ := trodAll_nil r0
  obtain rfl : args = #[v0] := by cases args; simp_all
  obtain ⟨rfl, rfl⟩ := trodVars_none hV
  obtain ⟨⟨l0⟩, rfl, hsz0⟩ := okWide_struct Try.underlying40 (hval 0 40 v0 rfl rfl)
  have k0 := h0
  have lt0 : ∀ x ∈ p0, x.block < W.heap.size := by obtain ⟨m, hm⟩ := k0; exact DataW.trod_lt m _ _ _ hm
  obtain ⟨x0, F0, R0⟩ := Rds.argG (inferInstance : Rds Try.prog 40 _) k0
  clear hA0 hval0
  refine (Run.calls (walk W x0 _ F0 R0)).mono fun e W' ⟨v, he, hv, bel⟩ => ?_
  subst he
  subst hv
  exact ⟨_, rfl, _, _, _, [], _, [], hW', trodAll_mk1 (shut_bool Try.underlying4 _), (trodAll_cons_mk (Below.trod laidOut (by kernel_rfl) (of_decide_eq_true (by kernel_rfl)) k0 bel lt0) trodAll_mk0), rfl, bel.frame _, fun h => by cases h⟩
theorem down : V.downB Try.prog [] [35, 8, 58, 20, 19, 31, 10, 64, 23, 22, 37, 96, 98, 38, 87, 116, 86, 73, 74, 75, 123, 146, 168, 153, 169, 160, 145, 124, 161, 162, 149, 63, 132, 89, 147, 148, 125, 76, 150, 126, 78, 77, 28, 43, 133, 139, 157, 138, 107, 106, 80, 44, 91, 119, 79, 81, 85, 127, 159, 143, 121, 47, 163, 51, 172, 170, 164, 154, 151, 128, 83, 70, 94, 134, 92, 130, 165, 152, 129, 84, 82, 29, 33, 13, 72, 25, 12, 6] = true := by kernel_rfl
theorem rec0 : Program.recurses Try.pinned.checked.prog 6 = Program.unfollowed Try.pinned.checked.prog 6 := V.recurses_down _ down (by kernel_rfl)
theorem unf : Program.unfollowed Try.pinned.checked.prog 6 = Rows.fnExactIsSimpleRow.unfollowed := by kernel_rfl
theorem inp : Program.inPlace Try.pinned.checked.prog 6 = Rows.fnExactIsSimpleRow.inPlace := by kernel_rfl
theorem vnm : Program.varsNamed Try.pinned.checked.prog 6 = Rows.fnExactIsSimpleRow.named := by kernel_rfl
theorem closed : joinedFacts Try.pinned.checked.prog 6 Try.f6 Rows.fnExactIsSimpleSpec Rows.fnExactIsSimpleRow = true := by
  unfold joinedFacts
  rw [rec0, unf, inp, vnm, V.hdEnter, V.hdLifts, V.hdMake]
  change _ = _
  kernel_rfl
theorem over : Rows.fnExactIsSimpleRow.holds Try.pinned (OpenSpec.ofChange Rows.fnExactIsSimpleSpec) :=
  OpenClaim.holds_of_wide 6 Try.f6 rfl rfl rfl rfl rfl rfl rfl ⟨rfl, rfl, rfl, rfl, rfl⟩ rfl rfl rfl rfl rfl (by kernel_rfl) Try.func6 closed
    (of_decide_eq_true (by kernel_rfl)) (by unfold Func.isWrapper; first | (rw [if_pos (by decide +kernel)]; kernel_rfl) | (rw [if_neg (by decide +kernel)]; exact ⟨rfl, rfl⟩))
    (fun os started H enc _ => lifted os started H enc)
theorem proved : Rows.FnExactIsSimpleSaid := over
end fnExactIsSimple
end Go.Proofs.Ytanembgijdkagaa
