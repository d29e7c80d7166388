/- The law FnExactExtDim holds for every input: program and reference return the same, the arguments stay as they were. No condition. -/
import Derived.Test.YtlmenmacepeeaaaUm
import Derived.Test.YtlmenmacepeeaaaA40
import Derived.OpenShut
namespace Go.Proofs.Ytlmenmacepeeaaa
open V.Enc (enc)
open Go.ChangeShapes Go.WideShapes Go.ChangeAt Go.RowKit G D V
set_option linter.unusedVariables false
set_option linter.unusedSimpArgs false
set_option maxHeartbeats 8000000
set_option maxRecDepth 4000
attribute [local irreducible] V.AW V.ARg V.ARA V.ARet V.MRet V.ASil V.AC V.AM
theorem fnExactExtDim.ac (a : Rep) (b : Rep) : AC Try.prog 4 [.agg (enc false a), .agg (enc false b)] [.b true] := by
  refine AC.go Try.func4 Try.ntmps4 rfl rfl fun w0 hw => ?_; simp [WfL, WfA, E_length, Enc.enc, In64] at hw
  have hZ0 := szRep_a a 1048576 (by decide) (by decide)
  have hb0 := sz1_le' (n := totR a) (l := 1048576)
  generalize sz1 (totR a) 1048576 = z0 at hZ0 hb0
  by_cases hs0 : 0 ≤ z0
  · have hb0 := hb0 hs0
    have hZ1 := szRep_a b z0 hs0 (by omega)
    have hb1 := sz1_le' (n := totR b) (l := z0)
    generalize sz1 (totR b) z0 = z1 at hZ1 hb1
    by_cases hs1 : 0 ≤ z1
    · have hb1 := hb1 hs1
      have hT0 := toRep_a a (by omega)
      have hT1 := toRep_a b (by omega)
      have hQ0 := eqRep_s a
      have hQ1 := eqRep_s b
      have hS := specExtDim_a a b
      have hI := implExtDim_a a b
      generalize extD a b = r0 at hS hI 
      repeat' first | refine s1 ?_ | (refine kR ?_; first | refine F.c (hZ0) ?_) | fail
      repeat' first | refine s1 ?_ | (refine kR ?_; first | refine F.c (hZ1) ?_) | fail
      refine AW.draw 6 G.mixed (by kernel_rfl) ?_
      refine dL 0 ?_
      refine dL 2 ?_
      refine dO 1 true ?_
      first | refine s1 ?_ | refine F.c (hT0) ?_ | refine F.c (hT1) ?_ | refine F.c (hS) ?_
      refine ARg.nil (ATh.normal ?_)
      refine dO 3 true ?_
      first | refine s1 ?_ | refine F.c (hT0) ?_ | refine F.c (hT1) ?_ | refine F.c (hS) ?_
      refine ARg.nil (ATh.normal ?_)
      refine dO 4 true ?_
      first | refine s1 ?_ | refine F.c (hT0) ?_ | refine F.c (hT1) ?_ | refine F.c (hS) ?_
      refine ARg.nil (ATh.normal ?_)
      refine dP 5 ?_
      refine dN ?_
      repeat' first | refine s1 ?_ | (refine kR ?_; first | refine F.c (hT0) ?_) | fail
      repeat' first | refine s1 ?_ | (refine kR ?_; first | refine F.c (hT1) ?_) | fail
      repeat' first | refine s1 ?_ | (refine kR ?_; first | refine F.c (hI) ?_) | fail
      refine AW.draw 5 G.mixed (by kernel_rfl) ?_
      refine dL 0 ?_
      refine dL 1 ?_
      refine dO 2 true ?_
      first | refine s1 ?_ | refine F.c (hT0) ?_ | refine F.c (hQ0) ?_
      refine ARg.nil (ATh.normal ?_)
      refine dO 3 true ?_
      first | refine s1 ?_ | refine F.c (hT0) ?_ | refine F.c (hQ0) ?_
      refine ARg.nil (ATh.normal ?_)
      refine dP 4 ?_
      refine dN ?_
      repeat' first | refine s1 ?_ | fail
      refine AW.draw 5 G.mixed (by kernel_rfl) ?_
      refine dL 0 ?_
      refine dL 1 ?_
      refine dO 2 true ?_
      first | refine s1 ?_ | refine F.c (hT1) ?_ | refine F.c (hQ1) ?_
      refine ARg.nil (ATh.normal ?_)
      refine dO 3 true ?_
      first | refine s1 ?_ | refine F.c (hT1) ?_ | refine F.c (hQ1) ?_
      refine ARg.nil (ATh.normal ?_)
      refine dP 4 ?_
      refine dN ?_
      repeat' first | refine s1 ?_ | fail
      repeat' first | refine s1 ?_ | fail
      (refine kZ ?_; exact F.ret rfl)
    · repeat' first | refine s1 ?_ | (refine kR ?_; first | refine F.c (hZ0) ?_ | refine F.c (hZ1) ?_) | fail
      (refine kZ ?_; exact F.ret rfl)
  · repeat' first | refine s1 ?_ | (refine kR ?_; first | refine F.c (hZ0) ?_) | fail
    (refine kZ ?_; exact F.ret rfl)
theorem fnExactExtDim.walk (w : World) (x0 : Rep) (us0 : List Value) (F0 : List Nat) (h0 : repR.V w x0 us0 F0) (x1 : Rep) (us1 : List Value) (F1 : List Nat) (h1 : repR.V w x1 us1 F1) : Run Try.prog 4 [.agg us0.toArray, .agg us1.toArray] w fun v w' => v = .bool true ∧ Later w w' :=
  (fnExactExtDim.ac x0 x1).law (.agg (RdE.h h0) (.agg (RdE.h h1) (.nil w)))
namespace fnExactExtDim
theorem own : ownKnob Try.prog.godebug = none := by kernel_rfl
theorem laidOut : laidOutB Try.prog = true := by kernel_rfl
set_option maxRecDepth 100000 in
theorem lifted (os : Os) (started : os.Started) (H : Type) (enc : TypeId × Value → H) :
    ReturnsInHanded {} Try.checked os 4 .any (Rows.fnExactExtDimSpec.pre6 enc Try.prog Try.f4 Rows.fnExactExtDimRow.domain false) (Rows.fnExactExtDimSpec.post enc Try.prog Try.f4 false true false false) := by
  refine returnsInHanded_of_change (C := Try.checked) own started (by kernel_rfl) Try.func4
    (ChangeSpec.witness6 (enc := enc) (C := Try.checked) false ⟨#[], #[.agg #[.int .i64 0, .int .i64 0, .slice none 0 0, .slice none 0 0, .slice none 0 0, .slice none 0 0], .agg #[.int .i64 0, .int .i64 0, .slice none 0 0, .slice none 0 0, .slice none 0 0, .slice none 0 0]], []⟩ 8 (by kernel_rfl) (by kernel_rfl) (by kernel_rfl) (by kernel_rfl)) ?_
  intro W base args ds gs before hval0 hW hcnd _
  have hval : ∀ (j : Nat) t v, Try.f4.params[j]? = some t → args[j]? = some v → Value.okWide Try.prog W .any base t v := hval0
  have hW' := hW
  obtain ⟨p, q, hA0, hV, rfl, hfz, hnd⟩ := hW
  have hA : DataW.TrodAll enc Try.prog W 0 (fun _ => true) true Try.f4.params.toList args.toList ds p := hA0
  rw [Try.params4] at hA hval
  obtain ⟨v0, vs0, d0, ds0, p0, q0, hargs, rfl, rfl, h0, r0⟩ := trodAll_cons hA
  obtain ⟨v1, vs1, d1, ds1, p1, q1, rfl, rfl, rfl, h1, r1⟩ := trodAll_cons r0
  obtain ⟨rfl, rfl, rfl⟩ := trodAll_nil r1
  obtain rfl : args = #[v0, v1] := by cases args; simp_all
  obtain ⟨rfl, rfl⟩ := trodVars_none hV
  obtain ⟨⟨l0⟩, rfl, hsz0⟩ := okWide_struct Try.underlying40 (hval 0 40 v0 rfl rfl)
  have k0 := h0
  have lt0 : ∀ x ∈ p0, x.block < W.heap.size := by obtain ⟨m, hm⟩ := k0; exact DataW.trod_lt m _ _ _ hm
  obtain ⟨x0, F0, R0⟩ := Rds.argG (inferInstance : Rds Try.prog 40 _) k0
  obtain ⟨⟨l1⟩, rfl, hsz1⟩ := okWide_struct Try.underlying40 (hval 1 40 v1 rfl rfl)
  have k1 := h1
  have lt1 : ∀ x ∈ p1, x.block < W.heap.size := by obtain ⟨m, hm⟩ := k1; exact DataW.trod_lt m _ _ _ hm
  obtain ⟨x1, F1, R1⟩ := Rds.argG (inferInstance : Rds Try.prog 40 _) k1
  clear hA0 hval0
  refine (Run.calls (walk W x0 _ F0 R0 x1 _ F1 R1)).mono fun e W' ⟨v, he, hv, bel⟩ => ?_
  subst he
  subst hv
  exact ⟨_, rfl, _, _, _, [], _, [], hW', trodAll_mk1 (shut_bool Try.underlying4 _), (trodAll_cons_mk (Below.trod laidOut (by kernel_rfl) (of_decide_eq_true (by kernel_rfl)) k0 bel lt0) (trodAll_cons_mk (Below.trod laidOut (by kernel_rfl) (of_decide_eq_true (by kernel_rfl)) k1 bel lt1) trodAll_mk0)), rfl, bel.frame _, fun h => by cases h⟩
theorem over : Rows.fnExactExtDimRow.holds Try.pinned (OpenSpec.ofChange Rows.fnExactExtDimSpec) :=
  OpenClaim.holds_of_wide 4 Try.f4 rfl rfl rfl rfl rfl rfl rfl ⟨rfl, rfl, rfl, rfl, rfl⟩ rfl rfl rfl rfl rfl (by kernel_rfl) Try.func4 (by kernel_rfl)
    (of_decide_eq_true (by kernel_rfl)) (by unfold Func.isWrapper; first | (rw [if_pos (by decide +kernel)]; kernel_rfl) | (rw [if_neg (by decide +kernel)]; exact ⟨rfl, rfl⟩))
    (fun os started H enc _ => lifted os started H enc)
theorem proved : Rows.FnExactExtDimSaid := over
end fnExactExtDim
end Go.Proofs.Ytlmenmacepeeaaa
