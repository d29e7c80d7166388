/- The law FnExactFindIsomorphism holds for every input: program and reference return the same, the arguments stay as they were, and what is returned is in memory of its own. No condition. -/
import Derived.Test.YtanembgijdkagaaGreatHeaded
import Derived.Test.YtanembgijdkagaaGreatQzUm
import Derived.Test.YtanembgijdkagaaGreatQzUg
import Derived.Test.YtanembgijdkagaaGreatQzA103
import Derived.Test.YtanembgijdkagaaGreatQzDown
import Derived.OpenShut
namespace Go.Proofs.YtanembgijdkagaaGreat
open V.Enc (enc)
open Go.ChangeShapes Go.WideShapes Go.ChangeAt Go.RowKit G D V
set_option linter.unusedVariables false
set_option linter.unusedSimpArgs false
set_option maxHeartbeats 8000000
set_option maxRecDepth 4000
attribute [local irreducible] V.AW V.ARg V.ARA V.ARet V.MRet V.ASil V.AC V.AM
theorem fnExactFindIsomorphism.ac (a : Rep) (b : Rep) : AC Tryz.prog 6 [.agg (enc false a), .agg (enc false b)] [.b true] := by
  refine AC.go Tryz.func6 Tryz.ntmps6 rfl rfl fun w0 hw => ?_; simp [WfL, WfA, E_length, Enc.enc, In64] at hw
  have hZ0 := szRep_a a 1048576 (by decide) (by decide)
  have hb0 := sz1_le' (n := totR a) (l := 1048576)
  generalize sz1 (totR a) 1048576 = z0 at hZ0 hb0
  by_cases hs0 : 0 ≤ z0
  · have hb0 := hb0 hs0
    have hZ1 := szRep_a b z0 hs0 (by omega)
    have hb1 := sz1_le' (n := totR b) (l := z0)
    generalize sz1 (totR b) z0 = z1 at hZ1 hb1
    by_cases hs1 : 0 ≤ z1
    · have hb1 := hb1 hs1
      have hT0 := toRep_a a (by omega)
      have hT1 := toRep_a b (by omega)
      have hQ0 := eqRep_s a
      have hQ1 := eqRep_s b
      have hS := specFindIsomorphism_a a b
      have hI := implFindIsomorphism_a a b
      have hc := fisP_ct a b
      generalize fisP a b = R at hS hI hc
      obtain ⟨r0, r1⟩ := R
      dsimp only at hS hI hc
      have hE0 := eqMatrixS_s r0
      have hN1 : (r1 != r1) = false := by simp
      have hct_a := ctR_le a
      have hct_b := ctR_le b
      obtain ⟨_, _, _, _, _, _, _, _, hMa0, _⟩ := markR_o a (1) (by omega) (by omega)
      obtain ⟨_, _, _, _, _, _, _, _, hMa1, _⟩ := markR_o b (1 + (ctR a : Nat)) (by omega) (by omega)
      obtain ⟨_, _, hM0, hH0⟩ := markMS_k r0 (1) (by omega) (by omega)
      repeat' first | refine s1 ?_ | (refine kR ?_; first | refine F.c (hZ0) ?_ | refine F.sil (A.neqBB rfl rfl) rfl rfl ?_) | fail
      repeat' first | refine s1 ?_ | (refine kR ?_; first | refine F.c (hZ1) ?_ | refine F.sil (A.neqBB rfl rfl) rfl rfl ?_) | fail
      refine AW.draw 10 G.mixed (by kernel_rfl) ?_
      refine dL 0 ?_
      refine dL 2 ?_
      refine dO 1 true ?_
      first | refine s1 ?_ | refine F.c (hT0) ?_ | refine F.c (hT1) ?_ | refine F.c (hS) ?_
      refine ARg.nil (ATh.normal ?_)
      refine dO 3 true ?_
      first | refine s1 ?_ | refine F.c (hT0) ?_ | refine F.c (hT1) ?_ | refine F.c (hS) ?_
      refine ARg.nil (ATh.normal ?_)
      refine dO 4 true ?_
      first | refine s1 ?_ | refine F.c (hT0) ?_ | refine F.c (hT1) ?_ | refine F.c (hS) ?_
      refine ARg.nil (ATh.normal ?_)
      refine dP 5 ?_
      refine dP 6 ?_
      refine dP 7 ?_
      refine dP 8 ?_
      refine dP 9 ?_
      refine dN ?_
      repeat' first | refine s1 ?_ | (refine kR ?_; first | refine F.c (hT0) ?_ | refine F.sil (A.neqBB rfl rfl) rfl rfl ?_) | fail
      repeat' first | refine s1 ?_ | (refine kR ?_; first | refine F.c (hT1) ?_ | refine F.sil (A.neqBB rfl rfl) rfl rfl ?_) | fail
      repeat' first | refine s1 ?_ | (refine kR ?_; first | refine F.c (hI) ?_ | refine F.sil (A.neqBB rfl rfl) rfl rfl ?_) | fail
      repeat' first | refine s1 ?_ | (refine kR ?_; first | refine F.c (hE0) ?_ | refine F.sil (A.neqBB rfl rfl) rfl rfl ?_) | fail
      refine AW.draw 5 G.mixed (by kernel_rfl) ?_
      refine dL 0 ?_
      refine dL 1 ?_
      refine dO 2 true ?_
      first | refine s1 ?_ | refine F.c (hT0) ?_ | refine F.c (hQ0) ?_
      refine ARg.nil (ATh.normal ?_)
      refine dO 3 true ?_
      first | refine s1 ?_ | refine F.c (hT0) ?_ | refine F.c (hQ0) ?_
      refine ARg.nil (ATh.normal ?_)
      refine dP 4 ?_
      refine dN ?_
      repeat' first | refine s1 ?_ | fail
      refine AW.draw 5 G.mixed (by kernel_rfl) ?_
      refine dL 0 ?_
      refine dL 1 ?_
      refine dO 2 true ?_
      first | refine s1 ?_ | refine F.c (hT1) ?_ | refine F.c (hQ1) ?_
      refine ARg.nil (ATh.normal ?_)
      refine dO 3 true ?_
      first | refine s1 ?_ | refine F.c (hT1) ?_ | refine F.c (hQ1) ?_
      refine ARg.nil (ATh.normal ?_)
      refine dP 4 ?_
      refine dN ?_
      repeat' first | refine s1 ?_ | (refine kR ?_; first | refine F.m [11, 12, 13, 14] (hMa0) ?_ | refine F.sil (A.neqBB rfl rfl) rfl rfl ?_) | fail
      repeat' first | refine s1 ?_ | (refine kR ?_; first | refine F.m [16, 17, 18, 19] (hMa1) ?_ | refine F.sil (A.neqBB rfl rfl) rfl rfl ?_) | fail
      repeat' first | refine s1 ?_ | (refine kR ?_; first | refine F.c (hE0) ?_ | refine F.sil (A.neqBB rfl rfl) rfl rfl ?_) | fail
      repeat' first | refine s1 ?_ | (refine kR ?_; first | refine F.m [21] (hM0) ?_ | refine F.sil (A.neqBB rfl rfl) rfl rfl ?_) | fail
      repeat' first | refine s1 ?_ | (refine kR ?_; first | refine F.c (hH0) ?_ | refine F.sil (A.neqBB rfl rfl) rfl rfl ?_) | fail
      refine AW.draw 10 G.mixed (by kernel_rfl) ?_
      refine dL 0 ?_
      refine dL 2 ?_
      refine dO 1 true ?_
      first | refine s1 ?_ | refine F.c (hT0) ?_ | refine F.c (hT1) ?_ | refine F.c (hI) ?_
      refine ARg.nil (ATh.normal ?_)
      refine dO 3 true ?_
      first | refine s1 ?_ | refine F.c (hT0) ?_ | refine F.c (hT1) ?_ | refine F.c (hI) ?_
      refine ARg.nil (ATh.normal ?_)
      refine dO 4 true ?_
      first | refine s1 ?_ | refine F.c (hT0) ?_ | refine F.c (hT1) ?_ | refine F.c (hI) ?_
      refine ARg.nil (ATh.normal ?_)
      refine dP 5 ?_
      refine dP 6 ?_
      refine dP 7 ?_
      refine dP 8 ?_
      refine dP 9 ?_
      refine dN ?_
      repeat' first | refine s1 ?_ | (refine kR ?_; first | refine F.c (hE0) ?_ | refine F.sil (A.neqBB rfl rfl) rfl rfl ?_) | fail
      repeat' first | refine s1 ?_ | (refine kR ?_; first | refine F.c (hH0) ?_ | refine F.sil (A.neqBB rfl rfl) rfl rfl ?_) | fail
      repeat' first | refine s1 ?_ | (refine kR ?_; first | refine F.sil (A.neqBB rfl rfl) rfl rfl ?_) | fail
      (refine kZ ?_; exact F.ret rfl)
    · repeat' first | refine s1 ?_ | (refine kR ?_; first | refine F.c (hZ0) ?_ | refine F.c (hZ1) ?_) | fail
      (refine kZ ?_; exact F.ret rfl)
  · repeat' first | refine s1 ?_ | (refine kR ?_; first | refine F.c (hZ0) ?_) | fail
    (refine kZ ?_; exact F.ret rfl)
theorem fnExactFindIsomorphism.walk (w : World) (x0 : Rep) (us0 : List Value) (F0 : List Nat) (h0 : repR.V w x0 us0 F0) (x1 : Rep) (us1 : List Value) (F1 : List Nat) (h1 : repR.V w x1 us1 F1) : Run Tryz.prog 6 [.agg us0.toArray, .agg us1.toArray] w fun v w' => v = .bool true ∧ Later w w' :=
  (fnExactFindIsomorphism.ac x0 x1).law (.agg (RdE.h h0) (.agg (RdE.h h1) (.nil w)))
namespace fnExactFindIsomorphism
theorem own : ownKnob Tryz.prog.godebug = none := by kernel_rfl
theorem laidOut : laidOutB Tryz.prog = true := by kernel_rfl
set_option maxRecDepth 100000 in
theorem lifted (os : Os) (started : os.Started) (H : Type) (enc : TypeId × Value → H) :
    ReturnsInHanded {} Tryz.checked os 6 .any (Rows.fnExactFindIsomorphismSpec.pre6 enc Tryz.prog Tryz.f6 Rows.fnExactFindIsomorphismRow.domain false) (Rows.fnExactFindIsomorphismSpec.post enc Tryz.prog Tryz.f6 false true false false) := by
  refine returnsInHanded_of_change (C := Tryz.checked) own started (by kernel_rfl) Tryz.func6
    (ChangeSpec.witness6 (enc := enc) (C := Tryz.checked) false ⟨#[], #[.agg #[.int .i64 0, .int .i64 0, .slice none 0 0, .slice none 0 0, .slice none 0 0, .slice none 0 0], .agg #[.int .i64 0, .int .i64 0, .slice none 0 0, .slice none 0 0, .slice none 0 0, .slice none 0 0]], []⟩ 8 (by kernel_rfl) (by kernel_rfl) (by kernel_rfl) (by kernel_rfl)) ?_
  intro W base args ds gs before hval0 hW hcnd _
  have hval : ∀ (j : Nat) t v, Tryz.f6.params[j]? = some t → args[j]? = some v → Value.okWide Tryz.prog W .any base t v := hval0
  have hW' := hW
  obtain ⟨p, q, hA0, hV, rfl, hfz, hnd⟩ := hW
  have hA : DataW.TrodAll enc Tryz.prog W 0 (fun _ => true) true Tryz.f6.params.toList args.toList ds p := hA0
  rw [Tryz.params6] at hA hval
  obtain ⟨v0, vs0, d0, ds0, p0, q0, hargs, rfl, rfl, h0, r0⟩ := trodAll_cons hA
  obtain ⟨v1, vs1, d1, ds1, p1, q1, rfl, rfl, rfl, h1, r1⟩ := trodAll_cons r0
  obtain ⟨rfl, rfl, rfl⟩ := trodAll_nil r1
  obtain rfl : args = #[v0, v1] := by cases args; simp_all
  obtain ⟨rfl, rfl⟩ := trodVars_none hV
  obtain ⟨⟨l0⟩, rfl, hsz0⟩ := okWide_struct Tryz.underlying27 (hval 0 27 v0 rfl rfl)
  have k0 := h0
  have lt0 : ∀ x ∈ p0, x.block < W.heap.size := by obtain ⟨m, hm⟩ := k0; exact DataW.trod_lt m _ _ _ hm
  obtain ⟨x0, F0, R0⟩ := Rds.argG (inferInstance : Rds Tryz.prog 27 _) k0
  obtain ⟨⟨l1⟩, rfl, hsz1⟩ := okWide_struct Tryz.underlying27 (hval 1 27 v1 rfl rfl)
  have k1 := h1
  have lt1 : ∀ x ∈ p1, x.block < W.heap.size := by obtain ⟨m, hm⟩ := k1; exact DataW.trod_lt m _ _ _ hm
  obtain ⟨x1, F1, R1⟩ := Rds.argG (inferInstance : Rds Tryz.prog 27 _) k1
  clear hA0 hval0
  refine (Run.calls (walk W x0 _ F0 R0 x1 _ F1 R1)).mono fun e W' ⟨v, he, hv, bel⟩ => ?_
  subst he
  subst hv
  exact ⟨_, rfl, _, _, _, [], _, [], hW', trodAll_mk1 (shut_bool Tryz.underlying4 _), (trodAll_cons_mk (Below.trod laidOut (by kernel_rfl) (of_decide_eq_true (by kernel_rfl)) k0 bel lt0) (trodAll_cons_mk (Below.trod laidOut (by kernel_rfl) (of_decide_eq_true (by kernel_rfl)) k1 bel lt1) trodAll_mk0)), rfl, bel.frame _, fun h => by cases h⟩
theorem down : V.downB Tryz.prog [] [39, 38, 61, 17, 10, 45, 44, 70, 19, 12, 128, 168, 167, 129, 169, 130, 82, 55, 116, 53, 69, 151, 107, 104, 159, 160, 121, 122, 103, 105, 41, 54, 40, 64, 43, 156, 90, 91, 157, 118, 191, 158, 119, 62, 106, 42, 56, 22, 132, 47, 199, 212, 193, 174, 173, 135, 133, 175, 134, 85, 78, 117, 57, 95, 112, 72, 146, 111, 127, 147, 97, 165, 190, 154, 155, 76, 110, 213, 195, 166, 125, 211, 189, 153, 109, 48, 60, 115, 114, 50, 152, 113, 49, 59, 23, 52, 77, 21, 51, 14, 80, 79, 25, 24, 81, 26, 6] = true := by kernel_rfl
theorem rec0 : Program.recurses Tryz.pinned.checked.prog 6 = Program.unfollowed Tryz.pinned.checked.prog 6 := V.recurses_down _ down (by kernel_rfl)
theorem unf : Program.unfollowed Tryz.pinned.checked.prog 6 = Rows.fnExactFindIsomorphismRow.unfollowed := by kernel_rfl
theorem inp : Program.inPlace Tryz.pinned.checked.prog 6 = Rows.fnExactFindIsomorphismRow.inPlace := by kernel_rfl
theorem vnm : Program.varsNamed Tryz.pinned.checked.prog 6 = Rows.fnExactFindIsomorphismRow.named := by kernel_rfl
theorem closed : joinedFacts Tryz.pinned.checked.prog 6 Tryz.f6 Rows.fnExactFindIsomorphismSpec Rows.fnExactFindIsomorphismRow = true := by
  unfold joinedFacts
  rw [rec0, unf, inp, vnm, V.hdEnter, V.hdLifts, V.hdMake]
  change _ = _
  kernel_rfl
theorem over : Rows.fnExactFindIsomorphismRow.holds Tryz.pinned (OpenSpec.ofChange Rows.fnExactFindIsomorphismSpec) :=
  OpenClaim.holds_of_wide 6 Tryz.f6 rfl rfl rfl rfl rfl rfl rfl ⟨rfl, rfl, rfl, rfl, rfl⟩ rfl rfl rfl rfl rfl (by kernel_rfl) Tryz.func6 closed
    (of_decide_eq_true (by kernel_rfl)) (by unfold Func.isWrapper; first | (rw [if_pos (by decide +kernel)]; kernel_rfl) | (rw [if_neg (by decide +kernel)]; exact ⟨rfl, rfl⟩))
    (fun os started H enc _ => lifted os started H enc)
theorem proved : Rows.FnExactFindIsomorphismSaid := over
end fnExactFindIsomorphism
end Go.Proofs.YtanembgijdkagaaGreat
