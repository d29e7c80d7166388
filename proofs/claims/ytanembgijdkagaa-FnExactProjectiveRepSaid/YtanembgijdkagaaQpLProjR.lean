/- The law FnExactProjectiveRep holds for every input: program and reference return the same, the arguments stay as they were, and what is returned is in memory of its own. No condition. -/
import Derived.Test.YtanembgijdkagaaHeaded
import Derived.Test.YtanembgijdkagaaQpUm
import Derived.Test.YtanembgijdkagaaQpUg
import Derived.Test.YtanembgijdkagaaQpA95
import Derived.Test.YtanembgijdkagaaQpDown
import Derived.OpenShut
namespace Go.Proofs.Ytanembgijdkagaa
open V.Enc (enc)
open Go.ChangeShapes Go.WideShapes Go.ChangeAt Go.RowKit G D V
set_option linter.unusedVariables false
set_option linter.unusedSimpArgs false
set_option maxHeartbeats 8000000
set_option maxRecDepth 4000
attribute [local irreducible] V.AW V.ARg V.ARA V.ARet V.MRet V.ASil V.AC V.AM
theorem fnExactProjectiveRep.ac (p : Int) (q : Quiv) (v : Int) : AC Try.prog 3 [.i p, .agg (enc false q), .i v] [.b true] := by
  refine AC.go Try.func3 Try.ntmps3 rfl rfl fun w0 hw => ?_; simp [WfL, WfA, E_length, Enc.enc, In64] at hw
  have hZ0 := szQuiver_a q 1048576 (by decide) (by decide)
  have hb0 := sz1_le' (n := totQ q) (l := 1048576)
  generalize sz1 (totQ q) 1048576 = z0 at hZ0 hb0
  by_cases hs0 : 0 ≤ z0
  · have hb0 := hb0 hs0
    have hT0 := toQuiver_a q (by omega)
    have hQ0 := eqQuiver_s q
    have hS := specProjectiveRep_a p q v
    have hI := implProjectiveRep_a p q v
    have hc := projP_ct p q v
    generalize projP p q v = R at hS hI hc
    obtain ⟨r0, r1⟩ := R
    dsimp only at hS hI hc
    have hE0 := eqRep_s r0
    have hN1 : (r1 != r1) = false := by simp
    obtain ⟨_, _, _, _, hMa0, _⟩ := markQ_o q (1) (by omega) (by omega)
    obtain ⟨_, _, _, _, _, _, _, _, hM0, hH0⟩ := markR_k r0 (1) (by omega) (by omega)
    repeat' first | refine s1 ?_ | (refine kR ?_; first | refine F.c (hZ0) ?_ | refine F.sil (A.neqBB rfl rfl) rfl rfl ?_) | fail
    repeat' first | refine s1 ?_ | (refine kR ?_; first | refine F.c (hT0) ?_ | refine F.sil (A.neqBB rfl rfl) rfl rfl ?_) | fail
    repeat' first | refine s1 ?_ | (refine kR ?_; first | refine F.c (hS) ?_ | refine F.sil (A.neqBB rfl rfl) rfl rfl ?_) | fail
    repeat' first | refine s1 ?_ | (refine kR ?_; first | refine F.c (hT0) ?_ | refine F.sil (A.neqBB rfl rfl) rfl rfl ?_) | fail
    repeat' first | refine s1 ?_ | (refine kR ?_; first | refine F.c (hI) ?_ | refine F.sil (A.neqBB rfl rfl) rfl rfl ?_) | fail
    repeat' first | refine s1 ?_ | (refine kR ?_; first | refine F.c (hE0) ?_ | refine F.sil (A.neqBB rfl rfl) rfl rfl ?_) | fail
    refine AW.draw 5 G.mixed (by kernel_rfl) ?_
    refine dL 0 ?_
    refine dL 1 ?_
    refine dO 2 true ?_
    first | refine s1 ?_ | refine F.c (hT0) ?_ | refine F.c (hQ0) ?_
    refine ARg.nil (ATh.normal ?_)
    refine dO 3 true ?_
    first | refine s1 ?_ | refine F.c (hT0) ?_ | refine F.c (hQ0) ?_
    refine ARg.nil (ATh.normal ?_)
    refine dP 4 ?_
    refine dN ?_
    repeat' first | refine s1 ?_ | (refine kR ?_; first | refine F.m [8, 9] (hMa0) ?_ | refine F.sil (A.neqBB rfl rfl) rfl rfl ?_) | fail
    repeat' first | refine s1 ?_ | (refine kR ?_; first | refine F.c (hE0) ?_ | refine F.sil (A.neqBB rfl rfl) rfl rfl ?_) | fail
    repeat' first | refine s1 ?_ | (refine kR ?_; first | refine F.m [11, 12, 13, 14] (hM0) ?_ | refine F.sil (A.neqBB rfl rfl) rfl rfl ?_) | fail
    repeat' first | refine s1 ?_ | (refine kR ?_; first | refine F.c (hH0) ?_ | refine F.sil (A.neqBB rfl rfl) rfl rfl ?_) | fail
    repeat' first | refine s1 ?_ | (refine kR ?_; first | refine F.c (hT0) ?_ | refine F.sil (A.neqBB rfl rfl) rfl rfl ?_) | fail
    repeat' first | refine s1 ?_ | (refine kR ?_; first | refine F.c (hI) ?_ | refine F.sil (A.neqBB rfl rfl) rfl rfl ?_) | fail
    repeat' first | refine s1 ?_ | (refine kR ?_; first | refine F.c (hE0) ?_ | refine F.sil (A.neqBB rfl rfl) rfl rfl ?_) | fail
    repeat' first | refine s1 ?_ | (refine kR ?_; first | refine F.c (hH0) ?_ | refine F.sil (A.neqBB rfl rfl) rfl rfl ?_) | fail
    repeat' first | refine s1 ?_ | (refine kR ?_; first | refine F.sil (A.neqBB rfl rfl) rfl rfl ?_) | fail
    (refine kZ ?_; exact F.ret rfl)
  · repeat' first | refine s1 ?_ | (refine kR ?_; first | refine F.c (hZ0) ?_) | fail
    (refine kZ ?_; exact F.ret rfl)
theorem fnExactProjectiveRep.walk (w : World) (x0 : Int) (hx0 : In64 x0) (x1 : Quiv) (us1 : List Value) (F1 : List Nat) (h1 : quivR.V w x1 us1 F1) (x2 : Int) (hx2 : In64 x2) : Run Try.prog 3 [.int .i64 x0, .agg us1.toArray, .int .i64 x2] w fun v w' => v = .bool true ∧ Later w w' :=
  (fnExactProjectiveRep.ac x0 x1 x2).law (.int hx0 (.agg (RdE.h h1) (.int hx2 (.nil w))))
namespace fnExactProjectiveRep
theorem own : ownKnob Try.prog.godebug = none := by kernel_rfl
theorem laidOut : laidOutB Try.prog = true := by kernel_rfl
set_option maxRecDepth 100000 in
theorem lifted (os : Os) (started : os.Started) (H : Type) (enc : TypeId × Value → H) :
    ReturnsInHanded {} Try.checked os 3 .any (Rows.fnExactProjectiveRepSpec.pre6 enc Try.prog Try.f3 Rows.fnExactProjectiveRepRow.domain false) (Rows.fnExactProjectiveRepSpec.post enc Try.prog Try.f3 false true false false) := by
  refine returnsInHanded_of_change (C := Try.checked) own started (by kernel_rfl) Try.func3
    (ChangeSpec.witness6 (enc := enc) (C := Try.checked) false ⟨#[], #[.int .i64 0, .agg #[.int .i64 0, .slice none 0 0, .slice none 0 0], .int .i64 0], []⟩ 8 (by kernel_rfl) (by kernel_rfl) (by kernel_rfl) (by kernel_rfl)) ?_
  intro W base args ds gs before hval0 hW hcnd _
  have hval : ∀ (j : Nat) t v, Try.f3.params[j]? = some t → args[j]? = some v → Value.okWide Try.prog W .any base t v := hval0
  have hW' := hW
  obtain ⟨p, q, hA0, hV, rfl, hfz, hnd⟩ := hW
  have hA : DataW.TrodAll enc Try.prog W 0 (fun _ => true) true Try.f3.params.toList args.toList ds p := hA0
  rw [Try.params3] at hA hval
  obtain ⟨v0, vs0, d0, ds0, p0, q0, hargs, rfl, rfl, h0, r0⟩ := trodAll_cons hA
  obtain ⟨v1, vs1, d1, ds1, p1, q1, rfl, rfl, rfl, h1, r1⟩ := trodAll_cons r0
  obtain ⟨v2, vs2, d2, ds2, p2, q2, rfl, rfl, rfl, h2, r2⟩ := trodAll_cons r1
  obtain ⟨rfl, rfl, rfl⟩ := trodAll_nil r2
  obtain rfl : args = #[v0, v1, v2] := by cases args; simp_all
  obtain ⟨rfl, rfl⟩ := trodVars_none hV
  obtain ⟨a0, rfl, rfl, rfl, w0⟩ := open_int Try.underlying3 (hval 0 3 v0 rfl rfl) h0
  have b0 : In64 a0 := by simpa [Lit.wf, IntKind.min, IntKind.max, IntKind.signed, IntKind.bits, In64] using w0
  obtain ⟨⟨l1⟩, rfl, hsz1⟩ := okWide_struct Try.underlying24 (hval 1 24 v1 rfl rfl)
  have k1 := h1
  have lt1 : ∀ x ∈ p1, x.block < W.heap.size := by obtain ⟨m, hm⟩ := k1; exact DataW.trod_lt m _ _ _ hm
  obtain ⟨x1, F1, R1⟩ := Rds.argG (inferInstance : Rds Try.prog 24 _) k1
  obtain ⟨a2, rfl, rfl, rfl, w2⟩ := open_int Try.underlying3 (hval 2 3 v2 rfl rfl) h2
  have b2 : In64 a2 := by simpa [Lit.wf, IntKind.min, IntKind.max, IntKind.signed, IntKind.bits, In64] using w2
  clear hA0 hval0
  refine (Run.calls (walk W a0 b0 x1 _ F1 R1 a2 b2)).mono fun e W' ⟨v, he, hv, bel⟩ => ?_
  subst he
  subst hv
  exact ⟨_, rfl, _, _, _, [], _, [], hW', trodAll_mk1 (shut_bool Try.underlying4 _), (trodAll_cons_mk (shut_int Try.underlying3 w0) (trodAll_cons_mk (Below.trod laidOut (by kernel_rfl) (of_decide_eq_true (by kernel_rfl)) k1 bel lt1) (trodAll_cons_mk (shut_int Try.underlying3 w2) trodAll_mk0))), rfl, bel.frame _, fun h => by cases h⟩
theorem rec0 : Program.recurses Try.pinned.checked.prog 3 = true := V.recurses_at 100 100 (by kernel_rfl) (by kernel_rfl) (by kernel_rfl)
theorem unf : Program.unfollowed Try.pinned.checked.prog 3 = Rows.fnExactProjectiveRepRow.unfollowed := by kernel_rfl
theorem inp : Program.inPlace Try.pinned.checked.prog 3 = Rows.fnExactProjectiveRepRow.inPlace := by kernel_rfl
theorem vnm : Program.varsNamed Try.pinned.checked.prog 3 = Rows.fnExactProjectiveRepRow.named := by kernel_rfl
theorem closed : joinedFacts Try.pinned.checked.prog 3 Try.f3 Rows.fnExactProjectiveRepSpec Rows.fnExactProjectiveRepRow = true := by
  unfold joinedFacts
  rw [rec0, unf, inp, vnm, V.hdEnter, V.hdLifts, V.hdMake]
  change _ = _
  kernel_rfl
theorem over : Rows.fnExactProjectiveRepRow.holds Try.pinned (OpenSpec.ofChange Rows.fnExactProjectiveRepSpec) :=
  OpenClaim.holds_of_wide 3 Try.f3 rfl rfl rfl rfl rfl rfl rfl ⟨rfl, rfl, rfl, rfl, rfl⟩ rfl rfl rfl rfl rfl (by kernel_rfl) Try.func3 closed
    (of_decide_eq_true (by kernel_rfl)) (by unfold Func.isWrapper; first | (rw [if_pos (by decide +kernel)]; kernel_rfl) | (rw [if_neg (by decide +kernel)]; exact ⟨rfl, rfl⟩))
    (fun os started H enc _ => lifted os started H enc)
theorem proved : Rows.FnExactProjectiveRepSaid := over
end fnExactProjectiveRep
end Go.Proofs.Ytanembgijdkagaa
