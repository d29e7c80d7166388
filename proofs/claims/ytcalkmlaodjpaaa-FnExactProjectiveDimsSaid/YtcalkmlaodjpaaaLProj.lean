/- The law FnExactProjectiveDims holds for every input: program and reference return the same, the arguments stay as they were, and what is returned is in memory of its own. No condition. -/
import Derived.Test.YtcalkmlaodjpaaaDown
import Derived.Test.YtcalkmlaodjpaaaHeaded
import Derived.Test.YtcalkmlaodjpaaaMr
import Derived.Test.YtcalkmlaodjpaaaA22
import Derived.OpenShut
namespace Go.Proofs.Ytcalkmlaodjpaaa
open V.Enc (enc)
open Go.ChangeShapes Go.WideShapes Go.ChangeAt Go.RowKit G D V
set_option linter.unusedVariables false
set_option linter.unusedSimpArgs false
set_option maxHeartbeats 400000
set_option maxRecDepth 4000
attribute [local irreducible] V.AW V.ARg V.ARA V.ARet V.MRet V.ASil V.AC V.AM
theorem fnExactProjectiveDims.ac (q : Quiv) (v : Int) : AC Try.prog 8 [.agg (enc false q), .i v] [.b true] := by
  refine AC.go Try.func8 Try.ntmps8 rfl rfl fun w0 hw => ?_; simp [WfL, WfA, E_length, Enc.enc, In64] at hw
  have hZ0 := szQuiver_a q 1048576 (by decide) (by decide)
  have hb0 := sz1_le' (n := totQ q) (l := 1048576)
  generalize sz1 (totQ q) 1048576 = z0 at hZ0 hb0
  by_cases hs0 : 0 ≤ z0
  · have hb0 := hb0 hs0
    have hT0 := toQuiver_a q (by omega)
    have hQ0 := eqQuiver_s q
    have hS := specProjectiveDims_a q v
    have hI := implProjectiveDims_a q v
    have hc : (projD q v).length ≤ 5 := dimsF_len
    generalize projD q v = r0 at hS hI hc
    have hE0 := eqIntS_s r0
    obtain ⟨_, _, _, _, hMa0, _⟩ := markQ_k q (1) (by omega) (by omega)
    obtain ⟨_, _, hM0, hH0⟩ := markI_k r0 (1) (by omega) (by omega)
    repeat' first | refine s1 ?_ | (refine kR ?_; first | refine F.c (hZ0) ?_) | fail
    repeat' first | refine s1 ?_ | (refine kR ?_; first | refine F.c (hT0) ?_) | fail
    repeat' first | refine s1 ?_ | (refine kR ?_; first | refine F.c (hS) ?_) | fail
    repeat' first | refine s1 ?_ | (refine kR ?_; first | refine F.c (hT0) ?_) | fail
    repeat' first | refine s1 ?_ | (refine kR ?_; first | refine F.c (hI) ?_) | fail
    repeat' first | refine s1 ?_ | (refine kR ?_; first | refine F.c (hE0) ?_) | fail
    refine AW.draw 5 G.mixed (by kernel_rfl) ?_
    refine dL 0 ?_
    refine dL 1 ?_
    refine dO 2 true ?_
    first | refine s1 ?_ | refine F.c (hT0) ?_ | refine F.c (hQ0) ?_
    refine ARg.nil (ATh.normal ?_)
    refine dO 3 true ?_
    first | refine s1 ?_ | refine F.c (hT0) ?_ | refine F.c (hQ0) ?_
    refine ARg.nil (ATh.normal ?_)
    refine dP 4 ?_
    refine dN ?_
    repeat' first | refine s1 ?_ | (refine kR ?_; first | refine F.m [4, 5] (hMa0) ?_) | fail
    repeat' first | refine s1 ?_ | (refine kR ?_; first | refine F.c (hE0) ?_) | fail
    repeat' first | refine s1 ?_ | (refine kR ?_; first | refine F.m [7] (hM0) ?_) | fail
    repeat' first | refine s1 ?_ | (refine kR ?_; first | refine F.c (hH0) ?_) | fail
    repeat' first | refine s1 ?_ | (refine kR ?_; first | refine F.c (hT0) ?_) | fail
    repeat' first | refine s1 ?_ | (refine kR ?_; first | refine F.c (hI) ?_) | fail
    repeat' first | refine s1 ?_ | (refine kR ?_; first | refine F.c (hE0) ?_) | fail
    repeat' first | refine s1 ?_ | (refine kR ?_; first | refine F.c (hH0) ?_) | fail
    repeat' first | refine s1 ?_ | fail
    (refine kZ ?_; exact F.ret rfl)
  · repeat' first | refine s1 ?_ | (refine kR ?_; first | refine F.c (hZ0) ?_) | fail
    (refine kZ ?_; exact F.ret rfl)
theorem fnExactProjectiveDims.walk (w : World) (x0 : Quiv) (us0 : List Value) (F0 : List Nat) (h0 : quivR.V w x0 us0 F0) (x1 : Int) (hx1 : In64 x1) : Run Try.prog 8 [.agg us0.toArray, .int .i64 x1] w fun v w' => v = .bool true ∧ Later w w' :=
  (fnExactProjectiveDims.ac x0 x1).law (.agg (RdE.h h0) (.int hx1 (.nil w)))
namespace fnExactProjectiveDims
theorem own : ownKnob Try.prog.godebug = none := by kernel_rfl
theorem laidOut : laidOutB Try.prog = true := by kernel_rfl
set_option maxRecDepth 100000 in
theorem lifted (os : Os) (started : os.Started) (H : Type) (enc : TypeId × Value → H) :
    ReturnsInHanded {} Try.checked os 8 .any (Rows.fnExactProjectiveDimsSpec.pre6 enc Try.prog Try.f8 Rows.fnExactProjectiveDimsRow.domain false) (Rows.fnExactProjectiveDimsSpec.post enc Try.prog Try.f8 false true false false) := by
  refine returnsInHanded_of_change (C := Try.checked) own started (by kernel_rfl) Try.func8
    (ChangeSpec.witness6 (enc := enc) (C := Try.checked) false ⟨#[], #[.agg #[.int .i64 0, .slice none 0 0, .slice none 0 0], .int .i64 0], []⟩ 8 (by kernel_rfl) (by kernel_rfl) (by kernel_rfl) (by kernel_rfl)) ?_
  intro W base args ds gs before hval0 hW hcnd _
  have hval : ∀ (j : Nat) t v, Try.f8.params[j]? = some t → args[j]? = some v → Value.okWide Try.prog W .any base t v := hval0
  have hW' := hW
  obtain ⟨p, q, hA0, hV, rfl, hfz, hnd⟩ := hW
  have hA : DataW.TrodAll enc Try.prog W 0 (fun _ => true) true Try.f8.params.toList args.toList ds p := hA0
  rw [Try.params8] at hA hval
  obtain ⟨v0, vs0, d0, ds0, p0, q0, hargs, rfl, rfl, h0, r0⟩ := trodAll_cons hA
  obtain ⟨v1, vs1, d1, ds1, p1, q1, rfl, rfl, rfl, h1, r1⟩ := trodAll_cons r0
  obtain ⟨rfl, rfl, rfl⟩ := trodAll_nil r1
  obtain rfl : args = #[v0, v1] := by cases args; simp_all
  obtain ⟨rfl, rfl⟩ := trodVars_none hV
  obtain ⟨⟨l0⟩, rfl, hsz0⟩ := okWide_struct Try.underlying30 (hval 0 30 v0 rfl rfl)
  have k0 := h0
  have lt0 : ∀ x ∈ p0, x.block < W.heap.size := by obtain ⟨m, hm⟩ := k0; exact DataW.trod_lt m _ _ _ hm
  obtain ⟨x0, F0, R0⟩ := Rds.argG (inferInstance : Rds Try.prog 30 _) k0
  obtain ⟨a1, rfl, rfl, rfl, w1⟩ := open_int Try.underlying3 (hval 1 3 v1 rfl rfl) h1
  have b1 : In64 a1 := by simpa [Lit.wf, IntKind.min, IntKind.max, IntKind.signed, IntKind.bits, In64] using w1
  clear hA0 hval0
  refine (Run.calls (walk W x0 _ F0 R0 a1 b1)).mono fun e W' ⟨v, he, hv, bel⟩ => ?_
  subst he
  subst hv
  exact ⟨_, rfl, _, _, _, [], _, [], hW', trodAll_mk1 (shut_bool Try.underlying4 _), (trodAll_cons_mk (Below.trod laidOut (by kernel_rfl) (of_decide_eq_true (by kernel_rfl)) k0 bel lt0) (trodAll_cons_mk (shut_int Try.underlying3 w1) trodAll_mk0)), rfl, bel.frame _, fun h => by cases h⟩
theorem rec0 : Program.recurses Try.pinned.checked.prog 8 = true := V.recurses_at 157 157 (by kernel_rfl) (by kernel_rfl) (by kernel_rfl)
theorem unf : Program.unfollowed Try.pinned.checked.prog 8 = Rows.fnExactProjectiveDimsRow.unfollowed := by kernel_rfl
theorem inp : Program.inPlace Try.pinned.checked.prog 8 = Rows.fnExactProjectiveDimsRow.inPlace := by kernel_rfl
theorem vnm : Program.varsNamed Try.pinned.checked.prog 8 = Rows.fnExactProjectiveDimsRow.named := by kernel_rfl
theorem closed : joinedFacts Try.pinned.checked.prog 8 Try.f8 Rows.fnExactProjectiveDimsSpec Rows.fnExactProjectiveDimsRow = true := by
  unfold joinedFacts
  rw [rec0, unf, inp, vnm, V.hdEnter, V.hdLifts, V.hdMake]
  change _ = _
  kernel_rfl
theorem over : Rows.fnExactProjectiveDimsRow.holds Try.pinned (OpenSpec.ofChange Rows.fnExactProjectiveDimsSpec) :=
  OpenClaim.holds_of_wide 8 Try.f8 rfl rfl rfl rfl rfl rfl rfl ⟨rfl, rfl, rfl, rfl, rfl⟩ rfl rfl rfl rfl rfl (by kernel_rfl) Try.func8 closed
    (of_decide_eq_true (by kernel_rfl)) (by unfold Func.isWrapper; first | (rw [if_pos (by decide +kernel)]; kernel_rfl) | (rw [if_neg (by decide +kernel)]; exact ⟨rfl, rfl⟩))
    (fun os started H enc _ => lifted os started H enc)
theorem proved : Rows.FnExactProjectiveDimsSaid := over
end fnExactProjectiveDims
end Go.Proofs.Ytcalkmlaodjpaaa
