/- The law FnExactRadicalLayers holds for every input: program and reference return the same, the arguments stay as they were, and what is returned is in memory of its own. No condition. -/
import Derived.Test.YtjnhjfgcfclamaaGreatUm
import Derived.Test.YtjnhjfgcfclamaaGreatA86
import Derived.Test.YtjnhjfgcfclamaaGreatDown
import Derived.OpenShut
namespace Go.Proofs.YtjnhjfgcfclamaaGreat
open Go.ChangeShapes Go.WideShapes Go.ChangeAt Go.RowKit G D V
set_option linter.unusedVariables false
set_option linter.unusedSimpArgs false
set_option maxHeartbeats 8000000
set_option maxRecDepth 4000
attribute [local irreducible] V.AW V.ARg V.ARA V.ARet V.MRet V.ASil V.AC V.AM
theorem fnExactRadicalLayers.ac (r : Rep) : AC Tryz.prog 4 [.agg (enc false r)] [.b true] := by
  refine AC.go Tryz.func4 Tryz.ntmps4 rfl rfl fun w0 hw => ?_; simp [WfL, WfA, E_length, Enc.enc, In64] at hw
  have hZ0 := szRep_a r 1048576 (by decide) (by decide)
  have hb0 := sz1_le' (n := totR r) (l := 1048576)
  generalize sz1 (totR r) 1048576 = z0 at hZ0 hb0
  by_cases hs0 : 0 ≤ z0
  · have hb0 := hb0 hs0
    have hT0 := toRep_a r (by omega)
    have hQ0 := eqRep_s r
    have hS := specRadicalLayers_a r
    have hI := implRadicalLayers_a r
    have hc := layP_ct r
    generalize layP r = R at hS hI hc
    obtain ⟨r0, r1⟩ := R
    dsimp only at hS hI hc
    have hE0 := eqIntSS_a r0 r0
    rw [decide_eq_true rfl] at hE0
    have hN1 : (r1 != r1) = false := by simp
    have hct_r := ctR_le r
    obtain ⟨_, _, _, _, _, _, _, _, hMa0, _⟩ := markR_o r (1) (by omega) (by omega)
    obtain ⟨_, _, hM0, hH0⟩ := markSS_k r0 (1) (by omega) (by omega)
    repeat' first | refine s1 ?_ | (refine kR ?_; first | refine F.c (hZ0) ?_ | refine F.sil (A.neqBB rfl rfl) rfl rfl ?_) | fail
    repeat' first | refine s1 ?_ | (refine kR ?_; first | refine F.c (hT0) ?_ | refine F.sil (A.neqBB rfl rfl) rfl rfl ?_) | fail
    repeat' first | refine s1 ?_ | (refine kR ?_; first | refine F.c (hS) ?_ | refine F.sil (A.neqBB rfl rfl) rfl rfl ?_) | fail
    repeat' first | refine s1 ?_ | (refine kR ?_; first | refine F.c (hT0) ?_ | refine F.sil (A.neqBB rfl rfl) rfl rfl ?_) | fail
    repeat' first | refine s1 ?_ | (refine kR ?_; first | refine F.c (hI) ?_ | refine F.sil (A.neqBB rfl rfl) rfl rfl ?_) | fail
    repeat' first | refine s1 ?_ | (refine kR ?_; first | refine F.c (hE0) ?_ | refine F.sil (A.neqBB rfl rfl) rfl rfl ?_) | fail
    refine AW.draw 5 G.mixed (by kernel_rfl) ?_
    refine dL 0 ?_
    refine dL 1 ?_
    refine dO 2 true ?_
    first | refine s1 ?_ | refine F.c (hT0) ?_ | refine F.c (hQ0) ?_
    refine ARg.nil (ATh.normal ?_)
    refine dO 3 true ?_
    first | refine s1 ?_ | refine F.c (hT0) ?_ | refine F.c (hQ0) ?_
    refine ARg.nil (ATh.normal ?_)
    refine dP 4 ?_
    refine dN ?_
    repeat' first | refine s1 ?_ | (refine kR ?_; first | refine F.m [6, 7, 8, 9] (hMa0) ?_ | refine F.sil (A.neqBB rfl rfl) rfl rfl ?_) | fail
    repeat' first | refine s1 ?_ | (refine kR ?_; first | refine F.c (hE0) ?_ | refine F.sil (A.neqBB rfl rfl) rfl rfl ?_) | fail
    repeat' first | refine s1 ?_ | (refine kR ?_; first | refine F.m [11] (hM0) ?_ | refine F.sil (A.neqBB rfl rfl) rfl rfl ?_) | fail
    repeat' first | refine s1 ?_ | (refine kR ?_; first | refine F.c (hH0) ?_ | refine F.sil (A.neqBB rfl rfl) rfl rfl ?_) | fail
    repeat' first | refine s1 ?_ | (refine kR ?_; first | refine F.c (hT0) ?_ | refine F.sil (A.neqBB rfl rfl) rfl rfl ?_) | fail
    repeat' first | refine s1 ?_ | (refine kR ?_; first | refine F.c (hI) ?_ | refine F.sil (A.neqBB rfl rfl) rfl rfl ?_) | fail
    repeat' first | refine s1 ?_ | (refine kR ?_; first | refine F.c (hE0) ?_ | refine F.sil (A.neqBB rfl rfl) rfl rfl ?_) | fail
    repeat' first | refine s1 ?_ | (refine kR ?_; first | refine F.c (hH0) ?_ | refine F.sil (A.neqBB rfl rfl) rfl rfl ?_) | fail
    repeat' first | refine s1 ?_ | (refine kR ?_; first | refine F.sil (A.neqBB rfl rfl) rfl rfl ?_) | fail
    (refine kZ ?_; exact F.ret rfl)
  · repeat' first | refine s1 ?_ | (refine kR ?_; first | refine F.c (hZ0) ?_) | fail
    (refine kZ ?_; exact F.ret rfl)
theorem fnExactRadicalLayers.walk (w : World) (x0 : Rep) (us0 : List Value) (F0 : List Nat) (h0 : repR.V w x0 us0 F0) : Run Tryz.prog 4 [.agg us0.toArray] w fun v w' => v = .bool true ∧ Later w w' :=
  (fnExactRadicalLayers.ac x0).law (.agg (RdE.h h0) (.nil w))
namespace fnExactRadicalLayers
theorem own : ownKnob Tryz.prog.godebug = none := by kernel_rfl
theorem laidOut : laidOutB Tryz.prog = true := by kernel_rfl
set_option maxRecDepth 100000 in
theorem lifted (os : Os) (started : os.Started) (H : Type) (enc : TypeId × Value → H) :
    ReturnsInHanded {} Tryz.checked os 4 .any (Rows.fnExactRadicalLayersSpec.pre6 enc Tryz.prog Tryz.f4 Rows.fnExactRadicalLayersRow.domain false) (Rows.fnExactRadicalLayersSpec.post enc Tryz.prog Tryz.f4 false true false false) := by
  refine returnsInHanded_of_change (C := Tryz.checked) own started (by kernel_rfl) Tryz.func4
    (ChangeSpec.witness6 (enc := enc) (C := Tryz.checked) false ⟨#[], #[.agg #[.int .i64 0, .int .i64 0, .slice none 0 0, .slice none 0 0, .slice none 0 0, .slice none 0 0]], []⟩ 8 (by kernel_rfl) (by kernel_rfl) (by kernel_rfl) (by kernel_rfl)) ?_
  intro W base args ds gs before hval0 hW hcnd _
  have hval : ∀ (j : Nat) t v, Tryz.f4.params[j]? = some t → args[j]? = some v → Value.okWide Tryz.prog W .any base t v := hval0
  have hW' := hW
  obtain ⟨p, q, hA0, hV, rfl, hfz, hnd⟩ := hW
  have hA : DataW.TrodAll enc Tryz.prog W 0 (fun _ => true) true Tryz.f4.params.toList args.toList ds p := hA0
  rw [Tryz.params4] at hA hval
  obtain ⟨v0, vs0, d0, ds0, p0, q0, hargs, rfl, rfl, h0, r0⟩ := trodAll_cons hA
  obtain ⟨rfl, rfl, rfl⟩ := trodAll_nil r0
  obtain rfl : args = #[v0] := by cases args; simp_all
  obtain ⟨rfl, rfl⟩ := trodVars_none hV
  obtain ⟨⟨l0⟩, rfl, hsz0⟩ := okWide_struct Tryz.underlying27 (hval 0 27 v0 rfl rfl)
  have k0 := h0
  have lt0 : ∀ x ∈ p0, x.block < W.heap.size := by obtain ⟨m, hm⟩ := k0; exact DataW.trod_lt m _ _ _ hm
  obtain ⟨x0, F0, R0⟩ := Rds.argG (inferInstance : Rds Tryz.prog 27 _) k0
  clear hA0 hval0
  refine (Run.calls (walk W x0 _ F0 R0)).mono fun e W' ⟨v, he, hv, bel⟩ => ?_
  subst he
  subst hv
  exact ⟨_, rfl, _, _, _, [], _, [], hW', trodAll_mk1 (shut_bool Tryz.underlying4 _), (trodAll_cons_mk (Below.trod laidOut (by kernel_rfl) (of_decide_eq_true (by kernel_rfl)) k0 bel lt0) trodAll_mk0), rfl, bel.frame _, fun h => by cases h⟩
theorem down : V.downB Tryz.prog [] [46, 45, 74, 31, 10, 55, 54, 76, 33, 13, 105, 157, 156, 106, 132, 107, 64, 65, 87, 198, 95, 199, 158, 110, 50, 147, 109, 145, 146, 90, 108, 67, 66, 93, 52, 81, 91, 92, 48, 49, 94, 51, 53, 12, 24, 111, 161, 200, 196, 174, 160, 159, 69, 112, 162, 113, 68, 114, 83, 117, 215, 204, 165, 135, 202, 139, 217, 214, 203, 169, 164, 116, 201, 163, 115, 71, 101, 70, 153, 154, 100, 104, 120, 102, 197, 155, 103, 58, 25, 39, 26, 59, 60, 17, 16, 40, 62, 21, 19, 27, 41, 28, 4] = true := by kernel_rfl
theorem closed : joinedFacts Tryz.pinned.checked.prog 4 Tryz.f4 Rows.fnExactRadicalLayersSpec Rows.fnExactRadicalLayersRow = true := by
  have h : Program.recurses Tryz.pinned.checked.prog 4 = Program.unfollowed Tryz.pinned.checked.prog 4 := V.recurses_down _ down (by kernel_rfl)
  unfold joinedFacts
  rw [h]
  change _ = _
  kernel_rfl
theorem over : Rows.fnExactRadicalLayersRow.holds Tryz.pinned (OpenSpec.ofChange Rows.fnExactRadicalLayersSpec) :=
  OpenClaim.holds_of_wide 4 Tryz.f4 rfl rfl rfl rfl rfl rfl rfl ⟨rfl, rfl, rfl, rfl, rfl⟩ rfl rfl rfl rfl rfl (by kernel_rfl) Tryz.func4 closed
    (of_decide_eq_true (by kernel_rfl)) (by unfold Func.isWrapper; first | (rw [if_pos (by decide +kernel)]; kernel_rfl) | (rw [if_neg (by decide +kernel)]; exact ⟨rfl, rfl⟩))
    (fun os started H enc _ => lifted os started H enc)
theorem proved : Rows.FnExactRadicalLayersSaid := over
end fnExactRadicalLayers
end Go.Proofs.YtjnhjfgcfclamaaGreat
