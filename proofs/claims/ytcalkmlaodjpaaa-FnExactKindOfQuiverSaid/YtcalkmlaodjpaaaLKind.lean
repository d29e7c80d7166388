/- The law FnExactKindOfQuiver holds for every input: program and reference return the same number, and the argument stays as it was. No condition. -/
import Derived.Test.YtcalkmlaodjpaaaDown
import Derived.Test.YtcalkmlaodjpaaaHeaded
import Derived.Test.YtcalkmlaodjpaaaMr
import Derived.Test.YtcalkmlaodjpaaaA11
import Derived.OpenShut
namespace Go.Proofs.Ytcalkmlaodjpaaa
open V.Enc (enc)
open Go.ChangeShapes Go.WideShapes Go.ChangeAt Go.RowKit G D V
set_option linter.unusedVariables false
set_option linter.unusedSimpArgs false
set_option maxHeartbeats 400000
set_option maxRecDepth 4000
attribute [local irreducible] V.AW V.ARg V.ARA V.ARet V.MRet V.ASil V.AC V.AM
theorem fnExactKindOfQuiver.ac (q : Quiv) : AC Try.prog 5 [.agg (enc false q)] [.b true] := by
  refine AC.go Try.func5 Try.ntmps5 rfl rfl fun w0 hw => ?_; simp [WfL, WfA, E_length, Enc.enc, In64] at hw
  have hZ := szQuiver_a q 1048576 (by decide) (by decide)
  have hb := sz1_le' (n := totQ q) (l := 1048576)
  generalize sz1 (totQ q) 1048576 = z at hZ hb
  by_cases hs : 0 ≤ z
  · have hb := hb hs
    have hT := toQuiver_a q (by omega)
    have hS := specKindOfQuiver_a q
    have hI := implKindOfQuiver_a q
    generalize kindQ q = r at hS hI
    have hEq := eqQuiver_s q
    repeat' first | refine s1 ?_ | (refine kR ?_; first | refine F.c (hZ) ?_ | refine F.c (hT) ?_ | refine F.c (hS) ?_ | refine F.c (hI) ?_) | fail
    refine AW.draw 5 G.mixed (by kernel_rfl) ?_
    refine dL 0 ?_
    refine dL 1 ?_
    refine dO 2 true ?_
    first | refine s1 ?_ | refine F.c (hT) ?_ | refine F.c (hEq) ?_
    refine ARg.nil (ATh.normal ?_)
    refine dO 3 true ?_
    first | refine s1 ?_ | refine F.c (hT) ?_ | refine F.c (hEq) ?_
    refine ARg.nil (ATh.normal ?_)
    refine dP 4 ?_
    refine dN ?_
    repeat' first | refine s1 ?_ | fail
    (refine kZ ?_; exact F.ret rfl)
  · repeat' first | refine s1 ?_ | (refine kR ?_; first | refine F.c (hZ) ?_) | fail
    (refine kZ ?_; exact F.ret rfl)
theorem fnExactKindOfQuiver.walk (w : World) (y : Quiv) (us : List Value) (F : List Nat) (h : quivR.V w y us F) : Run Try.prog 5 [.agg us.toArray] w fun v w' => v = .bool true ∧ Later w w' :=
  (fnExactKindOfQuiver.ac y).law (.agg (RdE.h h) (.nil w))
namespace fnExactKindOfQuiver
theorem own : ownKnob Try.prog.godebug = none := by kernel_rfl
theorem laidOut : laidOutB Try.prog = true := by kernel_rfl
set_option maxRecDepth 100000 in
theorem lifted (os : Os) (started : os.Started) (H : Type) (enc : TypeId × Value → H) :
    ReturnsInHanded {} Try.checked os 5 .any (Rows.fnExactKindOfQuiverSpec.pre6 enc Try.prog Try.f5 Rows.fnExactKindOfQuiverRow.domain false) (Rows.fnExactKindOfQuiverSpec.post enc Try.prog Try.f5 false true false false) := by
  refine returnsInHanded_of_change (C := Try.checked) own started (by kernel_rfl) Try.func5
    (ChangeSpec.witness6 (enc := enc) (C := Try.checked) false ⟨#[], #[.agg #[.int .i64 0, .slice none 0 0, .slice none 0 0]], []⟩ 8 (by kernel_rfl) (by kernel_rfl) (by kernel_rfl) (by kernel_rfl)) ?_
  intro W base args ds gs before hval0 hW hcnd _
  have hval : ∀ (j : Nat) t v, Try.f5.params[j]? = some t → args[j]? = some v → Value.okWide Try.prog W .any base t v := hval0
  have hW' := hW
  obtain ⟨p, q, hA0, hV, rfl, hfz, hnd⟩ := hW
  have hA : DataW.TrodAll enc Try.prog W 0 (fun _ => true) true Try.f5.params.toList args.toList ds p := hA0
  rw [Try.params5] at hA hval
  obtain ⟨v0, vs0, d0, ds0, p0, q0, hargs, rfl, rfl, h0, r0⟩ := trodAll_cons hA
  obtain ⟨rfl, rfl, rfl⟩ := trodAll_nil r0
  obtain rfl : args = #[v0] := by cases args; simp_all
  obtain ⟨rfl, rfl⟩ := trodVars_none hV
  obtain ⟨⟨l0⟩, rfl, hsz0⟩ := okWide_struct Try.underlying30 (hval 0 30 v0 rfl rfl)
  have k0 := h0
  have lt0 : ∀ x ∈ p0, x.block < W.heap.size := by obtain ⟨m, hm⟩ := k0; exact DataW.trod_lt m _ _ _ hm
  obtain ⟨x0, F0, R0⟩ := Rds.argG (inferInstance : Rds Try.prog 30 _) k0
  clear hA0 hval0
  refine (Run.calls (walk W x0 _ F0 R0)).mono fun e W' ⟨v, he, hv, bel⟩ => ?_
  subst he
  subst hv
  exact ⟨_, rfl, _, _, _, [], _, [], hW', trodAll_mk1 (shut_bool Try.underlying4 _), (trodAll_cons_mk (Below.trod laidOut (by kernel_rfl) (of_decide_eq_true (by kernel_rfl)) k0 bel lt0) trodAll_mk0), rfl, bel.frame _, fun h => by cases h⟩
theorem rec0 : Program.recurses Try.pinned.checked.prog 5 = true := V.recurses_at 63 63 (by kernel_rfl) (by kernel_rfl) (by kernel_rfl)
theorem unf : Program.unfollowed Try.pinned.checked.prog 5 = Rows.fnExactKindOfQuiverRow.unfollowed := by kernel_rfl
theorem inp : Program.inPlace Try.pinned.checked.prog 5 = Rows.fnExactKindOfQuiverRow.inPlace := by kernel_rfl
theorem vnm : Program.varsNamed Try.pinned.checked.prog 5 = Rows.fnExactKindOfQuiverRow.named := by kernel_rfl
theorem closed : joinedFacts Try.pinned.checked.prog 5 Try.f5 Rows.fnExactKindOfQuiverSpec Rows.fnExactKindOfQuiverRow = true := by
  unfold joinedFacts
  rw [rec0, unf, inp, vnm, V.hdEnter, V.hdLifts, V.hdMake]
  change _ = _
  kernel_rfl
theorem over : Rows.fnExactKindOfQuiverRow.holds Try.pinned (OpenSpec.ofChange Rows.fnExactKindOfQuiverSpec) :=
  OpenClaim.holds_of_wide 5 Try.f5 rfl rfl rfl rfl rfl rfl rfl ⟨rfl, rfl, rfl, rfl, rfl⟩ rfl rfl rfl rfl rfl (by kernel_rfl) Try.func5 closed
    (of_decide_eq_true (by kernel_rfl)) (by unfold Func.isWrapper; first | (rw [if_pos (by decide +kernel)]; kernel_rfl) | (rw [if_neg (by decide +kernel)]; exact ⟨rfl, rfl⟩))
    (fun os started H enc _ => lifted os started H enc)
theorem proved : Rows.FnExactKindOfQuiverSaid := over
end fnExactKindOfQuiver
end Go.Proofs.Ytcalkmlaodjpaaa
