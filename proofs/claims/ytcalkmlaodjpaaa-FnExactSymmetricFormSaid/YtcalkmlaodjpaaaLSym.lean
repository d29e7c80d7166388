/- The law FnExactSymmetricForm holds for every input: program and reference return the same rows, the argument stays as it was, and what is returned is in memory of its own. No condition. -/
import Derived.Test.YtcalkmlaodjpaaaDown
import Derived.Test.YtcalkmlaodjpaaaHeaded
import Derived.Test.YtcalkmlaodjpaaaMr
import Derived.Test.YtcalkmlaodjpaaaA10
import Derived.OpenShut
namespace Go.Proofs.Ytcalkmlaodjpaaa
open V.Enc (enc)
open Go.ChangeShapes Go.WideShapes Go.ChangeAt Go.RowKit G D V
set_option linter.unusedVariables false
set_option linter.unusedSimpArgs false
set_option maxHeartbeats 400000
set_option maxRecDepth 4000
attribute [local irreducible] V.AW V.ARg V.ARA V.ARet V.MRet V.ASil V.AC V.AM
theorem V.ctSS_sym (q : Quiv) : (symF q).length + cnt ctL (symF q) ≤ 1000000 := by
  unfold symF
  cases hq : okQ q with
  | false => simp [cnt]
  | true =>
    have h5 := okQ_spec hq
    have hs := symM_sq hq q.fr.length (Nat.le_refl _)
    have hb : cnt ctL (symM q q.fr.length) ≤ (symM q q.fr.length).length * 5 := cnt_bd fun x hx => by
      obtain ⟨i, hi, rfl⟩ := List.mem_iff_getElem.1 hx
      have := (hs.2 i (by rw [← hs.1]; exact hi)).1
      simp only [ctL]
      have e : (symM q q.fr.length).getD i [] = (symM q q.fr.length)[i] := by simp [hi]
      rw [e] at this; omega
    have hl := hs.1
    simp only [cond_true]; omega
theorem fnExactSymmetricForm.ac (q : Quiv) : AC Try.prog 4 [.agg (enc false q)] [.b true] := by
  refine AC.go Try.func4 Try.ntmps4 rfl rfl fun w0 hw => ?_; simp [WfL, WfA, E_length, Enc.enc, In64] at hw
  have hZ := szQuiver_a q 1048576 (by decide) (by decide)
  have hb := sz1_le' (n := totQ q) (l := 1048576)
  generalize sz1 (totQ q) 1048576 = z at hZ hb
  by_cases hs : 0 ≤ z
  · have hb := hb hs
    have hT := toQuiver_a q (by omega)
    have hS := specSymmetricForm_a q
    have hI := implSymmetricForm_a q
    have hc := V.ctSS_sym q
    generalize symF q = r at hS hI hc
    have hE := eqIntSS_a r r
    rw [decide_eq_true rfl] at hE
    have hEq := eqQuiver_s q
    obtain ⟨_, _, _, _, hMq⟩ := markQ_x q (by omega)
    obtain ⟨_, _, hM, hH⟩ := markSS_x r (by omega)
    repeat' first | refine s1 ?_ | (refine kR ?_; first | refine F.c (hZ) ?_ | refine F.c (hT) ?_ | refine F.c (hS) ?_ | refine F.c (hI) ?_ | refine F.c (hE) ?_) | fail
    refine AW.draw 5 G.mixed (by kernel_rfl) ?_
    refine dL 0 ?_
    refine dL 1 ?_
    refine dO 2 true ?_
    first | refine s1 ?_ | refine F.c (hT) ?_ | refine F.c (hEq) ?_
    refine ARg.nil (ATh.normal ?_)
    refine dO 3 true ?_
    first | refine s1 ?_ | refine F.c (hT) ?_ | refine F.c (hEq) ?_
    refine ARg.nil (ATh.normal ?_)
    refine dP 4 ?_
    refine dN ?_
    repeat' first | refine s1 ?_ | (refine kR ?_; first | refine F.m [4, 5] (hMq) ?_ | refine F.c (hE) ?_ | refine F.m [7] (hM) ?_ | refine F.c (hH) ?_ | refine F.c (hT) ?_ | refine F.c (hI) ?_) | fail
    (refine kZ ?_; exact F.ret rfl)
  · repeat' first | refine s1 ?_ | (refine kR ?_; first | refine F.c (hZ) ?_) | fail
    (refine kZ ?_; exact F.ret rfl)
theorem fnExactSymmetricForm.walk (w : World) (y : Quiv) (us : List Value) (F : List Nat) (h : quivR.V w y us F) : Run Try.prog 4 [.agg us.toArray] w fun v w' => v = .bool true ∧ Later w w' :=
  (fnExactSymmetricForm.ac y).law (.agg (RdE.h h) (.nil w))
namespace fnExactSymmetricForm
theorem own : ownKnob Try.prog.godebug = none := by kernel_rfl
theorem laidOut : laidOutB Try.prog = true := by kernel_rfl
set_option maxRecDepth 100000 in
theorem lifted (os : Os) (started : os.Started) (H : Type) (enc : TypeId × Value → H) :
    ReturnsInHanded {} Try.checked os 4 .any (Rows.fnExactSymmetricFormSpec.pre6 enc Try.prog Try.f4 Rows.fnExactSymmetricFormRow.domain false) (Rows.fnExactSymmetricFormSpec.post enc Try.prog Try.f4 false true false false) := by
  refine returnsInHanded_of_change (C := Try.checked) own started (by kernel_rfl) Try.func4
    (ChangeSpec.witness6 (enc := enc) (C := Try.checked) false ⟨#[], #[.agg #[.int .i64 0, .slice none 0 0, .slice none 0 0]], []⟩ 8 (by kernel_rfl) (by kernel_rfl) (by kernel_rfl) (by kernel_rfl)) ?_
  intro W base args ds gs before hval0 hW hcnd _
  have hval : ∀ (j : Nat) t v, Try.f4.params[j]? = some t → args[j]? = some v → Value.okWide Try.prog W .any base t v := hval0
  have hW' := hW
  obtain ⟨p, q, hA0, hV, rfl, hfz, hnd⟩ := hW
  have hA : DataW.TrodAll enc Try.prog W 0 (fun _ => true) true Try.f4.params.toList args.toList ds p := hA0
  rw [Try.params4] at hA hval
  obtain ⟨v0, vs0, d0, ds0, p0, q0, hargs, rfl, rfl, h0, r0⟩ := trodAll_cons hA
  obtain ⟨rfl, rfl, rfl⟩ := trodAll_nil r0
  obtain rfl : args = #[v0] := by cases args; simp_all
  obtain ⟨rfl, rfl⟩ := trodVars_none hV
  obtain ⟨⟨l0⟩, rfl, hsz0⟩ := okWide_struct Try.underlying30 (hval 0 30 v0 rfl rfl)
  have k0 := h0
  have lt0 : ∀ x ∈ p0, x.block < W.heap.size := by obtain ⟨m, hm⟩ := k0; exact DataW.trod_lt m _ _ _ hm
  obtain ⟨x0, F0, R0⟩ := Rds.argG (inferInstance : Rds Try.prog 30 _) k0
  clear hA0 hval0
  refine (Run.calls (walk W x0 _ F0 R0)).mono fun e W' ⟨v, he, hv, bel⟩ => ?_
  subst he
  subst hv
  exact ⟨_, rfl, _, _, _, [], _, [], hW', trodAll_mk1 (shut_bool Try.underlying4 _), (trodAll_cons_mk (Below.trod laidOut (by kernel_rfl) (of_decide_eq_true (by kernel_rfl)) k0 bel lt0) trodAll_mk0), rfl, bel.frame _, fun h => by cases h⟩
theorem down : V.downB Try.prog [] [61, 20, 64, 22, 62, 69, 21, 123, 122, 154, 121, 67, 70, 71, 23, 37, 19, 24, 38, 25, 26, 39, 27, 4] = true := by kernel_rfl
theorem rec0 : Program.recurses Try.pinned.checked.prog 4 = Program.unfollowed Try.pinned.checked.prog 4 := V.recurses_down _ down (by kernel_rfl)
theorem unf : Program.unfollowed Try.pinned.checked.prog 4 = Rows.fnExactSymmetricFormRow.unfollowed := by kernel_rfl
theorem inp : Program.inPlace Try.pinned.checked.prog 4 = Rows.fnExactSymmetricFormRow.inPlace := by kernel_rfl
theorem vnm : Program.varsNamed Try.pinned.checked.prog 4 = Rows.fnExactSymmetricFormRow.named := by kernel_rfl
theorem closed : joinedFacts Try.pinned.checked.prog 4 Try.f4 Rows.fnExactSymmetricFormSpec Rows.fnExactSymmetricFormRow = true := by
  unfold joinedFacts
  rw [rec0, unf, inp, vnm, V.hdEnter, V.hdLifts, V.hdMake]
  change _ = _
  kernel_rfl
theorem over : Rows.fnExactSymmetricFormRow.holds Try.pinned (OpenSpec.ofChange Rows.fnExactSymmetricFormSpec) :=
  OpenClaim.holds_of_wide 4 Try.f4 rfl rfl rfl rfl rfl rfl rfl ⟨rfl, rfl, rfl, rfl, rfl⟩ rfl rfl rfl rfl rfl (by kernel_rfl) Try.func4 closed
    (of_decide_eq_true (by kernel_rfl)) (by unfold Func.isWrapper; first | (rw [if_pos (by decide +kernel)]; kernel_rfl) | (rw [if_neg (by decide +kernel)]; exact ⟨rfl, rfl⟩))
    (fun os started H enc _ => lifted os started H enc)
theorem proved : Rows.FnExactSymmetricFormSaid := over
end fnExactSymmetricForm
end Go.Proofs.Ytcalkmlaodjpaaa
