/- The law FnExactDeterminantOf holds for every input: program and reference return the same number for every list of lists of numbers, and the argument stays as it was. No condition. -/
import Derived.Test.YtcalkmlaodjpaaaDown
import Derived.Test.YtcalkmlaodjpaaaHeaded
import Derived.Test.YtcalkmlaodjpaaaLa
import Derived.Test.YtcalkmlaodjpaaaLb
import Derived.Test.YtcalkmlaodjpaaaA5
import Derived.Test.YtcalkmlaodjpaaaHm
import Derived.OpenShut
namespace Go.Proofs.Ytcalkmlaodjpaaa
open V.Enc (enc)
open Go.ChangeShapes Go.WideShapes Go.ChangeAt Go.RowKit G D V
set_option linter.unusedVariables false
set_option linter.unusedSimpArgs false
set_option maxHeartbeats 400000
theorem V.le_sum {a : Nat} : ∀ {l : List Nat}, a ∈ l → a ≤ l.sum
  | [], h => by cases h
  | b :: l, h => by
    rw [List.sum_cons]
    rcases List.mem_cons.1 h with rfl | h
    · omega
    · have := V.le_sum h; omega
theorem V.szSS_bd {m : List (List Int)} (h : 0 ≤ szSS m 1048576) : m.length ≤ 1048576 ∧ ∀ x ∈ m, x.length ≤ 1048576 := by
  unfold szSS at h
  split at h
  · omega
  · have h1 := szRows_bd m _ (by omega) (by omega) h
    refine ⟨by omega, fun x hx => ?_⟩
    have := V.le_sum (List.mem_map_of_mem (f := List.length) hx)
    omega
theorem fnExactDeterminantOf.ac (m : List (List Int)) : AC Try.prog 3 [ar false m] [.b true] := by
  refine AC.go Try.func3 Try.ntmps3 rfl rfl fun w0 hw => ?_; simp [WfL, WfA, E_length, Enc.enc, In64] at hw
  have hZ := szIntSS_a m 1048576 (by decide) (by decide)
  have hB := V.szSS_bd (m := m)
  have hI := implDeterminantOf_a m
  have hS := specDeterminantOf_a m
  have hE := eqIntSS_a m m
  rw [decide_eq_true rfl] at hE
  generalize detOf m = dm at hI hS
  generalize szSS m 1048576 = z at hZ hB
  by_cases hs : 0 ≤ z
  · obtain ⟨h1, h2⟩ := hB hs
    have hT := toIntSS_a m h1 h2
    repeat' first | refine s1 ?_ | fail
    refine F.c hZ ?_
    repeat' first | refine s1 ?_ | fail
    refine F.c hT ?_
    repeat' first | refine s1 ?_ | fail
    refine F.c hS ?_
    repeat' first | refine s1 ?_ | fail
    refine F.c hT ?_
    repeat' first | refine s1 ?_ | fail
    refine F.c hI ?_
    repeat' first | refine s1 ?_ | fail
    refine F.c hT ?_
    repeat' first | refine s1 ?_ | fail
    refine F.c hE ?_
    repeat' first | refine s1 ?_ | fail
    exact F.ret rfl
  · repeat' first | refine s1 ?_ | fail
    refine F.c hZ ?_
    repeat' first | refine s1 ?_ | fail
    exact F.ret rfl
theorem fnExactDeterminantOf.walk (w : World) (x : List (List Int)) (v : Value) (F : List Nat) (h : (listR (listR intR)).V w x [v] F) : Run Try.prog 3 [v] w fun v w' => v = .bool true ∧ Later w w' :=
  (fnExactDeterminantOf.ac x).law (.cons (RdE.h h) (.nil w))
namespace fnExactDeterminantOf
theorem own : ownKnob Try.prog.godebug = none := by kernel_rfl
theorem laidOut : laidOutB Try.prog = true := by kernel_rfl
set_option maxRecDepth 100000 in
theorem lifted (os : Os) (started : os.Started) (H : Type) (enc : TypeId × Value → H) :
    ReturnsInHanded {} Try.checked os 3 .any (Rows.fnExactDeterminantOfSpec.pre6 enc Try.prog Try.f3 Rows.fnExactDeterminantOfRow.domain false) (Rows.fnExactDeterminantOfSpec.post enc Try.prog Try.f3 false true false false) := by
  refine returnsInHanded_of_change (C := Try.checked) own started (by kernel_rfl) Try.func3
    (ChangeSpec.witness6 (enc := enc) (C := Try.checked) false ⟨#[], #[.slice none 0 0], []⟩ 8 (by kernel_rfl) (by kernel_rfl) (by kernel_rfl) (by kernel_rfl)) ?_
  intro W base args ds gs before hval0 hW hcnd _
  have hval : ∀ (j : Nat) t v, Try.f3.params[j]? = some t → args[j]? = some v → Value.okWide Try.prog W .any base t v := hval0
  have hW' := hW
  obtain ⟨p, q, hA0, hV, rfl, hfz, hnd⟩ := hW
  have hA : DataW.TrodAll enc Try.prog W 0 (fun _ => true) true Try.f3.params.toList args.toList ds p := hA0
  rw [Try.params3] at hA hval
  obtain ⟨v0, vs0, d0, ds0, p0, q0, hargs, rfl, rfl, h0, r0⟩ := trodAll_cons hA
  obtain ⟨rfl, rfl, rfl⟩ := trodAll_nil r0
  obtain rfl : args = #[v0] := by cases args; simp_all
  obtain ⟨rfl, rfl⟩ := trodVars_none hV
  obtain ⟨a0, len0, cap0, rfl⟩ := okWide_slice Try.underlying22 (hval 0 22 v0 rfl rfl)
  have k0 := h0
  have lt0 : ∀ x ∈ p0, x.block < W.heap.size := by obtain ⟨m, hm⟩ := k0; exact DataW.trod_lt m _ _ _ hm
  obtain ⟨x0, F0, R0⟩ := Rds.arg1 (inferInstance : Rds Try.prog 22 _) k0 rfl
  clear hA0 hval0
  refine (Run.calls (walk W x0 _ F0 R0)).mono fun e W' ⟨v, he, hv, bel⟩ => ?_
  subst he
  subst hv
  exact ⟨_, rfl, _, _, _, [], _, [], hW', trodAll_mk1 (shut_bool Try.underlying4 _), (trodAll_cons_mk (Below.trod laidOut (by kernel_rfl) (of_decide_eq_true (by kernel_rfl)) k0 bel lt0) trodAll_mk0), rfl, bel.frame _, fun h => by cases h⟩
theorem rec0 : Program.recurses Try.pinned.checked.prog 3 = true := V.recurses_at 63 63 (by kernel_rfl) (by kernel_rfl) (by kernel_rfl)
theorem unf : Program.unfollowed Try.pinned.checked.prog 3 = Rows.fnExactDeterminantOfRow.unfollowed := by kernel_rfl
theorem inp : Program.inPlace Try.pinned.checked.prog 3 = Rows.fnExactDeterminantOfRow.inPlace := by kernel_rfl
theorem vnm : Program.varsNamed Try.pinned.checked.prog 3 = Rows.fnExactDeterminantOfRow.named := by kernel_rfl
theorem closed : joinedFacts Try.pinned.checked.prog 3 Try.f3 Rows.fnExactDeterminantOfSpec Rows.fnExactDeterminantOfRow = true := by
  unfold joinedFacts
  rw [rec0, unf, inp, vnm, V.hdEnter, V.hdLifts, V.hdMake]
  change _ = _
  kernel_rfl
theorem over : Rows.fnExactDeterminantOfRow.holds Try.pinned (OpenSpec.ofChange Rows.fnExactDeterminantOfSpec) :=
  OpenClaim.holds_of_wide 3 Try.f3 rfl rfl rfl rfl rfl rfl rfl ⟨rfl, rfl, rfl, rfl, rfl⟩ rfl rfl rfl rfl rfl (by kernel_rfl) Try.func3 closed
    (of_decide_eq_true (by kernel_rfl)) (by unfold Func.isWrapper; first | (rw [if_pos (by decide +kernel)]; kernel_rfl) | (rw [if_neg (by decide +kernel)]; exact ⟨rfl, rfl⟩))
    (fun os started H enc _ => lifted os started H enc)
theorem proved : Rows.FnExactDeterminantOfSaid := over
end fnExactDeterminantOf
end Go.Proofs.Ytcalkmlaodjpaaa
