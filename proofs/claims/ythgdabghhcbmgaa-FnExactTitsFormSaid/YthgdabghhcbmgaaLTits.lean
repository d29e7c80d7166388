/- The law FnExactTitsForm holds for every input: program and reference return the same number for every quiver and every list of numbers, and the arguments stay as they were. No condition. -/
import Derived.Test.YthgdabghhcbmgaaLa
import Derived.OpenShut
import Derived.Test.YthgdabghhcbmgaaFb
import Derived.Test.YthgdabghhcbmgaaFg
namespace Go.Proofs.Ythgdabghhcbmgaa
open Go.ChangeShapes Go.WideShapes Go.ChangeAt Go.RowKit G D F
set_option linter.unusedVariables false
set_option maxHeartbeats 4000000
theorem fnExactTitsForm.walk (w : World) (q : Quiv) (vs : List Value) (Fq : List Nat) (hq : quivR.V w q vs Fq) (x : List Int) (vx : Value) (Fx : List Nat) (hx : intsR.V w x [vx] Fx) :
    Run Try.prog 5 [.agg vs.toArray, vx] w fun v w' => v = .bool true ∧ Later w w' := by
  have hq' := hq
  obtain ⟨v1, v2, F1, F2, rfl, rfl, hn, hq1, hq2⟩ := quivR.open hq
  obtain ⟨px, cx, rfl, hpcx, hcmx, hpx⟩ := listR.open1 hx
  have hH := Hp.init w
  refine Run.go Try.func5 Try.ntmps5 rfl rfl ?_
  repeat' first | refine go1 ?_ | (refine go2 ?_ ?_ <;> intro hc) | (clear hH; intro b w1 hH) | (clear hH; intro w1 hH)
  · exact Fin.oneB rfl rfl ⟨rfl, hH.low⟩
  refine Rg.call (szQuiver_c q _ _ _ _ (quivR.later hq' hH.low) (by omega) (by omega)) rfl rfl rfl ?_
  rintro v w2 ⟨rfl, hl2⟩
  replace hH := hH.later hl2
  repeat' first | refine go1 ?_ | (refine go2 ?_ ?_ <;> intro hc) | (clear hH; intro b w1 hH) | (clear hH; intro w1 hH)
  · exact Fin.oneB rfl rfl ⟨rfl, hH.low⟩
  obtain ⟨hz1, hz2⟩ := szQ_bd (q := q) (by omega)
  refine Rg.call (toQuiver_c q _ _ _ (quivR.later hq' hH.low) hz1 hz2) rfl rfl rfl ?_
  rintro v w3 ⟨hl3, us3, F3, rfl, hN3⟩
  replace hH := hH.got hl3 hN3
  repeat' first | refine go1 ?_ | (refine go2 ?_ ?_ <;> intro hc) | (clear hH; intro b w1 hH) | (clear hH; intro w1 hH)
  refine Rg.call (toIntS_c x _ _ _ (intsR.later hx hH.low) (by omega)) rfl rfl rfl ?_
  rintro v w4 ⟨hl4, F4, hN4⟩
  replace hH := hH.got hl4 hN4
  repeat' first | refine go1 ?_ | (refine go2 ?_ ?_ <;> intro hc) | (clear hH; intro b w1 hH) | (clear hH; intro w1 hH)
  refine Rg.call (specTitsForm_c q _ _ x _ _ _ (hH.data 1 rfl hN3.1) (hH.data 0 rfl hN4.1)) rfl rfl rfl ?_
  rintro v w6 ⟨rfl, hl6⟩
  replace hH := hH.later hl6
  repeat' first | refine go1 ?_ | (refine go2 ?_ ?_ <;> intro hc) | (clear hH; intro b w1 hH) | (clear hH; intro w1 hH)
  refine Rg.call (toQuiver_c q _ _ _ (quivR.later hq' hH.low) hz1 hz2) rfl rfl rfl ?_
  rintro v w7 ⟨hl7, us7, F7, rfl, hN7⟩
  replace hH := hH.got hl7 hN7
  obtain ⟨v71, v72, G71, G72, rfl, rfl, _, hq71, hq72⟩ := quivR.open hN7.1
  obtain ⟨p71, c71, rfl, _⟩ := listR.open1 hq71
  obtain ⟨p72, c72, rfl, _⟩ := listR.open1 hq72
  repeat' first | refine go1 ?_ | (refine go2 ?_ ?_ <;> intro hc) | (clear hH; intro b w1 hH) | (clear hH; intro w1 hH)
  refine Rg.call (toIntS_c x _ _ _ (intsR.later hx hH.low) (by omega)) rfl rfl rfl ?_
  rintro v8 w8 ⟨hl8, F8, hN8⟩
  replace hH := hH.got hl8 hN8
  repeat' first | refine go1 ?_ | (refine go2 ?_ ?_ <;> intro hc) | (clear hH; intro b w1 hH) | (clear hH; intro w1 hH)
  refine Rg.call (implTitsForm_c q _ _ x _ _ _ (hH.data 1 rfl hN7.1) (hH.data 0 rfl hN8.1)) rfl rfl rfl ?_
  rintro v w10 ⟨rfl, hl10⟩
  replace hH := hH.later hl10
  repeat' first | refine go1 ?_ | (refine go2 ?_ ?_ <;> intro hc) | (clear hH; intro b w1 hH) | (clear hH; intro w1 hH)
  refine Wp.draw 5 mixed (by kernel_rfl) ?_
  replace hH := hH.drew
  refine td 0 ?_
  refine td 1 ?_
  refine RgA.only 2 rfl (by kernel_rfl) ?_
  refine Rg.call (toQuiver_c q _ _ _ (quivR.later hq' hH.low) hz1 hz2) rfl rfl rfl ?_
  rintro v w11 ⟨hl11, us11, F11, rfl, hN11⟩
  replace hH := hH.got hl11 hN11
  refine Rg.nil (Th.normal ⟨.inr hl11, ?_⟩)
  refine RgA.only 3 rfl (by kernel_rfl) ?_
  refine Rg.call (eqQuiver_c q q _ _ _ _ _ (hH.data 2 rfl hN7.1) (hH.data 0 rfl hN11.1)) rfl rfl rfl ?_
  rintro v w12 ⟨rfl, hl12⟩
  replace hH := hH.later hl12
  refine Rg.nil (Th.normal ⟨.inr hl12, ?_⟩)
  simp only [decide_true, Bool.and_self]
  refine td 4 ?_
  refine RgA.nil (by kernel_rfl) ?_
  repeat' first | refine go1 ?_ | (refine go2 ?_ ?_ <;> intro hc) | (clear hH; intro b w1 hH) | (clear hH; intro w1 hH)
  refine Rg.call (toIntS_c x _ _ _ (intsR.later hx hH.low) (by omega)) rfl rfl rfl ?_
  rintro v w13 ⟨hl13, F13, hN13⟩
  replace hH := hH.got hl13 hN13
  repeat' first | refine go1 ?_ | (refine go2 ?_ ?_ <;> intro hc) | (clear hH; intro b w1 hH) | (clear hH; intro w1 hH)
  refine Rg.call (eqIntS_c x x _ _ _ _ _ (hH.data 2 rfl hN8.1) (hH.data 0 rfl hN13.1)) rfl rfl rfl ?_
  rintro v w14 ⟨rfl, hl14⟩
  replace hH := hH.later hl14
  simp only [decide_true]
  repeat' first | refine go1 ?_ | (refine go2 ?_ ?_ <;> intro hc) | (clear hH; intro b w1 hH) | (clear hH; intro w1 hH)
  exact Fin.oneB rfl rfl ⟨rfl, hH.low⟩
namespace fnExactTitsForm
theorem own : ownKnob Try.prog.godebug = none := by kernel_rfl
theorem laidOut : laidOutB Try.prog = true := by kernel_rfl
set_option maxRecDepth 100000 in
theorem lifted (os : Os) (started : os.Started) (H : Type) (enc : TypeId × Value → H) :
    ReturnsInHanded {} Try.checked os 5 .any (Rows.fnExactTitsFormSpec.pre6 enc Try.prog Try.f5 Rows.fnExactTitsFormRow.domain false) (Rows.fnExactTitsFormSpec.post enc Try.prog Try.f5 false true false false) := by
  refine returnsInHanded_of_change (C := Try.checked) own started (by kernel_rfl) Try.func5
    (ChangeSpec.witness6 (enc := enc) (C := Try.checked) false ⟨#[], #[.agg #[.int .i64 0, .slice none 0 0, .slice none 0 0], .slice none 0 0], []⟩ 8 (by kernel_rfl) (by kernel_rfl) (by kernel_rfl) (by kernel_rfl)) ?_
  intro W base args ds gs before hval0 hW hcnd _
  have hval : ∀ (j : Nat) t v, Try.f5.params[j]? = some t → args[j]? = some v → Value.okWide Try.prog W .any base t v := hval0
  have hW' := hW
  obtain ⟨p, q, hA0, hV, rfl, hfz, hnd⟩ := hW
  have hA : DataW.TrodAll enc Try.prog W 0 (fun _ => true) true Try.f5.params.toList args.toList ds p := hA0
  rw [Try.params5] at hA hval
  obtain ⟨v0, vs0, d0, ds0, p0, q0, hargs, rfl, rfl, h0, r0⟩ := trodAll_cons hA
  obtain ⟨v1, vs1, d1, ds1, p1, q1, rfl, rfl, rfl, h1, r1⟩ := trodAll_cons r0
  obtain ⟨rfl, rfl, rfl⟩ := trodAll_nil r1
  obtain rfl : args = #[v0, v1] := by cases args; simp_all
  obtain ⟨rfl, rfl⟩ := trodVars_none hV
  obtain ⟨⟨l0⟩, rfl, hsz0⟩ := okWide_struct Try.underlying26 (hval 0 26 v0 rfl rfl)
  have k0 := h0
  have lt0 : ∀ x ∈ p0, x.block < W.heap.size := by obtain ⟨m, hm⟩ := k0; exact DataW.trod_lt m _ _ _ hm
  obtain ⟨x0, F0, R0⟩ := Rds.argG (inferInstance : Rds Try.prog 26 _) k0
  obtain ⟨a1, len1, cap1, rfl⟩ := okWide_slice Try.underlying24 (hval 1 24 v1 rfl rfl)
  have k1 := h1
  have lt1 : ∀ x ∈ p1, x.block < W.heap.size := by obtain ⟨m, hm⟩ := k1; exact DataW.trod_lt m _ _ _ hm
  obtain ⟨x1, F1, R1⟩ := Rds.arg1 (inferInstance : Rds Try.prog 24 _) k1 rfl
  clear hA0 hval0
  refine (Run.calls (walk W x0 _ F0 R0 x1 _ F1 R1)).mono fun e W' ⟨v, he, hv, bel⟩ => ?_
  subst he
  subst hv
  exact ⟨_, rfl, _, _, _, [], _, [], hW', trodAll_mk1 (shut_bool Try.underlying4 _), (trodAll_cons_mk (Below.trod laidOut (by kernel_rfl) (of_decide_eq_true (by kernel_rfl)) k0 bel lt0) (trodAll_cons_mk (Below.trod laidOut (by kernel_rfl) (of_decide_eq_true (by kernel_rfl)) k1 bel lt1) trodAll_mk0)), rfl, bel.frame _, fun h => by cases h⟩
theorem over : Rows.fnExactTitsFormRow.holds Try.pinned (OpenSpec.ofChange Rows.fnExactTitsFormSpec) :=
  OpenClaim.holds_of_wide 5 Try.f5 rfl rfl rfl rfl rfl rfl rfl ⟨rfl, rfl, rfl, rfl, rfl⟩ rfl rfl rfl rfl rfl (by kernel_rfl) Try.func5 (by kernel_rfl)
    (of_decide_eq_true (by kernel_rfl)) (by unfold Func.isWrapper; first | (rw [if_pos (by decide +kernel)]; kernel_rfl) | (rw [if_neg (by decide +kernel)]; exact ⟨rfl, rfl⟩))
    (fun os started H enc _ => lifted os started H enc)
theorem proved : Rows.FnExactTitsFormSaid := over
end fnExactTitsForm
end Go.Proofs.Ythgdabghhcbmgaa
