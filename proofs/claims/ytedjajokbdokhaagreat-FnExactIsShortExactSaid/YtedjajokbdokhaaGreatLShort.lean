/- The law FnExactIsShortExact holds for every input: program and reference return the same, the arguments stay as they were. No condition. -/
import Derived.Test.YtedjajokbdokhaaGreatUm
import Derived.Test.YtedjajokbdokhaaGreatA75
import Derived.Test.YtedjajokbdokhaaGreatDown
import Derived.OpenShut
namespace Go.Proofs.YtedjajokbdokhaaGreat
open Go.ChangeShapes Go.WideShapes Go.ChangeAt Go.RowKit G D V
set_option linter.unusedVariables false
set_option linter.unusedSimpArgs false
set_option maxHeartbeats 8000000
set_option maxRecDepth 4000
attribute [local irreducible] V.AW V.ARg V.ARA V.ARet V.MRet V.ASil V.AC V.AM
theorem fnExactIsShortExact.ac (a : Rep) (b : Rep) (c : Rep) (f : List Mat) (g : List Mat) : AC Tryz.prog 4 [.agg (enc false a), .agg (enc false b), .agg (enc false c), ar false f, ar false g] [.b true] := by
  refine AC.go Tryz.func4 Tryz.ntmps4 rfl rfl fun w0 hw => ?_; simp [WfL, WfA, E_length, Enc.enc, In64] at hw
  have hZ0 := szRep_a a 1048576 (by decide) (by decide)
  have hb0 := sz1_le' (n := totR a) (l := 1048576)
  generalize sz1 (totR a) 1048576 = z0 at hZ0 hb0
  by_cases hs0 : 0 ≤ z0
  · have hb0 := hb0 hs0
    have hZ1 := szRep_a b z0 hs0 (by omega)
    have hb1 := sz1_le' (n := totR b) (l := z0)
    generalize sz1 (totR b) z0 = z1 at hZ1 hb1
    by_cases hs1 : 0 ≤ z1
    · have hb1 := hb1 hs1
      have hZ2 := szRep_a c z1 hs1 (by omega)
      have hb2 := sz1_le' (n := totR c) (l := z1)
      generalize sz1 (totR c) z1 = z2 at hZ2 hb2
      by_cases hs2 : 0 ≤ z2
      · have hb2 := hb2 hs2
        have hZ3 := szMatrixS_a f z2 hs2 (by omega)
        have hb3 := sz1_le' (n := totMS f) (l := z2)
        generalize sz1 (totMS f) z2 = z3 at hZ3 hb3
        by_cases hs3 : 0 ≤ z3
        · have hb3 := hb3 hs3
          have hZ4 := szMatrixS_a g z3 hs3 (by omega)
          have hb4 := sz1_le' (n := totMS g) (l := z3)
          generalize sz1 (totMS g) z3 = z4 at hZ4 hb4
          by_cases hs4 : 0 ≤ z4
          · have hb4 := hb4 hs4
            have hT0 := toRep_a a (by omega)
            have hT1 := toRep_a b (by omega)
            have hT2 := toRep_a c (by omega)
            have hT3 := toMatrixS_a f (by omega)
            have hT4 := toMatrixS_a g (by omega)
            have hQ0 := eqRep_s a
            have hQ1 := eqRep_s b
            have hQ2 := eqRep_s c
            have hQ3 := eqMatrixS_s f
            have hQ4 := eqMatrixS_s g
            have hS := specIsShortExact_a a b c f g
            have hI := implIsShortExact_a a b c f g
            generalize shortB a b c f g = r0 at hS hI 
            have hN0 : (r0 != r0) = false := by simp
            repeat' first | refine s1 ?_ | (refine kR ?_; first | refine F.c (hZ0) ?_ | refine F.sil (A.neqBB rfl rfl) rfl rfl ?_) | fail
            repeat' first | refine s1 ?_ | (refine kR ?_; first | refine F.c (hZ1) ?_ | refine F.sil (A.neqBB rfl rfl) rfl rfl ?_) | fail
            repeat' first | refine s1 ?_ | (refine kR ?_; first | refine F.c (hZ2) ?_ | refine F.sil (A.neqBB rfl rfl) rfl rfl ?_) | fail
            repeat' first | refine s1 ?_ | (refine kR ?_; first | refine F.c (hZ3) ?_ | refine F.sil (A.neqBB rfl rfl) rfl rfl ?_) | fail
            repeat' first | refine s1 ?_ | (refine kR ?_; first | refine F.c (hZ4) ?_ | refine F.sil (A.neqBB rfl rfl) rfl rfl ?_) | fail
            refine AW.draw 12 G.mixed (by kernel_rfl) ?_
            refine dL 0 ?_
            refine dL 2 ?_
            refine dL 4 ?_
            refine dP 6 ?_
            refine dP 8 ?_
            refine dO 1 true ?_
            first | refine s1 ?_ | refine F.c (hT0) ?_ | refine F.c (hT1) ?_ | refine F.c (hT2) ?_ | refine F.c (hT3) ?_ | refine F.c (hT4) ?_ | refine F.c (hS) ?_
            refine ARg.nil (ATh.normal ?_)
            refine dO 3 true ?_
            first | refine s1 ?_ | refine F.c (hT0) ?_ | refine F.c (hT1) ?_ | refine F.c (hT2) ?_ | refine F.c (hT3) ?_ | refine F.c (hT4) ?_ | refine F.c (hS) ?_
            refine ARg.nil (ATh.normal ?_)
            refine dO 5 true ?_
            first | refine s1 ?_ | refine F.c (hT0) ?_ | refine F.c (hT1) ?_ | refine F.c (hT2) ?_ | refine F.c (hT3) ?_ | refine F.c (hT4) ?_ | refine F.c (hS) ?_
            refine ARg.nil (ATh.normal ?_)
            refine dO 7 true ?_
            first | refine s1 ?_ | refine F.c (hT0) ?_ | refine F.c (hT1) ?_ | refine F.c (hT2) ?_ | refine F.c (hT3) ?_ | refine F.c (hT4) ?_ | refine F.c (hS) ?_
            refine ARg.nil (ATh.normal ?_)
            refine dO 9 true ?_
            first | refine s1 ?_ | refine F.c (hT0) ?_ | refine F.c (hT1) ?_ | refine F.c (hT2) ?_ | refine F.c (hT3) ?_ | refine F.c (hT4) ?_ | refine F.c (hS) ?_
            refine ARg.nil (ATh.normal ?_)
            refine dO 10 true ?_
            first | refine s1 ?_ | refine F.c (hT0) ?_ | refine F.c (hT1) ?_ | refine F.c (hT2) ?_ | refine F.c (hT3) ?_ | refine F.c (hT4) ?_ | refine F.c (hS) ?_
            refine ARg.nil (ATh.normal ?_)
            refine dP 11 ?_
            refine dN ?_
            repeat' first | refine s1 ?_ | (refine kR ?_; first | refine F.c (hT0) ?_ | refine F.sil (A.neqBB rfl rfl) rfl rfl ?_) | fail
            repeat' first | refine s1 ?_ | (refine kR ?_; first | refine F.c (hT1) ?_ | refine F.sil (A.neqBB rfl rfl) rfl rfl ?_) | fail
            repeat' first | refine s1 ?_ | (refine kR ?_; first | refine F.c (hT2) ?_ | refine F.sil (A.neqBB rfl rfl) rfl rfl ?_) | fail
            repeat' first | refine s1 ?_ | (refine kR ?_; first | refine F.c (hT3) ?_ | refine F.sil (A.neqBB rfl rfl) rfl rfl ?_) | fail
            repeat' first | refine s1 ?_ | (refine kR ?_; first | refine F.c (hT4) ?_ | refine F.sil (A.neqBB rfl rfl) rfl rfl ?_) | fail
            repeat' first | refine s1 ?_ | (refine kR ?_; first | refine F.c (hI) ?_ | refine F.sil (A.neqBB rfl rfl) rfl rfl ?_) | fail
            refine AW.draw 5 G.mixed (by kernel_rfl) ?_
            refine dL 0 ?_
            refine dL 1 ?_
            refine dO 2 true ?_
            first | refine s1 ?_ | refine F.c (hT0) ?_ | refine F.c (hQ0) ?_
            refine ARg.nil (ATh.normal ?_)
            refine dO 3 true ?_
            first | refine s1 ?_ | refine F.c (hT0) ?_ | refine F.c (hQ0) ?_
            refine ARg.nil (ATh.normal ?_)
            refine dP 4 ?_
            refine dN ?_
            repeat' first | refine s1 ?_ | fail
            refine AW.draw 5 G.mixed (by kernel_rfl) ?_
            refine dL 0 ?_
            refine dL 1 ?_
            refine dO 2 true ?_
            first | refine s1 ?_ | refine F.c (hT1) ?_ | refine F.c (hQ1) ?_
            refine ARg.nil (ATh.normal ?_)
            refine dO 3 true ?_
            first | refine s1 ?_ | refine F.c (hT1) ?_ | refine F.c (hQ1) ?_
            refine ARg.nil (ATh.normal ?_)
            refine dP 4 ?_
            refine dN ?_
            repeat' first | refine s1 ?_ | fail
            refine AW.draw 5 G.mixed (by kernel_rfl) ?_
            refine dL 0 ?_
            refine dL 1 ?_
            refine dO 2 true ?_
            first | refine s1 ?_ | refine F.c (hT2) ?_ | refine F.c (hQ2) ?_
            refine ARg.nil (ATh.normal ?_)
            refine dO 3 true ?_
            first | refine s1 ?_ | refine F.c (hT2) ?_ | refine F.c (hQ2) ?_
            refine ARg.nil (ATh.normal ?_)
            refine dP 4 ?_
            refine dN ?_
            repeat' first | refine s1 ?_ | (refine kR ?_; first | refine F.c (hT3) ?_ | refine F.sil (A.neqBB rfl rfl) rfl rfl ?_) | fail
            repeat' first | refine s1 ?_ | (refine kR ?_; first | refine F.c (hQ3) ?_ | refine F.sil (A.neqBB rfl rfl) rfl rfl ?_) | fail
            repeat' first | refine s1 ?_ | (refine kR ?_; first | refine F.c (hT4) ?_ | refine F.sil (A.neqBB rfl rfl) rfl rfl ?_) | fail
            repeat' first | refine s1 ?_ | (refine kR ?_; first | refine F.c (hQ4) ?_ | refine F.sil (A.neqBB rfl rfl) rfl rfl ?_) | fail
            repeat' first | refine s1 ?_ | (refine kR ?_; first | refine F.sil (A.neqBB rfl rfl) rfl rfl ?_) | fail
            (refine kZ ?_; exact F.ret rfl)
          · repeat' first | refine s1 ?_ | (refine kR ?_; first | refine F.c (hZ0) ?_ | refine F.c (hZ1) ?_ | refine F.c (hZ2) ?_ | refine F.c (hZ3) ?_ | refine F.c (hZ4) ?_) | fail
            (refine kZ ?_; exact F.ret rfl)
        · repeat' first | refine s1 ?_ | (refine kR ?_; first | refine F.c (hZ0) ?_ | refine F.c (hZ1) ?_ | refine F.c (hZ2) ?_ | refine F.c (hZ3) ?_) | fail
          (refine kZ ?_; exact F.ret rfl)
      · repeat' first | refine s1 ?_ | (refine kR ?_; first | refine F.c (hZ0) ?_ | refine F.c (hZ1) ?_ | refine F.c (hZ2) ?_) | fail
        (refine kZ ?_; exact F.ret rfl)
    · repeat' first | refine s1 ?_ | (refine kR ?_; first | refine F.c (hZ0) ?_ | refine F.c (hZ1) ?_) | fail
      (refine kZ ?_; exact F.ret rfl)
  · repeat' first | refine s1 ?_ | (refine kR ?_; first | refine F.c (hZ0) ?_) | fail
    (refine kZ ?_; exact F.ret rfl)
theorem fnExactIsShortExact.walk (w : World) (x0 : Rep) (us0 : List Value) (F0 : List Nat) (h0 : repR.V w x0 us0 F0) (x1 : Rep) (us1 : List Value) (F1 : List Nat) (h1 : repR.V w x1 us1 F1) (x2 : Rep) (us2 : List Value) (F2 : List Nat) (h2 : repR.V w x2 us2 F2) (x3 : List Mat) (v3 : Value) (F3 : List Nat) (h3 : (listR V.matR).V w x3 [v3] F3) (x4 : List Mat) (v4 : Value) (F4 : List Nat) (h4 : (listR V.matR).V w x4 [v4] F4) : Run Tryz.prog 4 [.agg us0.toArray, .agg us1.toArray, .agg us2.toArray, v3, v4] w fun v w' => v = .bool true ∧ Later w w' :=
  (fnExactIsShortExact.ac x0 x1 x2 x3 x4).law (.agg (RdE.h h0) (.agg (RdE.h h1) (.agg (RdE.h h2) (.cons (RdE.h h3) (.cons (RdE.h h4) (.nil w))))))
namespace fnExactIsShortExact
theorem own : ownKnob Tryz.prog.godebug = none := by kernel_rfl
theorem laidOut : laidOutB Tryz.prog = true := by kernel_rfl
set_option maxRecDepth 100000 in
theorem lifted (os : Os) (started : os.Started) (H : Type) (enc : TypeId × Value → H) :
    ReturnsInHanded {} Tryz.checked os 4 .any (Rows.fnExactIsShortExactSpec.pre6 enc Tryz.prog Tryz.f4 Rows.fnExactIsShortExactRow.domain false) (Rows.fnExactIsShortExactSpec.post enc Tryz.prog Tryz.f4 false true false false) := by
  refine returnsInHanded_of_change (C := Tryz.checked) own started (by kernel_rfl) Tryz.func4
    (ChangeSpec.witness6 (enc := enc) (C := Tryz.checked) false ⟨#[], #[.agg #[.int .i64 0, .int .i64 0, .slice none 0 0, .slice none 0 0, .slice none 0 0, .slice none 0 0], .agg #[.int .i64 0, .int .i64 0, .slice none 0 0, .slice none 0 0, .slice none 0 0, .slice none 0 0], .agg #[.int .i64 0, .int .i64 0, .slice none 0 0, .slice none 0 0, .slice none 0 0, .slice none 0 0], .slice none 0 0, .slice none 0 0], []⟩ 8 (by kernel_rfl) (by kernel_rfl) (by kernel_rfl) (by kernel_rfl)) ?_
  intro W base args ds gs before hval0 hW hcnd _
  have hval : ∀ (j : Nat) t v, Tryz.f4.params[j]? = some t → args[j]? = some v → Value.okWide Tryz.prog W .any base t v := hval0
  have hW' := hW
  obtain ⟨p, q, hA0, hV, rfl, hfz, hnd⟩ := hW
  have hA : DataW.TrodAll enc Tryz.prog W 0 (fun _ => true) true Tryz.f4.params.toList args.toList ds p := hA0
  rw [Tryz.params4] at hA hval
  obtain ⟨v0, vs0, d0, ds0, p0, q0, hargs, rfl, rfl, h0, r0⟩ := trodAll_cons hA
  obtain ⟨v1, vs1, d1, ds1, p1, q1, rfl, rfl, rfl, h1, r1⟩ := trodAll_cons r0
  obtain ⟨v2, vs2, d2, ds2, p2, q2, rfl, rfl, rfl, h2, r2⟩ := trodAll_cons r1
  obtain ⟨v3, vs3, d3, ds3, p3, q3, rfl, rfl, rfl, h3, r3⟩ := trodAll_cons r2
  obtain ⟨v4, vs4, d4, ds4, p4, q4, rfl, rfl, rfl, h4, r4⟩ := trodAll_cons r3
  obtain ⟨rfl, rfl, rfl⟩ := trodAll_nil r4
  obtain rfl : args = #[v0, v1, v2, v3, v4] := by cases args; simp_all
  obtain ⟨rfl, rfl⟩ := trodVars_none hV
  obtain ⟨⟨l0⟩, rfl, hsz0⟩ := okWide_struct Tryz.underlying27 (hval 0 27 v0 rfl rfl)
  have k0 := h0
  have lt0 : ∀ x ∈ p0, x.block < W.heap.size := by obtain ⟨m, hm⟩ := k0; exact DataW.trod_lt m _ _ _ hm
  obtain ⟨x0, F0, R0⟩ := Rds.argG (inferInstance : Rds Tryz.prog 27 _) k0
  obtain ⟨⟨l1⟩, rfl, hsz1⟩ := okWide_struct Tryz.underlying27 (hval 1 27 v1 rfl rfl)
  have k1 := h1
  have lt1 : ∀ x ∈ p1, x.block < W.heap.size := by obtain ⟨m, hm⟩ := k1; exact DataW.trod_lt m _ _ _ hm
  obtain ⟨x1, F1, R1⟩ := Rds.argG (inferInstance : Rds Tryz.prog 27 _) k1
  obtain ⟨⟨l2⟩, rfl, hsz2⟩ := okWide_struct Tryz.underlying27 (hval 2 27 v2 rfl rfl)
  have k2 := h2
  have lt2 : ∀ x ∈ p2, x.block < W.heap.size := by obtain ⟨m, hm⟩ := k2; exact DataW.trod_lt m _ _ _ hm
  obtain ⟨x2, F2, R2⟩ := Rds.argG (inferInstance : Rds Tryz.prog 27 _) k2
  obtain ⟨a3, len3, cap3, rfl⟩ := okWide_slice Tryz.underlying25 (hval 3 25 v3 rfl rfl)
  have k3 := h3
  have lt3 : ∀ x ∈ p3, x.block < W.heap.size := by obtain ⟨m, hm⟩ := k3; exact DataW.trod_lt m _ _ _ hm
  obtain ⟨x3, F3, R3⟩ := Rds.arg1 (inferInstance : Rds Tryz.prog 25 _) k3 rfl
  obtain ⟨a4, len4, cap4, rfl⟩ := okWide_slice Tryz.underlying25 (hval 4 25 v4 rfl rfl)
  have k4 := h4
  have lt4 : ∀ x ∈ p4, x.block < W.heap.size := by obtain ⟨m, hm⟩ := k4; exact DataW.trod_lt m _ _ _ hm
  obtain ⟨x4, F4, R4⟩ := Rds.arg1 (inferInstance : Rds Tryz.prog 25 _) k4 rfl
  clear hA0 hval0
  refine (Run.calls (walk W x0 _ F0 R0 x1 _ F1 R1 x2 _ F2 R2 x3 _ F3 R3 x4 _ F4 R4)).mono fun e W' ⟨v, he, hv, bel⟩ => ?_
  subst he
  subst hv
  exact ⟨_, rfl, _, _, _, [], _, [], hW', trodAll_mk1 (shut_bool Tryz.underlying4 _), (trodAll_cons_mk (Below.trod laidOut (by kernel_rfl) (of_decide_eq_true (by kernel_rfl)) k0 bel lt0) (trodAll_cons_mk (Below.trod laidOut (by kernel_rfl) (of_decide_eq_true (by kernel_rfl)) k1 bel lt1) (trodAll_cons_mk (Below.trod laidOut (by kernel_rfl) (of_decide_eq_true (by kernel_rfl)) k2 bel lt2) (trodAll_cons_mk (Below.trod laidOut (by kernel_rfl) (of_decide_eq_true (by kernel_rfl)) k3 bel lt3) (trodAll_cons_mk (Below.trod laidOut (by kernel_rfl) (of_decide_eq_true (by kernel_rfl)) k4 bel lt4) trodAll_mk0))))), rfl, bel.frame _, fun h => by cases h⟩
theorem down : V.downB Tryz.prog [] [49, 48, 50, 12, 11, 55, 54, 56, 15, 14, 143, 133, 182, 144, 192, 145, 90, 87, 213, 195, 152, 150, 129, 99, 153, 102, 196, 197, 155, 203, 172, 117, 63, 64, 104, 97, 154, 103, 51, 156, 105, 52, 157, 106, 53, 13, 19, 135, 186, 209, 200, 162, 185, 184, 93, 136, 187, 137, 83, 118, 198, 158, 107, 181, 169, 131, 160, 168, 199, 161, 109, 159, 108, 163, 111, 110, 57, 170, 115, 215, 202, 167, 221, 214, 201, 166, 114, 59, 210, 188, 171, 116, 60, 112, 164, 165, 113, 58, 16, 173, 119, 65, 66, 20, 33, 61, 62, 18, 17, 4] = true := by kernel_rfl
theorem closed : joinedFacts Tryz.pinned.checked.prog 4 Tryz.f4 Rows.fnExactIsShortExactSpec Rows.fnExactIsShortExactRow = true := by
  have h : Program.recurses Tryz.pinned.checked.prog 4 = Program.unfollowed Tryz.pinned.checked.prog 4 := V.recurses_down _ down (by kernel_rfl)
  unfold joinedFacts
  rw [h]
  change _ = _
  kernel_rfl
theorem over : Rows.fnExactIsShortExactRow.holds Tryz.pinned (OpenSpec.ofChange Rows.fnExactIsShortExactSpec) :=
  OpenClaim.holds_of_wide 4 Tryz.f4 rfl rfl rfl rfl rfl rfl rfl ⟨rfl, rfl, rfl, rfl, rfl⟩ rfl rfl rfl rfl rfl (by kernel_rfl) Tryz.func4 closed
    (of_decide_eq_true (by kernel_rfl)) (by unfold Func.isWrapper; first | (rw [if_pos (by decide +kernel)]; kernel_rfl) | (rw [if_neg (by decide +kernel)]; exact ⟨rfl, rfl⟩))
    (fun os started H enc _ => lifted os started H enc)
theorem proved : Rows.FnExactIsShortExactSaid := over
end fnExactIsShortExact
end Go.Proofs.YtedjajokbdokhaaGreat
