/- The law FnExactMeetSubs holds for every input: program and reference return the same, the arguments stay as they were, and what is returned is in memory of its own. No condition. -/
import Derived.Test.YtedjajokbdokhaaGreatHeaded
import Derived.Test.YtedjajokbdokhaaGreatUm
import Derived.Test.YtedjajokbdokhaaGreatA76
import Derived.Test.YtedjajokbdokhaaGreatA77
import Derived.Test.YtedjajokbdokhaaGreatDown
import Derived.OpenShut
namespace Go.Proofs.YtedjajokbdokhaaGreat
open V.Enc (enc)
open Go.ChangeShapes Go.WideShapes Go.ChangeAt Go.RowKit G D V
set_option linter.unusedVariables false
set_option linter.unusedSimpArgs false
set_option maxHeartbeats 8000000
set_option maxRecDepth 4000
attribute [local irreducible] V.AW V.ARg V.ARA V.ARet V.MRet V.ASil V.AC V.AM
theorem fnExactMeetSubs.ac (r : Rep) (s : List Spc) (t : List Spc) : AC Tryz.prog 6 [.agg (enc false r), ar false s, ar false t] [.b true] := by
  refine AC.go Tryz.func6 Tryz.ntmps6 rfl rfl fun w0 hw => ?_; simp [WfL, WfA, E_length, Enc.enc, In64] at hw
  have hZ0 := szRep_a r 1048576 (by decide) (by decide)
  have hb0 := sz1_le' (n := totR r) (l := 1048576)
  generalize sz1 (totR r) 1048576 = z0 at hZ0 hb0
  by_cases hs0 : 0 ≤ z0
  · have hb0 := hb0 hs0
    have hZ1 := szSpaceS_a s z0 hs0 (by omega)
    have hb1 := sz1_le' (n := totSS s) (l := z0)
    generalize sz1 (totSS s) z0 = z1 at hZ1 hb1
    by_cases hs1 : 0 ≤ z1
    · have hb1 := hb1 hs1
      have hZ2 := szSpaceS_a t z1 hs1 (by omega)
      have hb2 := sz1_le' (n := totSS t) (l := z1)
      generalize sz1 (totSS t) z1 = z2 at hZ2 hb2
      by_cases hs2 : 0 ≤ z2
      · have hb2 := hb2 hs2
        have hT0 := toRep_a r (by omega)
        have hT1 := toSpaceS_a s (by omega)
        have hT2 := toSpaceS_a t (by omega)
        have hQ0 := eqRep_s r
        have hQ1 := eqSpaceS_s s
        have hQ2 := eqSpaceS_s t
        have hS := specMeetSubs_a r s t
        have hI := implMeetSubs_a r s t
        have hc := metP_ct r s t
        generalize metP r s t = R at hS hI hc
        obtain ⟨r0, r1⟩ := R
        dsimp only at hS hI hc
        have hE0 := eqSpaceS_s r0
        have hN1 : (r1 != r1) = false := by simp
        have hct_r := ctR_le r
        have hct_s := ctSpS_le s
        have hct_t := ctSpS_le t
        obtain ⟨_, _, _, _, _, _, _, _, hMa0, _⟩ := markR_o r (1) (by omega) (by omega)
        obtain ⟨_, _, hMa1, _⟩ := markSpS_o s (1 + (ctR r : Nat)) (by omega) (by omega)
        obtain ⟨_, _, hMa2, _⟩ := markSpS_o t (1 + (ctR r : Nat) + (cnt ctS s : Nat)) (by omega) (by omega)
        obtain ⟨_, _, hM0, hH0⟩ := markSpS_k r0 (1) (by omega) (by omega)
        repeat' first | refine s1 ?_ | (refine kR ?_; first | refine F.c (hZ0) ?_ | refine F.sil (A.neqBB rfl rfl) rfl rfl ?_) | fail
        repeat' first | refine s1 ?_ | (refine kR ?_; first | refine F.c (hZ1) ?_ | refine F.sil (A.neqBB rfl rfl) rfl rfl ?_) | fail
        repeat' first | refine s1 ?_ | (refine kR ?_; first | refine F.c (hZ2) ?_ | refine F.sil (A.neqBB rfl rfl) rfl rfl ?_) | fail
        repeat' first | refine s1 ?_ | (refine kR ?_; first | refine F.c (hT0) ?_ | refine F.sil (A.neqBB rfl rfl) rfl rfl ?_) | fail
        repeat' first | refine s1 ?_ | (refine kR ?_; first | refine F.c (hT1) ?_ | refine F.sil (A.neqBB rfl rfl) rfl rfl ?_) | fail
        repeat' first | refine s1 ?_ | (refine kR ?_; first | refine F.c (hT2) ?_ | refine F.sil (A.neqBB rfl rfl) rfl rfl ?_) | fail
        repeat' first | refine s1 ?_ | (refine kR ?_; first | refine F.c (hS) ?_ | refine F.sil (A.neqBB rfl rfl) rfl rfl ?_) | fail
        repeat' first | refine s1 ?_ | (refine kR ?_; first | refine F.c (hT0) ?_ | refine F.sil (A.neqBB rfl rfl) rfl rfl ?_) | fail
        repeat' first | refine s1 ?_ | (refine kR ?_; first | refine F.c (hT1) ?_ | refine F.sil (A.neqBB rfl rfl) rfl rfl ?_) | fail
        repeat' first | refine s1 ?_ | (refine kR ?_; first | refine F.c (hT2) ?_ | refine F.sil (A.neqBB rfl rfl) rfl rfl ?_) | fail
        repeat' first | refine s1 ?_ | (refine kR ?_; first | refine F.c (hI) ?_ | refine F.sil (A.neqBB rfl rfl) rfl rfl ?_) | fail
        repeat' first | refine s1 ?_ | (refine kR ?_; first | refine F.c (hE0) ?_ | refine F.sil (A.neqBB rfl rfl) rfl rfl ?_) | fail
        refine AW.draw 5 G.mixed (by kernel_rfl) ?_
        refine dL 0 ?_
        refine dL 1 ?_
        refine dO 2 true ?_
        first | refine s1 ?_ | refine F.c (hT0) ?_ | refine F.c (hQ0) ?_
        refine ARg.nil (ATh.normal ?_)
        refine dO 3 true ?_
        first | refine s1 ?_ | refine F.c (hT0) ?_ | refine F.c (hQ0) ?_
        refine ARg.nil (ATh.normal ?_)
        refine dP 4 ?_
        refine dN ?_
        repeat' first | refine s1 ?_ | (refine kR ?_; first | refine F.c (hT1) ?_ | refine F.sil (A.neqBB rfl rfl) rfl rfl ?_) | fail
        repeat' first | refine s1 ?_ | (refine kR ?_; first | refine F.c (hQ1) ?_ | refine F.sil (A.neqBB rfl rfl) rfl rfl ?_) | fail
        repeat' first | refine s1 ?_ | (refine kR ?_; first | refine F.c (hT2) ?_ | refine F.sil (A.neqBB rfl rfl) rfl rfl ?_) | fail
        repeat' first | refine s1 ?_ | (refine kR ?_; first | refine F.c (hQ2) ?_ | refine F.sil (A.neqBB rfl rfl) rfl rfl ?_) | fail
        repeat' first | refine s1 ?_ | (refine kR ?_; first | refine F.m [8, 9, 10, 11] (hMa0) ?_ | refine F.sil (A.neqBB rfl rfl) rfl rfl ?_) | fail
        repeat' first | refine s1 ?_ | (refine kR ?_; first | refine F.m [13] (hMa1) ?_ | refine F.sil (A.neqBB rfl rfl) rfl rfl ?_) | fail
        repeat' first | refine s1 ?_ | (refine kR ?_; first | refine F.m [14] (hMa2) ?_ | refine F.sil (A.neqBB rfl rfl) rfl rfl ?_) | fail
        repeat' first | refine s1 ?_ | (refine kR ?_; first | refine F.c (hE0) ?_ | refine F.sil (A.neqBB rfl rfl) rfl rfl ?_) | fail
        repeat' first | refine s1 ?_ | (refine kR ?_; first | refine F.m [15] (hM0) ?_ | refine F.sil (A.neqBB rfl rfl) rfl rfl ?_) | fail
        repeat' first | refine s1 ?_ | (refine kR ?_; first | refine F.c (hH0) ?_ | refine F.sil (A.neqBB rfl rfl) rfl rfl ?_) | fail
        repeat' first | refine s1 ?_ | (refine kR ?_; first | refine F.c (hT0) ?_ | refine F.sil (A.neqBB rfl rfl) rfl rfl ?_) | fail
        repeat' first | refine s1 ?_ | (refine kR ?_; first | refine F.c (hT1) ?_ | refine F.sil (A.neqBB rfl rfl) rfl rfl ?_) | fail
        repeat' first | refine s1 ?_ | (refine kR ?_; first | refine F.c (hT2) ?_ | refine F.sil (A.neqBB rfl rfl) rfl rfl ?_) | fail
        repeat' first | refine s1 ?_ | (refine kR ?_; first | refine F.c (hI) ?_ | refine F.sil (A.neqBB rfl rfl) rfl rfl ?_) | fail
        repeat' first | refine s1 ?_ | (refine kR ?_; first | refine F.c (hE0) ?_ | refine F.sil (A.neqBB rfl rfl) rfl rfl ?_) | fail
        repeat' first | refine s1 ?_ | (refine kR ?_; first | refine F.c (hH0) ?_ | refine F.sil (A.neqBB rfl rfl) rfl rfl ?_) | fail
        repeat' first | refine s1 ?_ | (refine kR ?_; first | refine F.sil (A.neqBB rfl rfl) rfl rfl ?_) | fail
        (refine kZ ?_; exact F.ret rfl)
      · repeat' first | refine s1 ?_ | (refine kR ?_; first | refine F.c (hZ0) ?_ | refine F.c (hZ1) ?_ | refine F.c (hZ2) ?_) | fail
        (refine kZ ?_; exact F.ret rfl)
    · repeat' first | refine s1 ?_ | (refine kR ?_; first | refine F.c (hZ0) ?_ | refine F.c (hZ1) ?_) | fail
      (refine kZ ?_; exact F.ret rfl)
  · repeat' first | refine s1 ?_ | (refine kR ?_; first | refine F.c (hZ0) ?_) | fail
    (refine kZ ?_; exact F.ret rfl)
theorem fnExactMeetSubs.walk (w : World) (x0 : Rep) (us0 : List Value) (F0 : List Nat) (h0 : repR.V w x0 us0 F0) (x1 : List Spc) (v1 : Value) (F1 : List Nat) (h1 : (listR spcR).V w x1 [v1] F1) (x2 : List Spc) (v2 : Value) (F2 : List Nat) (h2 : (listR spcR).V w x2 [v2] F2) : Run Tryz.prog 6 [.agg us0.toArray, v1, v2] w fun v w' => v = .bool true ∧ Later w w' :=
  (fnExactMeetSubs.ac x0 x1 x2).law (.agg (RdE.h h0) (.cons (RdE.h h1) (.cons (RdE.h h2) (.nil w))))
namespace fnExactMeetSubs
theorem own : ownKnob Tryz.prog.godebug = none := by kernel_rfl
theorem laidOut : laidOutB Tryz.prog = true := by kernel_rfl
set_option maxRecDepth 100000 in
theorem lifted (os : Os) (started : os.Started) (H : Type) (enc : TypeId × Value → H) :
    ReturnsInHanded {} Tryz.checked os 6 .any (Rows.fnExactMeetSubsSpec.pre6 enc Tryz.prog Tryz.f6 Rows.fnExactMeetSubsRow.domain false) (Rows.fnExactMeetSubsSpec.post enc Tryz.prog Tryz.f6 false true false false) := by
  refine returnsInHanded_of_change (C := Tryz.checked) own started (by kernel_rfl) Tryz.func6
    (ChangeSpec.witness6 (enc := enc) (C := Tryz.checked) false ⟨#[], #[.agg #[.int .i64 0, .int .i64 0, .slice none 0 0, .slice none 0 0, .slice none 0 0, .slice none 0 0], .slice none 0 0, .slice none 0 0], []⟩ 8 (by kernel_rfl) (by kernel_rfl) (by kernel_rfl) (by kernel_rfl)) ?_
  intro W base args ds gs before hval0 hW hcnd _
  have hval : ∀ (j : Nat) t v, Tryz.f6.params[j]? = some t → args[j]? = some v → Value.okWide Tryz.prog W .any base t v := hval0
  have hW' := hW
  obtain ⟨p, q, hA0, hV, rfl, hfz, hnd⟩ := hW
  have hA : DataW.TrodAll enc Tryz.prog W 0 (fun _ => true) true Tryz.f6.params.toList args.toList ds p := hA0
  rw [Tryz.params6] at hA hval
  obtain ⟨v0, vs0, d0, ds0, p0, q0, hargs, rfl, rfl, h0, r0⟩ := trodAll_cons hA
  obtain ⟨v1, vs1, d1, ds1, p1, q1, rfl, rfl, rfl, h1, r1⟩ := trodAll_cons r0
  obtain ⟨v2, vs2, d2, ds2, p2, q2, rfl, rfl, rfl, h2, r2⟩ := trodAll_cons r1
  obtain ⟨rfl, rfl, rfl⟩ := trodAll_nil r2
  obtain rfl : args = #[v0, v1, v2] := by cases args; simp_all
  obtain ⟨rfl, rfl⟩ := trodVars_none hV
  obtain ⟨⟨l0⟩, rfl, hsz0⟩ := okWide_struct Tryz.underlying27 (hval 0 27 v0 rfl rfl)
  have k0 := h0
  have lt0 : ∀ x ∈ p0, x.block < W.heap.size := by obtain ⟨m, hm⟩ := k0; exact DataW.trod_lt m _ _ _ hm
  obtain ⟨x0, F0, R0⟩ := Rds.argG (inferInstance : Rds Tryz.prog 27 _) k0
  obtain ⟨a1, len1, cap1, rfl⟩ := okWide_slice Tryz.underlying40 (hval 1 40 v1 rfl rfl)
  have k1 := h1
  have lt1 : ∀ x ∈ p1, x.block < W.heap.size := by obtain ⟨m, hm⟩ := k1; exact DataW.trod_lt m _ _ _ hm
  obtain ⟨x1, F1, R1⟩ := Rds.arg1 (inferInstance : Rds Tryz.prog 40 _) k1 rfl
  obtain ⟨a2, len2, cap2, rfl⟩ := okWide_slice Tryz.underlying40 (hval 2 40 v2 rfl rfl)
  have k2 := h2
  have lt2 : ∀ x ∈ p2, x.block < W.heap.size := by obtain ⟨m, hm⟩ := k2; exact DataW.trod_lt m _ _ _ hm
  obtain ⟨x2, F2, R2⟩ := Rds.arg1 (inferInstance : Rds Tryz.prog 40 _) k2 rfl
  clear hA0 hval0
  refine (Run.calls (walk W x0 _ F0 R0 x1 _ F1 R1 x2 _ F2 R2)).mono fun e W' ⟨v, he, hv, bel⟩ => ?_
  subst he
  subst hv
  exact ⟨_, rfl, _, _, _, [], _, [], hW', trodAll_mk1 (shut_bool Tryz.underlying4 _), (trodAll_cons_mk (Below.trod laidOut (by kernel_rfl) (of_decide_eq_true (by kernel_rfl)) k0 bel lt0) (trodAll_cons_mk (Below.trod laidOut (by kernel_rfl) (of_decide_eq_true (by kernel_rfl)) k1 bel lt1) (trodAll_cons_mk (Below.trod laidOut (by kernel_rfl) (of_decide_eq_true (by kernel_rfl)) k2 bel lt2) trodAll_mk0))), rfl, bel.frame _, fun h => by cases h⟩
theorem down : V.downB Tryz.prog [] [49, 48, 50, 12, 11, 120, 67, 21, 55, 54, 56, 15, 14, 124, 70, 23, 143, 133, 182, 144, 192, 145, 90, 174, 97, 196, 129, 197, 155, 154, 157, 121, 150, 99, 175, 103, 122, 69, 123, 68, 96, 156, 105, 77, 29, 135, 186, 209, 200, 162, 185, 184, 93, 136, 187, 137, 83, 204, 205, 177, 176, 215, 202, 167, 168, 199, 169, 221, 214, 201, 131, 166, 114, 164, 118, 165, 113, 125, 181, 130, 160, 147, 127, 212, 194, 206, 179, 178, 126, 71, 180, 128, 210, 188, 171, 116, 79, 78, 72, 30, 33, 40, 75, 25, 61, 62, 18, 17, 34, 76, 45, 26, 41, 27, 35, 42, 28, 6] = true := by kernel_rfl
theorem rec0 : Program.recurses Tryz.pinned.checked.prog 6 = Program.unfollowed Tryz.pinned.checked.prog 6 := V.recurses_down _ down (by kernel_rfl)
theorem unf : Program.unfollowed Tryz.pinned.checked.prog 6 = Rows.fnExactMeetSubsRow.unfollowed := by kernel_rfl
theorem inp : Program.inPlace Tryz.pinned.checked.prog 6 = Rows.fnExactMeetSubsRow.inPlace := by kernel_rfl
theorem vnm : Program.varsNamed Tryz.pinned.checked.prog 6 = Rows.fnExactMeetSubsRow.named := by kernel_rfl
theorem closed : joinedFacts Tryz.pinned.checked.prog 6 Tryz.f6 Rows.fnExactMeetSubsSpec Rows.fnExactMeetSubsRow = true := by
  unfold joinedFacts
  rw [rec0, unf, inp, vnm, V.hdEnter, V.hdLifts, V.hdMake]
  change _ = _
  kernel_rfl
theorem over : Rows.fnExactMeetSubsRow.holds Tryz.pinned (OpenSpec.ofChange Rows.fnExactMeetSubsSpec) :=
  OpenClaim.holds_of_wide 6 Tryz.f6 rfl rfl rfl rfl rfl rfl rfl ⟨rfl, rfl, rfl, rfl, rfl⟩ rfl rfl rfl rfl rfl (by kernel_rfl) Tryz.func6 closed
    (of_decide_eq_true (by kernel_rfl)) (by unfold Func.isWrapper; first | (rw [if_pos (by decide +kernel)]; kernel_rfl) | (rw [if_neg (by decide +kernel)]; exact ⟨rfl, rfl⟩))
    (fun os started H enc _ => lifted os started H enc)
theorem proved : Rows.FnExactMeetSubsSaid := over
end fnExactMeetSubs
end Go.Proofs.YtedjajokbdokhaaGreat
