/- The law FnExtensions holds for every input. -/
import Derived.Test.YtoilkinagffhiaaGreatQfeA185
import Derived.Test.YtoilkinagffhiaaGreatQfeA186
import Derived.Test.YtoilkinagffhiaaGreatQfeDown
import Derived.OpenShut
namespace Go.Proofs.YtoilkinagffhiaaGreat
open Go.ChangeShapes Go.WideShapes Go.ChangeAt Go.RowKit G D V
set_option linter.unusedVariables false
set_option linter.unusedSimpArgs false
set_option maxHeartbeats 8000000
set_option maxRecDepth 4000
attribute [local irreducible] V.AW V.ARg V.ARA V.ARet V.MRet V.ASil V.AC V.AM V.AMx V.AD V.ARI
theorem bE {a b : Bool} (h : a = b) : AV.b a = AV.b b := by rw [h]
theorem fnExtensions.ac (b : List UInt8) : AC Tryz.prog 3 [ar false b] [.b true] := by
 refine AC.go Tryz.func3 Tryz.ntmps3 rfl rfl fun w0 hw => ?_; simp [WfL, WfA, E_length, Enc.enc, In64] at hw
 have hB := big_a b
 by_cases hl : (1048576 : Int) < b.length
 ·rw [decide_eq_true hl] at hB
  repeat' first | refine s1 ?_ | (refine kR ?_; first | refine F.c (hB) ?_) | fail
  (refine kZ ?_; exact F.ret rfl)
 ·rw [decide_eq_false hl] at hB
  have hl : b.length ≤ 1048576 := by omega
  have hD := drawExtBasis_x b hl
  have hC := drawCoboundaryOf_x b hl
  have hI := drawIsCoboundary_x b hl
  have hR := drawIsRigid_x b hl
  repeat' first | (refine AW.freezeP (α := Rep) (oo := false) a 3 rfl rfl ?_; refine AW.freezeP (α := Rep) (oo := false) a2 4 rfl rfl ?_) | refine s1 ?_ | (refine kR ?_; first | refine F.c (hB) ?_ | (refine F.x [] (hD) ?_; rintro ⟨a, a2⟩ hr; refine F.xk ?_)) | fail
  have hEi := implExtBasis_a a a2
  have hEs := specExtBasis_a a a2
  have hDm := implExtDim_a a a2
  have hnum := @ext_num a a2
  have heach := @ext_each a a2
  have hKi := fun c => implIsCocycle_a a a2 c
  have hBi := fun c => implIsCoboundary_a a a2 c
  have hLl := extP_le a a2
  generalize extP a a2 = X at *
  obtain ⟨L, c⟩ := X
  dsimp only at hEi hEs hnum heach hLl
  have hSm := sameMaps_a L
  generalize extD a a2 = D0 at hDm hnum
  apply V.tailedT
  ·intro tail
   have hEi' := hEi
   have hEs' := hEs
   have hDm' := hDm
   cases hs : c with
   | false =>
    rw [hs] at hEi' hEs'
    repeat' first | refine AW.freezeA (α := List Mat) (oo := true) (ls := L) 5 rfl rfl rfl ?_ | refine AW.freezeA (α := List Mat) (oo := true) (ls := L) 7 rfl rfl rfl ?_ | (refine AW.only [(0, .dt false 1 (E false b)), (3, .ip (enc false a)), (4, .ip (enc false a2)), (7, .dt false 1 (E false L)), (43, .b false), (60, .b false)] [] 4 ⟨rfl, rfl, rfl, rfl, rfl, rfl, trivial⟩ trivial rfl ?_; refine AW.only [(0, .dt false 1 (E false b)), (3, .ip (enc false a)), (4, .ip (enc false a2)), (7, .dt false 1 (E false L)), (60, .b false)] [] 4 ⟨rfl, rfl, rfl, rfl, rfl, trivial⟩ trivial rfl ?_) | refine s1 ?_ | (refine kR ?_; first | refine F.c (hEi') ?_ | refine F.c (hEs') ?_ | refine F.c (hSm) ?_ | refine F.sil (A.neqBB rfl rfl) rfl rfl ?_) | fail
    exact tail.t
   | true =>
    rw [hs] at hEi' hEs'
    rw [← hnum hs] at hDm'
    repeat' first | refine AW.freezeA (α := List Mat) (oo := true) (ls := L) 5 rfl rfl rfl ?_ | refine AW.freezeA (α := List Mat) (oo := true) (ls := L) 7 rfl rfl rfl ?_ | (refine AW.only [(0, .dt false 1 (E false b)), (3, .ip (enc false a)), (4, .ip (enc false a2)), (7, .dt false 1 (E false L)), (43, .b false), (60, .b false)] [] 4 ⟨rfl, rfl, rfl, rfl, rfl, by first | rfl | (refine bE ?_; simp), trivial⟩ trivial rfl ?_; refine AW.only [(0, .dt false 1 (E false b)), (3, .ip (enc false a)), (4, .ip (enc false a2)), (7, .dt false 1 (E false L)), (60, .b false)] [] 4 ⟨rfl, rfl, rfl, rfl, rfl, trivial⟩ trivial rfl ?_) | refine s1 ?_ | (refine kR ?_; first | refine F.c (hEi') ?_ | refine F.c (hEs') ?_ | refine F.c (hSm) ?_ | refine F.c (hDm') ?_ | refine F.sil (A.neqBB rfl rfl) rfl rfl ?_) | fail
    exact tail.t
  ·clear hEi hEs hSm hDm hnum
   repeat' first | refine s1 ?_ | fail
   refine F.loop (σ := Nat) [2, 9, 61, 62, 63, 64, 65, 66, 67, 68, 69, 70, 71, 72, 73, 74, 75, 76, 77, 78, 79, 80, 81, 82, 83] (fun k => [(9, .i k)]) (fun _ => []) (fun k => k ≤ L.length) (fun k => L.length - k) 0 ⟨rfl, trivial⟩ trivial (Nat.zero_le _) ?_
   rintro k k1
   by_cases hk : k < L.length
   ·obtain ⟨e1, e2⟩ := heach hk
    have hKk := hKi (L.getD k default)
    have hBk := hBi (L.getD k default)
    rw [e1] at hKk
    rw [e2] at hBk
    repeat' first | refine s1 ?_ | fail
    refine AW.draw 17 G.mixed (by kernel_rfl) ?_
    refine dL 0 ?_
    refine dL 1 ?_
    refine dP 2 ?_
    refine dP 3 ?_
    refine dP 4 ?_
    refine dL 5 ?_
    refine dO 6 true ?_
    first | refine s1 ?_ | refine F.c (hKk) ?_ | refine F.c (hBk) ?_
    refine tN ?_
    refine dP 7 ?_
    refine dP 8 ?_
    first | refine dT 75 rfl (by first | assumption | rfl | (simp only [decide_eq_true_eq, Bool.not_eq_true', decide_eq_false_iff_not, Bool.and_eq_true, Bool.or_eq_true]; omega)) ?_ | refine dF 75 rfl (by first | assumption | rfl | (simp only [decide_eq_false_iff_not, Bool.not_eq_false', decide_eq_true_eq, Bool.and_eq_false_iff, Bool.or_eq_false_iff]; omega)) ?_ | (refine dD 75 rfl ?_ ?_ <;> intro hc <;> (try simp only [decide_eq_true_eq, decide_eq_false_iff_not, Bool.not_eq_true', Bool.not_eq_false'] at hc)) | skip
    all_goals
     first | refine dK 9 ?_ | refine dL 9 ?_
     first | refine dK 10 ?_ | refine dL 10 ?_
     first | refine dK 11 ?_ | refine dP 11 ?_
     first | refine dK 12 ?_ | refine dP 12 ?_
     first | refine dK 13 ?_ | refine dP 13 ?_
     first | refine dK 14 ?_ | refine dL 14 ?_
     refine dO 15 true ?_
     first | refine s1 ?_ | refine F.c (hKk) ?_ | refine F.c (hBk) ?_
     refine tN ?_
     refine dP 16 ?_
     refine dN ?_
     rotate_left
    all_goals
     repeat' first | refine s1 ?_ | fail
     exact ⟨k + 1, F.fit ⟨rfl, trivial⟩ trivial, by omega, by omega⟩
   ·repeat' first | (refine AW.freezeP (α := Rep) (oo := false) d1 10 rfl rfl ?_; refine AW.freezeP (α := Rep) (oo := false) d2 11 rfl rfl ?_) | refine s1 ?_ | (refine kR ?_; first | (refine F.x [] (hC) ?_; rintro ⟨d1, d2, f⟩ hcf; refine F.xk ?_)) | fail
    have hGi := implCoboundaryOf_a d1 d2 f
    have hGs := specCoboundaryOf_a d1 d2 f
    have hMo := specIsMorphism_a d1 d2 f
    have hCob := @cobP_cob d1 d2 f
    have hz := @cobP_zero d1 d2 f
    have hCb := fun c => implIsCoboundary_a d1 d2 c
    have hGl := cobP_le d1 d2 f
    generalize cobP d1 d2 f = Y at *
    obtain ⟨Gm, c2⟩ := Y
    dsimp only at hGi hGs hCob hz hGl
    generalize isMor d1 d2 f = mo at hMo hz
    have hEq := specEqualMorphisms_a Gm Gm
    rw [sameL_refl] at hEq
    have hCG := hCb Gm
    apply V.tailedT
    ·intro tail
     have hGi' := hGi
     have hGs' := hGs
     have hMo' := hMo
     have hCG' := hCG
     cases hs2 : c2 with
     | false =>
      rw [hs2] at hGi' hGs'
      repeat' first | refine AW.freezeA (α := Mat) (oo := true) (ls := Gm) 13 rfl rfl rfl ?_ | refine AW.freezeA (α := Mat) (oo := true) (ls := Gm) 15 rfl rfl rfl ?_ | (refine AW.only [(0, .dt false 1 (E false b)), (15, .dt false 3 (E false Gm)), (106, .b false), (129, .b (c2 && mo))] [] 8 ⟨rfl, rfl, rfl, bE (by rw [hs2]; rfl), trivial⟩ trivial rfl ?_; refine AW.only [(0, .dt false 1 (E false b)), (15, .dt false 3 (E false Gm)), (129, .b (c2 && mo))] [] 8 ⟨rfl, rfl, rfl, trivial⟩ trivial rfl ?_) | refine s1 ?_ | (refine kR ?_; first | refine F.c (hGi') ?_ | refine F.c (hGs') ?_ | refine F.c (hEq) ?_ | refine F.sil (A.neqBB rfl rfl) rfl rfl ?_) | fail
      exact tail.t
     | true =>
      rw [hs2] at hGi' hGs'
      rw [hCob hs2] at hCG'
      cases hs3 : mo with
      | false =>
       rw [hs3] at hMo'
       repeat' first | refine AW.freezeA (α := Mat) (oo := true) (ls := Gm) 13 rfl rfl rfl ?_ | refine AW.freezeA (α := Mat) (oo := true) (ls := Gm) 15 rfl rfl rfl ?_ | (refine AW.only [(0, .dt false 1 (E false b)), (15, .dt false 3 (E false Gm)), (106, .b false), (129, .b (c2 && mo))] [] 8 ⟨rfl, rfl, rfl, bE (by rw [hs2, hs3]; rfl), trivial⟩ trivial rfl ?_; refine AW.only [(0, .dt false 1 (E false b)), (15, .dt false 3 (E false Gm)), (129, .b (c2 && mo))] [] 8 ⟨rfl, rfl, rfl, trivial⟩ trivial rfl ?_) | refine s1 ?_ | (refine kR ?_; first | refine F.c (hGi') ?_ | refine F.c (hGs') ?_ | refine F.c (hEq) ?_ | refine F.c (hCG') ?_ | refine F.c (hMo') ?_ | refine F.sil (A.neqBB rfl rfl) rfl rfl ?_) | fail
       exact tail.t
      | true =>
       rw [hs3] at hMo'
       repeat' first | refine AW.freezeA (α := Mat) (oo := true) (ls := Gm) 13 rfl rfl rfl ?_ | refine AW.freezeA (α := Mat) (oo := true) (ls := Gm) 15 rfl rfl rfl ?_ | (refine AW.only [(0, .dt false 1 (E false b)), (15, .dt false 3 (E false Gm)), (106, .b false), (129, .b (c2 && mo))] [] 8 ⟨rfl, rfl, rfl, bE (by rw [hs2, hs3]; rfl), trivial⟩ trivial rfl ?_; refine AW.only [(0, .dt false 1 (E false b)), (15, .dt false 3 (E false Gm)), (129, .b (c2 && mo))] [] 8 ⟨rfl, rfl, rfl, trivial⟩ trivial rfl ?_) | refine s1 ?_ | (refine kR ?_; first | refine F.c (hGi') ?_ | refine F.c (hGs') ?_ | refine F.c (hEq) ?_ | refine F.c (hCG') ?_ | refine F.c (hMo') ?_ | refine F.sil (A.neqBB rfl rfl) rfl rfl ?_) | fail
       exact tail.t
    ·clear hGi hGs hMo hEq hCG hCb hCob
     first | refine F.cut (σ := Unit) [2, 17, 130, 131, 132, 133, 134, 135, 136, 137, 138, 139, 140, 141, 142] (fun _ => []) (fun _ => []) (fun _ => True) ?_ (fun _ _ => ?_) | (refine s1 ?_; refine F.cut (σ := Unit) [2, 17, 130, 131, 132, 133, 134, 135, 136, 137, 138, 139, 140, 141, 142] (fun _ => []) (fun _ => []) (fun _ => True) ?_ (fun _ _ => ?_))
     ·cases hv : (c2 && mo) with
      | false =>
       repeat' first | refine s1 ?_ | fail
       exact ⟨(), F.fit trivial trivial, trivial⟩
      | true =>
       rw [Bool.and_eq_true] at hv
       repeat' first | refine s1 ?_ | fail
       refine F.loop (σ := Nat) [2, 17, 130, 131, 132, 133, 134, 135, 136, 137, 138, 139, 140, 141, 142] (fun k => [(17, .i k)]) (fun _ => []) (fun k => k ≤ Gm.length) (fun k => Gm.length - k) 0 ⟨rfl, trivial⟩ trivial (Nat.zero_le _) ?_
       rintro j j1
       by_cases hj : j < Gm.length
       ·obtain ⟨z1, z2, z3⟩ := hz hv.1 hv.2 hj
        have hT := total_a (Gm.getD j default).m (by omega) (fun i hi => by rw [z2 i hi]; omega)
        rw [z3] at hT
        repeat' first | refine s1 ?_ | (refine kR ?_; first | refine F.c (hT) ?_) | fail
        exact ⟨j + 1, F.fit ⟨rfl, trivial⟩ trivial, by omega, by omega⟩
       ·repeat' first | refine s1 ?_ | fail
        exact ⟨(), F.fit trivial trivial, trivial⟩
     ·repeat' first | (refine AW.freezeP (α := Rep) (oo := false) e1 18 rfl rfl ?_; refine AW.freezeP (α := Rep) (oo := false) e2 19 rfl rfl ?_) | (refine AW.putV 21 4 rfl rfl rfl rfl (E_length _ _) (E_pure _ _) rfl ?_; refine AW.putV 21 5 rfl rfl rfl rfl (E_length _ _) (E_pure _ _) rfl ?_; refine AW.freezeV (enc false r) 21 rfl rfl (repA_pure r) (repA_frz r) ?_) | refine s1 ?_ | (refine kR ?_; first | (refine F.x [] (hI) ?_; rintro ⟨e1, e2, g⟩ hg; refine F.xk ?_) | (refine F.x [] (hR) ?_; rintro r hr; refine F.xk ?_)) | fail
      have hA1 := implIsCoboundary_a e1 e2 g
      have hA2 := specIsCoboundary_a e1 e2 g
      have hK1 := implIsCocycle_a e1 e2 g
      have hK2 := specIsCocycle_a e1 e2 g
      have hR1 := implIsRigid_a r
      have hR2 := specIsRigid_a r
      generalize isCob e1 e2 g = u at hA1 hA2
      generalize isCoc e1 e2 g = v at hK1 hK2
      generalize decide (extD r r = 0) = z at hR1 hR2
      cases u <;> cases v <;> cases z
      all_goals
       refine AW.draw 28 G.mixed (by kernel_rfl) ?_
       refine dL 0 ?_
       refine dL 1 ?_
       first | refine dP 2 ?_ | refine dP 2 ?_ (hs := by exact (A.eqlBB rfl rfl))
       refine dL 4 ?_
       refine dL 5 ?_
       first | refine dP 6 ?_ | refine dP 6 ?_ (hs := by exact (A.eqlBB rfl rfl))
       refine dO 3 true ?_
       first | refine s1 ?_ | refine F.c (hA1) ?_ | refine F.c (hA2) ?_ | refine F.c (hK1) ?_ | refine F.c (hK2) ?_ | refine F.c (hR1) ?_ | refine F.c (hR2) ?_
       refine tN ?_
       refine dO 7 true ?_
       first | refine s1 ?_ | refine F.c (hA1) ?_ | refine F.c (hA2) ?_ | refine F.c (hK1) ?_ | refine F.c (hK2) ?_ | refine F.c (hR1) ?_ | refine F.c (hR2) ?_
       refine tN ?_
       first | refine dP 8 ?_ | refine dP 8 ?_ (hs := by exact (A.eqlBB rfl rfl))
       first | refine dP 9 ?_ | refine dP 9 ?_ (hs := by exact (A.eqlBB rfl rfl))
       first | refine dT 160 rfl (by first | assumption | rfl | (simp only [decide_eq_true_eq, Bool.not_eq_true', decide_eq_false_iff_not, Bool.and_eq_true, Bool.or_eq_true]; omega)) ?_ | refine dF 160 rfl (by first | assumption | rfl | (simp only [decide_eq_false_iff_not, Bool.not_eq_false', decide_eq_true_eq, Bool.and_eq_false_iff, Bool.or_eq_false_iff]; omega)) ?_ | (refine dD 160 rfl ?_ ?_ <;> intro hc <;> (try simp only [decide_eq_true_eq, decide_eq_false_iff_not, Bool.not_eq_true', Bool.not_eq_false'] at hc)) | skip
       all_goals
        first | refine dK 10 ?_ | refine dL 10 ?_
        first | refine dK 11 ?_ | refine dL 11 ?_
        first | refine dK 12 ?_ | refine dP 12 ?_ | refine dP 12 ?_ (hs := by exact (A.eqlBB rfl rfl))
        first | refine dK 14 ?_ | refine dL 14 ?_
        first | refine dK 15 ?_ | refine dL 15 ?_
        first | refine dK 16 ?_ | refine dP 16 ?_ | refine dP 16 ?_ (hs := by exact (A.eqlBB rfl rfl))
        refine dO 13 true ?_
        first | refine s1 ?_ | refine F.c (hA1) ?_ | refine F.c (hA2) ?_ | refine F.c (hK1) ?_ | refine F.c (hK2) ?_ | refine F.c (hR1) ?_ | refine F.c (hR2) ?_
        refine tN ?_
        refine dO 17 true ?_
        first | refine s1 ?_ | refine F.c (hA1) ?_ | refine F.c (hA2) ?_ | refine F.c (hK1) ?_ | refine F.c (hK2) ?_ | refine F.c (hR1) ?_ | refine F.c (hR2) ?_
        refine tN ?_
        first | refine dK 18 ?_ | refine dP 18 ?_ | refine dP 18 ?_ (hs := by exact (A.eqlBB rfl rfl))
        first | refine dP 19 ?_ | refine dP 19 ?_ (hs := by exact (A.eqlBB rfl rfl))
        first | refine dP 20 ?_ | refine dP 20 ?_ (hs := by exact (A.eqlBB rfl rfl))
        first | refine dT 171 rfl (by first | assumption | rfl | (simp only [decide_eq_true_eq, Bool.not_eq_true', decide_eq_false_iff_not, Bool.and_eq_true, Bool.or_eq_true]; omega)) ?_ | refine dF 171 rfl (by first | assumption | rfl | (simp only [decide_eq_false_iff_not, Bool.not_eq_false', decide_eq_true_eq, Bool.and_eq_false_iff, Bool.or_eq_false_iff]; omega)) ?_ | (refine dD 171 rfl ?_ ?_ <;> intro hc <;> (try simp only [decide_eq_true_eq, decide_eq_false_iff_not, Bool.not_eq_true', Bool.not_eq_false'] at hc)) | skip
        all_goals
         first | refine dK 21 ?_ | refine dL 21 ?_
         first | refine dK 23 ?_ | refine dL 23 ?_
         refine dO 22 true ?_
         first | refine s1 ?_ | refine F.c (hA1) ?_ | refine F.c (hA2) ?_ | refine F.c (hK1) ?_ | refine F.c (hK2) ?_ | refine F.c (hR1) ?_ | refine F.c (hR2) ?_
         refine tN ?_
         refine dO 24 true ?_
         first | refine s1 ?_ | refine F.c (hA1) ?_ | refine F.c (hA2) ?_ | refine F.c (hK1) ?_ | refine F.c (hK2) ?_ | refine F.c (hR1) ?_ | refine F.c (hR2) ?_
         refine tN ?_
         first | refine dK 25 ?_ | refine dP 25 ?_ | refine dP 25 ?_ (hs := by exact (A.eqlBB rfl rfl))
         first | refine dP 26 ?_ | refine dP 26 ?_ (hs := by exact (A.eqlBB rfl rfl))
         first | refine dP 27 ?_ | refine dP 27 ?_ (hs := by exact (A.eqlBB rfl rfl))
         refine dN ?_
         rotate_left
       all_goals
        repeat' first | refine s1 ?_ | fail
        (refine kZ ?_; exact F.ret rfl)
theorem fnExtensions.walk (w : World) (x0 : List UInt8) (v0 : Value) (F0 : List Nat) (h0 : (listR u8R).V w x0 [v0] F0) : Run Tryz.prog 3 [v0] w fun v w' => v = .bool true ∧ Later w w' :=
 (fnExtensions.ac x0).law (.cons (RdE.h h0) (.nil w))
namespace fnExtensions
theorem own : ownKnob Tryz.prog.godebug = none := by kernel_rfl
theorem laidOut : laidOutB Tryz.prog = true := by kernel_rfl
set_option maxRecDepth 100000 in
theorem lifted (os : Os) (started : os.Started) (H : Type) (enc : TypeId × Value → H) :
  ReturnsInHanded {} Tryz.checked os 3 .any (Rows.fnExtensionsSpec.pre6 enc Tryz.prog Tryz.f3 Rows.fnExtensionsRow.domain false) (Rows.fnExtensionsSpec.post enc Tryz.prog Tryz.f3 false true false false) := by
 refine returnsInHanded_of_change (C := Tryz.checked) own started (by kernel_rfl) Tryz.func3
  (ChangeSpec.witness6 (enc := enc) (C := Tryz.checked) false ⟨#[], #[.slice none 0 0], []⟩ 8 (by kernel_rfl) (by kernel_rfl) (by kernel_rfl) (by kernel_rfl)) ?_
 intro W base args ds gs before hval0 hW hcnd _
 have hval : ∀ (j : Nat) t v, Tryz.f3.params[j]? = some t → args[j]? = some v → Value.okWide Tryz.prog W .any base t v := hval0
 have hW' := hW
 obtain ⟨p, q, hA0, hV, rfl, hfz, hnd⟩ := hW
 have hA : DataW.TrodAll enc Tryz.prog W 0 (fun _ => true) true Tryz.f3.params.toList args.toList ds p := hA0
 rw [Tryz.params3] at hA hval
 obtain ⟨v0, vs0, d0, ds0, p0, q0, hargs, rfl, rfl, h0, r0⟩ := trodAll_cons hA
 obtain ⟨rfl, rfl, rfl⟩ := trodAll_nil r0
 obtain rfl : args = #[v0] := by cases args; simp_all
 obtain ⟨rfl, rfl⟩ := trodVars_none hV
 obtain ⟨a0, len0, cap0, rfl⟩ := okWide_slice Tryz.underlying22 (hval 0 22 v0 rfl rfl)
 have k0 := h0
 have lt0 : ∀ x ∈ p0, x.block < W.heap.size := by obtain ⟨m, hm⟩ := k0; exact DataW.trod_lt m _ _ _ hm
 obtain ⟨x0, F0, R0⟩ := Rds.arg1 (inferInstance : Rds Tryz.prog 22 _) k0 rfl
 clear hA0 hval0
 refine (Run.calls (walk W x0 _ F0 R0)).mono fun e W' ⟨v, he, hv, bel⟩ => ?_
 subst he
 subst hv
 exact ⟨_, rfl, _, _, _, [], _, [], hW', trodAll_mk1 (shut_bool Tryz.underlying4 _), (trodAll_cons_mk (Below.trod laidOut (by kernel_rfl) (of_decide_eq_true (by kernel_rfl)) k0 bel lt0) trodAll_mk0), rfl, bel.frame _, fun h => by cases h⟩
theorem down : V.downB Tryz.prog [] [4, 53, 109, 83, 89, 92, 82, 115, 130, 90, 112, 133, 131, 127, 110, 93, 114, 126, 74, 113, 84, 88, 86, 111, 87, 85, 52, 57, 24, 5, 94, 76, 120, 128, 119, 102, 116, 117, 95, 77, 40, 58, 96, 59, 25, 65, 60, 42, 66, 31, 62, 64, 80, 61, 81, 45, 32, 28, 26, 29, 118, 97, 63, 27, 98, 67, 30, 6, 99, 100, 91, 55, 68, 101, 69, 33, 48, 70, 71, 34, 36, 72, 73, 35, 37, 38, 7, 50, 15, 8, 75, 39, 9, 10, 121, 103, 78, 41, 11, 132, 129, 122, 108, 104, 123, 124, 54, 125, 47, 105, 107, 106, 79, 43, 12, 44, 13, 46, 49, 14, 16, 17, 51, 18, 19, 21, 20, 22, 56, 23, 3] = true := by kernel_rfl
theorem closed : joinedFacts Tryz.pinned.checked.prog 3 Tryz.f3 Rows.fnExtensionsSpec Rows.fnExtensionsRow = true := by
 have h : Program.recurses Tryz.pinned.checked.prog 3 = Program.unfollowed Tryz.pinned.checked.prog 3 := V.recurses_down _ down (by kernel_rfl)
 unfold joinedFacts
 rw [h]
 change _ = _
 kernel_rfl
theorem over : Rows.fnExtensionsRow.holds Tryz.pinned (OpenSpec.ofChange Rows.fnExtensionsSpec) :=
 OpenClaim.holds_of_wide 3 Tryz.f3 rfl rfl rfl rfl rfl rfl rfl ⟨rfl, rfl, rfl, rfl, rfl⟩ rfl rfl rfl rfl rfl (by kernel_rfl) Tryz.func3 closed
  (of_decide_eq_true (by kernel_rfl)) (by unfold Func.isWrapper; first | (rw [if_pos (by decide +kernel)]; kernel_rfl) | (rw [if_neg (by decide +kernel)]; exact ⟨rfl, rfl⟩))
  (fun os started H enc _ => lifted os started H enc)
theorem proved : Rows.FnExtensionsSaid := over
end fnExtensions
end Go.Proofs.YtoilkinagffhiaaGreat
