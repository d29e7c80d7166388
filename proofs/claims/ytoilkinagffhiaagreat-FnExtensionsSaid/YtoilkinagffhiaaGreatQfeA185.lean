/- Texts that the proof needs: A185. -/
import Derived.Test.YtoilkinagffhiaaGreatQfeA184
import Derived.Test.YtoilkinagffhiaaGreatQfeA45
namespace Go.Proofs.YtoilkinagffhiaaGreat.V
open Go.RowKit G D
set_option linter.unusedVariables false
set_option linter.unusedSimpArgs false
set_option maxHeartbeats 4000000
set_option maxRecDepth 4000
theorem tailedC {b : List UInt8} {T : Int → Int → Prop} {G : Prop} (h : (∀ i h, okI b i → Tl (T i h)) → G) (t : ∀ i h, okI b i → T i h) : G := h fun i h hi => ⟨t i h hi⟩
attribute [local irreducible] AW ARg ARA ARet MRet ASil AC AM AMx ACx AD ARI
abbrev two (x : Rep × Rep) : List AV := [.agg (enc false x.1), .agg (enc false x.2)]
abbrev three (x : Rep × Rep × List Mat) : List AV := [.agg (enc false x.1), .agg (enc false x.2.1), .dt false 3 (V.E false x.2.2)]
theorem l11Pair_x (b : List UInt8) (hl : b.length ≤ 1048576) : AMx Tryz.prog 24 [ar false b] [] (fun _ : Rep × Rep => True) two (fun _ => []) := by
 refine AMx.go Tryz.func24 Tryz.ntmps24 rfl rfl fun w0 mp hw => ?_; simp [WfL, WfA, E_length, Enc.enc, In64] at hw
 have hN := l1New_p b hl
 have hP := l9Pair_x b hl
 have hi0 : okI b 0 := ⟨Int.le_refl _, by omega⟩
 repeat' first | refine s1 ?_ | (refine kR ?_; first | refine F.p (hN) ?_ | (refine F.dr 2 (hP) (by assumption) ?_; intro ⟨a, a2⟩ i1 h1 hr hi1; dsimp only at hr; refine F.xk ?_)) | fail
 refine AW.putV 4 4 rfl rfl rfl rfl (E_length _ _) (E_pure _ _) rfl ?_; refine AW.putV 4 5 rfl rfl rfl rfl (E_length _ _) (E_pure _ _) rfl ?_
 refine AW.freezeV (enc false a) 4 rfl rfl (repA_pure a) (repA_frz a) ?_
 refine AW.putV 5 4 rfl rfl rfl rfl (E_length _ _) (E_pure _ _) rfl ?_; refine AW.putV 5 5 rfl rfl rfl rfl (E_length _ _) (E_pure _ _) rfl ?_
 refine AW.freezeV (enc false a2) 5 rfl rfl (repA_pure a2) (repA_frz a2) ?_
 refine AW.drawI G.mixed (by kernel_rfl) (by rfl) ?_
 intro T w1 MP1 I0
 refine iL 0 ?_
 refine iL 1 ?_
 refine iO 2 ?_
 refine s1 ?_
 refine tN ?_
 refine iO 3 ?_
 refine s1 ?_
 refine tN ?_
 refine iN ?_
 rotate_left
 all_goals
  repeat' first | refine s1 ?_ | fail
  exact F.rx (a, a2) trivial (F.retM rfl trivial)
theorem drawExtBasis_x (b : List UInt8) (hl : b.length ≤ 1048576) : AMx Tryz.prog 5 [ar false b] [] (fun _ : Rep × Rep => True) two (fun _ => []) := by
 refine AMx.go Tryz.func5 Tryz.ntmps5 rfl rfl fun w0 mp hw => ?_; simp [WfL, WfA, E_length, Enc.enc, In64] at hw
 have hP := l11Pair_x b hl
 repeat' first | refine s1 ?_ | (refine kR ?_; first | (refine F.x [] (hP) ?_; rintro ⟨a, a2⟩ hr; refine F.xk ?_)) | fail
 refine AW.freezeP (α := Rep) (oo := false) a 4 rfl rfl ?_
 refine AW.freezeP (α := Rep) (oo := false) a2 5 rfl rfl ?_
 refine AW.drawI G.mixed (by kernel_rfl) (by rfl) ?_
 intro T w1 MP1 I0
 refine iL 0 ?_
 refine iL 1 ?_
 refine iO 2 ?_
 refine s1 ?_
 refine tN ?_
 refine iO 3 ?_
 refine s1 ?_
 refine tN ?_
 refine iN ?_
 rotate_left
 all_goals
  repeat' first | refine s1 ?_ | fail
  exact F.rx (a, a2) trivial (F.retM rfl trivial)
theorem l10Draw_x (b : List UInt8) (hl : b.length ≤ 1048576) : AMx Tryz.prog 43 [ar false b] [] (fun _ : Rep × Rep × List Mat => True) three (fun _ => []) := by
 refine AMx.go Tryz.func43 Tryz.ntmps43 rfl rfl fun w0 mp hw => ?_; simp [WfL, WfA, E_length, Enc.enc, In64] at hw
 have hN := l1New_p b hl
 have hP := l10Three_x b hl
 have hi0 : okI b 0 := ⟨Int.le_refl _, by omega⟩
 repeat' first | refine s1 ?_ | (refine kR ?_; first | refine F.p (hN) ?_ | (refine F.dr 2 (hP) (by assumption) ?_; intro ⟨a, a2, f⟩ i1 h1 hr hi1; refine F.xk ?_)) | fail
 refine AW.freezeP (α := Rep) (oo := false) a 5 rfl rfl ?_
 refine AW.freezeP (α := Rep) (oo := false) a2 6 rfl rfl ?_
 refine AW.drawI G.mixed (by kernel_rfl) (by rfl) ?_
 intro T w1 MP1 I0
 refine iL 0 ?_
 refine iL 1 ?_
 refine iP 2 ?_
 refine iO 3 ?_
 refine s1 ?_
 refine tN ?_
 refine iO 4 ?_
 refine s1 ?_
 refine tN ?_
 refine iP 5 ?_
 refine iN ?_
 rotate_left
 all_goals
  repeat' first | refine s1 ?_ | fail
  exact F.rx (a, a2, f) trivial (F.retM rfl trivial)
theorem drawCoboundaryOf_x (b : List UInt8) (hl : b.length ≤ 1048576) : AMx Tryz.prog 12 [ar false b] [] (fun _ : Rep × Rep × List Mat => True) three (fun _ => []) := by
 refine AMx.go Tryz.func12 Tryz.ntmps12 rfl rfl fun w0 mp hw => ?_; simp [WfL, WfA, E_length, Enc.enc, In64] at hw
 have hP := l10Draw_x b hl
 repeat' first | refine s1 ?_ | (refine kR ?_; first | (refine F.x [] (hP) ?_; rintro ⟨a, a2, f⟩ hr; refine F.xk ?_)) | fail
 refine AW.freezeP (α := Rep) (oo := false) a 5 rfl rfl ?_
 refine AW.freezeP (α := Rep) (oo := false) a2 6 rfl rfl ?_
 refine AW.drawI G.mixed (by kernel_rfl) (by rfl) ?_
 intro T w1 MP1 I0
 refine iL 0 ?_
 refine iL 1 ?_
 refine iP 2 ?_
 refine iO 3 ?_
 refine s1 ?_
 refine tN ?_
 refine iO 4 ?_
 refine s1 ?_
 refine tN ?_
 refine iP 5 ?_
 refine iN ?_
 rotate_left
 all_goals
  repeat' first | refine s1 ?_ | fail
  exact F.rx (a, a2, f) trivial (F.retM rfl trivial)
theorem l19Three_x (b : List UInt8) (hl : b.length ≤ 1048576) : AMx Tryz.prog 51 [ar false b] [] (fun _ : Rep × Rep × List Mat => True) three (fun _ => []) := by
 refine AMx.go Tryz.func51 Tryz.ntmps51 rfl rfl fun w0 mp hw => ?_; simp [WfL, WfA, E_length, Enc.enc, In64] at hw
 have hN := l1New_p b hl
 have hP := l9Pair_x b hl
 have hB := fun n => l1Below_x b hl n
 have hO2 := l1Once_x b hl 2
 have hO6 := l1Once_x b hl 6
 have hR := fun p a c ha hc => l3Random_x b hl p a c ha hc
 have hA := fun p => l3Any_x b hl p
 have hi0 : okI b 0 := ⟨Int.le_refl _, by omega⟩
 repeat' first | (refine AW.putV 6 4 rfl rfl rfl rfl (E_length _ _) (E_pure _ _) rfl ?_; refine AW.putV 6 5 rfl rfl rfl rfl (E_length _ _) (E_pure _ _) rfl ?_; refine AW.freezeV (enc false a) 6 rfl rfl (repA_pure a) (repA_frz a) ?_; refine AW.putV 7 4 rfl rfl rfl rfl (E_length _ _) (E_pure _ _) rfl ?_; refine AW.putV 7 5 rfl rfl rfl rfl (E_length _ _) (E_pure _ _) rfl ?_; refine AW.freezeV (enc false a2) 7 rfl rfl (repA_pure a2) (repA_frz a2) ?_) | refine s1 ?_ | (refine kR ?_; first | refine F.p (hN) ?_ | (refine F.dr 2 (hP) (by assumption) ?_; intro ⟨a, a2⟩ i1 h1 hr hi1; (dsimp only at hr; obtain ⟨hal, hab⟩ := hr); refine F.xk ?_)) | fail
 have hE := specExtBasis_a a a2
 have hF := l9Fit_a a a2
 have hCo := fun f => specCoboundaryOf_a a a2 f
 generalize extP a a2 = L at hE
 obtain ⟨L, c⟩ := L
 dsimp only at hE
 repeat' first | refine AW.freezeA (α := List Mat) (oo := true) (ls := L) 8 rfl rfl rfl ?_ | refine s1 ?_ | (refine kR ?_; first | refine F.c (hE) ?_) | fail
 clear hE
 apply V.tailedC (b := b)
 ·intro tail
  cases hs : c with
  | false =>
   repeat' first | (refine AW.only [(2, .pt 0 1 0 0), (3, .pt 1 1 0 0), (5, .pt 2 1 0 0), (6, .ip (enc false a)), (7, .ip (enc false a2)), (27, .b false), (36, .b false)] [(0, .live false 6 [[.i 0, .i 0, .nl, .nl, .nl, .nl]]), (1, .live false 6 [[.i 0, .i 0, .nl, .nl, .nl, .nl]]), (2, .live false 3 (curO b i1 h1))] 10 ⟨rfl, rfl, rfl, rfl, rfl, rfl, rfl, trivial⟩ ⟨rfl, rfl, rfl, trivial⟩ rfl ?_; refine AW.only [(2, .pt 0 1 0 0), (3, .pt 1 1 0 0), (5, .pt 2 1 0 0), (6, .ip (enc false a)), (7, .ip (enc false a2)), (36, .b false)] [(0, .live false 6 [[.i 0, .i 0, .nl, .nl, .nl, .nl]]), (1, .live false 6 [[.i 0, .i 0, .nl, .nl, .nl, .nl]]), (2, .live false 3 (curO b i1 h1))] 10 ⟨rfl, rfl, rfl, rfl, rfl, rfl, trivial⟩ ⟨rfl, rfl, rfl, trivial⟩ rfl ?_) | refine s1 ?_ | fail
   have hi3 := hi1; generalize i1 = i3 at hi3 ⊢; generalize h1 = h3; exact (tail i3 h3 hi3).t
  | true =>
   by_cases hL : 0 < L.length
   ·repeat' first | refine s1 ?_ | (refine kR ?_; first | (refine F.dr 2 (hO2) (by assumption) ?_; intro c i4 h4 hc4 hi4; refine F.xk ?_)) | fail
    cases c with
    | true =>
     repeat' first | refine s1 ?_ | fail
     refine AW.drawI G.mixed (by kernel_rfl) (by rfl) ?_
     intro T w1 MP1 I0
     refine iL 0 ?_
     refine iL 1 ?_
     refine iP 2 ?_
     refine iP 3 ?_
     refine iP 4 ?_
     refine iP 5 ?_
     refine iO 6 ?_
     first | refine s1 ?_ | (refine F.dr 2 ((hB _)) (by assumption) ?_; intro x i6 h6 hx hi6; (obtain ⟨k, rfl⟩ : ∃ k : Nat, x = k := ⟨x.toNat, by have := hx.1 (by omega); omega⟩); replace hx := hx.1 (by omega); refine F.xk ?_)
     refine tN ?_
     refine iP 7 ?_
     refine ARI.any [8, 9] (by kernel_rfl) (by simp) ?_
     intro k hk
     simp only [List.mem_cons, List.not_mem_nil, or_false] at hk
     rcases hk with rfl | rfl
     refine ⟨_, rfl, ?_⟩
     refine s1 ?_
     refine tN ?_
     refine iO 9 ?_
     refine s1 ?_
     refine tN ?_
     refine iO 10 ?_
     refine s1 ?_
     refine tN ?_
     refine iP 11 ?_
     refine iN ?_
     rotate_left
     refine ⟨_, rfl, ?_⟩
     refine s1 ?_
     refine tN ?_
     refine ARI.any [8, 10] (by kernel_rfl) (by simp) ?_
     intro k hk
     simp only [List.mem_cons, List.not_mem_nil, or_false] at hk
     rcases hk with rfl | rfl
     refine ⟨_, rfl, ?_⟩
     refine s1 ?_
     refine tN ?_
     refine iO 10 ?_
     refine s1 ?_
     refine tN ?_
     refine iP 11 ?_
     refine iN ?_
     rotate_left
     refine ⟨_, rfl, ?_⟩
     refine s1 ?_
     refine tN ?_
     refine iO 8 ?_
     refine s1 ?_
     refine tN ?_
     refine iP 11 ?_
     refine iN ?_
     rotate_left
     all_goals
      repeat' first | refine s1 ?_ | fail
      exact F.rx (a, a2, L.getD k default) trivial (F.retM rfl trivial)
    | false =>
     repeat' first | (refine AW.only [(2, .pt 0 1 0 0), (3, .pt 1 1 0 0), (5, .pt 2 1 0 0), (6, .ip (enc false a)), (7, .ip (enc false a2)), (27, .b true), (36, .b false)] [(0, .live false 6 [[.i 0, .i 0, .nl, .nl, .nl, .nl]]), (1, .live false 6 [[.i 0, .i 0, .nl, .nl, .nl, .nl]]), (2, .live false 3 (curO b i4 h4))] 10 ⟨rfl, rfl, rfl, rfl, rfl, rfl, rfl, trivial⟩ ⟨rfl, rfl, rfl, trivial⟩ rfl ?_; refine AW.only [(2, .pt 0 1 0 0), (3, .pt 1 1 0 0), (5, .pt 2 1 0 0), (6, .ip (enc false a)), (7, .ip (enc false a2)), (36, .b false)] [(0, .live false 6 [[.i 0, .i 0, .nl, .nl, .nl, .nl]]), (1, .live false 6 [[.i 0, .i 0, .nl, .nl, .nl, .nl]]), (2, .live false 3 (curO b i4 h4))] 10 ⟨rfl, rfl, rfl, rfl, rfl, rfl, trivial⟩ ⟨rfl, rfl, rfl, trivial⟩ rfl ?_) | refine s1 ?_ | fail
     exact (tail i4 h4 hi4).t
   ·repeat' first | (refine AW.only [(2, .pt 0 1 0 0), (3, .pt 1 1 0 0), (5, .pt 2 1 0 0), (6, .ip (enc false a)), (7, .ip (enc false a2)), (27, .b true), (36, .b false)] [(0, .live false 6 [[.i 0, .i 0, .nl, .nl, .nl, .nl]]), (1, .live false 6 [[.i 0, .i 0, .nl, .nl, .nl, .nl]]), (2, .live false 3 (curO b i1 h1))] 10 ⟨rfl, rfl, rfl, rfl, rfl, rfl, rfl, trivial⟩ ⟨rfl, rfl, rfl, trivial⟩ rfl ?_; refine AW.only [(2, .pt 0 1 0 0), (3, .pt 1 1 0 0), (5, .pt 2 1 0 0), (6, .ip (enc false a)), (7, .ip (enc false a2)), (36, .b false)] [(0, .live false 6 [[.i 0, .i 0, .nl, .nl, .nl, .nl]]), (1, .live false 6 [[.i 0, .i 0, .nl, .nl, .nl, .nl]]), (2, .live false 3 (curO b i1 h1))] 10 ⟨rfl, rfl, rfl, rfl, rfl, rfl, trivial⟩ ⟨rfl, rfl, rfl, trivial⟩ rfl ?_) | refine s1 ?_ | fail
    have hi3 := hi1; generalize i1 = i3 at hi3 ⊢; generalize h1 = h3; exact (tail i3 h3 hi3).t
 ·intro i3 h3 hi3
  clear hi1
  apply V.tailedC (b := b)
  ·intro tail
   have hF' := hF
   cases hf : fitR a a2 with
   | false =>
    rw [hf] at hF'
    repeat' first | (refine AW.only [(2, .pt 0 1 0 0), (3, .pt 1 1 0 0), (5, .pt 2 1 0 0), (6, .ip (enc false a)), (7, .ip (enc false a2)), (48, .b false), (53, .b false)] [(0, .live false 6 [[.i 0, .i 0, .nl, .nl, .nl, .nl]]), (1, .live false 6 [[.i 0, .i 0, .nl, .nl, .nl, .nl]]), (2, .live false 3 (curO b i3 h3))] 10 ⟨rfl, rfl, rfl, rfl, rfl, rfl, rfl, trivial⟩ ⟨rfl, rfl, rfl, trivial⟩ rfl ?_; refine AW.only [(2, .pt 0 1 0 0), (3, .pt 1 1 0 0), (5, .pt 2 1 0 0), (6, .ip (enc false a)), (7, .ip (enc false a2)), (53, .b false)] [(0, .live false 6 [[.i 0, .i 0, .nl, .nl, .nl, .nl]]), (1, .live false 6 [[.i 0, .i 0, .nl, .nl, .nl, .nl]]), (2, .live false 3 (curO b i3 h3))] 10 ⟨rfl, rfl, rfl, rfl, rfl, rfl, trivial⟩ ⟨rfl, rfl, rfl, trivial⟩ rfl ?_) | refine s1 ?_ | (refine kR ?_; first | refine F.c (hF') ?_) | fail
    have hi5 := hi3; generalize i3 = i5 at hi5 ⊢; generalize h3 = h5; exact (tail i5 h5 hi5).t
   | true =>
    rw [hf] at hF'
    have hra := (fitR_reps hf).1
    have hrb := (fitR_reps hf).2
    have hq := (fitR_spec hf).2.2.2
    have hdl : a2.d.length = a.d.length := by
     have h1 := (areDims_spec (isRep_spec hra).2.1).2.1
     have h2 := (areDims_spec (isRep_spec hrb).2.1).2.1
     rw [hq] at h1
     omega
    repeat' first | refine s1 ?_ | (refine kR ?_; first | refine F.c (hF') ?_ | (refine F.dr 2 (hO6) (by assumption) ?_; intro c i4 h4 hc4 hi4; refine F.xk ?_)) | fail
    cases c with
    | true =>
     repeat' first | (refine AW.only [(2, .pt 0 1 0 0), (3, .pt 1 1 0 0), (5, .pt 2 1 0 0), (6, .ip (enc false a)), (7, .ip (enc false a2)), (48, .b true), (53, .b false)] [(0, .live false 6 [[.i 0, .i 0, .nl, .nl, .nl, .nl]]), (1, .live false 6 [[.i 0, .i 0, .nl, .nl, .nl, .nl]]), (2, .live false 3 (curO b i4 h4))] 10 ⟨rfl, rfl, rfl, rfl, rfl, rfl, rfl, trivial⟩ ⟨rfl, rfl, rfl, trivial⟩ rfl ?_; refine AW.only [(2, .pt 0 1 0 0), (3, .pt 1 1 0 0), (5, .pt 2 1 0 0), (6, .ip (enc false a)), (7, .ip (enc false a2)), (53, .b false)] [(0, .live false 6 [[.i 0, .i 0, .nl, .nl, .nl, .nl]]), (1, .live false 6 [[.i 0, .i 0, .nl, .nl, .nl, .nl]]), (2, .live false 3 (curO b i4 h4))] 10 ⟨rfl, rfl, rfl, rfl, rfl, rfl, trivial⟩ ⟨rfl, rfl, rfl, trivial⟩ rfl ?_) | refine s1 ?_ | fail
     exact (tail i4 h4 hi4).t
    | false =>
     repeat' first | refine s1 ?_ | fail
     refine AW.open 10 3 (.inr rfl) ?_
     refine F.loop (σ := Nat × List Mat × Int × Int) [10, 11, 55, 56, 57, 58, 59, 60, 61, 62, 63, 64, 65, 66, 67, 68, 69, 70, 71, 72, 73, 74, 75, 76, 77, 78] (fun x => [(10, .sl 10 x.1 0 x.1), (11, .i x.1)]) (fun x => [(2, .live false 3 (curO b x.2.2.1 x.2.2.2)), (10, .live false 3 (E true x.2.1))]) (fun x => x.1 ≤ a.d.length ∧ x.2.1.length = x.1 ∧ okI b x.2.2.1) (fun x => a.d.length - x.1) (0, [], i4, h4) ⟨rfl, rfl, trivial⟩ ⟨rfl, rfl, trivial⟩ ⟨Nat.zero_le _, rfl, hi4⟩ ?_
     rintro ⟨k, fl, i7, h7⟩ ⟨k1, k2, hi7⟩
     dsimp only at k1 k2 hi7 ⊢
     by_cases hk : k < a.d.length
     ·have d1 := rep_dim hra hk
      have d2 := rep_dim hrb (v := k) (by omega)
      repeat' first | refine s1 ?_ | fail
      refine AW.drawI G.mixed (by kernel_rfl) (by rfl) ?_
      intro T w1 MP1 I0
      refine iP 0 ?_
      refine iP 1 ?_
      refine iP 2 ?_
      refine iL 3 ?_
      refine iP 4 ?_
      refine iL 5 ?_
      refine iP 6 ?_
      refine iP 7 ?_
      refine iL 8 ?_
      refine iP 9 ?_
      refine iL 10 ?_
      refine iP 11 ?_
      refine iP 12 ?_
      refine iL 13 ?_
      refine iO 14 ?_
      first | refine s1 ?_ | (refine F.dr 2 ((hR a.p (a2.d.getD k default) (a.d.getD k default) (by omega) (by omega))) (by assumption) ?_; intro M i6 h6 hM hi6; refine F.xk ?_)
      refine tN ?_
      refine iO 15 ?_
      refine s1 ?_
      refine tN ?_
      refine iO 16 ?_
      first | refine s1 ?_ | refine F.a1 Mat (a := M) ?_
      refine tN ?_
      refine iP 17 ?_
      refine iN ?_
      rotate_left
      all_goals
       repeat' first | refine s1 ?_ | fail
       exact ⟨(k + 1, fl ++ [M], i6, h6), F.fit ⟨rfl, rfl, trivial⟩ ⟨rfl, obE rfl, trivial⟩, ⟨by show k + 1 ≤ a.d.length; omega, by simp; omega, hi6⟩, by show a.d.length - (k + 1) < a.d.length - k; omega⟩
     ·obtain rfl : k = a.d.length := by omega
      repeat' first | refine AW.freezeA (α := Mat) (oo := true) (ls := (cobP a a2 fl).1) 12 rfl rfl rfl ?_ | refine s1 ?_ | (refine kR ?_; first | refine F.c ((hCo fl)) ?_) | fail
      refine AW.drawI G.mixed (by kernel_rfl) (by rfl) ?_
      intro T w1 MP1 I0
      refine iL 0 ?_
      refine iL 1 ?_
      refine iP 2 ?_
      refine iO 3 ?_
      refine s1 ?_
      refine tN ?_
      refine iO 4 ?_
      refine s1 ?_
      refine tN ?_
      refine iP 5 ?_
      refine iN ?_
      rotate_left
      all_goals
       repeat' first | refine s1 ?_ | fail
       exact F.rx (a, a2, (cobP a a2 fl).1) trivial (F.retM rfl trivial)
  ·intro i4 h4 hi4
   repeat' first | refine s1 ?_ | fail
   refine AW.drawI G.mixed (by kernel_rfl) (by rfl) ?_
   intro T w1 MP1 I0
   refine iL 0 ?_
   refine iL 1 ?_
   refine iP 2 ?_
   refine iP 3 ?_
   refine iL 4 ?_
   refine iO 5 ?_
   first | refine s1 ?_ | (refine F.dr 2 ((hA _)) (by assumption) ?_; intro M i6 h6 hM hi6; refine F.xk ?_)
   refine tN ?_
   refine ARI.any [6, 7] (by kernel_rfl) (by simp) ?_
   intro k hk
   simp only [List.mem_cons, List.not_mem_nil, or_false] at hk
   rcases hk with rfl | rfl
   refine ⟨_, rfl, ?_⟩
   refine s1 ?_
   refine tN ?_
   refine iO 7 ?_
   refine s1 ?_
   refine tN ?_
   refine iO 8 ?_
   refine s1 ?_
   refine tN ?_
   refine iP 9 ?_
   refine iN ?_
   rotate_left
   refine ⟨_, rfl, ?_⟩
   refine s1 ?_
   refine tN ?_
   refine ARI.any [6, 8] (by kernel_rfl) (by simp) ?_
   intro k hk
   simp only [List.mem_cons, List.not_mem_nil, or_false] at hk
   rcases hk with rfl | rfl
   refine ⟨_, rfl, ?_⟩
   refine s1 ?_
   refine tN ?_
   refine iO 8 ?_
   refine s1 ?_
   refine tN ?_
   refine iP 9 ?_
   refine iN ?_
   rotate_left
   refine ⟨_, rfl, ?_⟩
   refine s1 ?_
   refine tN ?_
   refine iO 6 ?_
   refine s1 ?_
   refine tN ?_
   refine iP 9 ?_
   refine iN ?_
   rotate_left
   all_goals
    refine ATh.normal ?_
    refine AW.putC (o := 11) (o2 := 10) (k := 0) (j := 2) rfl rfl rfl rfl (E_length _ _) (E_pure _ _) rfl ?_
    refine AW.freezeA (α := Mat) (oo := true) (ls := [M]) 4 rfl rfl rfl ?_
    repeat' first | refine s1 ?_ | fail
    exact F.rx (a, a2, [M]) trivial (F.retM rfl trivial)
theorem drawIsCoboundary_x (b : List UInt8) (hl : b.length ≤ 1048576) : AMx Tryz.prog 18 [ar false b] [] (fun _ : Rep × Rep × List Mat => True) three (fun _ => []) := by
 refine AMx.go Tryz.func18 Tryz.ntmps18 rfl rfl fun w0 mp hw => ?_; simp [WfL, WfA, E_length, Enc.enc, In64] at hw
 have hP := l19Three_x b hl
 repeat' first | refine s1 ?_ | (refine kR ?_; first | (refine F.x [] (hP) ?_; rintro ⟨a, a2, f⟩ hr; refine F.xk ?_)) | fail
 refine AW.freezeP (α := Rep) (oo := false) a 5 rfl rfl ?_
 refine AW.freezeP (α := Rep) (oo := false) a2 6 rfl rfl ?_
 refine AW.drawI G.mixed (by kernel_rfl) (by rfl) ?_
 intro T w1 MP1 I0
 refine iL 0 ?_
 refine iL 1 ?_
 refine iP 2 ?_
 refine iO 3 ?_
 refine s1 ?_
 refine tN ?_
 refine iO 4 ?_
 refine s1 ?_
 refine tN ?_
 refine iP 5 ?_
 refine iN ?_
 rotate_left
 all_goals
  repeat' first | refine s1 ?_ | fail
  exact F.rx (a, a2, f) trivial (F.retM rfl trivial)
theorem drawIsRigid_x (b : List UInt8) (hl : b.length ≤ 1048576) : AMx Tryz.prog 19 [ar false b] [] (fun _ : Rep => True) (fun r => [repA r]) (fun _ => []) := by
 refine AMx.go Tryz.func19 Tryz.ntmps19 rfl rfl fun w0 mp hw => ?_; simp [WfL, WfA, E_length, Enc.enc, In64] at hw
 have hN := l1New_p b hl
 have hA := l8Any_x b hl
 have hi0 : okI b 0 := ⟨Int.le_refl _, by omega⟩
 repeat' first | refine s1 ?_ | (refine kR ?_; first | refine F.p (hN) ?_ | (refine F.dr 1 (hA) (by assumption) ?_; intro r i1 h1 hr hi1; refine F.xk ?_)) | fail
 exact F.rx r trivial (F.retM rfl trivial)
theorem sameL_refl (f : List Mat) : sameL f f = true := by
 simp [sameL, sameM]
theorem sameMaps_a (xs : List (List Mat)) : AC Tryz.prog 8 [ar false xs, ar false xs] [.b true] := by
 refine AC.go Tryz.func8 Tryz.ntmps8 rfl rfl fun w0 hw => ?_; simp [WfL, WfA, E_length, Enc.enc, In64] at hw
 have hE := fun k => specEqualMorphisms_a (xs.getD k default) (xs.getD k default)
 repeat' first | refine s1 ?_ | fail
 refine F.loop (σ := Nat) [4, 5, 11, 12, 13, 14, 15, 16, 17, 18, 19, 20, 21, 22, 23, 24, 25, 26] (fun k => [(5, .i k)]) (fun _ => []) (fun k => k ≤ xs.length) (fun k => xs.length - k) 0 ⟨rfl, trivial⟩ trivial (Nat.zero_le _) ?_
 rintro k k1
 by_cases hk : k < xs.length
 ·have hEk := hE k
  rw [sameL_refl] at hEk
  repeat' first | refine s1 ?_ | fail
  refine AW.draw 10 G.mixed (by kernel_rfl) ?_
  refine dP 0 ?_
  refine dP 1 ?_
  refine dP 2 ?_
  refine dL 3 ?_
  refine dP 4 ?_
  refine dP 5 ?_
  refine dP 6 ?_
  refine dL 7 ?_
  refine dO 8 true ?_
  first | refine s1 ?_ | refine F.c (hEk) ?_
  refine tN ?_
  refine dP 9 ?_
  refine dN ?_
  rotate_left
  all_goals
   repeat' first | refine s1 ?_ | fail
   exact ⟨k + 1, F.fit ⟨rfl, trivial⟩ trivial, by omega, by omega⟩
 ·repeat' first | refine s1 ?_ | fail
  (refine kZ ?_; exact F.ret rfl)
end Go.Proofs.YtoilkinagffhiaaGreat.V
