/- Texts that the proof needs: A184. -/
import Derived.Test.YtoilkinagffhiaaGreatQfeA183
namespace Go.Proofs.YtoilkinagffhiaaGreat.V
open Go.RowKit G D
set_option linter.unusedVariables false
set_option linter.unusedSimpArgs false
set_option maxHeartbeats 4000000
set_option maxRecDepth 4000
attribute [local irreducible] AW ARg ARA ARet MRet ASil AC AM AMx ACx AD ARI
theorem sumP_fit {x y : Rep} (h : (sumP x y).2 = true) : fitR x y = true := by
 unfold sumP at h
 split at h
 ·rename_i h1; exact h1.1
 ·cases h
theorem rep_dim {r : Rep} (h : isRep r = true) {v : Nat} (hv : v < r.d.length) : 0 ≤ r.d.getD v default ∧ r.d.getD v default ≤ 4 := by
 obtain ⟨_, r2, _, _⟩ := isRep_spec h
 exact allIn_spec (areDims_spec r2).2.2.1 hv
theorem l10Three_x (b : List UInt8) (hl : b.length ≤ 1048576) : AD Tryz.prog 79 [] b (fun _ : Rep × Rep × List Mat => True) (fun x => [.agg (enc false x.1), .agg (enc false x.2.1), .dt false 3 (E false x.2.2)]) := by
 refine AD.go Tryz.func79 Tryz.ntmps79 rfl rfl fun i h hi w0 mp hw => ?_; simp [WfL, WfA, E_length, Enc.enc, In64] at hw
 have hP := l9Pair_x b hl
 have hB := fun n => l1Below_x b hl n
 have hC := fun r hrd => l9Changes_x b hl r hrd
 have hX := fun r g => changeBasis_x r g
 have hR := fun p a c ha hc => l3Random_x b hl p a c ha hc
 repeat' first | (refine AW.putV 5 4 rfl rfl rfl rfl (E_length _ _) (E_pure _ _) rfl ?_; refine AW.putV 5 5 rfl rfl rfl rfl (E_length _ _) (E_pure _ _) rfl ?_; refine AW.freezeV (enc false a) 5 rfl rfl (repA_pure a) (repA_frz a) ?_; refine AW.putV 6 4 rfl rfl rfl rfl (E_length _ _) (E_pure _ _) rfl ?_; refine AW.putV 6 5 rfl rfl rfl rfl (E_length _ _) (E_pure _ _) rfl ?_; refine AW.freezeV (enc false a2) 6 rfl rfl (repA_pure a2) (repA_frz a2) ?_; refine AW.only [(0, .pt 0 1 0 0), (2, .pt 1 1 0 0), (3, .pt 2 1 0 0), (5, .ip (enc false a)), (6, .ip (enc false a2)), (26, .i y)] [(0, .live false 3 (curO b i2 h2)), (1, .live false 6 [[.i 0, .i 0, .nl, .nl, .nl, .nl]]), (2, .live false 6 [[.i 0, .i 0, .nl, .nl, .nl, .nl]])] 9 ⟨rfl, rfl, rfl, rfl, rfl, rfl, trivial⟩ ⟨rfl, rfl, rfl, trivial⟩ rfl ?_; refine F.cut (σ := Int × Int) [4, 7, 8, 9, 10, 11, 12, 13, 14, 15, 16, 17, 27, 28, 29, 30, 31, 32, 33, 34, 35, 36, 37, 38, 39, 40, 41, 42, 43, 44, 45, 46, 47, 48, 49, 50, 51, 52, 53, 54, 55, 56, 57, 58, 59, 60, 61, 62, 63, 64, 65, 66, 67, 68, 69, 70, 71, 72, 73, 74, 75, 76, 77, 78, 79, 80, 81, 82, 83, 84, 85, 86, 87, 88, 89, 90, 91, 92, 93, 94, 95, 96, 97, 98, 99, 100, 101, 102, 103, 104, 105, 106, 107, 108, 109, 110, 111, 112, 113] (fun _ => []) (fun s => [(0, .live false 3 (curO b s.1 s.2))]) (fun s => okI b s.1) ?_ (fun s hs => ?_)) | refine s1 ?_ | (refine kR ?_; first | (refine F.dr 0 (hP) (by assumption) ?_; intro ⟨a, a2⟩ i1 h1 hr hi1; (dsimp only at hr; obtain ⟨hal, hab⟩ := hr); refine F.xk ?_) | (refine F.dr 0 ((hB _)) (by assumption) ?_; intro y i2 h2 hy hi2; replace hy := hy.1 (by omega); refine F.xk ?_)) | fail
 ·by_cases h0 : y = 0
  ·repeat' first | refine AW.freezeA (α := Mat) (oo := true) 7 rfl rfl rfl ?_ | refine s1 ?_ | (refine kR ?_; first | (refine F.dr 0 ((hC a (by omega))) (by assumption) ?_; intro g i3 h3 hg hi3; refine F.xk ?_) | (refine F.x [] ((hX a g)) ?_; rintro ⟨x, c⟩ hx; refine F.xk ?_)) | fail
   refine AW.putV 8 2 rfl rfl rfl rfl (E_length _ _) (E_pure _ _) rfl ?_; refine AW.putV 8 3 rfl rfl rfl rfl (E_length _ _) (E_pure _ _) rfl ?_; refine AW.putV 8 4 rfl rfl rfl rfl (E_length _ _) (E_pure _ _) rfl ?_; refine AW.putV 8 5 rfl rfl rfl rfl (E_length _ _) (E_pure _ _) rfl ?_
   refine AW.freezeP (α := Rep) (oo := true) x 8 rfl rfl ?_
   cases c with
   | true =>
    repeat' first | refine s1 ?_ | fail
    refine AW.drawI G.mixed (by kernel_rfl) (by rfl) ?_
    intro T w1 MP1 I0
    refine iL 0 ?_
    refine iL 1 ?_
    refine iP 2 ?_
    refine iO 3 ?_
    refine s1 ?_
    refine tN ?_
    refine iO 4 ?_
    refine s1 ?_
    refine tN ?_
    refine iP 5 ?_
    refine iN ?_
    rotate_left
    all_goals
     repeat' first | refine s1 ?_ | fail
     exact F.rd (a, x, g) trivial hi3 (F.retM rfl ⟨rfl, trivial⟩)
   | false =>
    repeat' first | refine s1 ?_ | fail
    exact ⟨(i3, h3), F.fit trivial ⟨rfl, trivial⟩, hi3⟩
  ·by_cases h1' : y = 1
   ·have hS := specDirectSum_a a a2
    have hsf := @sumP_fit a a2
    generalize sumP a a2 = S at hS hsf
    obtain ⟨s, c⟩ := S
    dsimp only at hS hsf
    repeat' first | refine s1 ?_ | (refine kR ?_; first | refine F.c (hS) ?_) | fail
    refine AW.putV 10 2 rfl rfl rfl rfl (E_length _ _) (E_pure _ _) rfl ?_; refine AW.putV 10 3 rfl rfl rfl rfl (E_length _ _) (E_pure _ _) rfl ?_; refine AW.putV 10 4 rfl rfl rfl rfl (E_length _ _) (E_pure _ _) rfl ?_; refine AW.putV 10 5 rfl rfl rfl rfl (E_length _ _) (E_pure _ _) rfl ?_
    refine AW.freezeP (α := Rep) (oo := true) s 10 rfl rfl ?_
    cases c with
    | false =>
     repeat' first | refine s1 ?_ | fail
     exact ⟨(i2, h2), F.fit trivial ⟨rfl, trivial⟩, hi2⟩
    | true =>
     have hf := hsf rfl
     have hra := (fitR_reps hf).1
     have hrb := (fitR_reps hf).2
     have hq := (fitR_spec hf).2.2.2
     have hdl : a2.d.length = a.d.length := by
      have h1 := (areDims_spec (isRep_spec hra).2.1).2.1
      have h2 := (areDims_spec (isRep_spec hrb).2.1).2.1
      rw [hq] at h1
      omega
     repeat' first | refine s1 ?_ | fail
     refine AW.open 12 3 (.inr rfl) ?_
     refine F.loop (σ := Nat × List Mat) [12, 13, 52, 53, 54, 55, 56, 57, 58, 59, 60, 61, 62, 63, 64, 65, 66, 67, 68, 69, 70, 71, 72, 73, 74] (fun x => [(12, .sl 14 x.1 0 x.1), (13, .i x.1)]) (fun x => [(14, .live false 3 (E true x.2))]) (fun x => x.1 ≤ a.d.length ∧ x.2.length = x.1) (fun x => a.d.length - x.1) (0, []) ⟨rfl, rfl, trivial⟩ ⟨rfl, trivial⟩ ⟨Nat.zero_le _, rfl⟩ ?_
     rintro ⟨k, fl⟩ ⟨k1, k2⟩
     dsimp only at k1 k2 ⊢
     by_cases hk : k < a.d.length
     ·have d1 := rep_dim hra hk
      have d2 := rep_dim hrb (v := k) (by omega)
      obtain ⟨n, hn⟩ : ∃ n : Nat, a.d.getD k default = n := ⟨(a.d.getD k default).toNat, by omega⟩
      obtain ⟨m, hm⟩ : ∃ m : Nat, a2.d.getD k default = m := ⟨(a2.d.getD k default).toNat, by omega⟩
      have hI := l3Identity_a n (by omega)
      have hZ := l3ZeroT_a m 0 (by omega) (by omega)
      have hK := l3Block_a n n m 0 idF (fun _ _ => 0) (by omega) (by omega)
      rw [← hn] at hI
      rw [← hm] at hZ
      repeat' first | refine s1 ?_ | fail
      refine AW.drawI G.mixed (by kernel_rfl) (by rfl) ?_
      intro T w1 MP1 I0
      refine iP 0 ?_
      refine iP 1 ?_
      refine iL 2 ?_
      refine iP 3 ?_
      refine iP 4 ?_
      refine iL 5 ?_
      refine iP 7 ?_
      refine iL 8 ?_
      refine iP 9 ?_
      refine iP 10 ?_
      refine iL 11 ?_
      refine iO 6 ?_
      first | refine s1 ?_ | refine F.c (hI) ?_
      refine tN ?_
      refine iO 12 ?_
      first | refine s1 ?_ | refine F.c (hZ) ?_
      refine tN ?_
      refine iO 13 ?_
      first | refine s1 ?_ | refine F.c (hK) ?_
      refine tN ?_
      refine iO 14 ?_
      refine s1 ?_
      refine tN ?_
      refine iO 15 ?_
      first | refine s1 ?_ | refine F.a1 Mat ?_
      refine tN ?_
      refine iP 16 ?_
      refine iN ?_
      rotate_left
      all_goals
       repeat' first | refine s1 ?_ | fail
       exact ⟨(k + 1, fl ++ [_]), F.fit ⟨rfl, rfl, trivial⟩ ⟨obE rfl, trivial⟩, ⟨by show k + 1 ≤ a.d.length; omega, by simp; omega⟩, by show a.d.length - (k + 1) < a.d.length - k; omega⟩
     ·obtain rfl : k = a.d.length := by omega
      repeat' first | refine s1 ?_ | fail
      refine AW.freezeA (α := Mat) (oo := true) (ls := fl) 12 rfl rfl k2 ?_
      refine AW.drawI G.mixed (by kernel_rfl) (by rfl) ?_
      intro T w1 MP1 I0
      refine iL 0 ?_
      refine iL 1 ?_
      refine iP 2 ?_
      refine iO 3 ?_
      refine s1 ?_
      refine tN ?_
      refine iO 4 ?_
      refine s1 ?_
      refine tN ?_
      refine iP 5 ?_
      refine iN ?_
      rotate_left
      all_goals
       repeat' first | refine s1 ?_ | fail
       exact F.rd (a, s, fl) trivial hi2 (F.retM rfl ⟨rfl, trivial⟩)
   ·by_cases h2' : y = 2
    ·have hS := specDirectSum_a a a2
     have hsf := @sumP_fit a a2
     generalize sumP a a2 = S at hS hsf
     obtain ⟨s, c⟩ := S
     dsimp only at hS hsf
     repeat' first | refine s1 ?_ | (refine kR ?_; first | refine F.c (hS) ?_) | fail
     refine AW.putV 14 2 rfl rfl rfl rfl (E_length _ _) (E_pure _ _) rfl ?_; refine AW.putV 14 3 rfl rfl rfl rfl (E_length _ _) (E_pure _ _) rfl ?_; refine AW.putV 14 4 rfl rfl rfl rfl (E_length _ _) (E_pure _ _) rfl ?_; refine AW.putV 14 5 rfl rfl rfl rfl (E_length _ _) (E_pure _ _) rfl ?_
     refine AW.freezeP (α := Rep) (oo := true) s 14 rfl rfl ?_
     cases c with
     | false =>
      repeat' first | refine s1 ?_ | fail
      exact ⟨(i2, h2), F.fit trivial ⟨rfl, trivial⟩, hi2⟩
     | true =>
      have hf := hsf rfl
      have hra := (fitR_reps hf).1
      have hrb := (fitR_reps hf).2
      have hq := (fitR_spec hf).2.2.2
      have hdl : a2.d.length = a.d.length := by
       have h1 := (areDims_spec (isRep_spec hra).2.1).2.1
       have h2 := (areDims_spec (isRep_spec hrb).2.1).2.1
       rw [hq] at h1
       omega
      repeat' first | refine s1 ?_ | fail
      refine AW.open 16 3 (.inr rfl) ?_
      refine F.loop (σ := Nat × List Mat) [16, 17, 88, 89, 90, 91, 92, 93, 94, 95, 96, 97, 98, 99, 100, 101, 102, 103, 104, 105, 106, 107, 108, 109, 110] (fun x => [(16, .sl 14 x.1 0 x.1), (17, .i x.1)]) (fun x => [(14, .live false 3 (E true x.2))]) (fun x => x.1 ≤ a.d.length ∧ x.2.length = x.1) (fun x => a.d.length - x.1) (0, []) ⟨rfl, rfl, trivial⟩ ⟨rfl, trivial⟩ ⟨Nat.zero_le _, rfl⟩ ?_
      rintro ⟨k, fl⟩ ⟨k1, k2⟩
      dsimp only at k1 k2 ⊢
      by_cases hk : k < a.d.length
      ·have d1 := rep_dim hra hk
       have d2 := rep_dim hrb (v := k) (by omega)
       obtain ⟨n, hn⟩ : ∃ n : Nat, a.d.getD k default = n := ⟨(a.d.getD k default).toNat, by omega⟩
       obtain ⟨m, hm⟩ : ∃ m : Nat, a2.d.getD k default = m := ⟨(a2.d.getD k default).toNat, by omega⟩
       have hI := l3Identity_a n (by omega)
       have hZ := l3ZeroT_a 0 m (by omega) (by omega)
       have hK := l3Block_a n n 0 m idF (fun _ _ => 0) (by omega) (by omega)
       rw [← hn] at hI
       rw [← hm] at hZ
       repeat' first | refine s1 ?_ | fail
       refine AW.drawI G.mixed (by kernel_rfl) (by rfl) ?_
       intro T w1 MP1 I0
       refine iP 0 ?_
       refine iP 1 ?_
       refine iL 2 ?_
       refine iP 3 ?_
       refine iP 4 ?_
       refine iL 5 ?_
       refine iP 7 ?_
       refine iL 8 ?_
       refine iP 9 ?_
       refine iP 10 ?_
       refine iL 11 ?_
       refine iO 6 ?_
       first | refine s1 ?_ | refine F.c (hI) ?_
       refine tN ?_
       refine iO 12 ?_
       first | refine s1 ?_ | refine F.c (hZ) ?_
       refine tN ?_
       refine iO 13 ?_
       first | refine s1 ?_ | refine F.c (hK) ?_
       refine tN ?_
       refine iO 14 ?_
       refine s1 ?_
       refine tN ?_
       refine iO 15 ?_
       first | refine s1 ?_ | refine F.a1 Mat ?_
       refine tN ?_
       refine iP 16 ?_
       refine iN ?_
       rotate_left
       all_goals
        repeat' first | refine s1 ?_ | fail
        exact ⟨(k + 1, fl ++ [_]), F.fit ⟨rfl, rfl, trivial⟩ ⟨obE rfl, trivial⟩, ⟨by show k + 1 ≤ a.d.length; omega, by simp; omega⟩, by show a.d.length - (k + 1) < a.d.length - k; omega⟩
      ·obtain rfl : k = a.d.length := by omega
       repeat' first | refine s1 ?_ | fail
       refine AW.freezeA (α := Mat) (oo := true) (ls := fl) 16 rfl rfl k2 ?_
       refine AW.drawI G.mixed (by kernel_rfl) (by rfl) ?_
       intro T w1 MP1 I0
       refine iL 0 ?_
       refine iL 1 ?_
       refine iP 2 ?_
       refine iO 3 ?_
       refine s1 ?_
       refine tN ?_
       refine iO 4 ?_
       refine s1 ?_
       refine tN ?_
       refine iP 5 ?_
       refine iN ?_
       rotate_left
       all_goals
        repeat' first | refine s1 ?_ | fail
        exact F.rd (s, a, fl) trivial hi2 (F.retM rfl ⟨rfl, trivial⟩)
    ·repeat' first | refine s1 ?_ | fail
     exact ⟨(i2, h2), F.fit trivial ⟨rfl, trivial⟩, hi2⟩
 ·obtain ⟨i3, h3⟩ := s
  dsimp only at hs ⊢
  repeat' first | refine s1 ?_ | fail
  refine AW.open 18 3 (.inr rfl) ?_
  refine F.loop (σ := Nat × List Mat × Int × Int) [18, 19, 115, 116, 117, 118, 119, 120, 121, 122, 123, 124, 125, 126, 127, 128, 129, 130, 131, 132, 133, 134, 135, 136, 137, 138, 139, 140, 141, 142, 143, 144, 145, 146, 147] (fun x => [(18, .sl 9 x.1 0 x.1), (19, .i x.1)]) (fun x => [(0, .live false 3 (curO b x.2.2.1 x.2.2.2)), (9, .live false 3 (E true x.2.1))]) (fun x => x.1 ≤ a.d.length ∧ x.2.1.length = x.1 ∧ okI b x.2.2.1) (fun x => a.d.length - x.1) (0, [], i3, h3) ⟨rfl, rfl, trivial⟩ ⟨rfl, rfl, trivial⟩ ⟨Nat.zero_le _, rfl, hs⟩ ?_
  rintro ⟨k, fl, i4, h4⟩ ⟨k1, k2, hi4⟩
  dsimp only at k1 k2 hi4 ⊢
  by_cases hk : k < a.d.length
  ·by_cases hk2 : k < a2.d.length
   ·have d1 := hab k hk
    repeat' first | refine s1 ?_ | fail
    refine AW.drawI G.mixed (by kernel_rfl) (by rfl) ?_
    intro T w1 MP1 I0
    first | refine iP 0 ?_ | refine iP 0 ?_ (hs := by exact (A.min2 rfl rfl)) | refine iP 0 ?_ (hs := by exact (A.max2 rfl rfl))
    first | refine iP 1 ?_ | refine iP 1 ?_ (hs := by exact (A.min2 rfl rfl)) | refine iP 1 ?_ (hs := by exact (A.max2 rfl rfl))
    first | refine iP 2 ?_ | refine iP 2 ?_ (hs := by exact (A.min2 rfl rfl)) | refine iP 2 ?_ (hs := by exact (A.max2 rfl rfl))
    refine iL 3 ?_
    first | refine iP 4 ?_ | refine iP 4 ?_ (hs := by exact (A.min2 rfl rfl)) | refine iP 4 ?_ (hs := by exact (A.max2 rfl rfl))
    refine iL 5 ?_
    first | refine iP 6 ?_ | refine iP 6 ?_ (hs := by exact (A.min2 rfl rfl)) | refine iP 6 ?_ (hs := by exact (A.max2 rfl rfl))
    first | refine iP 7 ?_ | refine iP 7 ?_ (hs := by exact (A.min2 rfl rfl)) | refine iP 7 ?_ (hs := by exact (A.max2 rfl rfl))
    refine iL 8 ?_
    first | refine iP 9 ?_ | refine iP 9 ?_ (hs := by exact (A.min2 rfl rfl)) | refine iP 9 ?_ (hs := by exact (A.max2 rfl rfl))
    first | refine iP 10 ?_ | refine iP 10 ?_ (hs := by exact (A.min2 rfl rfl)) | refine iP 10 ?_ (hs := by exact (A.max2 rfl rfl))
    first | refine iP 11 ?_ | refine iP 11 ?_ (hs := by exact (A.min2 rfl rfl)) | refine iP 11 ?_ (hs := by exact (A.max2 rfl rfl))
    refine iL 12 ?_
    first | refine iP 13 ?_ | refine iP 13 ?_ (hs := by exact (A.min2 rfl rfl)) | refine iP 13 ?_ (hs := by exact (A.max2 rfl rfl))
    first | refine iP 14 ?_ | refine iP 14 ?_ (hs := by exact (A.min2 rfl rfl)) | refine iP 14 ?_ (hs := by exact (A.max2 rfl rfl))
    refine iL 15 ?_
    refine iO 16 ?_
    first | refine s1 ?_ | (refine F.dr 0 ((hR a.p (max 0 (min 4 (a2.d.getD k default))) (a.d.getD k default) (by omega) (by omega))) (by assumption) ?_; intro M i6 h6 hM hi6; refine F.xk ?_)
    refine tN ?_
    refine iO 17 ?_
    refine s1 ?_
    refine tN ?_
    refine iO 18 ?_
    first | refine s1 ?_ | refine F.a1 Mat (a := M) ?_
    refine tN ?_
    first | refine iP 19 ?_ | refine iP 19 ?_ (hs := by exact (A.min2 rfl rfl)) | refine iP 19 ?_ (hs := by exact (A.max2 rfl rfl))
    refine iN ?_
    rotate_left
    all_goals
     repeat' first | refine s1 ?_ | fail
     exact ⟨(k + 1, fl ++ [M], i6, h6), F.fit ⟨rfl, rfl, trivial⟩ ⟨rfl, obE rfl, trivial⟩, ⟨by show k + 1 ≤ a.d.length; omega, by simp; omega, hi6⟩, by show a.d.length - (k + 1) < a.d.length - k; omega⟩
   ·repeat' first | refine s1 ?_ | fail
    refine AW.freezeA (α := Mat) (oo := true) (ls := fl) 18 rfl rfl k2 ?_
    refine AW.drawI G.mixed (by kernel_rfl) (by rfl) ?_
    intro T w1 MP1 I0
    refine iL 0 ?_
    refine iL 1 ?_
    refine iP 2 ?_
    refine iO 3 ?_
    refine s1 ?_
    refine tN ?_
    refine iO 4 ?_
    refine s1 ?_
    refine tN ?_
    refine iP 5 ?_
    refine iN ?_
    rotate_left
    all_goals
     repeat' first | refine s1 ?_ | fail
     exact F.rd (a, a2, fl) trivial hi4 (F.retM rfl ⟨rfl, trivial⟩)
  ·repeat' first | refine s1 ?_ | fail
   refine AW.freezeA (α := Mat) (oo := true) (ls := fl) 18 rfl rfl k2 ?_
   refine AW.drawI G.mixed (by kernel_rfl) (by rfl) ?_
   intro T w1 MP1 I0
   refine iL 0 ?_
   refine iL 1 ?_
   refine iP 2 ?_
   refine iO 3 ?_
   refine s1 ?_
   refine tN ?_
   refine iO 4 ?_
   refine s1 ?_
   refine tN ?_
   refine iP 5 ?_
   refine iN ?_
   rotate_left
   all_goals
    repeat' first | refine s1 ?_ | fail
    exact F.rd (a, a2, fl) trivial hi4 (F.retM rfl ⟨rfl, trivial⟩)
end Go.Proofs.YtoilkinagffhiaaGreat.V
