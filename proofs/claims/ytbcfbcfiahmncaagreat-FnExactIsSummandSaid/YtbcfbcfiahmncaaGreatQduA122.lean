/- Texts that the proof needs: A122. -/
import Derived.Test.YtbcfbcfiahmncaaGreatQduDown
namespace Go.Proofs.YtbcfbcfiahmncaaGreat.V
open Go.RowKit G D
set_option linter.unusedVariables false
set_option linter.unusedSimpArgs false
set_option maxHeartbeats 4000000
set_option maxRecDepth 4000
attribute [local irreducible] AW ARg ARA ARet MRet ASil AC AM ARI
def fstA (a : Rep) : List Rep → Int
 | [] => 0
 | x :: l => if arI a x ≠ 0 then arI a x else fstA a l
theorem fstA_drop {a : Rep} {l : List Rep} {k : Nat} (h : k < l.length) : fstA a (l.drop k) = if arI a (l.getD k default) ≠ 0 then arI a (l.getD k default) else fstA a (l.drop (k + 1)) := by
 have e : l.drop k = l.getD k default :: l.drop (k + 1) := by
  rw [List.drop_eq_getElem_cons h]
  simp [h]
 rw [e]
 rfl
def smdI (a b : Rep) : Int := if fitR a b = true ∧ indI a = 1 then (if b.d.sum = 0 then 0 else if (psP b).2.2 = true then fstA a (psP b).1 else -1) else -1
theorem smdI_no {a b : Rep} (h : ¬(fitR a b = true ∧ indI a = 1)) : smdI a b = -1 := by unfold smdI; rw [if_neg h]
theorem smdI_z {a b : Rep} (h : fitR a b = true ∧ indI a = 1) (h0 : b.d.sum = 0) : smdI a b = 0 := by unfold smdI; rw [if_pos h, if_pos h0]
theorem smdI_u {a b : Rep} (h : fitR a b = true ∧ indI a = 1) (h0 : b.d.sum ≠ 0) (h1 : (psP b).2.2 = false) : smdI a b = -1 := by unfold smdI; rw [if_pos h, if_neg h0, if_neg (by rw [h1]; simp)]
theorem smdI_y {a b : Rep} (h : fitR a b = true ∧ indI a = 1) (h0 : b.d.sum ≠ 0) (h1 : (psP b).2.2 = true) : smdI a b = fstA a (psP b).1 := by unfold smdI; rw [if_pos h, if_neg h0, if_pos h1]
theorem psP_len (r : Rep) : (psP r).1.length ≤ 8 := by
 by_cases h : isRep r = true ∧ r.d.sum ≠ 0
 ·obtain ⟨hr, h0⟩ := h
  cases hk : (ptP r).2.2 with
  | false => rw [psP_no2 hk]; simp
  | true =>
   rw [psP_yes hr h0 hk]
   have hsm := rep_sum hr
   have hle := (pt_ok r.d.sum.toNat r hr (by omega)).le
   rw [show ptN r.d.sum.toNat r = ptP r from rfl] at hle
   show (ptP r).1.length ≤ 8
   omega
 ·rw [psP_no1 h]; simp
theorem implIsSummand_a (a b : Rep) : AC Tryz.prog 25 [.agg (enc false a), .agg (enc false b)] [.i (smdI a b)] := by
 refine AC.go Tryz.func25 Tryz.ntmps25 rfl rfl fun w0 hw => ?_; simp [WfL, WfA, E_length, Enc.enc, In64] at hw
 have hF := fit_a a b
 have hI := implIsIndecomposable_a a
 by_cases h : fitR a b = true ∧ indI a = 1
 ·obtain ⟨h1, h2⟩ := h
  have hb := (fitR_reps h1).2
  obtain ⟨r1, r2, r3, r4⟩ := isRep_spec hb
  obtain ⟨c1, c2, c3, c4⟩ := areDims_spec r2
  have h5 := okQ_spec c1
  have hT := sumOf_a b.d (by omega) (fun j hj => by have : 0 ≤ b.d.getD j default ∧ b.d.getD j default ≤ 4 := allIn_spec c3 hj; omega)
  rw [h1] at hF
  rw [h2] at hI
  by_cases h0 : b.d.sum = 0
  ·rw [h0] at hT
   rw [smdI_z ⟨h1, h2⟩ h0]
   repeat' first | refine s1 ?_ | (refine kR ?_; first | refine F.c (hF) ?_ | refine F.c (hI) ?_ | refine F.c (hT) ?_) | fail
   (refine kZ ?_; exact F.ret rfl)
  ·have hP := implPartsOf_a b
   cases hk : (psP b).2.2 with
   | false =>
    rw [hk] at hP
    rw [smdI_u ⟨h1, h2⟩ h0 hk]
    generalize psP b = X at hP
    obtain ⟨X1, X2, X3⟩ := X
    dsimp only at hP
    generalize b.d.sum = S at hT h0
    repeat' first | refine s1 ?_ | (refine kR ?_; first | refine F.c (hF) ?_ | refine F.c (hI) ?_ | refine F.c (hT) ?_ | refine F.c (hP) ?_) | fail
    (refine kZ ?_; exact F.ret rfl)
   | true =>
    rw [hk] at hP
    rw [smdI_y ⟨h1, h2⟩ h0 hk]
    have hlen := psP_len b
    generalize psP b = X at hP hlen ⊢
    obtain ⟨X1, X2, X3⟩ := X
    dsimp only at hP hlen ⊢
    generalize b.d.sum = S at hT h0
    have hA := fun k => implAreIsomorphic_a a (X1.getD k default)
    have hd := fun k (hk : k < X1.length) => fstA_drop (a := a) hk
    have hd0 : fstA a (X1.drop X1.length) = 0 := by rw [List.drop_length]; rfl
    repeat' first | refine s1 ?_ | (refine kR ?_; first | refine F.c (hF) ?_ | refine F.c (hI) ?_ | refine F.c (hT) ?_ | refine F.c (hP) ?_) | fail
    refine AW.freezeA (α := Rep) 32 rfl rfl rfl ?_
    refine F.loop (σ := Nat) [4, 9, 10, 34, 35, 36, 37, 38, 39, 40, 41, 42, 43, 44] (fun k => [(34, .i k)]) (fun _ => []) (fun k => k ≤ X1.length ∧ fstA a X1 = fstA a (X1.drop k)) (fun k => X1.length - k) 0 ⟨rfl, trivial⟩ trivial ⟨Nat.zero_le _, rfl⟩ ?_
    rintro k ⟨k1, k2⟩
    by_cases hk' : k < X1.length
    ·have hAk := hA k
     rw [hd k hk'] at k2
     generalize hz : arI a (X1.getD k default) = z at hAk k2
     by_cases hz0 : z = 0
     ·subst hz0
      rw [if_neg (by simp)] at k2
      repeat' first | refine s1 ?_ | (refine kR ?_; first | refine F.c (hAk) ?_) | fail
      exact ⟨k + 1, F.fit ⟨rfl, trivial⟩ trivial, ⟨by omega, k2⟩, by omega⟩
     ·rw [if_pos hz0] at k2
      rw [k2]
      repeat' first | refine s1 ?_ | (refine kR ?_; first | refine F.c (hAk) ?_) | fail
      (refine kZ ?_; exact F.ret rfl)
    ·obtain rfl : k = X1.length := by omega
     rw [k2, hd0]
     repeat' first | refine s1 ?_ | fail
     (refine kZ ?_; exact F.ret rfl)
 ·rw [smdI_no h]
  cases h1 : fitR a b with
  | false =>
   rw [h1] at hF
   repeat' first | refine s1 ?_ | (refine kR ?_; first | refine F.c (hF) ?_) | fail
   (refine kZ ?_; exact F.ret rfl)
  | true =>
   have h2 : indI a ≠ 1 := fun e => h ⟨h1, e⟩
   rw [h1] at hF
   generalize indI a = z at hI h2
   repeat' first | refine s1 ?_ | (refine kR ?_; first | refine F.c (hF) ?_ | refine F.c (hI) ?_) | fail
   (refine kZ ?_; exact F.ret rfl)
theorem specIsSummand_a (a b : Rep) : AC Tryz.prog 24 [.agg (enc false a), .agg (enc false b)] [.i (smdI a b)] := by
 refine AC.go Tryz.func24 Tryz.ntmps24 rfl rfl fun w0 hw => ?_; simp [WfL, WfA, E_length, Enc.enc, In64] at hw
 have hF := l9Fit_a a b
 have hI := specIsIndecomposable_a a
 by_cases h : fitR a b = true ∧ indI a = 1
 ·obtain ⟨h1, h2⟩ := h
  have hb := (fitR_reps h1).2
  have hT := totalOf_a b hb
  have hP := specPartsOf_m b
  rw [h1] at hF
  rw [h2] at hI
  by_cases h0 : b.d.sum = 0
  ·rw [h0] at hT
   rw [smdI_z ⟨h1, h2⟩ h0]
   generalize psP b = X at hP
   obtain ⟨X1, X2, X3⟩ := X
   dsimp only at hP
   repeat' first | refine AW.freezeP (α := Rep) (oo := false) b 3 rfl rfl ?_ | refine s1 ?_ | (refine kR ?_; first | refine F.c (hF) ?_ | refine F.c (hI) ?_ | refine F.c (hT) ?_ | (refine jCf 17 ?_; refine F.w (hP) ?_)) | fail
   (refine kZ ?_; exact F.ret rfl)
  ·cases hk : (psP b).2.2 with
   | false =>
    rw [hk] at hP
    rw [smdI_u ⟨h1, h2⟩ h0 hk]
    generalize psP b = X at hP
    obtain ⟨X1, X2, X3⟩ := X
    dsimp only at hP
    generalize b.d.sum = S at hT h0
    repeat' first | refine AW.freezeP (α := Rep) (oo := false) b 3 rfl rfl ?_ | refine s1 ?_ | (refine kR ?_; first | refine F.c (hF) ?_ | refine F.c (hI) ?_ | refine F.c (hT) ?_ | (refine jCf 17 ?_; refine F.w (hP) ?_)) | fail
    (refine kZ ?_; exact F.ret rfl)
   | true =>
    rw [hk] at hP
    rw [smdI_y ⟨h1, h2⟩ h0 hk]
    have hlen := psP_len b
    generalize psP b = X at hP hlen ⊢
    obtain ⟨X1, X2, X3⟩ := X
    dsimp only at hP hlen ⊢
    generalize b.d.sum = S at hT h0
    have hA := fun k => specAreIsomorphic_a a (X1.getD k default)
    have hd := fun k (hk : k < X1.length) => fstA_drop (a := a) hk
    have hd0 : fstA a (X1.drop X1.length) = 0 := by rw [List.drop_length]; rfl
    repeat' first | refine AW.freezeP (α := Rep) (oo := false) b 3 rfl rfl ?_ | refine s1 ?_ | (refine kR ?_; first | refine F.c (hF) ?_ | refine F.c (hI) ?_ | refine F.c (hT) ?_ | (refine jCf 17 ?_; refine F.w (hP) ?_)) | fail
    refine AW.freezeP (α := Rep) (oo := false) a 2 rfl rfl ?_
    refine AW.freezeA (α := Rep) 5 rfl rfl rfl ?_
    refine F.loop (σ := Nat) [4, 8, 9, 30, 31, 32, 33, 34, 35, 36, 37, 38, 39, 40, 41, 42, 43, 44] (fun k => [(8, .i k)]) (fun _ => []) (fun k => k ≤ X1.length ∧ fstA a X1 = fstA a (X1.drop k)) (fun k => X1.length - k) 0 ⟨rfl, trivial⟩ trivial ⟨Nat.zero_le _, rfl⟩ ?_
    rintro k ⟨k1, k2⟩
    by_cases hk' : k < X1.length
    ·have hAk := hA k
     rw [hd k hk'] at k2
     generalize hz : arI a (X1.getD k default) = z at hAk k2
     by_cases hz0 : z = 0
     ·subst hz0
      rw [if_neg (by simp)] at k2
      repeat' first | refine s1 ?_ | fail
      refine AW.draw 7 G.mixed (by kernel_rfl) ?_
      refine dL 0 ?_
      refine dP 1 ?_
      refine dP 2 ?_
      refine dP 3 ?_
      refine dL 4 ?_
      refine dO 5 true ?_
      first | refine s1 ?_ | refine F.c (hAk) ?_
      refine tN ?_
      refine dP 6 ?_
      refine dN ?_
      rotate_left
      all_goals
       repeat' first | refine s1 ?_ | fail
       exact ⟨k + 1, F.fit ⟨rfl, trivial⟩ trivial, ⟨by omega, k2⟩, by omega⟩
     ·rw [if_pos hz0] at k2
      rw [k2]
      repeat' first | refine s1 ?_ | fail
      refine AW.draw 7 G.mixed (by kernel_rfl) ?_
      refine dL 0 ?_
      refine dP 1 ?_
      refine dP 2 ?_
      refine dP 3 ?_
      refine dL 4 ?_
      refine dO 5 true ?_
      first | refine s1 ?_ | refine F.c (hAk) ?_
      refine tN ?_
      refine dP 6 ?_
      refine dN ?_
      rotate_left
      all_goals
       repeat' first | refine s1 ?_ | fail
       (refine kZ ?_; exact F.ret rfl)
    ·obtain rfl : k = X1.length := by omega
     rw [k2, hd0]
     repeat' first | refine s1 ?_ | fail
     (refine kZ ?_; exact F.ret rfl)
 ·rw [smdI_no h]
  cases h1 : fitR a b with
  | false =>
   rw [h1] at hF
   repeat' first | refine s1 ?_ | (refine kR ?_; first | refine F.c (hF) ?_) | fail
   (refine kZ ?_; exact F.ret rfl)
  | true =>
   have h2 : indI a ≠ 1 := fun e => h ⟨h1, e⟩
   rw [h1] at hF
   generalize indI a = z at hI h2
   repeat' first | refine s1 ?_ | (refine kR ?_; first | refine F.c (hF) ?_ | refine F.c (hI) ?_) | fail
   (refine kZ ?_; exact F.ret rfl)
end Go.Proofs.YtbcfbcfiahmncaaGreat.V
