/- Contracts: how many morphisms and isomorphisms there are. -/
import Derived.Test.YtanembgijdkagaaGreatQzA101
namespace Go.Proofs.YtanembgijdkagaaGreat.V
open V.Enc (enc)
open Go.RowKit G D
set_option linter.unusedVariables false
set_option linter.unusedSimpArgs false
set_option maxHeartbeats 4000000
set_option maxRecDepth 4000
attribute [local irreducible] AW ARg ARA ARet MRet ASil AC AM ARI
theorem homD_len (a b : Rep) (hf : fitR a b = true) : homD a b = ((hkL a b).length : Nat) ∧ (hkL a b).length ≤ 80 := by
  have hle := rkE_le a b hf
  have hlen := hkL_len a b hf
  unfold homD
  rw [if_pos hf]
  omega
theorem implCountMorphisms_a (a b : Rep) : AC Tryz.prog 46 [.agg (enc false a), .agg (enc false b)] [.i (cntM a b)] := by
  refine AC.go Tryz.func46 Tryz.ntmps46 rfl rfl fun w0 hw => ?_; simp [WfL, WfA, E_length, Enc.enc, In64] at hw
  have hF := fit_a a b
  unfold cntM
  cases hf : fitR a b with
  | false =>
    rw [hf] at hF
    rw [if_neg (by simp)]
    repeat' first | refine s1 ?_ | (refine kR ?_; first | refine F.c (hF) ?_) | fail
    (refine kZ ?_; exact F.ret rfl)
  | true =>
    rw [hf] at hF
    rw [if_pos rfl]
    have h := Fits.of hf
    have hp := isF_pos h.f
    have hD := homDim_a a b hf
    have hl := homD_len a b hf
    unfold homD at hl
    rw [if_pos hf] at hl
    rw [hl.1] at hD
    have hC := countHoms_a a.p (hkL a b).length hp (by omega)
    have hb := cntH_bd hp (hkL a b).length
    generalize (hkL a b).length = n at *
    generalize cntH a.p n = X at *
    by_cases hx : X ≤ 100000
    · rw [if_pos hx]
      repeat' first | refine s1 ?_ | (refine kR ?_; first | refine F.c (hF) ?_) | fail
      refine AW.draw 7 G.mixed (by kernel_rfl) ?_
      refine dP 0 ?_
      refine dL 1 ?_
      refine dL 2 ?_
      refine dL 3 ?_
      refine dO 4 true ?_
      first | refine s1 ?_ | refine F.c (hD) ?_ | refine F.c (hC) ?_
      refine ARg.nil (ATh.normal ?_)
      refine dO 5 true ?_
      first | refine s1 ?_ | refine F.c (hD) ?_ | refine F.c (hC) ?_
      refine ARg.nil (ATh.normal ?_)
      refine dP 6 ?_
      refine dN ?_
      rotate_left
      all_goals
        repeat' first | refine s1 ?_ | fail
        (refine kZ ?_; exact F.ret rfl)
    · rw [if_neg hx]
      repeat' first | refine s1 ?_ | (refine kR ?_; first | refine F.c (hF) ?_) | fail
      refine AW.draw 7 G.mixed (by kernel_rfl) ?_
      refine dP 0 ?_
      refine dL 1 ?_
      refine dL 2 ?_
      refine dL 3 ?_
      refine dO 4 true ?_
      first | refine s1 ?_ | refine F.c (hD) ?_ | refine F.c (hC) ?_
      refine ARg.nil (ATh.normal ?_)
      refine dO 5 true ?_
      first | refine s1 ?_ | refine F.c (hD) ?_ | refine F.c (hC) ?_
      refine ARg.nil (ATh.normal ?_)
      refine dP 6 ?_
      refine dN ?_
      rotate_left
      all_goals
        repeat' first | refine s1 ?_ | fail
        (refine kZ ?_; exact F.ret rfl)
theorem specCountMorphisms_a (a b : Rep) : AC Tryz.prog 40 [.agg (enc false a), .agg (enc false b)] [.i (cntM a b)] := by
  refine AC.go Tryz.func40 Tryz.ntmps40 rfl rfl fun w0 hw => ?_; simp [WfL, WfA, E_length, Enc.enc, In64] at hw
  have hD := specHomDim_a a b
  unfold cntM
  cases hf : fitR a b with
  | false =>
    rw [if_neg (by simp)]
    unfold homD at hD
    rw [if_neg (by simp [hf])] at hD
    repeat' first | refine s1 ?_ | (refine kR ?_; first | refine F.c (hD) ?_) | fail
    (refine kZ ?_; exact F.ret rfl)
  | true =>
    rw [if_pos rfl]
    have h := Fits.of hf
    have hp := isF_pos h.f
    have hl := homD_len a b hf
    rw [hl.1] at hD
    have hb := cntH_bd hp
    generalize (hkL a b).length = n at *
    repeat' first | refine s1 ?_ | (refine kR ?_; first | refine F.c (hD) ?_) | fail
    refine F.loop (σ := Nat) [4, 6, 7, 13, 14, 15, 16, 17, 18, 19, 20, 21, 22, 23] (fun k => [(6, .i (cntH a.p k)), (7, .i k)]) (fun _ => []) (fun k => k ≤ n ∧ cntH a.p k ≤ 100000) (fun k => n - k) 0 ⟨rfl, rfl, trivial⟩ trivial ⟨Nat.zero_le _, by simp [cntH]⟩ ?_
    rintro k ⟨k1, k2⟩
    have hbk := hb k
    by_cases hk : k < n
    · have hst := cntH_step k2
      have hsy := fun h => cntH_stay (p := a.p) (n := k + 1) h (n - (k + 1))
      rw [show k + 1 + (n - (k + 1)) = n by omega, hst] at hsy
      generalize cntH a.p k = X at *
      have m1 : 0 ≤ X * a.p := Int.mul_nonneg (by omega) (by omega)
      have m2 : X * a.p ≤ 100000 * 5 := Int.mul_le_mul k2 hp.2 (by omega) (by omega)
      have hi : In64 (X * a.p) := by unfold In64; omega
      by_cases hx : X * a.p ≤ 100000
      · repeat' first | refine s1 ?_ | fail
        exact ⟨k + 1, F.fit ⟨iE hst.symm, rfl, trivial⟩ trivial, ⟨by omega, by omega⟩, by omega⟩
      · rw [hsy (by omega), if_neg hx]
        repeat' first | refine s1 ?_ | fail
        (refine kZ ?_; exact F.ret rfl)
    · obtain rfl : k = n := by omega
      rw [if_pos k2]
      generalize cntH a.p k = X at *
      repeat' first | refine s1 ?_ | fail
      (refine kZ ?_; exact F.ret rfl)
def invB (a b : Rep) (f : List Mat) : Bool := decide (a.d = b.d) && decide (rkL a.p f = a.d)
theorem isInverted_a (a b : Rep) (f : List Mat) (h : isMor a b f = true) : AC Tryz.prog 49 [.agg (enc false a), .agg (enc false b), ar false f] [.b (invB a b f)] := by
  refine AC.go Tryz.func49 Tryz.ntmps49 rfl rfl fun w0 hw => ?_; simp [WfL, WfA, E_length, Enc.enc, In64] at hw
  obtain ⟨m1, m2, m3, m4, m5⟩ := mor_ok h
  have hR := ranks_a a.p f (fun v hv => (m5 v hv).1) (by omega)
  have hE := equal_a a.d b.d
  have hE2 := equal_a (rkL a.p f) a.d
  unfold invB
  generalize rkL a.p f = L at hR hE2 ⊢
  generalize decide (L = a.d) = Y at hE2 ⊢
  by_cases hd : a.d = b.d
  · rw [decide_eq_true hd] at hE ⊢
    repeat' first | refine s1 ?_ | fail
    refine AW.draw 15 G.mixed (by kernel_rfl) ?_
    refine dP 0 ?_
    refine dL 1 ?_
    refine dP 2 ?_
    refine dL 3 ?_
    refine dO 4 true ?_
    first | refine s1 ?_ | refine F.c (hE) ?_
    refine ARg.nil (ATh.normal ?_)
    refine dP 5 ?_
    first | refine dT 12 rfl (by first | assumption | rfl | (simp only [decide_eq_true_eq, Bool.not_eq_true', decide_eq_false_iff_not, Bool.and_eq_true, Bool.or_eq_true]; omega)) ?_ | refine dF 12 rfl (by first | assumption | rfl | (simp only [decide_eq_false_iff_not, Bool.not_eq_false', decide_eq_true_eq, Bool.and_eq_false_iff, Bool.or_eq_false_iff]; omega)) ?_ | (refine dD 12 rfl ?_ ?_ <;> intro hc <;> (try simp only [decide_eq_true_eq, decide_eq_false_iff_not, Bool.not_eq_true', Bool.not_eq_false'] at hc)) | skip
    all_goals
      first | refine dK 6 ?_ | refine dP 6 ?_
      first | refine dK 7 ?_ | refine dL 7 ?_
      first | refine dK 8 ?_ | refine dP 8 ?_
      first | refine dK 10 ?_ | refine dP 10 ?_
      first | refine dK 11 ?_ | refine dL 11 ?_
      refine dO 9 true ?_
      first | refine s1 ?_ | refine F.c (hR) ?_
      refine ARg.nil (ATh.normal ?_)
      refine dO 12 true ?_
      first | refine s1 ?_ | refine F.c (hE2) ?_
      refine ARg.nil (ATh.normal ?_)
      refine dP 13 ?_
      refine dP 14 ?_
      refine dN ?_
      rotate_left
    all_goals
      repeat' first | refine s1 ?_ | fail
      refine F.ret ?_
      simp
  · rw [decide_eq_false hd] at hE ⊢
    repeat' first | refine s1 ?_ | fail
    refine AW.draw 15 G.mixed (by kernel_rfl) ?_
    refine dP 0 ?_
    refine dL 1 ?_
    refine dP 2 ?_
    refine dL 3 ?_
    refine dO 4 true ?_
    first | refine s1 ?_ | refine F.c (hE) ?_
    refine ARg.nil (ATh.normal ?_)
    refine dP 5 ?_
    first | refine dT 12 rfl (by first | assumption | rfl | (simp only [decide_eq_true_eq, Bool.not_eq_true', decide_eq_false_iff_not, Bool.and_eq_true, Bool.or_eq_true]; omega)) ?_ | refine dF 12 rfl (by first | assumption | rfl | (simp only [decide_eq_false_iff_not, Bool.not_eq_false', decide_eq_true_eq, Bool.and_eq_false_iff, Bool.or_eq_false_iff]; omega)) ?_ | (refine dD 12 rfl ?_ ?_ <;> intro hc <;> (try simp only [decide_eq_true_eq, decide_eq_false_iff_not, Bool.not_eq_true', Bool.not_eq_false'] at hc)) | skip
    all_goals
      first | refine dK 6 ?_ | refine dP 6 ?_
      first | refine dK 7 ?_ | refine dL 7 ?_
      first | refine dK 8 ?_ | refine dP 8 ?_
      first | refine dK 10 ?_ | refine dP 10 ?_
      first | refine dK 11 ?_ | refine dL 11 ?_
      refine dO 9 true ?_
      first | refine s1 ?_ | refine F.c (hR) ?_
      refine ARg.nil (ATh.normal ?_)
      refine dO 12 true ?_
      first | refine s1 ?_ | refine F.c (hE2) ?_
      refine ARg.nil (ATh.normal ?_)
      refine dP 13 ?_
      refine dP 14 ?_
      refine dN ?_
      rotate_left
    all_goals
      repeat' first | refine s1 ?_ | fail
      refine F.ret ?_
      simp
theorem inv_iso {a b : Rep} {f : List Mat} (h : isMor a b f = true) : (injB a b f && surB a b f) = invB a b f := by
  unfold injB surB invB
  rw [h, Bool.true_and, Bool.true_and, Bool.eq_iff_iff]
  simp only [Bool.and_eq_true, decide_eq_true_eq]
  constructor
  · rintro ⟨x, y⟩; exact ⟨x.symm.trans y, x⟩
  · rintro ⟨x, y⟩; exact ⟨y, y.trans x⟩
theorem specIsIsomorphism_a (a b : Rep) (f : List Mat) (h : isMor a b f = true) : AC Tryz.prog 42 [.agg (enc false a), .agg (enc false b), ar false f] [.b (invB a b f)] := by
  refine AC.go Tryz.func42 Tryz.ntmps42 rfl rfl fun w0 hw => ?_; simp [WfL, WfA, E_length, Enc.enc, In64] at hw
  have hI := specIsInjective_a a b f
  have hS := specIsSurjective_a a b f
  rw [← inv_iso h]
  generalize injB a b f = x at hI ⊢
  generalize surB a b f = y at hS ⊢
  cases x <;>
  · repeat' first | refine s1 ?_ | (refine kR ?_; first | refine F.c (hI) ?_ | refine F.c (hS) ?_) | fail
    refine F.ret ?_
    simp
/-- how many of the morphisms with the first k numbers are isomorphisms -/
def isoN (a b : Rep) (k : Nat) : Nat := (List.range k).countP fun (c : Nat) => invB a b (numL a b c)
theorem isoN_succ (a b : Rep) (k : Nat) : isoN a b (k + 1) = isoN a b k + if invB a b (numL a b k) = true then 1 else 0 := by
  unfold isoN
  rw [List.range_succ, List.countP_append, List.countP_singleton]
theorem isoN_le (a b : Rep) (k : Nat) : isoN a b k ≤ k := by
  have := List.countP_le_length (p := fun (c : Nat) => invB a b (numL a b c)) (l := List.range k)
  rwa [List.length_range] at this
def cisB (a b : Rep) : Int := if 0 ≤ cntM a b ∧ cntM a b ≤ 3000 then (isoN a b (cntM a b).toNat : Nat) else -1
theorem cntM_fit {a b : Rep} (h : 0 ≤ cntM a b) : fitR a b = true := by
  cases hf : fitR a b with
  | true => rfl
  | false => unfold cntM at h; rw [if_neg (by simp [hf])] at h; omega
theorem cntM_bd (a b : Rep) : -2 ≤ cntM a b ∧ cntM a b ≤ 100000 := by
  unfold cntM
  by_cases hf : fitR a b = true
  · rw [if_pos hf]
    have := cntH_bd (isF_pos (Fits.of hf).f) (hkL a b).length
    by_cases hx : cntH a.p (hkL a b).length ≤ 100000
    · rw [if_pos hx]; omega
    · rw [if_neg hx]; omega
  · rw [if_neg hf]; omega
theorem implCountIsomorphisms_a (a b : Rep) : AC Tryz.prog 13 [.agg (enc false a), .agg (enc false b)] [.i (cisB a b)] := by
  refine AC.go Tryz.func13 Tryz.ntmps13 rfl rfl fun w0 hw => ?_; simp [WfL, WfA, E_length, Enc.enc, In64] at hw
  have hM := implCountMorphisms_a a b
  have hW := within_a (cntM a b) 0 3000
  have hbd := cntM_bd a b
  unfold cisB
  by_cases hq : 0 ≤ cntM a b ∧ cntM a b ≤ 3000
  · rw [if_pos hq]
    have hf := cntM_fit hq.1
    have hle := rkE_le a b hf
    have hB := homBasis_a a b hf
    have hN := fun (k : Nat) (hk : k < 3000) => numbered_a a b k hf (by omega)
    have hI := fun k : Nat => isInverted_a a b (numL a b k) (num_mor hf k)
    have hsu := isoN_succ a b
    have hil := isoN_le a b
    generalize hnn : (cntM a b).toNat = n
    have hnn : cntM a b = (n : Int) := by omega
    rw [hnn] at hM hW
    have hqn : n ≤ 3000 := by omega
    have hw : AC Tryz.prog 47 [.i (n : Int), .i 0, .i 3000] [.b true] := by rw [decide_eq_true (by omega)] at hW; exact hW
    clear hW hnn hq hbd
    have hi0 : isoN a b 0 = 0 := rfl
    generalize homL a b = HL at *
    generalize isoN a b = IN at *
    repeat' first | refine s1 ?_ | (refine kR ?_; first | refine F.c (hM) ?_ | refine F.c (hw) ?_ | refine F.c (hB) ?_) | fail
    refine F.loop (σ := Nat) [7, 8, 19, 20, 21, 22, 23, 24, 25, 26, 27, 28, 29, 30, 31, 32] (fun k => [(7, .i (IN k : Nat)), (19, .i k)]) (fun _ => []) (fun k => k ≤ n) (fun k => n - k) 0 ⟨iE (by rw [hi0]; rfl), rfl, trivial⟩ trivial (Nat.zero_le _) ?_
    rintro k k1
    have hik := hil k
    by_cases hk : k < n
    · have hNk := hN k (by omega)
      have hIk := hI k
      have hsk := hsu k
      generalize numL a b k = M at hNk hIk hsk
      cases hx : invB a b M with
      | true =>
        rw [hx] at hIk hsk
        rw [if_pos rfl] at hsk
        repeat' first | refine s1 ?_ | fail
        refine AW.draw 8 G.mixed (by kernel_rfl) ?_
        refine dL 0 ?_
        refine dL 1 ?_
        refine dL 2 ?_
        refine dL 3 ?_
        refine dP 4 ?_
        refine dP 5 ?_
        refine dO 6 true ?_
        first | refine s1 ?_ | refine F.c (hNk) ?_ | refine F.c (hIk) ?_
        refine ARg.nil (ATh.normal ?_)
        refine dO 7 true ?_
        first | refine s1 ?_ | refine F.c (hNk) ?_ | refine F.c (hIk) ?_
        refine ARg.nil (ATh.normal ?_)
        refine dN ?_
        rotate_left
        all_goals
          repeat' first | refine s1 ?_ | fail
          exact ⟨k + 1, F.fit ⟨iE (by rw [hsk]; push_cast; rfl), rfl, trivial⟩ trivial, by omega, by omega⟩
      | false =>
        rw [hx] at hIk hsk
        rw [if_neg (by simp)] at hsk
        repeat' first | refine s1 ?_ | fail
        refine AW.draw 8 G.mixed (by kernel_rfl) ?_
        refine dL 0 ?_
        refine dL 1 ?_
        refine dL 2 ?_
        refine dL 3 ?_
        refine dP 4 ?_
        refine dP 5 ?_
        refine dO 6 true ?_
        first | refine s1 ?_ | refine F.c (hNk) ?_ | refine F.c (hIk) ?_
        refine ARg.nil (ATh.normal ?_)
        refine dO 7 true ?_
        first | refine s1 ?_ | refine F.c (hNk) ?_ | refine F.c (hIk) ?_
        refine ARg.nil (ATh.normal ?_)
        refine dN ?_
        rotate_left
        all_goals
          repeat' first | refine s1 ?_ | fail
          exact ⟨k + 1, F.fit ⟨iE (by rw [hsk]; rfl), rfl, trivial⟩ trivial, by omega, by omega⟩
    · obtain rfl : k = n := by omega
      repeat' first | refine s1 ?_ | fail
      (refine kZ ?_; exact F.ret rfl)
  · rw [if_neg hq]
    have hw : AC Tryz.prog 47 [.i (cntM a b), .i 0, .i 3000] [.b false] := by rw [decide_eq_false hq] at hW; exact hW
    repeat' first | refine s1 ?_ | (refine kR ?_; first | refine F.c (hM) ?_ | refine F.c (hw) ?_) | fail
    (refine kZ ?_; exact F.ret rfl)
theorem specCountIsomorphisms_a (a b : Rep) : AC Tryz.prog 11 [.agg (enc false a), .agg (enc false b)] [.i (cisB a b)] := by
  refine AC.go Tryz.func11 Tryz.ntmps11 rfl rfl fun w0 hw => ?_; simp [WfL, WfA, E_length, Enc.enc, In64] at hw
  have hM := specCountMorphisms_a a b
  have hbd := cntM_bd a b
  unfold cisB
  by_cases hq : 0 ≤ cntM a b ∧ cntM a b ≤ 3000
  · rw [if_pos hq]
    have hf := cntM_fit hq.1
    have hle := rkE_le a b hf
    have hB := specHomBasis_a a b
    unfold homP at hB
    rw [if_pos hf] at hB
    dsimp only at hB
    have hN := fun (k : Nat) (hk : k < 3000) => l11Number_a a b k hf (by omega)
    have hI := fun k : Nat => specIsIsomorphism_a a b (numL a b k) (num_mor hf k)
    have hsu := isoN_succ a b
    have hil := isoN_le a b
    generalize hnn : (cntM a b).toNat = n
    have hnn : cntM a b = (n : Int) := by omega
    rw [hnn] at hM
    have hqn : n ≤ 3000 := by omega
    clear hnn hq hbd
    have hi0 : isoN a b 0 = 0 := rfl
    generalize homL a b = HL at *
    generalize isoN a b = IN at *
    repeat' first | refine s1 ?_ | (refine kR ?_; first | refine F.c (hM) ?_ | refine F.c (hB) ?_) | fail
    refine F.loop (σ := Nat) [8, 9, 25, 26, 27, 28, 29, 30, 31, 32, 33, 34, 35, 36, 37, 38, 39] (fun k => [(8, .i (IN k : Nat)), (9, .i k)]) (fun _ => []) (fun k => k ≤ n) (fun k => n - k) 0 ⟨iE (by rw [hi0]; rfl), rfl, trivial⟩ trivial (Nat.zero_le _) ?_
    rintro k k1
    have hik := hil k
    by_cases hk : k < n
    · have hNk := hN k (by omega)
      have hIk := hI k
      have hsk := hsu k
      generalize numL a b k = M at hNk hIk hsk
      cases hx : invB a b M with
      | true =>
        rw [hx] at hIk hsk
        rw [if_pos rfl] at hsk
        repeat' first | refine s1 ?_ | fail
        refine AW.draw 8 G.mixed (by kernel_rfl) ?_
        refine dL 0 ?_
        refine dL 1 ?_
        refine dL 2 ?_
        refine dL 3 ?_
        refine dP 4 ?_
        refine dP 5 ?_
        refine dO 6 true ?_
        first | refine s1 ?_ | refine F.c (hNk) ?_ | refine F.c (hIk) ?_
        refine ARg.nil (ATh.normal ?_)
        refine dO 7 true ?_
        first | refine s1 ?_ | refine F.c (hNk) ?_ | refine F.c (hIk) ?_
        refine ARg.nil (ATh.normal ?_)
        refine dN ?_
        rotate_left
        all_goals
          repeat' first | refine s1 ?_ | fail
          exact ⟨k + 1, F.fit ⟨iE (by rw [hsk]; push_cast; rfl), rfl, trivial⟩ trivial, by omega, by omega⟩
      | false =>
        rw [hx] at hIk hsk
        rw [if_neg (by simp)] at hsk
        repeat' first | refine s1 ?_ | fail
        refine AW.draw 8 G.mixed (by kernel_rfl) ?_
        refine dL 0 ?_
        refine dL 1 ?_
        refine dL 2 ?_
        refine dL 3 ?_
        refine dP 4 ?_
        refine dP 5 ?_
        refine dO 6 true ?_
        first | refine s1 ?_ | refine F.c (hNk) ?_ | refine F.c (hIk) ?_
        refine ARg.nil (ATh.normal ?_)
        refine dO 7 true ?_
        first | refine s1 ?_ | refine F.c (hNk) ?_ | refine F.c (hIk) ?_
        refine ARg.nil (ATh.normal ?_)
        refine dN ?_
        rotate_left
        all_goals
          repeat' first | refine s1 ?_ | fail
          exact ⟨k + 1, F.fit ⟨iE (by rw [hsk]; rfl), rfl, trivial⟩ trivial, by omega, by omega⟩
    · obtain rfl : k = n := by omega
      repeat' first | refine s1 ?_ | fail
      (refine kZ ?_; exact F.ret rfl)
  · rw [if_neg hq]
    rcases (show cntM a b < 0 ∨ (3000 < cntM a b ∧ ¬ cntM a b < 0) by omega) with h | ⟨h, h'⟩ <;>
    · repeat' first | refine s1 ?_ | (refine kR ?_; first | refine F.c (hM) ?_) | fail
      (refine kZ ?_; exact F.ret rfl)
end Go.Proofs.YtanembgijdkagaaGreat.V
