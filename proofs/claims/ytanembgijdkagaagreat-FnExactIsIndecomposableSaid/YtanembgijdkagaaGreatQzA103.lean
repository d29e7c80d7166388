/- Contracts: the search for an isomorphism. -/
import Derived.Test.YtanembgijdkagaaGreatQzA102
namespace Go.Proofs.YtanembgijdkagaaGreat.V
open V.Enc (enc)
open Go.RowKit G D
set_option linter.unusedVariables false
set_option linter.unusedSimpArgs false
set_option maxHeartbeats 4000000
set_option maxRecDepth 4000
attribute [local irreducible] AW ARg ARA ARet MRet ASil AC AM ARI
/-- so many morphisms are tried -/
def mstH (a b : Rep) : Nat := (min (cntH a.p (hkL a b).length) 3000).toNat
theorem mstH_eq {a b : Rep} (hf : fitR a b = true) : min (cntH a.p (hkL a b).length) 3000 = (mstH a b : Int) ∧ 1 ≤ mstH a b ∧ mstH a b ≤ 3000 := by
  have := cntH_bd (isF_pos (Fits.of hf).f) (hkL a b).length
  unfold mstH
  omega
def fiO (a b : Rep) : Option Nat := fstN (fun c => invB a b (numL a b c)) (mstH a b) 0
def fiP (a b : Rep) : List Mat × Bool := match fiO a b with
  | some k => (numL a b k, true)
  | none => ([], false)
theorem fiP_some {a b : Rep} {k : Nat} (h : fiO a b = some k) : fiP a b = (numL a b k, true) := by unfold fiP; rw [h]
theorem fiP_none {a b : Rep} (h : fiO a b = none) : fiP a b = ([], false) := by unfold fiP; rw [h]
theorem findIso_a (a b : Rep) (hf : fitR a b = true) : AC Tryz.prog 59 [.agg (enc false a), .agg (enc false b), ar false (homL a b)] [.dt true 3 (E true (fiP a b).1), .b (fiP a b).2] := by
  refine AC.go Tryz.func59 Tryz.ntmps59 rfl rfl fun w0 hw => ?_; simp [WfL, WfA, E_length, Enc.enc, In64] at hw
  have h := Fits.of hf
  have hp := isF_pos h.f
  have hle := rkE_le a b hf
  have hlen := hkL_len a b hf
  have hll := homL_len a b
  have hC := countHoms_a a.p (hkL a b).length hp (by omega)
  have hN := fun (k : Nat) (hk : k < 3000) => numbered_a a b k hf (by omega)
  have hI := fun k : Nat => isInverted_a a b (numL a b k) (num_mor hf k)
  obtain ⟨hmn, _, hm3⟩ := mstH_eq hf
  have hO : fiO a b = fstN (fun c => invB a b (numL a b c)) (mstH a b) 0 := rfl
  have hS := fun k => fiP_some (a := a) (b := b) (k := k)
  have hE := fiP_none (a := a) (b := b)
  rw [← hll] at hC hmn
  generalize fiP a b = R at hS hE ⊢
  generalize fiO a b = O at hO hS hE
  generalize homL a b = HL at *
  generalize cntH a.p HL.length = X at *
  generalize mstH a b = n at *
  repeat' first | refine s1 ?_ | (refine kR ?_; first | refine F.c (hC) ?_ | refine F.sil (A.min2 rfl rfl) rfl rfl ?_) | fail
  rw [hmn]
  refine F.loop (σ := Nat) [6, 7, 8, 9, 16, 17, 18, 19, 20, 21, 22, 23, 24, 25, 26, 27, 28, 29] (fun k => [(16, .i k)]) (fun _ => []) (fun k => k ≤ n ∧ O = fstN (fun c => invB a b (numL a b c)) (n - k) k) (fun k => n - k) 0 ⟨rfl, trivial⟩ trivial ⟨Nat.zero_le _, hO⟩ ?_
  rintro k ⟨k1, k2⟩
  by_cases hk : k < n
  · have hNk := hN k (by omega)
    have hIk := hI k
    cases hx : invB a b (numL a b k) with
    | true =>
      rw [fstN_hit hk hx] at k2
      have hR := hS k k2
      subst hR
      rw [hx] at hIk
      generalize numL a b k = M at hNk hIk ⊢
      repeat' first | refine s1 ?_ | (refine kR ?_; first | refine F.c (hNk) ?_ | refine F.c (hIk) ?_) | fail
      (refine kZ ?_; exact F.ret rfl)
    | false =>
      rw [fstN_miss hk hx] at k2
      rw [hx] at hIk
      generalize numL a b k = M at hNk hIk
      repeat' first | refine s1 ?_ | (refine kR ?_; first | refine F.c (hNk) ?_ | refine F.c (hIk) ?_) | fail
      exact ⟨k + 1, F.fit ⟨rfl, trivial⟩ trivial, ⟨by omega, k2⟩, by omega⟩
  · obtain rfl : k = n := by omega
    rw [Nat.sub_self] at k2
    have hR := hE k2
    subst hR
    repeat' first | refine s1 ?_ | fail
    (refine kZ ?_; exact F.ret rfl)
def fisP (a b : Rep) : List Mat × Bool := if fitR a b = true ∧ a.d = b.d then fiP a b else ([], false)
theorem implFindIsomorphism_a (a b : Rep) : AC Tryz.prog 23 [.agg (enc false a), .agg (enc false b)] [.dt true 3 (E true (fisP a b).1), .b (fisP a b).2] := by
  refine AC.go Tryz.func23 Tryz.ntmps23 rfl rfl fun w0 hw => ?_; simp [WfL, WfA, E_length, Enc.enc, In64] at hw
  have hF := fit_a a b
  have hE := equal_a a.d b.d
  unfold fisP
  cases hf : fitR a b with
  | false =>
    rw [hf] at hF
    rw [if_neg (by simp)]
    repeat' first | refine s1 ?_ | (refine kR ?_; first | refine F.c (hF) ?_) | fail
    (refine kZ ?_; exact F.ret rfl)
  | true =>
    rw [hf] at hF
    by_cases hd : a.d = b.d
    · rw [decide_eq_true hd] at hE
      rw [if_pos ⟨rfl, hd⟩]
      have hB := homBasis_a a b hf
      have hI := findIso_a a b hf
      generalize fiP a b = R at hI ⊢
      obtain ⟨R1, R2⟩ := R
      dsimp only at hI ⊢
      generalize homL a b = HL at hB hI
      repeat' first | refine s1 ?_ | (refine kR ?_; first | refine F.c (hF) ?_ | refine F.c (hE) ?_) | fail
      refine AW.draw 10 G.mixed (by kernel_rfl) ?_
      refine dL 0 ?_
      refine dL 1 ?_
      refine dL 2 ?_
      refine dL 3 ?_
      refine dO 4 true ?_
      first | refine s1 ?_ | refine F.c (hB) ?_ | refine F.c (hI) ?_
      refine ARg.nil (ATh.normal ?_)
      refine dO 5 true ?_
      first | refine s1 ?_ | refine F.c (hB) ?_ | refine F.c (hI) ?_
      refine ARg.nil (ATh.normal ?_)
      refine dP 6 ?_
      refine dP 7 ?_
      refine dP 8 ?_
      refine dP 9 ?_
      refine dN ?_
      rotate_left
      all_goals
        repeat' first | refine s1 ?_ | fail
        (refine kZ ?_; exact F.ret rfl)
    · rw [decide_eq_false hd] at hE
      rw [if_neg (fun x => hd x.2)]
      repeat' first | refine s1 ?_ | (refine kR ?_; first | refine F.c (hF) ?_ | refine F.c (hE) ?_) | fail
      (refine kZ ?_; exact F.ret rfl)
/-- whether all were tried, or one was found -/
def fndB (a b : Rep) : Bool := (fiP a b).2 || decide (cntH a.p (hkL a b).length ≤ 3000)
theorem l17Find_a (a b : Rep) (hf : fitR a b = true) : AC Tryz.prog 56 [.agg (enc false a), .agg (enc false b)] [.dt true 3 (E true (fiP a b).1), .b (fiP a b).2, .b (fndB a b)] := by
  refine AC.go Tryz.func56 Tryz.ntmps56 rfl rfl fun w0 hw => ?_; simp [WfL, WfA, E_length, Enc.enc, In64] at hw
  have h := Fits.of hf
  have hp := isF_pos h.f
  have hle := rkE_le a b hf
  have hlen := hkL_len a b hf
  have hll := homL_len a b
  have hB := specHomBasis_a a b
  unfold homP at hB
  rw [if_pos hf] at hB
  dsimp only at hB
  have hM := specCountMorphisms_a a b
  have hN := fun (k : Nat) (hk : k < 3000) => l11Number_a a b k hf (by omega)
  have hI := fun k : Nat => specIsIsomorphism_a a b (numL a b k) (num_mor hf k)
  obtain ⟨hmn, _, hm3⟩ := mstH_eq hf
  have hO : fiO a b = fstN (fun c => invB a b (numL a b c)) (mstH a b) 0 := rfl
  have hS := fun k => fiP_some (a := a) (b := b) (k := k)
  have hE := fiP_none (a := a) (b := b)
  have hcb := cntH_bd hp (hkL a b).length
  have hcm : cntM a b = if cntH a.p (hkL a b).length ≤ 100000 then cntH a.p (hkL a b).length else -2 := by unfold cntM; rw [if_pos hf]
  unfold fndB
  generalize cntM a b = y at hM hcm
  generalize fiP a b = R at hS hE ⊢
  generalize fiO a b = O at hO hS hE
  generalize homL a b = HL at *
  generalize cntH a.p (hkL a b).length = X at *
  generalize mstH a b = n at *
  have h3 : (0 ≤ y ∧ y ≤ 3000 ∧ X = y ∧ y = (n : Int)) ∨ (y < 0 ∧ 3000 < X ∧ n = 3000 ∧ y ≠ 3000) ∨ (3000 < y ∧ 3000 < X ∧ n = 3000 ∧ ¬ y < 0) := by
    by_cases hx : X ≤ 100000
    · rw [if_pos hx] at hcm; omega
    · rw [if_neg hx] at hcm; omega
  clear hcm
  rcases h3 with ⟨y1, y2, y3, y4⟩ | ⟨y1, y2, y3, y4⟩ | ⟨y1, y2, y3, y4⟩
  all_goals
    repeat' first | refine s1 ?_ | (refine kR ?_; first | refine F.c (hB) ?_ | refine F.c (hM) ?_) | fail
    try rw [show (3000 : Int) = (n : Int) by omega]
    refine F.loop (σ := Nat) [4, 5, 6, 11, 12, 29, 30, 31, 32, 33, 34, 35, 36, 37, 38, 39, 40, 41, 42, 43] (fun k => [(11, .i k)]) (fun _ => []) (fun k => k ≤ n ∧ O = fstN (fun c => invB a b (numL a b c)) (n - k) k) (fun k => n - k) 0 ⟨rfl, trivial⟩ trivial ⟨Nat.zero_le _, hO⟩ ?_
    rintro k ⟨k1, k2⟩
    by_cases hk : k < n
    · have hNk := hN k (by omega)
      have hIk := hI k
      cases hx : invB a b (numL a b k) with
      | true =>
        rw [fstN_hit hk hx] at k2
        have hR := hS k k2
        subst hR
        rw [hx] at hIk
        generalize numL a b k = M at hNk hIk ⊢
        repeat' first | refine s1 ?_ | (refine kR ?_; first | refine F.c (hNk) ?_ | refine F.c (hIk) ?_) | fail
        refine F.ret ?_
        simp
      | false =>
        rw [fstN_miss hk hx] at k2
        rw [hx] at hIk
        generalize numL a b k = M at hNk hIk
        repeat' first | refine s1 ?_ | (refine kR ?_; first | refine F.c (hNk) ?_ | refine F.c (hIk) ?_) | fail
        exact ⟨k + 1, F.fit ⟨rfl, trivial⟩ trivial, ⟨by omega, k2⟩, by omega⟩
    · obtain rfl : k = n := by omega
      rw [Nat.sub_self] at k2
      have hR := hE k2
      subst hR
      first
        | rw [show ((([], false) : List Mat × Bool).2 || decide (X ≤ 3000)) = decide (y = y) by (simp; omega)]
        | rw [show ((([], false) : List Mat × Bool).2 || decide (X ≤ 3000)) = decide ((k : Int) = y) by (simp; omega)]
        | rw [show ((([], false) : List Mat × Bool).2 || decide (X ≤ (k : Int))) = decide ((k : Int) = y) by (simp; omega)]
      repeat' first | refine s1 ?_ | fail
      (refine kZ ?_; exact F.ret rfl)
theorem specFindIsomorphism_a (a b : Rep) : AC Tryz.prog 22 [.agg (enc false a), .agg (enc false b)] [.dt true 3 (E true (fisP a b).1), .b (fisP a b).2] := by
  refine AC.go Tryz.func22 Tryz.ntmps22 rfl rfl fun w0 hw => ?_; simp [WfL, WfA, E_length, Enc.enc, In64] at hw
  have hF := l9Fit_a a b
  have hE := l6Same_a a.d b.d
  unfold fisP
  cases hf : fitR a b with
  | false =>
    rw [hf] at hF
    rw [if_neg (by simp)]
    repeat' first | refine s1 ?_ | (refine kR ?_; first | refine F.c (hF) ?_) | fail
    (refine kZ ?_; exact F.ret rfl)
  | true =>
    rw [hf] at hF
    by_cases hd : a.d = b.d
    · rw [decide_eq_true hd] at hE
      rw [if_pos ⟨rfl, hd⟩]
      have hI := l17Find_a a b hf
      generalize fndB a b = z at hI
      generalize fiP a b = R at hI ⊢
      obtain ⟨R1, R2⟩ := R
      dsimp only at hI ⊢
      repeat' first | refine s1 ?_ | (refine kR ?_; first | refine F.c (hF) ?_ | refine F.c (hE) ?_ | refine F.c (hI) ?_) | fail
      (refine kZ ?_; exact F.ret rfl)
    · rw [decide_eq_false hd] at hE
      rw [if_neg (fun x => hd x.2)]
      repeat' first | refine s1 ?_ | (refine kR ?_; first | refine F.c (hF) ?_ | refine F.c (hE) ?_) | fail
      (refine kZ ?_; exact F.ret rfl)
def difB (a b : Rep) : Bool := !(decide (a.d = b.d) && (decide (homD a b = homD a a) && (decide (homD b a = homD a a) && decide (homD b b = homD a a))))
theorem homDimD_a (a b : Rep) (hf : fitR a b = true) : AC Tryz.prog 108 [.agg (enc false a), .agg (enc false b)] [.i (homD a b)] := by
  have := homDim_a a b hf
  unfold homD
  rw [if_pos hf]
  exact this
theorem differ_a (a b : Rep) (hf : fitR a b = true) : AC Tryz.prog 58 [.agg (enc false a), .agg (enc false b)] [.b (difB a b)] := by
  refine AC.go Tryz.func58 Tryz.ntmps58 rfl rfl fun w0 hw => ?_; simp [WfL, WfA, E_length, Enc.enc, In64] at hw
  have hE := equal_a a.d b.d
  have h1 := homDimD_a a a (fitR_refl (fitR_reps hf).1)
  have h2 := homDimD_a a b hf
  have h3 := homDimD_a b a (fitR_symm hf)
  have h4 := homDimD_a b b (fitR_refl (fitR_reps hf).2)
  unfold difB
  generalize homD a a = d at *
  generalize homD a b = x at *
  generalize homD b a = y at *
  generalize homD b b = z at *
  by_cases hd : a.d = b.d
  · rw [decide_eq_true hd] at hE ⊢
    by_cases hx : x = d
    · by_cases hy : y = d
      · by_cases hz : z = d
        · repeat' first | refine s1 ?_ | (refine kR ?_; first | refine F.c (hE) ?_ | refine F.c (h1) ?_ | refine F.c (h2) ?_ | refine F.c (h3) ?_ | refine F.c (h4) ?_) | fail
          refine F.ret ?_
          simp [hx, hy, hz]
        · repeat' first | refine s1 ?_ | (refine kR ?_; first | refine F.c (hE) ?_ | refine F.c (h1) ?_ | refine F.c (h2) ?_ | refine F.c (h3) ?_ | refine F.c (h4) ?_) | fail
          refine F.ret ?_
          simp [hx, hy, hz]
      · repeat' first | refine s1 ?_ | (refine kR ?_; first | refine F.c (hE) ?_ | refine F.c (h1) ?_ | refine F.c (h2) ?_ | refine F.c (h3) ?_ | refine F.c (h4) ?_) | fail
        refine F.ret ?_
        simp [hx, hy]
    · repeat' first | refine s1 ?_ | (refine kR ?_; first | refine F.c (hE) ?_ | refine F.c (h1) ?_ | refine F.c (h2) ?_ | refine F.c (h3) ?_ | refine F.c (h4) ?_) | fail
      refine F.ret ?_
      simp [hx]
  · rw [decide_eq_false hd] at hE ⊢
    repeat' first | refine s1 ?_ | (refine kR ?_; first | refine F.c (hE) ?_) | fail
    refine F.ret ?_
    simp
def arI (a b : Rep) : Int := if fitR a b = true then (if difB a b = true then 0 else if (fiP a b).2 = true then 1 else if cntH a.p (hkL a b).length ≤ 3000 then 0 else -1) else -1
theorem implAreIsomorphic_a (a b : Rep) : AC Tryz.prog 16 [.agg (enc false a), .agg (enc false b)] [.i (arI a b)] := by
  refine AC.go Tryz.func16 Tryz.ntmps16 rfl rfl fun w0 hw => ?_; simp [WfL, WfA, E_length, Enc.enc, In64] at hw
  have hF := fit_a a b
  unfold arI
  cases hf : fitR a b with
  | false =>
    rw [hf] at hF
    rw [if_neg (by simp)]
    repeat' first | refine s1 ?_ | (refine kR ?_; first | refine F.c (hF) ?_) | fail
    (refine kZ ?_; exact F.ret rfl)
  | true =>
    rw [hf] at hF
    rw [if_pos rfl]
    have hD := differ_a a b hf
    cases hd : difB a b with
    | true =>
      rw [hd] at hD
      rw [if_pos rfl]
      repeat' first | refine s1 ?_ | (refine kR ?_; first | refine F.c (hF) ?_ | refine F.c (hD) ?_) | fail
      (refine kZ ?_; exact F.ret rfl)
    | false =>
      rw [hd] at hD
      rw [if_neg (by simp)]
      have hp := isF_pos (Fits.of hf).f
      have hl := homD_len a b hf
      have hll := homL_len a b
      have hB := homBasis_a a b hf
      have hI := findIso_a a b hf
      have hC := countHoms_a a.p (hkL a b).length hp (by omega)
      rw [← hll] at hC ⊢
      generalize fiP a b = R at hI ⊢
      obtain ⟨R1, R2⟩ := R
      dsimp only at hI ⊢
      generalize homL a b = HL at *
      generalize cntH a.p HL.length = X at *
      cases R2 with
      | true =>
        rw [if_pos rfl]
        repeat' first | refine s1 ?_ | (refine kR ?_; first | refine F.c (hF) ?_ | refine F.c (hD) ?_ | refine F.c (hB) ?_ | refine F.c (hI) ?_) | fail
        (refine kZ ?_; exact F.ret rfl)
      | false =>
        rw [if_neg (by simp)]
        by_cases hx : X ≤ 3000
        · rw [if_pos hx]
          repeat' first | refine s1 ?_ | (refine kR ?_; first | refine F.c (hF) ?_ | refine F.c (hD) ?_ | refine F.c (hB) ?_ | refine F.c (hI) ?_ | refine F.c (hC) ?_) | fail
          (refine kZ ?_; exact F.ret rfl)
        · rw [if_neg hx]
          repeat' first | refine s1 ?_ | (refine kR ?_; first | refine F.c (hF) ?_ | refine F.c (hD) ?_ | refine F.c (hB) ?_ | refine F.c (hI) ?_ | refine F.c (hC) ?_) | fail
          (refine kZ ?_; exact F.ret rfl)
theorem specAreIsomorphic_a (a b : Rep) : AC Tryz.prog 15 [.agg (enc false a), .agg (enc false b)] [.i (arI a b)] := by
  refine AC.go Tryz.func15 Tryz.ntmps15 rfl rfl fun w0 hw => ?_; simp [WfL, WfA, E_length, Enc.enc, In64] at hw
  have hF := l9Fit_a a b
  unfold arI
  cases hf : fitR a b with
  | false =>
    rw [hf] at hF
    rw [if_neg (by simp)]
    repeat' first | refine s1 ?_ | (refine kR ?_; first | refine F.c (hF) ?_) | fail
    (refine kZ ?_; exact F.ret rfl)
  | true =>
    rw [hf] at hF
    rw [if_pos rfl]
    have hE := l6Same_a a.d b.d
    have h1 := specHomDim_a a a
    have h2 := specHomDim_a a b
    have h3 := specHomDim_a b a
    have h4 := specHomDim_a b b
    have hI := l17Find_a a b hf
    have hal : fndB a b = ((fiP a b).2 || decide (cntH a.p (hkL a b).length ≤ 3000)) := rfl
    generalize fndB a b = al at hI hal
    generalize fiP a b = R at hI hal ⊢
    obtain ⟨R1, R2⟩ := R
    dsimp only at hI hal ⊢
    generalize cntH a.p (hkL a b).length = X at *
    unfold difB
    generalize homD a a = d at *
    generalize homD a b = x at *
    generalize homD b a = y at *
    generalize homD b b = z at *
    by_cases hd : a.d = b.d
    · rw [decide_eq_true hd] at hE ⊢
      by_cases hx : x = d
      · by_cases hy : y = d
        · by_cases hz : z = d
          · rw [if_neg (by simp [hx, hy, hz])]
            cases R2 with
            | true =>
              rw [if_pos rfl]
              repeat' first | refine s1 ?_ | (refine kR ?_; first | refine F.c (hF) ?_ | refine F.c (h1) ?_ | refine F.c (hE) ?_ | refine F.c (h2) ?_ | refine F.c (h3) ?_ | refine F.c (h4) ?_ | refine F.c (hI) ?_) | fail
              (refine kZ ?_; exact F.ret rfl)
            | false =>
              rw [if_neg (by simp)]
              rw [Bool.false_or] at hal
              by_cases hX : X ≤ 3000
              · rw [if_pos hX]
                rw [decide_eq_true hX] at hal
                subst hal
                repeat' first | refine s1 ?_ | (refine kR ?_; first | refine F.c (hF) ?_ | refine F.c (h1) ?_ | refine F.c (hE) ?_ | refine F.c (h2) ?_ | refine F.c (h3) ?_ | refine F.c (h4) ?_ | refine F.c (hI) ?_) | fail
                (refine kZ ?_; exact F.ret rfl)
              · rw [if_neg hX]
                rw [decide_eq_false hX] at hal
                subst hal
                repeat' first | refine s1 ?_ | (refine kR ?_; first | refine F.c (hF) ?_ | refine F.c (h1) ?_ | refine F.c (hE) ?_ | refine F.c (h2) ?_ | refine F.c (h3) ?_ | refine F.c (h4) ?_ | refine F.c (hI) ?_) | fail
                (refine kZ ?_; exact F.ret rfl)
          · rw [if_pos (by simp [hz])]
            repeat' first | refine s1 ?_ | (refine kR ?_; first | refine F.c (hF) ?_ | refine F.c (h1) ?_ | refine F.c (hE) ?_ | refine F.c (h2) ?_ | refine F.c (h3) ?_ | refine F.c (h4) ?_) | fail
            (refine kZ ?_; exact F.ret rfl)
        · rw [if_pos (by simp [hy])]
          repeat' first | refine s1 ?_ | (refine kR ?_; first | refine F.c (hF) ?_ | refine F.c (h1) ?_ | refine F.c (hE) ?_ | refine F.c (h2) ?_ | refine F.c (h3) ?_ | refine F.c (h4) ?_) | fail
          (refine kZ ?_; exact F.ret rfl)
      · rw [if_pos (by simp [hx])]
        repeat' first | refine s1 ?_ | (refine kR ?_; first | refine F.c (hF) ?_ | refine F.c (h1) ?_ | refine F.c (hE) ?_ | refine F.c (h2) ?_ | refine F.c (h3) ?_ | refine F.c (h4) ?_) | fail
        (refine kZ ?_; exact F.ret rfl)
    · rw [decide_eq_false hd] at hE ⊢
      rw [if_pos (by simp)]
      repeat' first | refine s1 ?_ | (refine kR ?_; first | refine F.c (hF) ?_ | refine F.c (h1) ?_ | refine F.c (hE) ?_ | refine F.c (h2) ?_ | refine F.c (h3) ?_ | refine F.c (h4) ?_) | fail
      (refine kZ ?_; exact F.ret rfl)
theorem fisP_ct (a b : Rep) : cnt ctM (fisP a b).1 ≤ 1000 := by
  unfold fisP
  by_cases h : fitR a b = true ∧ a.d = b.d
  · rw [if_pos h]
    have hf := h.1
    have hh := Fits.of hf
    have h5 := okQ_spec hh.ok
    have hda := hh.da
    cases hO : fiO a b with
    | none => rw [fiP_none hO]; simp [cnt]
    | some k =>
      rw [fiP_some hO]
      obtain ⟨m1, m2, m3, m4, m5⟩ := mor_ok (num_mor hf k)
      have := cnt_bd (c := ctM) (B := 66) (xs := numL a b k) fun x hx => by
        obtain ⟨v, hv, rfl⟩ := List.getElem_of_mem hx
        have e := (m5 v hv).1
        have e2 : (numL a b k).getD v default = (numL a b k)[v] := by simp [hv]
        rw [e2] at e
        simp only [isMat, isVec, Bool.and_eq_true, decide_eq_true_eq] at e
        simp only [ctM]
        omega
      dsimp only
      omega
  · rw [if_neg h]; simp [cnt]
end Go.Proofs.YtanembgijdkagaaGreat.V
