/- Contracts: the search for a split, indecomposable representations. -/
import Derived.Test.YtanembgijdkagaaGreatQzA103
import Derived.Test.YtanembgijdkagaaGreatQzA94
namespace Go.Proofs.YtanembgijdkagaaGreat.V
open V.Enc (enc)
open Go.RowKit G D
set_option linter.unusedVariables false
set_option linter.unusedSimpArgs false
set_option maxHeartbeats 4000000
set_option maxRecDepth 4000
attribute [local irreducible] AW ARg ARA ARet MRet ASil AC AM ARI
def fsO (r : Rep) : Option Nat := fstN (fun c => (spP r (numL r r c)).2.2) (mstH r r - 1) 1
def fsP (r : Rep) : List Spc × List Spc × Bool := match fsO r with
  | some k => spP r (numL r r k)
  | none => ([], [], false)
theorem fsP_some {r : Rep} {k : Nat} (h : fsO r = some k) : fsP r = spP r (numL r r k) := by unfold fsP; rw [h]
theorem fsP_none {r : Rep} (h : fsO r = none) : fsP r = ([], [], false) := by unfold fsP; rw [h]
theorem findSplit_a (r : Rep) (hr : isRep r = true) : AC Tryz.prog 101 [.agg (enc false r), ar false (homL r r)] [.dt true 2 (E true (fsP r).1), .dt true 2 (E true (fsP r).2.1), .b (fsP r).2.2] := by
  refine AC.go Tryz.func101 Tryz.ntmps101 rfl rfl fun w0 hw => ?_; simp [WfL, WfA, E_length, Enc.enc, In64] at hw
  have hf := fitR_refl hr
  have h := Fits.of hf
  have hp := isF_pos h.f
  have hle := rkE_le r r hf
  have hlen := hkL_len r r hf
  have hll := homL_len r r
  have hC := countHoms_a r.p (hkL r r).length hp (by omega)
  have hN := fun (k : Nat) (hk : k < 3000) => numbered_a r r k hf (by omega)
  have hI := fun k : Nat => implsplitBy_a r (numL r r k) (num_mor hf k)
  obtain ⟨hmn, hm1, hm3⟩ := mstH_eq hf
  have hO : fsO r = fstN (fun c => (spP r (numL r r c)).2.2) (mstH r r - 1) 1 := rfl
  have hS := fun k => fsP_some (r := r) (k := k)
  have hE := fsP_none (r := r)
  rw [← hll] at hC hmn
  generalize fsP r = R at hS hE ⊢
  generalize fsO r = O at hO hS hE
  generalize homL r r = HL at *
  generalize cntH r.p HL.length = X at *
  generalize mstH r r = n at *
  repeat' first | refine s1 ?_ | fail
  refine F.loop (σ := Nat) [4, 5, 6, 7, 8, 9, 10, 11, 12, 13, 14, 15, 16, 17, 18, 19, 20, 21, 22, 23, 24, 25, 26, 27, 28, 29, 30, 31, 32, 33, 34] (fun k => [(7, .i k)]) (fun _ => []) (fun k => 1 ≤ k ∧ k ≤ n ∧ O = fstN (fun c => (spP r (numL r r c)).2.2) (n - k) k) (fun k => n - k) 1 ⟨rfl, trivial⟩ trivial ⟨Nat.le_refl _, hm1, hO⟩ ?_
  rintro k ⟨k0, k1, k2⟩
  by_cases hk : k < n
  · have hNk := hN k (by omega)
    have hIk := hI k
    cases hx : (spP r (numL r r k)).2.2 with
    | true =>
      rw [fstN_hit (P := fun c => (spP r (numL r r c)).2.2) hk hx] at k2
      have hR := hS k k2
      subst hR
      rw [hx] at hIk ⊢
      generalize spP r (numL r r k) = Z at hIk ⊢
      obtain ⟨Z1, Z2, Z3⟩ := Z
      dsimp only at hIk ⊢
      generalize numL r r k = M at hNk hIk
      repeat' first | refine s1 ?_ | (refine kR ?_; first | refine F.c (hC) ?_ | refine F.sil (A.min2 rfl rfl) rfl rfl ?_) | fail
      refine AW.draw 14 G.mixed (by kernel_rfl) ?_
      refine dL 0 ?_
      refine dL 1 ?_
      refine dL 2 ?_
      refine dP 3 ?_
      refine dP 4 ?_
      refine dO 5 true ?_
      first | refine s1 ?_ | refine F.c (hNk) ?_ | refine F.c (hIk) ?_
      refine ARg.nil (ATh.normal ?_)
      refine dO 6 true ?_
      first | refine s1 ?_ | refine F.c (hNk) ?_ | refine F.c (hIk) ?_
      refine ARg.nil (ATh.normal ?_)
      refine dP 7 ?_
      refine dP 8 ?_
      refine dP 9 ?_
      refine dP 10 ?_
      refine dP 11 ?_
      refine dP 12 ?_
      refine dP 13 ?_
      refine dN ?_
      rotate_left
      all_goals
        repeat' first | refine s1 ?_ | fail
        (refine kZ ?_; exact F.ret rfl)
    | false =>
      rw [fstN_miss (P := fun c => (spP r (numL r r c)).2.2) hk hx] at k2
      rw [hx] at hIk
      generalize spP r (numL r r k) = Z at hIk
      obtain ⟨Z1, Z2, Z3⟩ := Z
      dsimp only at hIk
      generalize numL r r k = M at hNk hIk
      repeat' first | refine s1 ?_ | (refine kR ?_; first | refine F.c (hC) ?_ | refine F.sil (A.min2 rfl rfl) rfl rfl ?_) | fail
      refine AW.draw 14 G.mixed (by kernel_rfl) ?_
      refine dL 0 ?_
      refine dL 1 ?_
      refine dL 2 ?_
      refine dP 3 ?_
      refine dP 4 ?_
      refine dO 5 true ?_
      first | refine s1 ?_ | refine F.c (hNk) ?_ | refine F.c (hIk) ?_
      refine ARg.nil (ATh.normal ?_)
      refine dO 6 true ?_
      first | refine s1 ?_ | refine F.c (hNk) ?_ | refine F.c (hIk) ?_
      refine ARg.nil (ATh.normal ?_)
      refine dP 7 ?_
      refine dP 8 ?_
      refine dP 9 ?_
      refine dP 10 ?_
      refine dP 11 ?_
      refine dP 12 ?_
      refine dP 13 ?_
      refine dN ?_
      rotate_left
      all_goals
        repeat' first | refine s1 ?_ | fail
        exact ⟨k + 1, F.fit ⟨rfl, trivial⟩ trivial, ⟨by omega, by omega, k2⟩, by omega⟩
  · obtain rfl : k = n := by omega
    rw [Nat.sub_self] at k2
    have hR := hE k2
    subst hR
    repeat' first | refine s1 ?_ | (refine kR ?_; first | refine F.c (hC) ?_ | refine F.sil (A.min2 rfl rfl) rfl rfl ?_) | fail
    (refine kZ ?_; exact F.ret rfl)
def fssP (r : Rep) : List Spc × List Spc × Bool := if isRep r = true then fsP r else ([], [], false)
theorem implFindSplit_a (r : Rep) : AC Tryz.prog 36 [.agg (enc false r)] [.dt true 2 (E true (fssP r).1), .dt true 2 (E true (fssP r).2.1), .b (fssP r).2.2] := by
  refine AC.go Tryz.func36 Tryz.ntmps36 rfl rfl fun w0 hw => ?_; simp [WfL, WfA, E_length, Enc.enc, In64] at hw
  have hF := implIsRep_a r
  unfold fssP
  cases hr : isRep r with
  | false =>
    rw [hr] at hF
    rw [if_neg (by simp)]
    repeat' first | refine s1 ?_ | (refine kR ?_; first | refine F.c (hF) ?_) | fail
    (refine kZ ?_; exact F.ret rfl)
  | true =>
    rw [hr] at hF
    rw [if_pos rfl]
    have hB := homBasis_a r r (fitR_refl hr)
    have hI := findSplit_a r hr
    generalize fsP r = R at hI ⊢
    obtain ⟨R1, R2, R3⟩ := R
    dsimp only at hI ⊢
    generalize homL r r = HL at hB hI
    repeat' first | refine s1 ?_ | (refine kR ?_; first | refine F.c (hF) ?_) | fail
    refine AW.draw 11 G.mixed (by kernel_rfl) ?_
    refine dL 0 ?_
    refine dL 1 ?_
    refine dL 2 ?_
    refine dO 3 true ?_
    first | refine s1 ?_ | refine F.c (hB) ?_ | refine F.c (hI) ?_
    refine ARg.nil (ATh.normal ?_)
    refine dO 4 true ?_
    first | refine s1 ?_ | refine F.c (hB) ?_ | refine F.c (hI) ?_
    refine ARg.nil (ATh.normal ?_)
    refine dP 5 ?_
    refine dP 6 ?_
    refine dP 7 ?_
    refine dP 8 ?_
    refine dP 9 ?_
    refine dP 10 ?_
    refine dN ?_
    rotate_left
    all_goals
      repeat' first | refine s1 ?_ | fail
      (refine kZ ?_; exact F.ret rfl)
def allS (r : Rep) : Bool := (fsP r).2.2 || decide (cntH r.p (hkL r r).length ≤ 3000)
theorem l16Find_a (r : Rep) (hr : isRep r = true) : AC Tryz.prog 84 [.agg (enc false r)] [.dt true 2 (E true (fsP r).1), .dt true 2 (E true (fsP r).2.1), .b (fsP r).2.2, .b (allS r)] := by
  refine AC.go Tryz.func84 Tryz.ntmps84 rfl rfl fun w0 hw => ?_; simp [WfL, WfA, E_length, Enc.enc, In64] at hw
  have hf := fitR_refl hr
  have h := Fits.of hf
  have hp := isF_pos h.f
  have hle := rkE_le r r hf
  have hlen := hkL_len r r hf
  have hll := homL_len r r
  have hB := specHomBasis_a r r
  unfold homP at hB
  rw [if_pos hf] at hB
  dsimp only at hB
  have hM := specCountMorphisms_a r r
  have hN := fun (k : Nat) (hk : k < 3000) => l11Number_a r r k hf (by omega)
  have hI := fun k : Nat => specSplitBy_a r (numL r r k)
  obtain ⟨hmn, hm1, hm3⟩ := mstH_eq hf
  have hO : fsO r = fstN (fun c => (spP r (numL r r c)).2.2) (mstH r r - 1) 1 := rfl
  have hS := fun k => fsP_some (r := r) (k := k)
  have hE := fsP_none (r := r)
  have hcb := cntH_bd hp (hkL r r).length
  have hcm : cntM r r = if cntH r.p (hkL r r).length ≤ 100000 then cntH r.p (hkL r r).length else -2 := by unfold cntM; rw [if_pos hf]
  unfold allS
  generalize cntM r r = y at hM hcm
  generalize fsP r = R at hS hE ⊢
  generalize fsO r = O at hO hS hE
  generalize homL r r = HL at *
  generalize cntH r.p (hkL r r).length = X at *
  generalize mstH r r = n at *
  have h3 : (0 ≤ y ∧ y ≤ 3000 ∧ X = y ∧ y = (n : Int)) ∨ (y < 0 ∧ 3000 < X ∧ n = 3000 ∧ y ≠ 3000) ∨ (3000 < y ∧ 3000 < X ∧ n = 3000 ∧ ¬ y < 0) := by
    by_cases hx : X ≤ 100000
    · rw [if_pos hx] at hcm; omega
    · rw [if_neg hx] at hcm; omega
  clear hcm
  rcases h3 with ⟨y1, y2, y3, y4⟩ | ⟨y1, y2, y3, y4⟩ | ⟨y1, y2, y3, y4⟩
  all_goals
    repeat' first | refine s1 ?_ | (refine kR ?_; first | refine F.c (hB) ?_ | refine F.c (hM) ?_) | fail
    try rw [show (3000 : Int) = (n : Int) by omega]
    refine F.loop (σ := Nat) [2, 3, 4, 5, 10, 11, 12, 13, 30, 31, 32, 33, 34, 35, 36, 37, 38, 39, 40, 41, 42, 43, 44, 45, 46, 47, 48] (fun k => [(10, .i k)]) (fun _ => []) (fun k => 1 ≤ k ∧ k ≤ n ∧ O = fstN (fun c => (spP r (numL r r c)).2.2) (n - k) k) (fun k => n - k) 1 ⟨rfl, trivial⟩ trivial ⟨Nat.le_refl _, hm1, hO⟩ ?_
    rintro k ⟨k0, k1, k2⟩
    by_cases hk : k < n
    · have hNk := hN k (by omega)
      have hIk := hI k
      cases hx : (spP r (numL r r k)).2.2 with
      | true =>
        rw [fstN_hit (P := fun c => (spP r (numL r r c)).2.2) hk hx] at k2
        have hR := hS k k2
        subst hR
        rw [hx] at hIk ⊢
        generalize spP r (numL r r k) = Z at hIk ⊢
        obtain ⟨Z1, Z2, Z3⟩ := Z
        dsimp only at hIk ⊢
        generalize numL r r k = M at hNk hIk
        repeat' first | refine s1 ?_ | fail
        refine AW.draw 14 G.mixed (by kernel_rfl) ?_
        refine dL 0 ?_
        refine dL 1 ?_
        refine dL 2 ?_
        refine dP 3 ?_
        refine dP 4 ?_
        refine dO 5 true ?_
        first | refine s1 ?_ | refine F.c (hNk) ?_ | refine F.c (hIk) ?_
        refine ARg.nil (ATh.normal ?_)
        refine dO 6 true ?_
        first | refine s1 ?_ | refine F.c (hNk) ?_ | refine F.c (hIk) ?_
        refine ARg.nil (ATh.normal ?_)
        refine dP 7 ?_
        refine dP 8 ?_
        refine dP 9 ?_
        refine dP 10 ?_
        refine dP 11 ?_
        refine dP 12 ?_
        refine dP 13 ?_
        refine dN ?_
        rotate_left
        all_goals
          repeat' first | refine s1 ?_ | fail
          refine F.ret ?_
          simp
      | false =>
        rw [fstN_miss (P := fun c => (spP r (numL r r c)).2.2) hk hx] at k2
        rw [hx] at hIk
        generalize spP r (numL r r k) = Z at hIk
        obtain ⟨Z1, Z2, Z3⟩ := Z
        dsimp only at hIk
        generalize numL r r k = M at hNk hIk
        repeat' first | refine s1 ?_ | fail
        refine AW.draw 14 G.mixed (by kernel_rfl) ?_
        refine dL 0 ?_
        refine dL 1 ?_
        refine dL 2 ?_
        refine dP 3 ?_
        refine dP 4 ?_
        refine dO 5 true ?_
        first | refine s1 ?_ | refine F.c (hNk) ?_ | refine F.c (hIk) ?_
        refine ARg.nil (ATh.normal ?_)
        refine dO 6 true ?_
        first | refine s1 ?_ | refine F.c (hNk) ?_ | refine F.c (hIk) ?_
        refine ARg.nil (ATh.normal ?_)
        refine dP 7 ?_
        refine dP 8 ?_
        refine dP 9 ?_
        refine dP 10 ?_
        refine dP 11 ?_
        refine dP 12 ?_
        refine dP 13 ?_
        refine dN ?_
        rotate_left
        all_goals
          repeat' first | refine s1 ?_ | fail
          exact ⟨k + 1, F.fit ⟨rfl, trivial⟩ trivial, ⟨by omega, by omega, k2⟩, by omega⟩
    · obtain rfl : k = n := by omega
      rw [Nat.sub_self] at k2
      have hR := hE k2
      subst hR
      first
        | rw [show ((([], [], false) : List Spc × List Spc × Bool).2.2 || decide (X ≤ 3000)) = decide (y = y) by (simp; omega)]
        | rw [show ((([], [], false) : List Spc × List Spc × Bool).2.2 || decide (X ≤ 3000)) = decide ((k : Int) = y) by (simp; omega)]
        | rw [show ((([], [], false) : List Spc × List Spc × Bool).2.2 || decide (X ≤ (k : Int))) = decide ((k : Int) = y) by (simp; omega)]
      repeat' first | refine s1 ?_ | fail
      (refine kZ ?_; exact F.ret rfl)
theorem specFindSplit_a (r : Rep) : AC Tryz.prog 35 [.agg (enc false r)] [.dt true 2 (E true (fssP r).1), .dt true 2 (E true (fssP r).2.1), .b (fssP r).2.2] := by
  refine AC.go Tryz.func35 Tryz.ntmps35 rfl rfl fun w0 hw => ?_; simp [WfL, WfA, E_length, Enc.enc, In64] at hw
  have hF := specIsRep_a r
  unfold fssP
  cases hr : isRep r with
  | false =>
    rw [hr] at hF
    rw [if_neg (by simp)]
    repeat' first | refine s1 ?_ | (refine kR ?_; first | refine F.c (hF) ?_) | fail
    (refine kZ ?_; exact F.ret rfl)
  | true =>
    rw [hr] at hF
    rw [if_pos rfl]
    have hI := l16Find_a r hr
    generalize allS r = z at hI
    generalize fsP r = R at hI ⊢
    obtain ⟨R1, R2, R3⟩ := R
    dsimp only at hI ⊢
    repeat' first | refine s1 ?_ | (refine kR ?_; first | refine F.c (hF) ?_ | refine F.c (hI) ?_) | fail
    (refine kZ ?_; exact F.ret rfl)
def indI (r : Rep) : Int := if isRep r = true then (if r.d.sum = 0 then 0 else if (fsP r).2.2 = true then 0 else if cntH r.p (hkL r r).length ≤ 3000 then 1 else -1) else -1
theorem isIndec_a (r : Rep) (hr : isRep r = true) : AC Tryz.prog 86 [.agg (enc false r)] [.i (indI r)] := by
  refine AC.go Tryz.func86 Tryz.ntmps86 rfl rfl fun w0 hw => ?_; simp [WfL, WfA, E_length, Enc.enc, In64] at hw
  unfold indI
  rw [if_pos hr]
  have hf := fitR_refl hr
  have hp := isF_pos (Fits.of hf).f
  have hl := homD_len r r hf
  have hll := homL_len r r
  have hB := homBasis_a r r hf
  have hI := findSplit_a r hr
  have hC := countHoms_a r.p (hkL r r).length hp (by omega)
  obtain ⟨r1, r2, r3, r4⟩ := isRep_spec hr
  obtain ⟨c1, c2, c3, c4⟩ := areDims_spec r2
  have h5 := okQ_spec c1
  have hS := sumOf_a r.d (by omega) (fun j hj => by have : 0 ≤ r.d.getD j default ∧ r.d.getD j default ≤ 4 := allIn_spec c3 hj; omega)
  rw [← hll] at hC ⊢
  generalize fsP r = R at hI ⊢
  obtain ⟨R1, R2, R3⟩ := R
  dsimp only at hI ⊢
  generalize homL r r = HL at *
  generalize cntH r.p HL.length = X at *
  generalize r.d.sum = sm at *
  by_cases hs : sm = 0
  · rw [if_pos hs]
    repeat' first | refine s1 ?_ | (refine kR ?_; first | refine F.c (hB) ?_ | refine F.c (hI) ?_ | refine F.c (hS) ?_) | fail
    (refine kZ ?_; exact F.ret rfl)
  · rw [if_neg hs]
    cases R3 with
    | true =>
      rw [if_pos rfl]
      repeat' first | refine s1 ?_ | (refine kR ?_; first | refine F.c (hB) ?_ | refine F.c (hI) ?_ | refine F.c (hS) ?_) | fail
      (refine kZ ?_; exact F.ret rfl)
    | false =>
      rw [if_neg (by simp)]
      by_cases hx : X ≤ 3000
      · rw [if_pos hx]
        repeat' first | refine s1 ?_ | (refine kR ?_; first | refine F.c (hB) ?_ | refine F.c (hI) ?_ | refine F.c (hS) ?_ | refine F.c (hC) ?_) | fail
        (refine kZ ?_; exact F.ret rfl)
      · rw [if_neg hx]
        repeat' first | refine s1 ?_ | (refine kR ?_; first | refine F.c (hB) ?_ | refine F.c (hI) ?_ | refine F.c (hS) ?_ | refine F.c (hC) ?_) | fail
        (refine kZ ?_; exact F.ret rfl)
theorem implIsIndecomposable_a (r : Rep) : AC Tryz.prog 28 [.agg (enc false r)] [.i (indI r)] := by
  refine AC.go Tryz.func28 Tryz.ntmps28 rfl rfl fun w0 hw => ?_; simp [WfL, WfA, E_length, Enc.enc, In64] at hw
  have hF := implIsRep_a r
  cases hr : isRep r with
  | false =>
    rw [hr] at hF
    unfold indI
    rw [if_neg (by simp [hr])]
    repeat' first | refine s1 ?_ | (refine kR ?_; first | refine F.c (hF) ?_) | fail
    (refine kZ ?_; exact F.ret rfl)
  | true =>
    rw [hr] at hF
    have hI := isIndec_a r hr
    generalize indI r = x at hI ⊢
    repeat' first | refine s1 ?_ | (refine kR ?_; first | refine F.c (hF) ?_ | refine F.c (hI) ?_) | fail
    (refine kZ ?_; exact F.ret rfl)
theorem specIsIndecomposable_a (r : Rep) : AC Tryz.prog 27 [.agg (enc false r)] [.i (indI r)] := by
  refine AC.go Tryz.func27 Tryz.ntmps27 rfl rfl fun w0 hw => ?_; simp [WfL, WfA, E_length, Enc.enc, In64] at hw
  have hF := specIsRep_a r
  unfold indI
  cases hr : isRep r with
  | false =>
    rw [hr] at hF
    rw [if_neg (by simp)]
    repeat' first | refine s1 ?_ | (refine kR ?_; first | refine F.c (hF) ?_) | fail
    (refine kZ ?_; exact F.ret rfl)
  | true =>
    rw [hr] at hF
    rw [if_pos rfl]
    have hT := totalOf_a r hr
    have hI := l16Find_a r hr
    have hal : allS r = ((fsP r).2.2 || decide (cntH r.p (hkL r r).length ≤ 3000)) := rfl
    generalize allS r = al at hI hal
    generalize fsP r = R at hI hal ⊢
    obtain ⟨R1, R2, R3⟩ := R
    dsimp only at hI hal ⊢
    generalize cntH r.p (hkL r r).length = X at *
    generalize r.d.sum = sm at *
    by_cases hs : sm = 0
    · rw [if_pos hs]
      repeat' first | refine s1 ?_ | (refine kR ?_; first | refine F.c (hF) ?_ | refine F.c (hT) ?_) | fail
      (refine kZ ?_; exact F.ret rfl)
    · rw [if_neg hs]
      cases R3 with
      | true =>
        rw [if_pos rfl]
        repeat' first | refine s1 ?_ | (refine kR ?_; first | refine F.c (hF) ?_ | refine F.c (hT) ?_ | refine F.c (hI) ?_) | fail
        (refine kZ ?_; exact F.ret rfl)
      | false =>
        rw [if_neg (by simp)]
        rw [Bool.false_or] at hal
        by_cases hx : X ≤ 3000
        · rw [if_pos hx]
          rw [decide_eq_true hx] at hal
          subst hal
          repeat' first | refine s1 ?_ | (refine kR ?_; first | refine F.c (hF) ?_ | refine F.c (hT) ?_ | refine F.c (hI) ?_) | fail
          (refine kZ ?_; exact F.ret rfl)
        · rw [if_neg hx]
          rw [decide_eq_false hx] at hal
          subst hal
          repeat' first | refine s1 ?_ | (refine kR ?_; first | refine F.c (hF) ?_ | refine F.c (hT) ?_ | refine F.c (hI) ?_) | fail
          (refine kZ ?_; exact F.ret rfl)
theorem fssP_ct (r : Rep) : cnt ctS (fssP r).1 + cnt lnS (fssP r).1 + (cnt ctS (fssP r).2.1 + cnt lnS (fssP r).2.1) ≤ 2000 := by
  unfold fssP
  by_cases hr : isRep r = true
  · rw [if_pos hr]
    cases hO : fsO r with
    | none => rw [fsP_none hO]; simp [cnt]
    | some k => rw [fsP_some hO]; exact spP_ct _ _
  · rw [if_neg hr]; simp [cnt]
end Go.Proofs.YtanembgijdkagaaGreat.V
