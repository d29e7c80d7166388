/- Texts that the proof needs: A104, A121. -/
import Derived.Test.YtbcfbcfiahmncaaGreatQddA94
namespace Go.Proofs.YtbcfbcfiahmncaaGreat.V
open Go.RowKit G D
set_option linter.unusedVariables false
set_option linter.unusedSimpArgs false
set_option maxHeartbeats 4000000
set_option maxRecDepth 4000
attribute [local irreducible] AW ARg ARA ARet MRet ASil AC AM ARI
def fsO (r : Rep) : Option Nat := fstN (fun c => (spP r (numL r r c)).2.2) (mstH r r - 1) 1
def fsP (r : Rep) : List Spc × List Spc × Bool := match fsO r with
 | some k => spP r (numL r r k)
 | none => ([], [], false)
theorem fsP_some {r : Rep} {k : Nat} (h : fsO r = some k) : fsP r = spP r (numL r r k) := by unfold fsP; rw [h]
theorem fsP_none {r : Rep} (h : fsO r = none) : fsP r = ([], [], false) := by unfold fsP; rw [h]
theorem findSplit_a (r : Rep) (hr : isRep r = true) : AC Tryz.prog 84 [.agg (enc false r), ar false (homL r r)] [.dt true 2 (E true (fsP r).1), .dt true 2 (E true (fsP r).2.1), .b (fsP r).2.2] := by
 refine AC.go Tryz.func84 Tryz.ntmps84 rfl rfl fun w0 hw => ?_; simp [WfL, WfA, E_length, Enc.enc, In64] at hw
 have hf := fitR_refl hr
 have h := Fits.of hf
 have hp := isF_pos h.f
 have hle := rkE_le r r hf
 have hlen := hkL_len r r hf
 have hll := homL_len r r
 have hC := countHoms_a r.p (hkL r r).length hp (by omega)
 have hN := fun (k : Nat) (hk : k < 3000) => numbered_a r r k hf (by omega)
 have hI := fun k : Nat => implsplitBy_a r (numL r r k) (num_mor hf k)
 obtain ⟨hmn, hm1, hm3⟩ := mstH_eq hf
 have hO : fsO r = fstN (fun c => (spP r (numL r r c)).2.2) (mstH r r - 1) 1 := rfl
 have hS := fun k => fsP_some (r := r) (k := k)
 have hE := fsP_none (r := r)
 rw [← hll] at hC hmn
 generalize fsP r = R at hS hE ⊢
 generalize fsO r = O at hO hS hE
 generalize homL r r = HL at *
 generalize cntH r.p HL.length = X at *
 generalize mstH r r = n at *
 repeat' first | refine s1 ?_ | fail
 refine F.loop (σ := Nat) [4, 5, 6, 7, 8, 9, 10, 11, 12, 13, 14, 15, 16, 17, 18, 19, 20, 21, 22, 23, 24, 25, 26, 27, 28, 29, 30, 31, 32, 33, 34] (fun k => [(7, .i k)]) (fun _ => []) (fun k => 1 ≤ k ∧ k ≤ n ∧ O = fstN (fun c => (spP r (numL r r c)).2.2) (n - k) k) (fun k => n - k) 1 ⟨rfl, trivial⟩ trivial ⟨Nat.le_refl _, hm1, hO⟩ ?_
 rintro k ⟨k0, k1, k2⟩
 by_cases hk : k < n
 ·have hNk := hN k (by omega)
  have hIk := hI k
  cases hx : (spP r (numL r r k)).2.2 with
  | true =>
   rw [fstN_hit (P := fun c => (spP r (numL r r c)).2.2) hk hx] at k2
   have hR := hS k k2
   subst hR
   rw [hx] at hIk ⊢
   generalize spP r (numL r r k) = Z at hIk ⊢
   obtain ⟨Z1, Z2, Z3⟩ := Z
   dsimp only at hIk ⊢
   generalize numL r r k = M at hNk hIk
   repeat' first | refine s1 ?_ | (refine kR ?_; first | refine F.c (hC) ?_ | refine F.sil (A.min2 rfl rfl) rfl rfl ?_) | fail
   refine AW.draw 14 G.mixed (by kernel_rfl) ?_
   refine dL 0 ?_
   refine dL 1 ?_
   refine dL 2 ?_
   refine dP 3 ?_
   refine dP 4 ?_
   refine dO 5 true ?_
   first | refine s1 ?_ | refine F.c (hNk) ?_ | refine F.c (hIk) ?_
   refine tN ?_
   refine dO 6 true ?_
   first | refine s1 ?_ | refine F.c (hNk) ?_ | refine F.c (hIk) ?_
   refine tN ?_
   refine dP 7 ?_
   refine dP 8 ?_
   refine dP 9 ?_
   refine dP 10 ?_
   refine dP 11 ?_
   refine dP 12 ?_
   refine dP 13 ?_
   refine dN ?_
   rotate_left
   all_goals
    repeat' first | refine s1 ?_ | fail
    (refine kZ ?_; exact F.ret rfl)
  | false =>
   rw [fstN_miss (P := fun c => (spP r (numL r r c)).2.2) hk hx] at k2
   rw [hx] at hIk
   generalize spP r (numL r r k) = Z at hIk
   obtain ⟨Z1, Z2, Z3⟩ := Z
   dsimp only at hIk
   generalize numL r r k = M at hNk hIk
   repeat' first | refine s1 ?_ | (refine kR ?_; first | refine F.c (hC) ?_ | refine F.sil (A.min2 rfl rfl) rfl rfl ?_) | fail
   refine AW.draw 14 G.mixed (by kernel_rfl) ?_
   refine dL 0 ?_
   refine dL 1 ?_
   refine dL 2 ?_
   refine dP 3 ?_
   refine dP 4 ?_
   refine dO 5 true ?_
   first | refine s1 ?_ | refine F.c (hNk) ?_ | refine F.c (hIk) ?_
   refine tN ?_
   refine dO 6 true ?_
   first | refine s1 ?_ | refine F.c (hNk) ?_ | refine F.c (hIk) ?_
   refine tN ?_
   refine dP 7 ?_
   refine dP 8 ?_
   refine dP 9 ?_
   refine dP 10 ?_
   refine dP 11 ?_
   refine dP 12 ?_
   refine dP 13 ?_
   refine dN ?_
   rotate_left
   all_goals
    repeat' first | refine s1 ?_ | fail
    exact ⟨k + 1, F.fit ⟨rfl, trivial⟩ trivial, ⟨by omega, by omega, k2⟩, by omega⟩
 ·obtain rfl : k = n := by omega
  rw [Nat.sub_self] at k2
  have hR := hE k2
  subst hR
  repeat' first | refine s1 ?_ | (refine kR ?_; first | refine F.c (hC) ?_ | refine F.sil (A.min2 rfl rfl) rfl rfl ?_) | fail
  (refine kZ ?_; exact F.ret rfl)
def allS (r : Rep) : Bool := (fsP r).2.2 || decide (cntH r.p (hkL r r).length ≤ 3000)
theorem l16Find_a (r : Rep) (hr : isRep r = true) : AC Tryz.prog 65 [.agg (enc false r)] [.dt true 2 (E true (fsP r).1), .dt true 2 (E true (fsP r).2.1), .b (fsP r).2.2, .b (allS r)] := by
 refine AC.go Tryz.func65 Tryz.ntmps65 rfl rfl fun w0 hw => ?_; simp [WfL, WfA, E_length, Enc.enc, In64] at hw
 have hf := fitR_refl hr
 have h := Fits.of hf
 have hp := isF_pos h.f
 have hle := rkE_le r r hf
 have hlen := hkL_len r r hf
 have hll := homL_len r r
 have hB := specHomBasis_a r r
 unfold homP at hB
 rw [if_pos hf] at hB
 dsimp only at hB
 have hM := specCountMorphisms_a r r
 have hN := fun (k : Nat) (hk : k < 3000) => l11Number_a r r k hf (by omega)
 have hI := fun k : Nat => specSplitBy_a r (numL r r k)
 obtain ⟨hmn, hm1, hm3⟩ := mstH_eq hf
 have hO : fsO r = fstN (fun c => (spP r (numL r r c)).2.2) (mstH r r - 1) 1 := rfl
 have hS := fun k => fsP_some (r := r) (k := k)
 have hE := fsP_none (r := r)
 have hcb := cntH_bd hp (hkL r r).length
 have hcm : cntM r r = if cntH r.p (hkL r r).length ≤ 100000 then cntH r.p (hkL r r).length else -2 := by unfold cntM; rw [if_pos hf]
 unfold allS
 generalize cntM r r = y at hM hcm
 generalize fsP r = R at hS hE ⊢
 generalize fsO r = O at hO hS hE
 generalize homL r r = HL at *
 generalize cntH r.p (hkL r r).length = X at *
 generalize mstH r r = n at *
 have h3 : (0 ≤ y ∧ y ≤ 3000 ∧ X = y ∧ y = (n : Int)) ∨ (y < 0 ∧ 3000 < X ∧ n = 3000 ∧ y ≠ 3000) ∨ (3000 < y ∧ 3000 < X ∧ n = 3000 ∧ ¬ y < 0) := by
  by_cases hx : X ≤ 100000
  ·rw [if_pos hx] at hcm; omega
  ·rw [if_neg hx] at hcm; omega
 clear hcm
 rcases h3 with ⟨y1, y2, y3, y4⟩ | ⟨y1, y2, y3, y4⟩ | ⟨y1, y2, y3, y4⟩
 all_goals
  repeat' first | refine s1 ?_ | (refine kR ?_; first | refine F.c (hB) ?_ | refine F.c (hM) ?_) | fail
  try rw [show (3000 : Int) = (n : Int) by omega]
  refine F.loop (σ := Nat) [2, 3, 4, 5, 10, 11, 12, 13, 30, 31, 32, 33, 34, 35, 36, 37, 38, 39, 40, 41, 42, 43, 44, 45, 46, 47, 48] (fun k => [(10, .i k)]) (fun _ => []) (fun k => 1 ≤ k ∧ k ≤ n ∧ O = fstN (fun c => (spP r (numL r r c)).2.2) (n - k) k) (fun k => n - k) 1 ⟨rfl, trivial⟩ trivial ⟨Nat.le_refl _, hm1, hO⟩ ?_
  rintro k ⟨k0, k1, k2⟩
  by_cases hk : k < n
  ·have hNk := hN k (by omega)
   have hIk := hI k
   cases hx : (spP r (numL r r k)).2.2 with
   | true =>
    rw [fstN_hit (P := fun c => (spP r (numL r r c)).2.2) hk hx] at k2
    have hR := hS k k2
    subst hR
    rw [hx] at hIk ⊢
    generalize spP r (numL r r k) = Z at hIk ⊢
    obtain ⟨Z1, Z2, Z3⟩ := Z
    dsimp only at hIk ⊢
    generalize numL r r k = M at hNk hIk
    repeat' first | refine s1 ?_ | fail
    refine AW.draw 14 G.mixed (by kernel_rfl) ?_
    refine dL 0 ?_
    refine dL 1 ?_
    refine dL 2 ?_
    refine dP 3 ?_
    refine dP 4 ?_
    refine dO 5 true ?_
    first | refine s1 ?_ | refine F.c (hNk) ?_ | refine F.c (hIk) ?_
    refine tN ?_
    refine dO 6 true ?_
    first | refine s1 ?_ | refine F.c (hNk) ?_ | refine F.c (hIk) ?_
    refine tN ?_
    refine dP 7 ?_
    refine dP 8 ?_
    refine dP 9 ?_
    refine dP 10 ?_
    refine dP 11 ?_
    refine dP 12 ?_
    refine dP 13 ?_
    refine dN ?_
    rotate_left
    all_goals
     repeat' first | refine s1 ?_ | fail
     refine F.ret ?_
     simp
   | false =>
    rw [fstN_miss (P := fun c => (spP r (numL r r c)).2.2) hk hx] at k2
    rw [hx] at hIk
    generalize spP r (numL r r k) = Z at hIk
    obtain ⟨Z1, Z2, Z3⟩ := Z
    dsimp only at hIk
    generalize numL r r k = M at hNk hIk
    repeat' first | refine s1 ?_ | fail
    refine AW.draw 14 G.mixed (by kernel_rfl) ?_
    refine dL 0 ?_
    refine dL 1 ?_
    refine dL 2 ?_
    refine dP 3 ?_
    refine dP 4 ?_
    refine dO 5 true ?_
    first | refine s1 ?_ | refine F.c (hNk) ?_ | refine F.c (hIk) ?_
    refine tN ?_
    refine dO 6 true ?_
    first | refine s1 ?_ | refine F.c (hNk) ?_ | refine F.c (hIk) ?_
    refine tN ?_
    refine dP 7 ?_
    refine dP 8 ?_
    refine dP 9 ?_
    refine dP 10 ?_
    refine dP 11 ?_
    refine dP 12 ?_
    refine dP 13 ?_
    refine dN ?_
    rotate_left
    all_goals
     repeat' first | refine s1 ?_ | fail
     exact ⟨k + 1, F.fit ⟨rfl, trivial⟩ trivial, ⟨by omega, by omega, k2⟩, by omega⟩
  ·obtain rfl : k = n := by omega
   rw [Nat.sub_self] at k2
   have hR := hE k2
   subst hR
   first
    | rw [show ((([], [], false) : List Spc × List Spc × Bool).2.2 || decide (X ≤ 3000)) = decide (y = y) by (simp; omega)]
    | rw [show ((([], [], false) : List Spc × List Spc × Bool).2.2 || decide (X ≤ 3000)) = decide ((k : Int) = y) by (simp; omega)]
    | rw [show ((([], [], false) : List Spc × List Spc × Bool).2.2 || decide (X ≤ (k : Int))) = decide ((k : Int) = y) by (simp; omega)]
   repeat' first | refine s1 ?_ | fail
   (refine kZ ?_; exact F.ret rfl)
def indI (r : Rep) : Int := if isRep r = true then (if r.d.sum = 0 then 0 else if (fsP r).2.2 = true then 0 else if cntH r.p (hkL r r).length ≤ 3000 then 1 else -1) else -1
theorem isIndec_a (r : Rep) (hr : isRep r = true) : AC Tryz.prog 72 [.agg (enc false r)] [.i (indI r)] := by
 refine AC.go Tryz.func72 Tryz.ntmps72 rfl rfl fun w0 hw => ?_; simp [WfL, WfA, E_length, Enc.enc, In64] at hw
 unfold indI
 rw [if_pos hr]
 have hf := fitR_refl hr
 have hp := isF_pos (Fits.of hf).f
 have hl := homD_len r r hf
 have hll := homL_len r r
 have hB := homBasis_a r r hf
 have hI := findSplit_a r hr
 have hC := countHoms_a r.p (hkL r r).length hp (by omega)
 obtain ⟨r1, r2, r3, r4⟩ := isRep_spec hr
 obtain ⟨c1, c2, c3, c4⟩ := areDims_spec r2
 have h5 := okQ_spec c1
 have hS := sumOf_a r.d (by omega) (fun j hj => by have : 0 ≤ r.d.getD j default ∧ r.d.getD j default ≤ 4 := allIn_spec c3 hj; omega)
 rw [← hll] at hC ⊢
 generalize fsP r = R at hI ⊢
 obtain ⟨R1, R2, R3⟩ := R
 dsimp only at hI ⊢
 generalize homL r r = HL at *
 generalize cntH r.p HL.length = X at *
 generalize r.d.sum = sm at *
 by_cases hs : sm = 0
 ·rw [if_pos hs]
  repeat' first | refine s1 ?_ | (refine kR ?_; first | refine F.c (hB) ?_ | refine F.c (hI) ?_ | refine F.c (hS) ?_) | fail
  (refine kZ ?_; exact F.ret rfl)
 ·rw [if_neg hs]
  cases R3 with
  | true =>
   rw [if_pos rfl]
   repeat' first | refine s1 ?_ | (refine kR ?_; first | refine F.c (hB) ?_ | refine F.c (hI) ?_ | refine F.c (hS) ?_) | fail
   (refine kZ ?_; exact F.ret rfl)
  | false =>
   rw [if_neg (by simp)]
   by_cases hx : X ≤ 3000
   ·rw [if_pos hx]
    repeat' first | refine s1 ?_ | (refine kR ?_; first | refine F.c (hB) ?_ | refine F.c (hI) ?_ | refine F.c (hS) ?_ | refine F.c (hC) ?_) | fail
    (refine kZ ?_; exact F.ret rfl)
   ·rw [if_neg hx]
    repeat' first | refine s1 ?_ | (refine kR ?_; first | refine F.c (hB) ?_ | refine F.c (hI) ?_ | refine F.c (hS) ?_ | refine F.c (hC) ?_) | fail
    (refine kZ ?_; exact F.ret rfl)
theorem implIsIndecomposable_a (r : Rep) : AC Tryz.prog 39 [.agg (enc false r)] [.i (indI r)] := by
 refine AC.go Tryz.func39 Tryz.ntmps39 rfl rfl fun w0 hw => ?_; simp [WfL, WfA, E_length, Enc.enc, In64] at hw
 have hF := implIsRep_a r
 cases hr : isRep r with
 | false =>
  rw [hr] at hF
  unfold indI
  rw [if_neg (by simp [hr])]
  repeat' first | refine s1 ?_ | (refine kR ?_; first | refine F.c (hF) ?_) | fail
  (refine kZ ?_; exact F.ret rfl)
 | true =>
  rw [hr] at hF
  have hI := isIndec_a r hr
  generalize indI r = x at hI ⊢
  repeat' first | refine s1 ?_ | (refine kR ?_; first | refine F.c (hF) ?_ | refine F.c (hI) ?_) | fail
  (refine kZ ?_; exact F.ret rfl)
theorem specIsIndecomposable_a (r : Rep) : AC Tryz.prog 31 [.agg (enc false r)] [.i (indI r)] := by
 refine AC.go Tryz.func31 Tryz.ntmps31 rfl rfl fun w0 hw => ?_; simp [WfL, WfA, E_length, Enc.enc, In64] at hw
 have hF := specIsRep_a r
 unfold indI
 cases hr : isRep r with
 | false =>
  rw [hr] at hF
  rw [if_neg (by simp)]
  repeat' first | refine s1 ?_ | (refine kR ?_; first | refine F.c (hF) ?_) | fail
  (refine kZ ?_; exact F.ret rfl)
 | true =>
  rw [hr] at hF
  rw [if_pos rfl]
  have hT := totalOf_a r hr
  have hI := l16Find_a r hr
  have hal : allS r = ((fsP r).2.2 || decide (cntH r.p (hkL r r).length ≤ 3000)) := rfl
  generalize allS r = al at hI hal
  generalize fsP r = R at hI hal ⊢
  obtain ⟨R1, R2, R3⟩ := R
  dsimp only at hI hal ⊢
  generalize cntH r.p (hkL r r).length = X at *
  generalize r.d.sum = sm at *
  by_cases hs : sm = 0
  ·rw [if_pos hs]
   repeat' first | refine s1 ?_ | (refine kR ?_; first | refine F.c (hF) ?_ | refine F.c (hT) ?_) | fail
   (refine kZ ?_; exact F.ret rfl)
  ·rw [if_neg hs]
   cases R3 with
   | true =>
    rw [if_pos rfl]
    repeat' first | refine s1 ?_ | (refine kR ?_; first | refine F.c (hF) ?_ | refine F.c (hT) ?_ | refine F.c (hI) ?_) | fail
    (refine kZ ?_; exact F.ret rfl)
   | false =>
    rw [if_neg (by simp)]
    rw [Bool.false_or] at hal
    by_cases hx : X ≤ 3000
    ·rw [if_pos hx]
     rw [decide_eq_true hx] at hal
     subst hal
     repeat' first | refine s1 ?_ | (refine kR ?_; first | refine F.c (hF) ?_ | refine F.c (hT) ?_ | refine F.c (hI) ?_) | fail
     (refine kZ ?_; exact F.ret rfl)
    ·rw [if_neg hx]
     rw [decide_eq_false hx] at hal
     subst hal
     repeat' first | refine s1 ?_ | (refine kR ?_; first | refine F.c (hF) ?_ | refine F.c (hT) ?_ | refine F.c (hI) ?_) | fail
     (refine kZ ?_; exact F.ret rfl)
theorem IndexFuncR_a (xs : List Rep) (f : Nat) [IsFn Tryz.prog f] (cs : List AV) (p : Rep → Bool) (hcs : ∀ hp, SnapL hp cs cs) (hf : ∀ x ∈ xs, AC Tryz.prog f (.agg (enc false x) :: cs) [.b (p x)]) :
  AC Tryz.prog 71 [ar false xs, .fn f cs] [.i (idxFrom p xs 0)] := by
 refine AC.go Tryz.func71 Tryz.ntmps71 rfl rfl fun w0 hw => ?_; simp [WfL, WfA, E_length, Enc.enc, In64] at hw
 repeat' first | refine s1 ?_ | (refine s2 ?_ ?_ <;> intro hc <;> (try simp only [decide_eq_true_eq, decide_eq_false_iff_not, Bool.not_eq_true', Bool.not_eq_false'] at hc)) | fail
 refine F.loop (σ := Nat) [4, 5, 8, 9, 10, 11, 12, 13, 14, 15, 16, 17, 18] (fun k => [(8, .i k)]) (fun _ => []) (fun k => k ≤ xs.length ∧ idxFrom p xs 0 = idxFrom p (xs.drop k) k) (fun k => xs.length - k) 0 ⟨rfl, trivial⟩ trivial ⟨Nat.zero_le _, rfl⟩ ?_
 rintro k ⟨hk, hi⟩
 by_cases hlt : k < xs.length
 ·rw [idxFrom_drop p xs hlt] at hi
  have h1 := hf (xs.getD k default) (gm hlt)
  cases hpx : p (xs.getD k default) with
  | true =>
   rw [hpx] at hi h1
   repeat' first | refine s1 ?_ | (refine kR ?_; first | refine F.cv (h1) ?_) | (refine s2 ?_ ?_ <;> intro hc <;> (try simp only [decide_eq_true_eq, decide_eq_false_iff_not, Bool.not_eq_true', Bool.not_eq_false'] at hc)) | fail
   refine F.ret ?_
   simp [hi]
  | false =>
   rw [hpx] at hi h1
   repeat' first | refine s1 ?_ | (refine kR ?_; first | refine F.cv (h1) ?_) | (refine s2 ?_ ?_ <;> intro hc <;> (try simp only [decide_eq_true_eq, decide_eq_false_iff_not, Bool.not_eq_true', Bool.not_eq_false'] at hc)) | fail
   exact ⟨k + 1, F.fit ⟨rfl, trivial⟩ trivial, ⟨by omega, hi⟩, by omega⟩
 ·have e : k = xs.length := by omega
  subst e
  repeat' first | refine s1 ?_ | (refine s2 ?_ ?_ <;> intro hc <;> (try simp only [decide_eq_true_eq, decide_eq_false_iff_not, Bool.not_eq_true', Bool.not_eq_false'] at hc)) | fail
  refine F.ret ?_
  simp [hi, idxFrom]
theorem ContainsFuncR_a (xs : List Rep) (f : Nat) [IsFn Tryz.prog f] (cs : List AV) (p : Rep → Bool) (hcs : ∀ hp, SnapL hp cs cs) (hf : ∀ x ∈ xs, AC Tryz.prog f (.agg (enc false x) :: cs) [.b (p x)]) :
  AC Tryz.prog 37 [ar false xs, .fn f cs] [.b (xs.any p)] := by
 refine AC.go Tryz.func37 Tryz.ntmps37 rfl rfl fun w0 hw => ?_; simp [WfL, WfA, E_length, Enc.enc, In64] at hw
 repeat' first | refine s1 ?_ | (refine kR ?_; first | refine F.c (IndexFuncR_a xs f cs p hcs hf) ?_) | (refine s2 ?_ ?_ <;> intro hc <;> (try simp only [decide_eq_true_eq, decide_eq_false_iff_not, Bool.not_eq_true', Bool.not_eq_false'] at hc)) | fail
 exact F.ret (by rw [← idxFrom_any p xs 0])
def indN (x : Rep) : Bool := decide (indI x ≠ 1)
theorem notInd_a (x : Rep) : AC Tryz.prog 38 [.agg (enc false x)] [.b (indN x)] := by
 refine AC.go Tryz.func38 Tryz.ntmps38 rfl rfl fun w0 hw => ?_; simp [WfL, WfA, E_length, Enc.enc, In64] at hw
 have hI := implIsIndecomposable_a x
 unfold indN
 generalize indI x = k at hI ⊢
 repeat' first | refine s1 ?_ | (refine kR ?_; first | refine F.c (hI) ?_) | fail
 refine F.ret ?_
 simp
def decP (r : Rep) (l : List Rep) (f : List Mat) : Bool := (sumL l).2 && (isoB (sumL l).1 r f && !(l.any indN))
theorem implIsDecomposition_a (r : Rep) (l : List Rep) (f : List Mat) : AC Tryz.prog 13 [.agg (enc false r), ar false l, ar false f] [.b (decP r l f)] := by
 refine AC.go Tryz.func13 Tryz.ntmps13 rfl rfl fun w0 hw => ?_; simp [WfL, WfA, E_length, Enc.enc, In64] at hw
 have hS := implSumOf_a l
 have hI := implIsIsomorphism_g (sumL l).1 r f
 have hC := ContainsFuncR_a l 38 [] indN (fun _ => .nil) (fun x _ => notInd_a x)
 unfold decP
 generalize sumL l = S at hS hI ⊢
 obtain ⟨S1, S2⟩ := S
 dsimp only at hS hI ⊢
 generalize l.any indN = y at hC ⊢
 generalize isoB S1 r f = x at hI ⊢
 cases S2 with
 | false =>
  repeat' first | refine s1 ?_ | (refine kR ?_; first | refine F.c (hS) ?_) | fail
  (refine kZ ?_; exact F.ret rfl)
 | true =>
  cases x with
  | false =>
   repeat' first | refine s1 ?_ | (refine kR ?_; first | refine F.c (hS) ?_ | refine F.c (hI) ?_) | fail
   (refine kZ ?_; exact F.ret rfl)
  | true =>
   repeat' first | refine s1 ?_ | (refine kR ?_; first | refine F.c (hS) ?_ | refine F.c (hI) ?_ | refine F.c (hC) ?_) | fail
   refine F.ret ?_
   simp
theorem specIsDecomposition_a (r : Rep) (l : List Rep) (f : List Mat) : AC Tryz.prog 9 [.agg (enc false r), ar false l, ar false f] [.b (decP r l f)] := by
 refine AC.go Tryz.func9 Tryz.ntmps9 rfl rfl fun w0 hw => ?_; simp [WfL, WfA, E_length, Enc.enc, In64] at hw
 have hS := specSumOf_a l
 have hI := specIsIsomorphism_g (sumL l).1 r f
 have hD := fun k => specIsIndecomposable_a (l.getD k default)
 unfold decP
 generalize sumL l = S at hS hI ⊢
 obtain ⟨S1, S2⟩ := S
 dsimp only at hS hI ⊢
 generalize isoB S1 r f = x at hI ⊢
 cases S2 with
 | false =>
  repeat' first | refine s1 ?_ | (refine kR ?_; first | refine F.c (hS) ?_) | fail
  (refine kZ ?_; exact F.ret rfl)
 | true =>
  cases x with
  | false =>
   repeat' first | refine s1 ?_ | (refine kR ?_; first | refine F.c (hS) ?_ | refine F.c (hI) ?_) | fail
   (refine kZ ?_; exact F.ret rfl)
  | true =>
   repeat' first | refine s1 ?_ | (refine kR ?_; first | refine F.c (hS) ?_ | refine F.c (hI) ?_) | fail
   refine F.loop (σ := Nat) [6, 9, 24, 25, 26, 27, 28, 29, 30, 31, 32, 33, 34, 35] (fun k => [(9, .i k)]) (fun _ => []) (fun k => k ≤ l.length ∧ ∀ j, j < k → indN (l.getD j default) = false) (fun k => l.length - k) 0 ⟨rfl, trivial⟩ trivial ⟨Nat.zero_le _, fun j hj => absurd hj (Nat.not_lt_zero _)⟩ ?_
   rintro k ⟨k1, k2⟩
   by_cases hk : k < l.length
   ·have hDk := hD k
    have hN : indN (l.getD k default) = decide (indI (l.getD k default) ≠ 1) := rfl
    cases hx : indN (l.getD k default) with
    | true =>
     have hn : l.any indN = true := List.any_eq_true.2 ⟨_, gm hk, hx⟩
     rw [hx] at hN
     have hne : indI (l.getD k default) ≠ 1 := by simpa using hN.symm
     rw [hn]
     generalize indI (l.getD k default) = z at hDk hne
     repeat' first | refine s1 ?_ | (refine kR ?_; first | refine F.c (hDk) ?_) | fail
     (refine kZ ?_; exact F.ret rfl)
    | false =>
     rw [hx] at hN
     have he : indI (l.getD k default) = 1 := by simpa using hN.symm
     rw [he] at hDk
     repeat' first | refine s1 ?_ | (refine kR ?_; first | refine F.c (hDk) ?_) | fail
     exact ⟨k + 1, F.fit ⟨rfl, trivial⟩ trivial, ⟨by omega, fun j hj => by rcases Nat.lt_succ_iff_lt_or_eq.1 hj with h | h; exact k2 j h; rw [h]; exact hx⟩, by omega⟩
   ·obtain rfl : k = l.length := by omega
    have hn : l.any indN = false := by
     rw [List.any_eq_false]
     intro x hx
     obtain ⟨i, hi, e⟩ := List.getElem_of_mem hx
     have := k2 i hi
     simp [hi, e] at this
     simp [this]
    rw [hn]
    repeat' first | refine s1 ?_ | fail
    (refine kZ ?_; exact F.ret rfl)
end Go.Proofs.YtbcfbcfiahmncaaGreat.V
