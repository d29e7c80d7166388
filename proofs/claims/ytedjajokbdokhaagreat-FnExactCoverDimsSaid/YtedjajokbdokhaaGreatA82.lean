/- Contracts: dimensions of covers. -/
import Derived.Test.YtedjajokbdokhaaGreatUi
import Derived.Test.YtedjajokbdokhaaGreatA81
import Derived.Test.YtedjajokbdokhaaGreatA22
namespace Go.Proofs.YtedjajokbdokhaaGreat.V
open V.Enc (enc)
open Go.RowKit G D
set_option linter.unusedVariables false
set_option linter.unusedSimpArgs false
set_option maxHeartbeats 4000000
set_option maxRecDepth 4000
attribute [local irreducible] AW ARg ARA ARet MRet ASil AC AM ARI

/-- the first j numbers have a multiple of others added -/
def addT (o : List Int) (m : Int) (d : List Int) (j : Nat) : List Int := rowL o.length fun w => if w < j then o.getD w default + m * d.getD w default else o.getD w default
theorem addT_len (o : List Int) (m : Int) (d : List Int) (j : Nat) : (addT o m d j).length = o.length := rowL_len ..
theorem addT_zero (o : List Int) (m : Int) (d : List Int) : addT o m d 0 = o := by
  unfold addT
  rw [rowL_ext (g := fun v => o.getD v default) fun v hv => by simp]
  exact rowL_of rfl
theorem addT_get {o : List Int} {m : Int} {d : List Int} {j : Nat} (h : j < o.length) : (addT o m d j).getD j default = o.getD j default := by
  unfold addT; rw [rowL_get _ h, if_neg (by omega)]
theorem addT_set {o : List Int} {m : Int} {d : List Int} {j : Nat} (h : j < o.length) : (addT o m d j).set j (o.getD j default + m * d.getD j default) = addT o m d (j + 1) := by
  apply List.ext_getElem (by simp [addT])
  intro i h1 h2
  rw [List.getElem_set]
  simp only [addT, rowL, List.getElem_map, List.getElem_range]
  by_cases e : j = i
  · subst e; simp
  · have : i < j + 1 ↔ i < j := by omega
    simp [e, this]
def covK (q : Quiv) (t : List Int) (n : Nat) : Nat → List Int
  | 0 => List.replicate n 0
  | v + 1 => addT (covK q t n v) (t.getD v default) (projD q (v : Int)) n
theorem covK_len (q : Quiv) (t : List Int) (n : Nat) : ∀ k, (covK q t n k).length = n
  | 0 => by simp [covK]
  | k + 1 => by rw [covK, addT_len, covK_len q t n k]
theorem projD_ok {q : Quiv} {v : Nat} (ho : (orderQ q).2 = true) (hv : v < q.n.toNat) : (projD q (v : Int)).length = q.n.toNat ∧ ∀ w, w < q.n.toNat → 0 ≤ (projD q (v : Int)).getD w default ∧ (projD q (v : Int)).getD w default ≤ 100000 := by
  have hq := order_ok ho
  have h5 := okQ_spec hq
  unfold projD dimsF
  rw [if_pos ⟨ho, by omega, by omega⟩]
  refine ⟨by simp, fun w hw => ?_⟩
  have e : ((List.range q.n.toNat).map fun (w : Nat) => countP q (v : Int) (w : Int)).getD w default = countP q (v : Int) (w : Int) := by simp [hw]
  rw [e]
  have hb : betwB q (v : Int) (w : Int) = true := by
    simp only [betwB, Bool.and_eq_true, decide_eq_true_eq]
    exact ⟨⟨ho, by omega, by omega⟩, by omega, by omega⟩
  unfold countP
  rw [if_pos hb]
  have := betw_le hq (v : Int) (w : Int)
  omega
theorem covK_bd {q : Quiv} {t : List Int} (ho : (orderQ q).2 = true) (ht : ∀ j, j < q.n.toNat → 0 ≤ t.getD j default ∧ t.getD j default ≤ 4) : ∀ k, k ≤ q.n.toNat → ∀ w, w < q.n.toNat → 0 ≤ (covK q t q.n.toNat k).getD w default ∧ (covK q t q.n.toNat k).getD w default ≤ 400000 * k
  | 0, _, w, hw => by
    have : (covK q t q.n.toNat 0).getD w default = 0 := by simp [covK, hw]
    rw [this]; omega
  | k + 1, hk, w, hw => by
    have ih := covK_bd ho ht k (by omega) w hw
    have hl := covK_len q t q.n.toNat k
    have hd := (projD_ok ho (v := k) (by omega)).2 w hw
    have htk := ht k (by omega)
    rw [covK]
    unfold addT
    rw [rowL_get _ (by omega), if_pos hw]
    have h1 : t.getD k default * (projD q (k : Int)).getD w default ≤ 4 * 100000 := Int.mul_le_mul htk.2 hd.2 hd.1 (by omega)
    have h0 := Int.mul_nonneg htk.1 hd.1
    push_cast
    omega
def covD (r : Rep) : List Int := if isRep r = true ∧ (orderQ r.q).2 = true then covK r.q (topD r) r.q.n.toNat r.q.n.toNat else []
theorem implCoverDims_a (r : Rep) : AC Tryz.prog 32 [.agg (enc false r)] [.dt true 1 (E true (covD r))] := by
  refine AC.go Tryz.func32 Tryz.ntmps32 rfl rfl fun w0 hw => ?_; simp [WfL, WfA, E_length, Enc.enc, In64] at hw
  have hF := implIsRep_a r
  unfold covD
  cases h : isRep r with
  | false =>
    rw [h] at hF
    rw [if_neg (by simp)]
    repeat' first | refine s1 ?_ | (refine kR ?_; first | refine F.c (hF) ?_) | fail
    (refine kZ ?_; exact F.ret rfl)
  | true =>
    rw [h] at hF
    have hA := implIsAcyclic_a r.q
    cases ho : (orderQ r.q).2 with
    | false =>
      rw [ho] at hA
      rw [if_neg (by simp)]
      repeat' first | refine s1 ?_ | (refine kR ?_; first | refine F.c (hF) ?_ | refine F.c (hA) ?_) | fail
      (refine kZ ?_; exact F.ret rfl)
    | true =>
      rw [ho] at hA
      rw [if_pos ⟨rfl, rfl⟩]
      obtain ⟨r1, r2, r3, r4⟩ := isRep_spec h
      obtain ⟨c1, c2, c3, _⟩ := areDims_spec r2
      have h5 := okQ_spec c1
      have hT := implTopDims_a r
      obtain ⟨t1, t2⟩ := topD_bd h
      have hcb := covK_bd (t := topD r) ho (fun j hj => t2 j (by omega))
      have hPd := fun v (hv : v < r.q.n.toNat) => projD_ok ho hv
      have hPc := fun v : Nat => implProjectiveDims_a r.q (v : Int)
      have hcl := covK_len r.q (topD r) r.q.n.toNat
      have hst : ∀ v, covK r.q (topD r) r.q.n.toNat (v + 1) = addT (covK r.q (topD r) r.q.n.toNat v) ((topD r).getD v default) (projD r.q (v : Int)) r.q.n.toNat := fun v => rfl
      generalize topD r = T at *
      generalize hN : r.q.n.toNat = n at *
      have hdn : r.d.length = n := by omega
      have hTn : T.length = n := by omega
      repeat' first | refine s1 ?_ | (refine kR ?_; first | refine F.c (hF) ?_ | refine F.c (hA) ?_ | refine F.mk (m := n) Int rfl rfl (by omega) (mkB (by omega)) (by omega) rfl rfl ?_ | refine F.c (hT) ?_) | fail
      rw [show List.replicate n (0 : Int) = covK r.q T n 0 from rfl]
      refine F.loop (σ := Nat) [4, 5, 6, 7, 24, 25, 26, 27, 28, 29, 30, 31, 32, 33, 34, 35, 36, 37, 38, 39, 40, 41, 42, 43, 44, 45, 46, 47, 48, 49] (fun k => [(24, .i k)]) (fun k => [(1, .live false 1 (E true (covK r.q T n k)))]) (fun k => k ≤ n) (fun k => n - k) 0 ⟨rfl, trivial⟩ ⟨rfl, trivial⟩ (Nat.zero_le _) ?_
      rintro k k1
      have hlk := hcl k
      by_cases hk : k < n
      · obtain ⟨p1, p2⟩ := hPd k hk
        have hcbk := hcb k (by omega)
        have hP := hPc k
        have hsk := hst k
        have htk := t2 k (by omega)
        generalize projD r.q (k : Int) = PD at p1 p2 hP hsk
        generalize covK r.q T n k = X at hlk hcbk hsk ⊢
        rw [← Nat.zero_add k] at htk
        repeat' first | refine s1 ?_ | (refine kR ?_; first | refine F.c (hP) ?_) | fail
        refine F.loop (σ := Nat) [6, 7, 34, 35, 36, 37, 38, 39, 40, 41, 42, 43, 44, 45, 46, 47, 48] (fun j => [(34, .i j)]) (fun j => [(1, .live false 1 (E true (addT X (T.getD (0 + k) default) PD j)))]) (fun j => j ≤ n) (fun j => n - j) 0 ⟨rfl, trivial⟩ ⟨obE (by rw [addT_zero]), trivial⟩ (Nat.zero_le _) ?_
        rintro j j1
        have hjl := addT_len X (T.getD (0 + k) default) PD j
        by_cases hj : j < n
        · have e1 := addT_get (o := X) (m := T.getD (0 + k) default) (d := PD) (j := j) (by omega)
          have e2 := addT_set (o := X) (m := T.getD (0 + k) default) (d := PD) (j := j) (by omega)
          have b1 := hcbk j hj
          have b2 := p2 j hj
          have m1 : T.getD (0 + k) default * PD.getD j default ≤ 4 * 100000 := Int.mul_le_mul htk.2 b2.2 b2.1 (by omega)
          have m0 := Int.mul_nonneg htk.1 b2.1
          generalize addT X (T.getD (0 + k) default) PD j = Y at hjl e1 e2 ⊢
          rw [← e1] at e2 b1
          have i1 : In64 (T.getD (0 + k) default * PD.getD (0 + j) default) := by rw [Nat.zero_add j]; unfold In64; omega
          have i2 : In64 (Y.getD (0 + j) default + T.getD (0 + k) default * PD.getD (0 + j) default) := by rw [Nat.zero_add j]; unfold In64; omega
          repeat' first | refine s1 ?_ | fail
          exact ⟨j + 1, F.fit ⟨rfl, trivial⟩ ⟨obE (by rw [Nat.zero_add j, e2]), trivial⟩, by omega, by omega⟩
        · obtain rfl : j = n := by omega
          repeat' first | refine s1 ?_ | fail
          exact ⟨k + 1, F.fit ⟨rfl, trivial⟩ ⟨obE (by rw [hsk, Nat.zero_add k]), trivial⟩, by omega, by omega⟩
      · obtain rfl : k = n := by omega
        generalize covK r.q T k k = X at hlk ⊢
        rw [← hlk]
        repeat' first | refine s1 ?_ | fail
        (refine kZ ?_; exact F.ret rfl)
theorem specCoverDims_a (r : Rep) : AC Tryz.prog 31 [.agg (enc false r)] [.dt true 1 (E true (covD r))] := by
  refine AC.go Tryz.func31 Tryz.ntmps31 rfl rfl fun w0 hw => ?_; simp [WfL, WfA, E_length, Enc.enc, In64] at hw
  have hT := specTopDims_a r
  unfold covD
  cases h : isRep r with
  | false =>
    have e : topD r = [] := by unfold topD; rw [if_neg (by simp [h])]
    rw [e] at hT
    rw [if_neg (by simp)]
    repeat' first | refine s1 ?_ | (refine kR ?_; first | refine F.c (hT) ?_) | fail
    (refine kZ ?_; exact F.ret rfl)
  | true =>
    have hA := specIsAcyclic_a r.q
    obtain ⟨r1, r2, r3, r4⟩ := isRep_spec h
    obtain ⟨c1, c2, c3, _⟩ := areDims_spec r2
    have h5 := okQ_spec c1
    obtain ⟨t1, t2⟩ := topD_bd h
    cases ho : (orderQ r.q).2 with
    | false =>
      rw [ho] at hA
      rw [if_neg (by simp)]
      generalize topD r = T at *
      repeat' first | refine s1 ?_ | (refine kR ?_; first | refine F.c (hT) ?_ | refine F.c (hA) ?_) | fail
      (refine kZ ?_; exact F.ret rfl)
    | true =>
      rw [ho] at hA
      rw [if_pos ⟨rfl, rfl⟩]
      have hcb := covK_bd (t := topD r) ho (fun j hj => t2 j (by omega))
      have hPd := fun v (hv : v < r.q.n.toNat) => projD_ok ho hv
      have hPc := fun v : Nat => specProjectiveDims_a r.q (v : Int)
      have hcl := covK_len r.q (topD r) r.q.n.toNat
      have hst : ∀ v, covK r.q (topD r) r.q.n.toNat (v + 1) = addT (covK r.q (topD r) r.q.n.toNat v) ((topD r).getD v default) (projD r.q (v : Int)) r.q.n.toNat := fun v => rfl
      generalize topD r = T at *
      generalize hN : r.q.n.toNat = n at *
      have hdn : r.d.length = n := by omega
      have hTn : T.length = n := by omega
      repeat' first | refine s1 ?_ | (refine kR ?_; first | refine F.c (hT) ?_ | refine F.c (hA) ?_ | refine F.mk (m := n) Int rfl rfl (by omega) (mkB (by omega)) (by omega) rfl rfl ?_) | fail
      rw [show List.replicate n (0 : Int) = covK r.q T n 0 from rfl]
      refine F.loop (σ := Nat) [5, 6, 7, 23, 24, 25, 26, 27, 28, 29, 30, 31, 32, 33, 34, 35, 36, 37, 38, 39, 40, 41, 42, 43, 44, 45, 46, 47, 48, 49, 50, 51, 52, 53, 54, 55] (fun k => [(5, .i k)]) (fun k => [(2, .live false 1 (E true (covK r.q T n k)))]) (fun k => k ≤ n) (fun k => n - k) 0 ⟨rfl, trivial⟩ ⟨rfl, trivial⟩ (Nat.zero_le _) ?_
      rintro k k1
      have hlk := hcl k
      by_cases hk : k < n
      · obtain ⟨p1, p2⟩ := hPd k hk
        have hcbk := hcb k (by omega)
        have hP := hPc k
        have hsk := hst k
        have htk := t2 k (by omega)
        generalize projD r.q (k : Int) = PD at p1 p2 hP hsk
        generalize covK r.q T n k = X at hlk hcbk hsk ⊢
        rw [← Nat.zero_add k] at htk
        repeat' first | refine s1 ?_ | (refine kR ?_; first | refine F.c (hP) ?_) | fail
        refine F.loop (σ := Nat) [7, 33, 34, 35, 36, 37, 38, 39, 40, 41, 42, 43, 44, 45, 46, 47, 48, 49, 50, 51, 52, 53, 54, 55] (fun j => [(7, .i j)]) (fun j => [(2, .live false 1 (E true (addT X (T.getD (0 + k) default) PD j)))]) (fun j => j ≤ n) (fun j => n - j) 0 ⟨rfl, trivial⟩ ⟨obE (by rw [addT_zero]), trivial⟩ (Nat.zero_le _) ?_
        rintro j j1
        have hjl := addT_len X (T.getD (0 + k) default) PD j
        by_cases hj : j < n
        · have e1 := addT_get (o := X) (m := T.getD (0 + k) default) (d := PD) (j := j) (by omega)
          have e2 := addT_set (o := X) (m := T.getD (0 + k) default) (d := PD) (j := j) (by omega)
          have b1 := hcbk j hj
          have b2 := p2 j hj
          have m1 : T.getD (0 + k) default * PD.getD j default ≤ 4 * 100000 := Int.mul_le_mul htk.2 b2.2 b2.1 (by omega)
          have m0 := Int.mul_nonneg htk.1 b2.1
          generalize addT X (T.getD (0 + k) default) PD j = Y at hjl e1 e2 ⊢
          rw [← e1] at e2 b1
          have i1 : In64 (T.getD (0 + k) default * PD.getD (0 + j) default) := by rw [Nat.zero_add j]; unfold In64; omega
          have i2 : In64 (Y.getD (0 + j) default + T.getD (0 + k) default * PD.getD (0 + j) default) := by rw [Nat.zero_add j]; unfold In64; omega
          repeat' first | refine s1 ?_ | fail
          refine AW.draw 17 G.mixed (by kernel_rfl) ?_
          refine dP 0 ?_
          refine dP 1 ?_
          refine dP 2 ?_
          refine dP 3 ?_
          refine dP 4 ?_
          refine dL 5 ?_
          refine dP 6 ?_
          refine dP 7 ?_
          refine dP 8 ?_
          refine dL 9 ?_
          refine dP 10 ?_
          refine dP 11 ?_
          refine dP 12 ?_
          refine dL 13 ?_
          refine dP 14 ?_
          refine dP 15 ?_
          refine dP 16 ?_
          refine dO 17 false ?_
          refine s1 ?_
          refine ARg.nil (ATh.normal ?_)
          refine dN ?_
          rotate_left
          all_goals
            repeat' first | refine s1 ?_ | fail
            exact ⟨j + 1, F.fit ⟨rfl, trivial⟩ ⟨obE (by rw [Nat.zero_add j, e2]), trivial⟩, by omega, by omega⟩
        · obtain rfl : j = n := by omega
          repeat' first | refine s1 ?_ | fail
          exact ⟨k + 1, F.fit ⟨rfl, trivial⟩ ⟨obE (by rw [hsk, Nat.zero_add k]), trivial⟩, by omega, by omega⟩
      · obtain rfl : k = n := by omega
        generalize covK r.q T k k = X at hlk ⊢
        rw [← hlk]
        repeat' first | refine s1 ?_ | fail
        (refine kZ ?_; exact F.ret rfl)
theorem covD_len (r : Rep) : (covD r).length ≤ 1000 := by
  unfold covD
  by_cases h : isRep r = true ∧ (orderQ r.q).2 = true
  · rw [if_pos h, covK_len]
    obtain ⟨r1, r2, r3, r4⟩ := isRep_spec h.1
    obtain ⟨c1, c2, c3, _⟩ := areDims_spec r2
    have h5 := okQ_spec c1
    omega
  · rw [if_neg h]; simp
end Go.Proofs.YtedjajokbdokhaaGreat.V
