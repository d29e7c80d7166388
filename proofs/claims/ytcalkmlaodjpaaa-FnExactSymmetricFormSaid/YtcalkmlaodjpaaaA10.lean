/- Contracts: symmetric forms of the reference. -/
import Derived.Test.YtcalkmlaodjpaaaA9
namespace Go.Proofs.Ytcalkmlaodjpaaa.V
open V.Enc (enc)
open Go.RowKit G D
set_option linter.unusedVariables false
set_option linter.unusedSimpArgs false
set_option maxHeartbeats 400000
set_option maxRecDepth 4000
attribute [local irreducible] AW ARg ARA ARet MRet ASil AC AM

theorem implSymmetricForm_a (q : Quiv) : AC Try.prog 23 [.agg (enc false q)] [.dt true 1 (E true (symF q))] := by
  refine AC.go Try.func23 Try.ntmps23 rfl rfl fun w0 hw => ?_; simp [WfL, WfA, E_length, Enc.enc, In64] at hw
  have hQ := implIsQuiver_a q
  cases hq : okQ q with
  | false =>
    rw [hq] at hQ
    rw [symF, hq]
    repeat' first | refine s1 ?_ | (refine kR ?_; first | refine F.c (hQ) ?_) | fail
    (refine kZ ?_; exact F.ret rfl)
  | true =>
    rw [hq] at hQ
    rw [symF, hq]
    have hS := symmetric_a q hq
    rw [show (bif true then symM q q.fr.length else []) = symM q q.fr.length from rfl]
    generalize symM q q.fr.length = M at hS ⊢
    repeat' first | refine s1 ?_ | (refine kR ?_; first | refine F.c (hQ) ?_ | refine F.c (hS) ?_) | fail
    (refine kZ ?_; exact F.ret rfl)
theorem decL_len (l : List Int) (k : Nat) : (decL l k).length = l.length := by simp [decL]
theorem decL_bd {l : List Int} {k n : Nat} {lo hi : Int} (hk : k < n) (hl : l.length = n) (h : ∀ j, j < n → lo ≤ l.getD j 0 ∧ l.getD j 0 ≤ hi) : ∀ j, j < n → lo - 1 ≤ (decL l k).getD j 0 ∧ (decL l k).getD j 0 ≤ hi := fun j hj => by
  have h1 := h j hj
  have h2 := h k hk
  unfold decL
  rw [getD_set _ _ _ _ _ (by omega)]
  split <;> omega
theorem symM_take {q : Quiv} (hq : okQ q = true) {v : Nat} (hv : v < q.n.toNat) : (symM q q.fr.length).take (v + 1) = (symM q q.fr.length).take v ++ [rowK q v q.fr.length] := by
  have hl := (symM_sq hq q.fr.length (Nat.le_refl _)).1
  have hr := symM_row hq v hv q.fr.length (Nat.le_refl _)
  rw [List.take_succ_eq_append_getElem (by omega)]
  congr 1
  rw [← hr]; simp [hl, hv]
theorem specSymmetricForm_a (q : Quiv) : AC Try.prog 21 [.agg (enc false q)] [.dt true 1 (E true (symF q))] := by
  refine AC.go Try.func21 Try.ntmps21 rfl rfl fun w0 hw => ?_; simp [WfL, WfA, E_length, Enc.enc, In64] at hw
  have hQ := specIsQuiver_a q
  cases hq : okQ q with
  | false =>
    rw [hq] at hQ
    rw [symF, hq]
    repeat' first | refine s1 ?_ | fail
    refine F.loop (σ := Unit) [3, 4, 5, 6, 8, 9, 10, 11, 12, 13, 14, 15, 16, 17, 18, 19, 20, 21, 22, 23, 24, 25, 26, 27, 28, 29, 30, 31, 32, 33, 34, 35, 36, 37, 38, 39, 40, 41, 42, 43, 44, 45, 46, 47, 48, 49, 50, 51, 52, 53, 54, 55, 56, 57, 58, 59, 60, 61, 62, 63, 64, 65, 66, 67, 68, 69, 70, 71, 72, 73, 74, 75, 76, 77, 78, 79, 80] (fun _ => [(3, .em), (4, .i 0)]) (fun _ => []) (fun _ => True) (fun _ => 0) () ⟨rfl, rfl, trivial⟩ trivial trivial ?_
    rintro _ _
    by_cases hn : 0 < q.n
    · repeat' first | refine s1 ?_ | (refine kR ?_; first | refine F.c (hQ) ?_) | fail
      (refine kZ ?_; exact F.ret rfl)
    · repeat' first | refine s1 ?_ | fail
      (refine kZ ?_; exact F.ret rfl)
  | true =>
    rw [hq] at hQ
    rw [symF, hq]
    rw [show (bif true then symM q q.fr.length else []) = symM q q.fr.length from rfl]
    have h5 := okQ_spec hq
    have hn : ((q.n.toNat : Nat) : Int) = q.n := Int.toNat_of_nonneg (by omega)
    have hl := (symM_sq hq q.fr.length (Nat.le_refl _)).1
    repeat' first | refine s1 ?_ | fail
    refine AW.open 3 1 (.inr rfl) ?_
    refine F.loop (σ := Nat) [3, 4, 5, 6, 8, 9, 10, 11, 12, 13, 14, 15, 16, 17, 18, 19, 20, 21, 22, 23, 24, 25, 26, 27, 28, 29, 30, 31, 32, 33, 34, 35, 36, 37, 38, 39, 40, 41, 42, 43, 44, 45, 46, 47, 48, 49, 50, 51, 52, 53, 54, 55, 56, 57, 58, 59, 60, 61, 62, 63, 64, 65, 66, 67, 68, 69, 70, 71, 72, 73, 74, 75, 76, 77, 78, 79, 80] (fun v => [(3, .sl 1 v 0 v), (4, .i v)]) (fun v => [(1, .live false 1 (E true ((symM q q.fr.length).take v)))]) (fun v => v ≤ q.n.toNat) (fun v => q.n.toNat - v) 0 ⟨rfl, rfl, trivial⟩ ⟨rfl, trivial⟩ (Nat.zero_le _) ?_
    rintro v h1
    have ht : ((symM q q.fr.length).take v).length = v := by rw [List.length_take]; omega
    by_cases hlt : v < q.n.toNat
    · have hT := symM_take hq hlt
      repeat' first | refine s1 ?_ | (refine kR ?_; first | refine F.c (hQ) ?_ | refine F.mk (m := q.n.toNat) Int rfl rfl hn.symm (mkB (by omega)) (by omega) rfl rfl ?_) | fail
      rw [Nat.zero_add v]
      refine F.loop (σ := Nat) [6, 24, 25, 26, 27, 28, 29, 30, 31, 32, 33, 34, 35, 36, 37, 38, 39, 40, 41, 42, 43, 44, 45, 46, 47, 48, 49, 50, 51, 52, 53, 54, 55, 56, 57, 58, 59, 60, 61, 62, 63, 64, 65, 66, 67, 68, 69, 70, 71, 72, 73, 74, 75, 76] (fun k => [(6, .i k)]) (fun k => [(2, .live false 1 (E true (rowK q v k)))]) (fun k => k ≤ q.fr.length) (fun k => q.fr.length - k) 0 ⟨rfl, trivial⟩ ⟨rfl, trivial⟩ (Nat.zero_le _) ?_
      rintro k h2
      by_cases hk : k < q.fr.length
      · have f := okQ_fr hq hk
        have t := okQ_to hq hk
        have f' : 0 ≤ q.fr.getD k default ∧ q.fr.getD k default < q.n := f
        have t' : 0 ≤ q.to.getD k default ∧ q.to.getD k default < q.n := t
        have hr := rowK_sq hq v hlt k (by omega)
        have hR : rowK q v (k + 1) = (let r1 := if q.fr.getD k default = (v : Int) then decL (rowK q v k) (q.to.getD k default).toNat else rowK q v k
          if q.to.getD k default = (v : Int) then decL r1 (q.fr.getD k default).toNat else r1) := rfl
        obtain ⟨r1, r2⟩ := hr
        generalize rowK q v k = R at r1 r2 hR ⊢
        have b1 : -12 ≤ R.getD (0 + (q.to.getD k default).toNat) default ∧ R.getD (0 + (q.to.getD k default).toNat) default ≤ 2 := by rw [Nat.zero_add]; exact r2 _ (by omega)
        by_cases c1 : q.fr.getD k default = (v : Int)
        · rw [if_pos c1] at hR
          have e1 := decL_len R (q.to.getD k default).toNat
          have e2 := decL_bd (k := (q.to.getD k default).toNat) (by omega) r1 r2
          repeat' first | refine s1 ?_ | fail
          refine AW.draw 16 G.mixed (by kernel_rfl) ?_
          refine dP 0 ?_
          refine dP 1 ?_
          refine dL 2 ?_
          refine dP 3 ?_
          refine dP 4 ?_
          refine dL 5 ?_
          refine dP 6 ?_
          refine dP 7 ?_
          refine dL 8 ?_
          refine dP 9 ?_
          refine dP 10 ?_
          refine dL 11 ?_
          refine dP 12 ?_
          refine dL 13 ?_
          refine dP 14 ?_
          refine dP 15 ?_
          refine dO 16 false ?_
          refine s1 ?_
          refine ARg.nil (ATh.normal ?_)
          refine dN ?_
          rw [show R.set (0 + (q.to.getD k default).toNat) (R.getD (0 + (q.to.getD k default).toNat) default - 1) = decL R (q.to.getD k default).toNat by rw [Nat.zero_add]; rfl]
          generalize decL R (q.to.getD k default).toNat = R1 at e1 e2 hR ⊢
          have b2 : -12 - 1 ≤ R1.getD (0 + (q.fr.getD k default).toNat) default ∧ R1.getD (0 + (q.fr.getD k default).toNat) default ≤ 2 := by rw [Nat.zero_add]; exact e2 _ (by omega)
          by_cases c2 : q.to.getD k default = (v : Int)
          · rw [show (let r1 := R1; if q.to.getD k default = (v : Int) then decL r1 (q.fr.getD k default).toNat else r1) = decL R1 (q.fr.getD k default).toNat from if_pos c2] at hR
            repeat' first | refine s1 ?_ | fail
            refine AW.draw 16 G.mixed (by kernel_rfl) ?_
            refine dP 0 ?_
            refine dP 1 ?_
            refine dL 2 ?_
            refine dP 3 ?_
            refine dP 4 ?_
            refine dL 5 ?_
            refine dP 6 ?_
            refine dP 7 ?_
            refine dL 8 ?_
            refine dP 9 ?_
            refine dP 10 ?_
            refine dL 11 ?_
            refine dP 12 ?_
            refine dL 13 ?_
            refine dP 14 ?_
            refine dP 15 ?_
            refine dO 16 false ?_
            refine s1 ?_
            refine ARg.nil (ATh.normal ?_)
            refine dN ?_
            rw [show R1.set (0 + (q.fr.getD k default).toNat) (R1.getD (0 + (q.fr.getD k default).toNat) default - 1) = decL R1 (q.fr.getD k default).toNat by rw [Nat.zero_add]; rfl, ← hR]
            repeat' first | refine s1 ?_ | fail
            exact ⟨k + 1, F.fit ⟨rfl, trivial⟩ ⟨rfl, trivial⟩, by omega, by omega⟩
          · rw [show (let r1 := R1; if q.to.getD k default = (v : Int) then decL r1 (q.fr.getD k default).toNat else r1) = R1 from if_neg c2] at hR
            rw [← hR]
            repeat' first | refine s1 ?_ | fail
            exact ⟨k + 1, F.fit ⟨rfl, trivial⟩ ⟨rfl, trivial⟩, by omega, by omega⟩
        · rw [if_neg c1] at hR
          have b2 : -12 ≤ R.getD (0 + (q.fr.getD k default).toNat) default ∧ R.getD (0 + (q.fr.getD k default).toNat) default ≤ 2 := by rw [Nat.zero_add]; exact r2 _ (by omega)
          by_cases c2 : q.to.getD k default = (v : Int)
          · rw [show (let r1 := R; if q.to.getD k default = (v : Int) then decL r1 (q.fr.getD k default).toNat else r1) = decL R (q.fr.getD k default).toNat from if_pos c2] at hR
            repeat' first | refine s1 ?_ | fail
            refine AW.draw 16 G.mixed (by kernel_rfl) ?_
            refine dP 0 ?_
            refine dP 1 ?_
            refine dL 2 ?_
            refine dP 3 ?_
            refine dP 4 ?_
            refine dL 5 ?_
            refine dP 6 ?_
            refine dP 7 ?_
            refine dL 8 ?_
            refine dP 9 ?_
            refine dP 10 ?_
            refine dL 11 ?_
            refine dP 12 ?_
            refine dL 13 ?_
            refine dP 14 ?_
            refine dP 15 ?_
            refine dO 16 false ?_
            refine s1 ?_
            refine ARg.nil (ATh.normal ?_)
            refine dN ?_
            rw [show R.set (0 + (q.fr.getD k default).toNat) (R.getD (0 + (q.fr.getD k default).toNat) default - 1) = decL R (q.fr.getD k default).toNat by rw [Nat.zero_add]; rfl, ← hR]
            repeat' first | refine s1 ?_ | fail
            exact ⟨k + 1, F.fit ⟨rfl, trivial⟩ ⟨rfl, trivial⟩, by omega, by omega⟩
          · rw [show (let r1 := R; if q.to.getD k default = (v : Int) then decL r1 (q.fr.getD k default).toNat else r1) = R from if_neg c2] at hR
            rw [← hR]
            repeat' first | refine s1 ?_ | fail
            exact ⟨k + 1, F.fit ⟨rfl, trivial⟩ ⟨rfl, trivial⟩, by omega, by omega⟩
      · obtain rfl : k = q.fr.length := by omega
        have r1 := (rowK_sq hq v hlt q.fr.length (Nat.le_refl _)).1
        repeat' first | refine s1 ?_ | (refine kR ?_; first | refine F.a1 (List Int) ?_) | fail
        exact ⟨v + 1, F.fit ⟨rfl, rfl, trivial⟩ ⟨obE (by rw [hT]), trivial⟩, by omega, by omega⟩
    · obtain rfl : v = q.n.toNat := by omega
      have e : (symM q q.fr.length).take q.n.toNat = symM q q.fr.length := List.take_of_length_le (by omega)
      rw [e] at ht ⊢
      repeat' first | refine s1 ?_ | fail
      (refine kZ ?_; exact F.ret rfl)
end Go.Proofs.Ytcalkmlaodjpaaa.V
