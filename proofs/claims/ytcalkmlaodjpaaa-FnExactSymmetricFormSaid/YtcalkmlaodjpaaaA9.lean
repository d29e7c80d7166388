/- Contracts: symmetric forms. -/
import Derived.Test.YtcalkmlaodjpaaaA7
import Derived.Test.YtcalkmlaodjpaaaPb
namespace Go.Proofs.Ytcalkmlaodjpaaa.V
open V.Enc (enc)
open Go.RowKit G D
set_option linter.unusedVariables false
set_option linter.unusedSimpArgs false
set_option maxHeartbeats 400000
attribute [local irreducible] AW ARg ARA ARet MRet ASil AC AM

/-- the first k rows are laid -/
def symP (n k : Nat) : List (List Int) := (List.range k).map (symRow n) ++ List.replicate (n - k) []
theorem symP_len {n k : Nat} (h : k ≤ n) : (symP n k).length = n := by simp [symP]; omega
theorem symP_get {n k : Nat} (h : k < n) : (symP n k).getD k default = [] := by
  unfold symP
  rw [List.getD_eq_getElem?_getD, List.getElem?_append_right (by simp)]
  simp only [List.length_map, List.length_range, Nat.sub_self, List.getElem?_replicate]
  split <;> rfl
theorem symP_set {n k : Nat} (h : k < n) : (symP n k).set k (symRow n k) = symP n (k + 1) := by
  unfold symP
  obtain ⟨m, hm⟩ : ∃ m, n - k = m + 1 := ⟨n - k - 1, by omega⟩
  rw [List.set_append_right _ _ (by simp), hm, List.replicate_succ]
  simp only [List.length_map, List.length_range, Nat.sub_self, List.set_cons_zero, List.range_succ, List.map_append, List.map_cons, List.map_nil, List.append_assoc]
  rw [show n - (k + 1) = m by omega]; rfl
theorem symmetric_a (q : Quiv) (hq : okQ q = true) : AC Try.prog 71 [.agg (enc false q)] [.dt true 1 (E true (symM q q.fr.length))] := by
  refine AC.go Try.func71 Try.ntmps71 rfl rfl fun w0 hw => ?_; simp [WfL, WfA, E_length, Enc.enc, In64] at hw
  have h5 := okQ_spec hq
  have hn : ((q.n.toNat : Nat) : Int) = q.n := Int.toNat_of_nonneg (by omega)
  generalize hN : q.n.toNat = n at hn
  repeat' first | refine s1 ?_ | (refine kR ?_; first | refine F.mk (m := n) (List Int) rfl rfl hn.symm (mkB (by omega)) (by omega) rfl rfl ?_) | fail
  refine F.loop (σ := Nat) [4, 12, 13, 14, 15, 16, 17, 18, 19, 20, 21, 22, 23, 24, 25, 26, 27] (fun k => [(12, .i k)]) (fun k => [(1, .live false 1 (E true (symP n k)))]) (fun k => k ≤ n) (fun k => n - k) 0 ⟨rfl, trivial⟩ ⟨obE (by simp [symP]), trivial⟩ (Nat.zero_le _) ?_
  rintro k h1
  have hp := symP_len h1
  by_cases hlt : k < n
  · have hg := symP_get hlt
    have hs := symP_set hlt
    generalize symP n k = L at hp hg hs ⊢
    repeat' first | refine s1 ?_ | (refine kR ?_; first | refine F.mk (m := n) Int rfl rfl hn.symm (mkB (by omega)) (by omega) rfl rfl ?_) | fail
    refine F.stE (α := List Int) (oo := true) (List.replicate n 0) rfl rfl rfl rfl (by omega) (by omega) rfl (.mv rfl (by simp) (by simp [E_length]) (E_pure _ _) .nil) rfl rfl rfl rfl rfl ?_
    rw [Nat.zero_add k]
    generalize hL1 : L.set k (List.replicate n 0) = L1
    have hp1 : L1.length = n := by rw [← hL1]; simp [hp]
    have hg1 : L1.getD k default = List.replicate n 0 := by rw [← hL1]; simp [hp, hlt]
    repeat' first | refine s1 ?_ | fail
    refine F.ldTE (α := List Int) (j := 0) rfl rfl (by omega) (by omega) (by rw [Nat.zero_add k, hg1]; rfl) (by rw [E_length, List.length_replicate]) rfl rfl ?_
    rw [Nat.zero_add k]
    refine s1 ?_
    refine s1 ?_
    refine s1 ?_
    refine F.put (α := List Int) (o := 1) (o2 := 3) (k := k) (j := 0) (v := symRow n k) (ls := L1) rfl rfl (by simp [E_length]) (E_pure _ _) rfl (by omega) rfl (by rw [Nat.zero_add k, hg1]; rfl) ?_
    have e : L1.set k (symRow n k) = symP n (k + 1) := by rw [← hL1, List.set_set, hs]
    rw [e]
    repeat' first | refine s1 ?_ | fail
    exact ⟨k + 1, F.fit ⟨rfl, trivial⟩ ⟨rfl, trivial⟩, by omega, by omega⟩
  · obtain rfl : k = n := by omega
    have e0 : symP k k = symM q 0 := by simp [symP, symM, hN]
    have hq0 := (symM_sq hq 0 (by omega)).1
    rw [e0] at hp ⊢
    repeat' first | refine s1 ?_ | fail
    refine F.loop (σ := Nat) [5, 6, 31, 32, 33, 34, 35, 36, 37, 38, 39, 40, 41, 42, 43, 44, 45, 46, 47, 48, 49, 50, 51, 52, 53, 54, 55, 56, 57, 58, 59, 60, 61, 62] (fun j => [(31, .i j)]) (fun j => [(1, .live false 1 (E true (symM q j)))]) (fun j => j ≤ q.fr.length) (fun j => q.fr.length - j) 0 ⟨rfl, trivial⟩ ⟨rfl, trivial⟩ (Nat.zero_le _) ?_
    rintro j h2
    have hsq := symM_sq hq j h2
    rw [hN] at hsq
    have hMl := hsq.1
    by_cases hlt2 : j < q.fr.length
    · have f := okQ_fr hq hlt2
      have t := okQ_to hq hlt2
      have f' : 0 ≤ q.fr.getD j default ∧ q.fr.getD j default < q.n := f
      have t' : 0 ≤ q.to.getD j default ∧ q.to.getD j default < q.n := t
      have ef : (((q.fr.getD j default).toNat : Nat) : Int) = q.fr.getD j default := Int.toNat_of_nonneg f'.1
      have et : (((q.to.getD j default).toNat : Nat) : Int) = q.to.getD j default := Int.toNat_of_nonneg t'.1
      have hS : symM q (j + 1) = dec2 (dec2 (symM q j) (q.fr.getD j default).toNat (q.to.getD j default).toNat) (q.to.getD j default).toNat (q.fr.getD j default).toNat := rfl
      generalize symM q j = M at hsq hS ⊢
      have hM := hsq.1
      have r1 : (M.getD (q.fr.getD j default).toNat default).length = k := (hsq.2 (q.fr.getD j default).toNat (by omega)).1
      have r2 : (M.getD (q.to.getD j default).toNat default).length = k := (hsq.2 (q.to.getD j default).toNat (by omega)).1
      have rb : -2 * (j : Int) ≤ (M.getD (q.fr.getD j default).toNat default).getD (0 + (q.to.getD j default).toNat) default ∧ (M.getD (q.fr.getD j default).toNat default).getD (0 + (q.to.getD j default).toNat) default ≤ 2 := by
        rw [Nat.zero_add]; exact (hsq.2 (q.fr.getD j default).toNat (by omega)).2 (q.to.getD j default).toNat (by omega)
      have hsq2 := hsq.dec2 (i := (q.fr.getD j default).toNat) (k := (q.to.getD j default).toNat) (by omega) (by omega)
      refine AW.takeE (α := List Int) (o := 1) (k := (q.fr.getD j default).toNat) (j := 0) (sz := 1) rfl (by omega) rfl (E_length _ _) ?_
      repeat' first | refine s1 ?_ | fail
      refine AW.draw 13 G.mixed (by kernel_rfl) ?_
      refine dP 0 ?_
      refine dP 1 ?_
      first | refine dP 2 ?_ | refine dP 2 ?_ (hs := by exact (A.idxT rfl rfl rfl (by rw [E_length]; omega) (Int.toNat_of_nonneg (by omega)).symm (by omega)))
      first | refine dL 3 ?_ | refine dL 3 ?_ (hs := by exact (A.ldS rfl rfl (by rw [E_length]; omega) (Nat.zero_add _) (by rw [E_length]; omega) rfl rfl))
      refine dP 4 ?_
      first | refine dL 5 ?_ | refine dL 5 ?_ (hs := by exact (A.ldS rfl rfl (by rw [E_length]; omega) (Nat.zero_add _) (by rw [E_length]; omega) rfl rfl))
      refine dP 6 ?_
      first | refine dP 7 ?_ | refine dP 7 ?_ (hs := by exact (A.idxT rfl rfl rfl (by rw [E_length]; omega) (Int.toNat_of_nonneg (by omega)).symm (by omega)))
      first | refine dL 8 ?_ | refine dL 8 ?_ (hs := by exact (A.ldS rfl rfl (by rw [E_length]; omega) (Nat.zero_add _) (by rw [E_length]; omega) rfl rfl))
      first | refine dP 9 ?_ | refine dP 9 ?_ (hs := by exact (A.idxT rfl rfl rfl (by rw [E_length]; omega) (Int.toNat_of_nonneg (by omega)).symm (by omega)))
      first | refine dL 10 ?_ | refine dL 10 ?_ (hs := by exact (A.ldS rfl rfl (by rw [E_length]; omega) (Nat.zero_add _) (by rw [E_length]; omega) rfl rfl))
      refine dP 11 ?_
      first | refine dP 12 ?_ | refine dP 12 ?_ (hs := by exact (A.idxT rfl rfl rfl (by rw [E_length]; omega) (Int.toNat_of_nonneg (by omega)).symm (by omega)))
      refine dO 13 false ?_
      refine s1 ?_
      refine ARg.nil (ATh.normal ?_)
      refine dN ?_
      refine s1 ?_
      refine F.put (α := List Int) (o := 1) (o2 := 2) (k := (q.fr.getD j default).toNat) (j := 0) (x := M.getD (q.fr.getD j default).toNat default) (ys := E true ((M.getD (q.fr.getD j default).toNat default).set (0 + (q.to.getD j default).toNat) ((M.getD (q.fr.getD j default).toNat default).getD (0 + (q.to.getD j default).toNat) default - 1))) (v := ((M.getD (q.fr.getD j default).toNat default).set (q.to.getD j default).toNat ((M.getD (q.fr.getD j default).toNat default).getD (q.to.getD j default).toNat default - 1))) (ls := M) rfl rfl (by rw [E_length, List.length_set]) (E_pure _ _) rfl (by omega) rfl (by rw [Nat.zero_add]; rfl) ?_
      have e1 : M.set (q.fr.getD j default).toNat ((M.getD (q.fr.getD j default).toNat default).set (q.to.getD j default).toNat ((M.getD (q.fr.getD j default).toNat default).getD (q.to.getD j default).toNat default - 1)) = dec2 M (q.fr.getD j default).toNat (q.to.getD j default).toNat := rfl
      rw [e1]
      generalize dec2 M (q.fr.getD j default).toNat (q.to.getD j default).toNat = M2 at hsq2 hS ⊢
      have hM2 := hsq2.1
      have r3 : (M2.getD (q.to.getD j default).toNat default).length = k := (hsq2.2 (q.to.getD j default).toNat (by omega)).1
      have rb2 : -2 * (j : Int) - 1 ≤ (M2.getD (q.to.getD j default).toNat default).getD (0 + (q.fr.getD j default).toNat) default ∧ (M2.getD (q.to.getD j default).toNat default).getD (0 + (q.fr.getD j default).toNat) default ≤ 2 := by
        rw [Nat.zero_add]; exact (hsq2.2 (q.to.getD j default).toNat (by omega)).2 (q.fr.getD j default).toNat (by omega)
      repeat' first | refine s1 ?_ | fail
      refine F.ldTE (α := List Int) (j := 0) rfl rfl (by omega) (by omega) (by rw [Nat.zero_add (q.to.getD j default).toNat]; rfl) (E_length _ _) rfl rfl ?_
      rw [Nat.zero_add (q.to.getD j default).toNat]
      refine s1 ?_
      refine s1 ?_
      refine s1 ?_
      refine s1 ?_
      refine s1 ?_
      refine s1 ?_
      refine F.put (α := List Int) (o := 1) (o2 := 3) (k := (q.to.getD j default).toNat) (j := 0) (x := M2.getD (q.to.getD j default).toNat default) (ys := E true ((M2.getD (q.to.getD j default).toNat default).set (0 + (q.fr.getD j default).toNat) ((M2.getD (q.to.getD j default).toNat default).getD (0 + (q.fr.getD j default).toNat) default - 1))) (v := ((M2.getD (q.to.getD j default).toNat default).set (q.fr.getD j default).toNat ((M2.getD (q.to.getD j default).toNat default).getD (q.fr.getD j default).toNat default - 1))) (ls := M2) rfl rfl (by rw [E_length, List.length_set]) (E_pure _ _) rfl (by omega) rfl (by rw [Nat.zero_add]; rfl) ?_
      have e2 : M2.set (q.to.getD j default).toNat ((M2.getD (q.to.getD j default).toNat default).set (q.fr.getD j default).toNat ((M2.getD (q.to.getD j default).toNat default).getD (q.fr.getD j default).toNat default - 1)) = symM q (j + 1) := hS.symm
      rw [e2]
      repeat' first | refine s1 ?_ | fail
      exact ⟨j + 1, F.fit ⟨rfl, trivial⟩ ⟨rfl, trivial⟩, by omega, by omega⟩
    · obtain rfl : j = q.fr.length := by omega
      have hl := hsq.1
      repeat' first | refine s1 ?_ | fail
      (refine kZ ?_; exact F.ret rfl)
end Go.Proofs.Ytcalkmlaodjpaaa.V
