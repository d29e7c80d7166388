/- Contracts of small functions. -/
import Derived.Test.YthgdabghhcbmgaaGt
namespace Go.Proofs.Ythgdabghhcbmgaa.F
open Go.RowKit G
set_option linter.unusedVariables false

theorem within_c (n lo hi : Int) (w : World) : Run Try.prog 51 [.int .i64 n, .int .i64 lo, .int .i64 hi] w fun v w' => v = .bool (decide (lo ≤ n) && decide (n ≤ hi)) ∧ w' = w := by
  refine Run.go Try.func51 Try.ntmps51 rfl rfl ?_
  repeat' first | refine go1 ?_ | (refine go2 ?_ ?_ <;> intro hc)
  all_goals refine Fin.oneB rfl rfl ?_
  all_goals simp [hc]
theorem l1In_c (n lo hi : Int) (w : World) : Run Try.prog 32 [.int .i64 n, .int .i64 lo, .int .i64 hi] w fun v w' => v = .bool (decide (lo ≤ n) && decide (n ≤ hi)) ∧ w' = w := by
  refine Run.go Try.func32 Try.ntmps32 rfl rfl ?_
  repeat' first | refine go1 ?_ | (refine go2 ?_ ?_ <;> intro hc)
  all_goals refine Fin.oneB rfl rfl ?_
  all_goals simp [hc]

/-- what is left of a number of elements -/
def szL (l : Nat) (left : Int) : Int := if left - l < 0 then -1 else left - l
theorem szIntS_c (p : Option Addr) (l c : Nat) (left : Int) (hl : l ≤ maxLen) (h0 : 0 ≤ left) (h1 : left ≤ 1048576) (w : World) :
    Run Try.prog 33 [.slice p l c, .int .i64 left] w fun v w' => v = .int .i64 (szL l left) ∧ w' = w := by
  unfold maxLen at hl
  refine Run.go Try.func33 Try.ntmps33 rfl rfl ?_
  repeat' first | refine go1 ?_ | (refine go2 ?_ ?_ <;> intro hc)
  all_goals refine Fin.oneI rfl rfl ⟨?_, rfl⟩
  all_goals simp [szL, hc]

theorem eqIntS_c (xs ys : List Int) (va vb : Value) (Fa Fb : List Nat) (w : World) (ha : intsR.V w xs [va] Fa) (hb : intsR.V w ys [vb] Fb) :
    Run Try.prog 17 [va, vb] w fun v w' => v = .bool (decide (xs = ys)) ∧ Later w w' := by
  obtain ⟨p, c, rfl, hpc, hcm, hp⟩ := listR.open1 ha
  obtain ⟨q, d, rfl, hqd, hdm, hq⟩ := listR.open1 hb
  refine Run.go Try.func17 Try.ntmps17 rfl rfl ?_
  repeat' first | refine go1 ?_ | (refine go2 ?_ ?_ <;> intro hc)
  · refine Fin.oneB rfl rfl ⟨?_, Later.refl _⟩
    have : xs ≠ ys := fun e => by rw [e] at hc; exact hc rfl
    simp [this]
  · have hlen : xs.length = ys.length := by omega
    refine Wp.loopS (σ := Nat) [4, 5, 11, 12, 13, 14, 15, 16, 17, 18, 19, 20, 21, 22, 23, 24, 25] (fun k => [(5, .int .i64 (k : Int))]) (fun k wr => k ≤ xs.length ∧ Later w wr ∧ xs.take k = ys.take k) (fun k => xs.length - k) 0 ⟨rfl, trivial⟩ ⟨Nat.zero_le _, Later.refl _, rfl⟩ ?_
    rintro k wr h ⟨hk, hl, hpre⟩
    repeat' first | refine go1 ?_ | (refine go2 ?_ ?_ <;> intro hc)
    · obtain ⟨b, o, rfl, hca, hia, _⟩ := hp.int (k := k) (by omega)
      obtain ⟨b', o', rfl, hcb, hib, _⟩ := hq.int (k := k) (by omega)
      have h1 := hl.cell hca
      have h2 := hl.cell hcb
      refine Wp.draw 9 mixed (by kernel_rfl) ?_
      first
        | refine td 0 ?_
        | refine sd 0 ?_
      first
        | refine td 1 ?_
        | refine sd 1 ?_
      first
        | refine td 2 ?_
        | refine sd 2 ?_
      first
        | refine td 3 ?_
        | refine sd 3 ?_
      first
        | refine td 4 ?_
        | refine sd 4 ?_
      first
        | refine td 5 ?_
        | refine sd 5 ?_
      first
        | refine td 6 ?_
        | refine sd 6 ?_
      first
        | refine td 7 ?_
        | refine sd 7 ?_
      first
        | refine td 8 ?_
        | refine sd 8 ?_
      refine RgA.nil (by kernel_rfl) ?_
      repeat' first | refine go1 ?_ | (refine go2 ?_ ?_ <;> intro hc)
      · refine Fin.oneB rfl rfl ⟨?_, hl.drew⟩
        have : xs ≠ ys := fun e => hc (by subst e; rfl)
        simp [this]
      · have heq : xs[k] = ys[k] := by omega
        refine ⟨k + 1, ⟨rfl, trivial⟩, agr, ⟨by omega, hl.drew, ?_⟩, by omega⟩
        rw [List.take_succ_eq_append_getElem (by omega), List.take_succ_eq_append_getElem (by omega), hpre, heq]
    · refine Fin.oneB rfl rfl ⟨?_, hl⟩
      have : xs = ys := by
        rw [List.take_of_length_le (by omega), List.take_of_length_le (by omega)] at hpre; exact hpre
      simp [this]

theorem toIntS_c (xs : List Int) (va : Value) (Fa : List Nat) (w : World) (ha : intsR.V w xs [va] Fa) (hn : xs.length ≤ 1048576) :
    Run Try.prog 14 [va] w fun v w' => Later w w' ∧ ∃ F, New intsR w xs [v] w' F := by
  have hin := intsR.bounds ha
  obtain ⟨p, c, rfl, hpc, hcm, hp⟩ := listR.open1 ha
  refine Run.go Try.func14 Try.ntmps14 rfl rfl ?_
  repeat' first | refine go1 ?_ | (refine jR ?_; first | refine Rg.make1 rfl rfl rfl rfl (by omega) (by omega) rfl rfl (fun b w1 hb hs hl hB => ?_)) | (refine go2 ?_ ?_ <;> intro hc)
  refine Wp.loopS (σ := Nat) [4, 8, 9, 10, 11, 12, 13, 14, 15, 16, 17, 18, 19, 20] (fun k => [(4, .int .i64 (k : Int))]) (fun k wr => k ≤ xs.length ∧ Later w wr ∧ Blk wr b ((xs.take k).map (.int .i64) ++ List.replicate (xs.length - k) (.int .i64 0)) 3) (fun k => xs.length - k) 0 ⟨rfl, trivial⟩ ⟨Nat.zero_le _, hl, by simpa using hB⟩ ?_
  rintro k wr h ⟨hk, hl1, hB1⟩
  repeat' first | refine go1 ?_ | (refine go2 ?_ ?_ <;> intro hc)
  · obtain ⟨ab, ao, rfl, hca, hia, _⟩ := hp.int (k := k) (by omega)
    have h1 := hl1.cell hca
    repeat' first | refine go1 ?_ | (refine jR ?_; first | refine Rg.storeI rfl rfl hB1 (by simp; omega) rfl rfl (fun w2 hw2 hB2 => ?_)) | (refine go2 ?_ ?_ <;> intro hc)
    refine ⟨k + 1, ⟨rfl, trivial⟩, agr, ⟨by omega, hl1.trans' (hw2.below (by omega)), ?_⟩, by omega⟩
    rw [Nat.zero_add, fill_set _ _ _ _ (by omega)] at hB2
    exact hB2
  · have e : k = xs.length := by omega
    subst e
    refine Fin.oneS rfl rfl ⟨hl1, ?_⟩
    obtain ⟨F, h1, _⟩ := newInts (w := w) (xs := xs) (by simpa using hB1) (by omega) hin (by omega)
    exact ⟨F, h1⟩

/-- numbers in a row from k on -/
def mkL (k : Int) (n : Nat) : List Int := (List.range n).map fun (i : Nat) => k + (i : Int)
theorem mkL_length (k : Int) (n : Nat) : (mkL k n).length = n := by simp [mkL]
def mkP (k : Int) (xs : List Int) (m : Nat) : List Int := (List.range xs.length).map fun (i : Nat) => if i < m then k + (i : Int) else xs.getD i 0
theorem mkP_length (k : Int) (xs : List Int) (m : Nat) : (mkP k xs m).length = xs.length := by simp [mkP]
theorem mkP_zero (k : Int) (xs : List Int) : mkP k xs 0 = xs := by
  apply List.ext_getElem
  · simp [mkP]
  · intro i h1 h2; simp [mkP, h2]
theorem mkP_all (k : Int) (xs : List Int) : mkP k xs xs.length = mkL k xs.length := by
  simp only [mkP, mkL]
  apply List.map_congr_left
  intro i hi
  rw [if_pos (List.mem_range.1 hi)]
theorem mkP_set (k : Int) (xs : List Int) (m : Nat) (hm : m < xs.length) : (mkP k xs m).set m (k + (m : Int)) = mkP k xs (m + 1) := by
  apply List.ext_getElem
  · simp [mkP]
  · intro i h1 h2
    rw [List.getElem_set]
    by_cases h : m = i
    · subst h; simp [mkP]
    · rw [if_neg h]
      simp only [mkP, List.getElem_map, List.getElem_range]
      have : i < m + 1 ↔ i < m := by omega
      simp [this]

theorem markIntS_c (xs : List Int) (va : Value) (Fa : List Nat) (w : World) (ha : intsR.V w xs [va] Fa) (hop : Opn w Fa) (hn : xs.length ≤ 1048576) (k0 : Int) (h0 : 0 ≤ k0) (h1 : k0 ≤ 2097152) :
    Run Try.prog 45 [va, .int .i64 k0] w fun v w' => v = .int .i64 (k0 + xs.length) ∧ Marked Fa w w' ∧ intsR.V w' (mkL k0 xs.length) [va] Fa ∧ Opn w' Fa := by
  obtain ⟨p, c, rfl, hpc, hcm, hp⟩ := listR.open1 ha
  refine Run.go Try.func45 Try.ntmps45 rfl rfl ?_
  repeat' first | refine go1 ?_ | (refine go2 ?_ ?_ <;> intro hc)
  refine Wp.loopS (σ := Nat) [1, 5, 6, 7, 8, 9, 10, 11, 12, 13, 14, 15, 16, 17] (fun k => [(5, .int .i64 (k : Int)), (1, .int .i64 (k0 + k))]) (fun k wr => k ≤ xs.length ∧ Marked Fa w wr ∧ intsR.V wr (mkP k0 xs k) [.slice p xs.length c] Fa ∧ Opn wr Fa) (fun k => xs.length - k) 0
    ⟨rfl, intEq (by omega), trivial⟩ ⟨Nat.zero_le _, Marked.refl _ _, by rw [mkP_zero]; exact ha, hop⟩ ?_
  rintro k wr h ⟨hk, hm, hV, ho⟩
  repeat' first | refine go1 ?_ | (refine go2 ?_ ?_ <;> intro hc)
  · obtain ⟨b, o, rfl, _, _, hb⟩ := hp.int (k := k) (by omega)
    obtain ⟨cur, e, hB⟩ := ho b hb
    have hlt : o + k < cur.length := by
      obtain ⟨p', c', h1, _, _, hl'⟩ := listR.open1 hV
      simp only [Value.slice.injEq] at h1
      obtain ⟨b', o', h2, h3, _⟩ := hl'.int (k := k) (by rw [mkP_length]; omega)
      rw [← h1.1] at h2
      cases h2
      unfold World.cell? at h3
      unfold Blk at hB
      simp only [hB] at h3
      exact (List.getElem?_eq_some_iff.1 (by simpa using h3)).1
    repeat' first | refine go1 ?_ | (refine jR ?_; first | refine Rg.storeI rfl rfl hB hlt rfl rfl (fun w2 hw2 hB2 => ?_)) | (refine go2 ?_ ?_ <;> intro hc)
    have hV2 := intsR.set hV (by rw [mkP_length]; omega) ⟨by omega, by omega⟩ hB hw2 hB2
    rw [mkP_set _ _ _ (by omega)] at hV2
    refine ⟨k + 1, ⟨rfl, intEq (by omega), trivial⟩, agr, ⟨by omega, hm.trans (Marked.wrote hw2 hb), hV2, ho.wrote hw2 hB2⟩, by omega⟩
  · have e : k = xs.length := by omega
    subst e
    rw [mkP_all] at hV
    exact Fin.oneI rfl rfl ⟨rfl, hm, hV, ho⟩

theorem heldIntS_c (n : Nat) (va : Value) (Fa : List Nat) (w : World) (k0 : Int) (ha : intsR.V w (mkL k0 n) [va] Fa) (hn : n ≤ 1048576) (h0 : 0 ≤ k0) (h1 : k0 ≤ 2097152) :
    Run Try.prog 46 [va, .int .i64 k0] w fun v w' => v = .int .i64 (k0 + n) ∧ w' = w := by
  obtain ⟨p, c, rfl, hpc, hcm, hp⟩ := listR.open1 ha
  rw [mkL_length] at *
  refine Run.go Try.func46 Try.ntmps46 rfl rfl ?_
  repeat' first | refine go1 ?_ | (refine go2 ?_ ?_ <;> intro hc)
  refine Wp.loopS (σ := Nat) [1, 4, 5, 6, 7, 8, 9, 10, 11, 12, 13, 14, 15, 16, 17, 18, 19] (fun k => [(5, .int .i64 (k : Int)), (1, .int .i64 (k0 + k))]) (fun k wr => k ≤ n ∧ wr = w) (fun k => n - k) 0
    ⟨rfl, intEq (by omega), trivial⟩ ⟨Nat.zero_le _, rfl⟩ ?_
  rintro k wr h ⟨hk, rfl⟩
  repeat' first | refine go1 ?_ | (refine go2 ?_ ?_ <;> intro hc)
  · obtain ⟨b, o, rfl, hc1, _, _⟩ := hp.int (k := k) (by rw [mkL_length]; omega)
    have e1 : (mkL k0 n)[k]'(by rw [mkL_length]; omega) = k0 + k := by simp [mkL]
    rw [e1] at hc1
    repeat' first | refine go1 ?_ | (refine go2 ?_ ?_ <;> intro hc)
    refine ⟨k + 1, ⟨rfl, intEq (by omega), trivial⟩, agr, ⟨by omega, rfl⟩, by omega⟩
  · have e : k = n := by omega
    subst e
    exact Fin.oneI rfl rfl ⟨rfl, rfl⟩
end Go.Proofs.Ythgdabghhcbmgaa.F
