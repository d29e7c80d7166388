/- Texts that the proof needs: A172. -/
import Derived.Test.YtoilkinagffhiaaQffA171
namespace Go.Proofs.Ytoilkinagffhiaa.V
open Go.RowKit G D
set_option linter.unusedVariables false
set_option linter.unusedSimpArgs false
set_option maxHeartbeats 4000000
set_option maxRecDepth 10000
structure Good (n : Nat) (M : List (List Int)) : Prop where
 sq : Sq M n (-12) 2
 sym : ∀ i j, i < n → j < n → get2 M i j = get2 M j i
 par : ∀ i, i < n → get2 M i i % 2 = 0
 neg : ∀ i j, i < n → j < n → i ≠ j → get2 M i j ≤ 0
 pos : ∀ s, 1 ≤ s → s < 2 ^ n → 0 < det (sel s n).length (pickM s n n M)
theorem sel1 : ∀ n, n < 6 → ∀ i, i < n → sel (2 ^ i) n = [i] ∧ 1 ≤ 2 ^ i ∧ 2 ^ i < 2 ^ n := by decide +kernel
theorem sel2 : ∀ n, n < 6 → ∀ j, j < n → ∀ i, i < j → sel (2 ^ i + 2 ^ j) n = [i, j] ∧ 1 ≤ 2 ^ i + 2 ^ j ∧ 2 ^ i + 2 ^ j < 2 ^ n := by decide +kernel
def sel3B : Bool := (List.range 6).all fun n => (List.range n).all fun k => (List.range k).all fun j => (List.range j).all fun i => decide (sel (2 ^ i + 2 ^ j + 2 ^ k) n = [i, j, k]) && decide (1 ≤ 2 ^ i + 2 ^ j + 2 ^ k) && decide (2 ^ i + 2 ^ j + 2 ^ k < 2 ^ n)
theorem sel3C : sel3B = true := by kernel_rfl
theorem sel3 {n : Nat} (hn : n < 6) {k : Nat} (hk : k < n) {j : Nat} (hj : j < k) {i : Nat} (hi : i < j) : sel (2 ^ i + 2 ^ j + 2 ^ k) n = [i, j, k] ∧ 1 ≤ 2 ^ i + 2 ^ j + 2 ^ k ∧ 2 ^ i + 2 ^ j + 2 ^ k < 2 ^ n := by
 have h := sel3C
 unfold sel3B at h
 have h1 := List.all_eq_true.1 h n (by simpa using hn)
 have h2 := List.all_eq_true.1 h1 k (by simpa using hk)
 have h3 := List.all_eq_true.1 h2 j (by simpa using hj)
 have h4 := List.all_eq_true.1 h3 i (by simpa using hi)
 simp only [Bool.and_eq_true, decide_eq_true_eq] at h4
 exact ⟨h4.1.1, h4.1.2, h4.2⟩
theorem pick1 {s n i : Nat} {M : List (List Int)} (h : sel s n = [i]) : det (sel s n).length (pickM s n n M) = get2 M i i := by
 unfold pickM pickR
 rw [h]
 show 0 + 1 * get2 M i i * 1 = _
 omega
theorem det2 (a b c d : Int) : det 2 [[a, b], [c, d]] = a * d - b * c := by
 show 0 + 1 * a * (0 + 1 * d * 1) + -1 * b * (0 + 1 * c * 1) = _
 grind
theorem pick2 {s n i j : Nat} {M : List (List Int)} (h : sel s n = [i, j]) : det (sel s n).length (pickM s n n M) = get2 M i i * get2 M j j - get2 M i j * get2 M j i := by
 unfold pickM pickR
 rw [h]
 exact det2 _ _ _ _
theorem pick3 {s n i j k : Nat} {M : List (List Int)} (h : sel s n = [i, j, k]) : det (sel s n).length (pickM s n n M) = det 3 [[get2 M i i, get2 M i j, get2 M i k], [get2 M j i, get2 M j j, get2 M j k], [get2 M k i, get2 M k j, get2 M k k]] := by
 unfold pickM pickR
 rw [h]
 rfl
theorem Good.diag {n : Nat} {M : List (List Int)} (h : Good n M) (hn : n < 6) {i : Nat} (hi : i < n) : get2 M i i = 2 := by
 obtain ⟨h1, h2, h3⟩ := sel1 n hn i hi
 have h4 := h.pos _ h2 h3
 rw [pick1 h1] at h4
 have h5 := h.par i hi
 have h6 := (h.sq.2 i hi).2 i hi
 omega
theorem Good.off {n : Nat} {M : List (List Int)} (h : Good n M) (hn : n < 6) {i j : Nat} (hij : i < j) (hj : j < n) : get2 M i j = 0 ∨ get2 M i j = -1 := by
 obtain ⟨h1, h2, h3⟩ := sel2 n hn j hj i hij
 have h4 := h.pos _ h2 h3
 rw [pick2 h1, h.diag hn (show i < n by omega), h.diag hn hj, h.sym j i hj (by omega)] at h4
 have h5 := h.neg i j (by omega) hj (by omega)
 generalize get2 M i j = a at h4 h5
 rcases Int.lt_or_le a (-1) with h6 | h6
 ·have := Int.mul_le_mul_of_nonpos_left (a := a) (b := -2) (c := a) (by omega) (by omega)
  omega
 ·omega
theorem Good.tri {n : Nat} {M : List (List Int)} (h : Good n M) (hn : n < 6) {i j k : Nat} (hij : i < j) (hjk : j < k) (hk : k < n) (h1 : get2 M i j = -1) (h2 : get2 M i k = -1) (h3 : get2 M j k = -1) : False := by
 obtain ⟨g1, g2, g3⟩ := sel3 hn hk hjk hij
 have h4 := h.pos _ g2 g3
 rw [pick3 g1, h.diag hn (show i < n by omega), h.diag hn (show j < n by omega), h.diag hn hk, h.sym j i (by omega) (by omega), h.sym k i (by omega) (by omega), h.sym k j (by omega) (by omega), h1, h2, h3] at h4
 exact absurd h4 (by decide)
theorem len1 {α : Type} {l : List α} (h : l.length = 1) : ∃ a, l = [a] := by
 match l, h with
 | [a], _ => exact ⟨a, rfl⟩
theorem len2 {α : Type} {l : List α} (h : l.length = 2) : ∃ a b, l = [a, b] := by
 match l, h with
 | [a, b], _ => exact ⟨a, b, rfl⟩
theorem len3 {α : Type} {l : List α} (h : l.length = 3) : ∃ a b c, l = [a, b, c] := by
 match l, h with
 | [a, b, c], _ => exact ⟨a, b, c, rfl⟩
theorem len4 {α : Type} {l : List α} (h : l.length = 4) : ∃ a b c d, l = [a, b, c, d] := by
 match l, h with
 | [a, b, c, d], _ => exact ⟨a, b, c, d, rfl⟩
theorem len5 {α : Type} {l : List α} (h : l.length = 5) : ∃ a b c d e, l = [a, b, c, d, e] := by
 match l, h with
 | [a, b, c, d, e], _ => exact ⟨a, b, c, d, e, rfl⟩
theorem Good.mat1 {M : List (List Int)} (h : Good 1 M) : ∃ l : List Int, l.length = 0 ∧ (∀ y ∈ l, y = 0 ∨ y = -1) ∧ M = gmat 1 l ∧ l = [] := by
 have d0 := h.diag (by omega) (show 0 < 1 by omega)
 have l0 := (h.sq.2 0 (by omega)).1
 obtain ⟨r0, rfl⟩ := len1 h.sq.1
 change r0.length = 1 at l0
 obtain ⟨m00, rfl⟩ := len1 l0
 change m00 = 2 at d0
 clear h
 subst d0
 exact ⟨[], rfl, (fun y hy => by simp at hy), rfl, rfl⟩
theorem Good.mat2 {M : List (List Int)} (h : Good 2 M) : ∃ l : List Int, l.length = 1 ∧ (∀ y ∈ l, y = 0 ∨ y = -1) ∧ M = gmat 2 l ∧ l = [get2 M 0 1] := by
 have d0 := h.diag (by omega) (show 0 < 2 by omega)
 have d1 := h.diag (by omega) (show 1 < 2 by omega)
 have o01 := h.off (by omega) (show 0 < 1 by omega) (show 1 < 2 by omega)
 have s01 := h.sym 1 0 (by omega) (by omega)
 have l0 := (h.sq.2 0 (by omega)).1
 have l1 := (h.sq.2 1 (by omega)).1
 obtain ⟨r0, r1, rfl⟩ := len2 h.sq.1
 change r0.length = 2 at l0
 obtain ⟨m00, m01, rfl⟩ := len2 l0
 change r1.length = 2 at l1
 obtain ⟨m10, m11, rfl⟩ := len2 l1
 change m00 = 2 at d0
 change m11 = 2 at d1
 change m01 = 0 ∨ m01 = -1 at o01
 change m10 = m01 at s01
 clear h
 subst d0 d1 s01
 refine ⟨[m10], rfl, fun y hy => ?_, rfl, rfl⟩
 simp only [List.mem_cons, List.not_mem_nil, or_false] at hy
 rcases hy with rfl <;> assumption
theorem Good.mat3 {M : List (List Int)} (h : Good 3 M) : ∃ l : List Int, l.length = 3 ∧ (∀ y ∈ l, y = 0 ∨ y = -1) ∧ M = gmat 3 l ∧ l = [get2 M 0 1, get2 M 0 2, get2 M 1 2] := by
 have d0 := h.diag (by omega) (show 0 < 3 by omega)
 have d1 := h.diag (by omega) (show 1 < 3 by omega)
 have d2 := h.diag (by omega) (show 2 < 3 by omega)
 have o01 := h.off (by omega) (show 0 < 1 by omega) (show 1 < 3 by omega)
 have s01 := h.sym 1 0 (by omega) (by omega)
 have o02 := h.off (by omega) (show 0 < 2 by omega) (show 2 < 3 by omega)
 have s02 := h.sym 2 0 (by omega) (by omega)
 have o12 := h.off (by omega) (show 1 < 2 by omega) (show 2 < 3 by omega)
 have s12 := h.sym 2 1 (by omega) (by omega)
 have l0 := (h.sq.2 0 (by omega)).1
 have l1 := (h.sq.2 1 (by omega)).1
 have l2 := (h.sq.2 2 (by omega)).1
 obtain ⟨r0, r1, r2, rfl⟩ := len3 h.sq.1
 change r0.length = 3 at l0
 obtain ⟨m00, m01, m02, rfl⟩ := len3 l0
 change r1.length = 3 at l1
 obtain ⟨m10, m11, m12, rfl⟩ := len3 l1
 change r2.length = 3 at l2
 obtain ⟨m20, m21, m22, rfl⟩ := len3 l2
 change m00 = 2 at d0
 change m11 = 2 at d1
 change m22 = 2 at d2
 change m01 = 0 ∨ m01 = -1 at o01
 change m10 = m01 at s01
 change m02 = 0 ∨ m02 = -1 at o02
 change m20 = m02 at s02
 change m12 = 0 ∨ m12 = -1 at o12
 change m21 = m12 at s12
 clear h
 subst d0 d1 d2 s01 s02 s12
 refine ⟨[m10, m20, m21], rfl, fun y hy => ?_, rfl, rfl⟩
 simp only [List.mem_cons, List.not_mem_nil, or_false] at hy
 rcases hy with rfl | rfl | rfl <;> assumption
theorem Good.mat4 {M : List (List Int)} (h : Good 4 M) : ∃ l : List Int, l.length = 6 ∧ (∀ y ∈ l, y = 0 ∨ y = -1) ∧ M = gmat 4 l ∧ l = [get2 M 0 1, get2 M 0 2, get2 M 0 3, get2 M 1 2, get2 M 1 3, get2 M 2 3] := by
 have d0 := h.diag (by omega) (show 0 < 4 by omega)
 have d1 := h.diag (by omega) (show 1 < 4 by omega)
 have d2 := h.diag (by omega) (show 2 < 4 by omega)
 have d3 := h.diag (by omega) (show 3 < 4 by omega)
 have o01 := h.off (by omega) (show 0 < 1 by omega) (show 1 < 4 by omega)
 have s01 := h.sym 1 0 (by omega) (by omega)
 have o02 := h.off (by omega) (show 0 < 2 by omega) (show 2 < 4 by omega)
 have s02 := h.sym 2 0 (by omega) (by omega)
 have o03 := h.off (by omega) (show 0 < 3 by omega) (show 3 < 4 by omega)
 have s03 := h.sym 3 0 (by omega) (by omega)
 have o12 := h.off (by omega) (show 1 < 2 by omega) (show 2 < 4 by omega)
 have s12 := h.sym 2 1 (by omega) (by omega)
 have o13 := h.off (by omega) (show 1 < 3 by omega) (show 3 < 4 by omega)
 have s13 := h.sym 3 1 (by omega) (by omega)
 have o23 := h.off (by omega) (show 2 < 3 by omega) (show 3 < 4 by omega)
 have s23 := h.sym 3 2 (by omega) (by omega)
 have l0 := (h.sq.2 0 (by omega)).1
 have l1 := (h.sq.2 1 (by omega)).1
 have l2 := (h.sq.2 2 (by omega)).1
 have l3 := (h.sq.2 3 (by omega)).1
 obtain ⟨r0, r1, r2, r3, rfl⟩ := len4 h.sq.1
 change r0.length = 4 at l0
 obtain ⟨m00, m01, m02, m03, rfl⟩ := len4 l0
 change r1.length = 4 at l1
 obtain ⟨m10, m11, m12, m13, rfl⟩ := len4 l1
 change r2.length = 4 at l2
 obtain ⟨m20, m21, m22, m23, rfl⟩ := len4 l2
 change r3.length = 4 at l3
 obtain ⟨m30, m31, m32, m33, rfl⟩ := len4 l3
 change m00 = 2 at d0
 change m11 = 2 at d1
 change m22 = 2 at d2
 change m33 = 2 at d3
 change m01 = 0 ∨ m01 = -1 at o01
 change m10 = m01 at s01
 change m02 = 0 ∨ m02 = -1 at o02
 change m20 = m02 at s02
 change m03 = 0 ∨ m03 = -1 at o03
 change m30 = m03 at s03
 change m12 = 0 ∨ m12 = -1 at o12
 change m21 = m12 at s12
 change m13 = 0 ∨ m13 = -1 at o13
 change m31 = m13 at s13
 change m23 = 0 ∨ m23 = -1 at o23
 change m32 = m23 at s23
 clear h
 subst d0 d1 d2 d3 s01 s02 s03 s12 s13 s23
 refine ⟨[m10, m20, m30, m21, m31, m32], rfl, fun y hy => ?_, rfl, rfl⟩
 simp only [List.mem_cons, List.not_mem_nil, or_false] at hy
 rcases hy with rfl | rfl | rfl | rfl | rfl | rfl <;> assumption
theorem Good.mat5 {M : List (List Int)} (h : Good 5 M) : ∃ l : List Int, l.length = 10 ∧ (∀ y ∈ l, y = 0 ∨ y = -1) ∧ M = gmat 5 l ∧ l = [get2 M 0 1, get2 M 0 2, get2 M 0 3, get2 M 0 4, get2 M 1 2, get2 M 1 3, get2 M 1 4, get2 M 2 3, get2 M 2 4, get2 M 3 4] := by
 have d0 := h.diag (by omega) (show 0 < 5 by omega)
 have d1 := h.diag (by omega) (show 1 < 5 by omega)
 have d2 := h.diag (by omega) (show 2 < 5 by omega)
 have d3 := h.diag (by omega) (show 3 < 5 by omega)
 have d4 := h.diag (by omega) (show 4 < 5 by omega)
 have o01 := h.off (by omega) (show 0 < 1 by omega) (show 1 < 5 by omega)
 have s01 := h.sym 1 0 (by omega) (by omega)
 have o02 := h.off (by omega) (show 0 < 2 by omega) (show 2 < 5 by omega)
 have s02 := h.sym 2 0 (by omega) (by omega)
 have o03 := h.off (by omega) (show 0 < 3 by omega) (show 3 < 5 by omega)
 have s03 := h.sym 3 0 (by omega) (by omega)
 have o04 := h.off (by omega) (show 0 < 4 by omega) (show 4 < 5 by omega)
 have s04 := h.sym 4 0 (by omega) (by omega)
 have o12 := h.off (by omega) (show 1 < 2 by omega) (show 2 < 5 by omega)
 have s12 := h.sym 2 1 (by omega) (by omega)
 have o13 := h.off (by omega) (show 1 < 3 by omega) (show 3 < 5 by omega)
 have s13 := h.sym 3 1 (by omega) (by omega)
 have o14 := h.off (by omega) (show 1 < 4 by omega) (show 4 < 5 by omega)
 have s14 := h.sym 4 1 (by omega) (by omega)
 have o23 := h.off (by omega) (show 2 < 3 by omega) (show 3 < 5 by omega)
 have s23 := h.sym 3 2 (by omega) (by omega)
 have o24 := h.off (by omega) (show 2 < 4 by omega) (show 4 < 5 by omega)
 have s24 := h.sym 4 2 (by omega) (by omega)
 have o34 := h.off (by omega) (show 3 < 4 by omega) (show 4 < 5 by omega)
 have s34 := h.sym 4 3 (by omega) (by omega)
 have l0 := (h.sq.2 0 (by omega)).1
 have l1 := (h.sq.2 1 (by omega)).1
 have l2 := (h.sq.2 2 (by omega)).1
 have l3 := (h.sq.2 3 (by omega)).1
 have l4 := (h.sq.2 4 (by omega)).1
 obtain ⟨r0, r1, r2, r3, r4, rfl⟩ := len5 h.sq.1
 change r0.length = 5 at l0
 obtain ⟨m00, m01, m02, m03, m04, rfl⟩ := len5 l0
 change r1.length = 5 at l1
 obtain ⟨m10, m11, m12, m13, m14, rfl⟩ := len5 l1
 change r2.length = 5 at l2
 obtain ⟨m20, m21, m22, m23, m24, rfl⟩ := len5 l2
 change r3.length = 5 at l3
 obtain ⟨m30, m31, m32, m33, m34, rfl⟩ := len5 l3
 change r4.length = 5 at l4
 obtain ⟨m40, m41, m42, m43, m44, rfl⟩ := len5 l4
 change m00 = 2 at d0
 change m11 = 2 at d1
 change m22 = 2 at d2
 change m33 = 2 at d3
 change m44 = 2 at d4
 change m01 = 0 ∨ m01 = -1 at o01
 change m10 = m01 at s01
 change m02 = 0 ∨ m02 = -1 at o02
 change m20 = m02 at s02
 change m03 = 0 ∨ m03 = -1 at o03
 change m30 = m03 at s03
 change m04 = 0 ∨ m04 = -1 at o04
 change m40 = m04 at s04
 change m12 = 0 ∨ m12 = -1 at o12
 change m21 = m12 at s12
 change m13 = 0 ∨ m13 = -1 at o13
 change m31 = m13 at s13
 change m14 = 0 ∨ m14 = -1 at o14
 change m41 = m14 at s14
 change m23 = 0 ∨ m23 = -1 at o23
 change m32 = m23 at s23
 change m24 = 0 ∨ m24 = -1 at o24
 change m42 = m24 at s24
 change m34 = 0 ∨ m34 = -1 at o34
 change m43 = m34 at s34
 clear h
 subst d0 d1 d2 d3 d4 s01 s02 s03 s04 s12 s13 s14 s23 s24 s34
 refine ⟨[m10, m20, m30, m40, m21, m31, m41, m32, m42, m43], rfl, fun y hy => ?_, rfl, rfl⟩
 simp only [List.mem_cons, List.not_mem_nil, or_false] at hy
 rcases hy with rfl | rfl | rfl | rfl | rfl | rfl | rfl | rfl | rfl | rfl <;> assumption
theorem bad_any {n : Nat} {M : List (List Int)} {cs : List Nat} (h : Good n M) (hb : (cs.any fun s => decide (1 ≤ s) && decide (s < 2 ^ n) && decide (det (sel s n).length (pickM s n n M) ≤ 0)) = true) : False := by
 obtain ⟨s, _, hs⟩ := List.any_eq_true.1 hb
 simp only [Bool.and_eq_true, decide_eq_true_eq] at hs
 have := h.pos s hs.1.1 hs.1.2
 omega
theorem Good.pd4 {n : Nat} {M : List (List Int)} {cs : List Nat} {l : List Int} (h : Good n M) (hm : M = gmat n l) (hc : chkG n cs l = true) : pd n (get2 M) = true := by
 unfold chkG at hc
 rw [← hm, Bool.or_eq_true] at hc
 exact hc.resolve_right fun hb => bad_any h hb
theorem Good.pd5 {M : List (List Int)} (h : Good 5 M) : pd 5 (get2 M) = true := by
 obtain ⟨l, hl, hy, hm, he⟩ := h.mat5
 have hc := allS_spec chk5 l hl hy
 rw [he] at hc hm
 simp only [chkF] at hc
 rw [← hm] at hc
 rw [Bool.or_eq_true, Bool.or_eq_true] at hc
 rcases hc with (hc | hc) | hc
 ·simp only [Bool.or_eq_true, Bool.and_eq_true, decide_eq_true_eq] at hc
  exfalso
  rcases hc with ((((((((hc | hc) | hc) | hc) | hc) | hc) | hc) | hc) | hc) | hc <;> obtain ⟨⟨h1, h2⟩, h3⟩ := hc <;> exact h.tri (by omega) (by omega) (by omega) (by omega) h1 h2 h3
 ·exact hc
 ·exfalso
  obtain ⟨s, hs, hd⟩ := List.any_eq_true.1 hc
  simp only [decide_eq_true_eq] at hd
  have h1 : 1 ≤ s ∧ s < 2 ^ 5 := by
   simp only [List.mem_cons, List.not_mem_nil, or_false] at hs
   omega
  have := h.pos s h1.1 h1.2
  omega
theorem Good.pd {n : Nat} {M : List (List Int)} (h : Good n M) (h1 : 1 ≤ n) (h5 : n ≤ 5) : pd n (get2 M) = true := by
 have hn : n = 1 ∨ n = 2 ∨ n = 3 ∨ n = 4 ∨ n = 5 := by omega
 rcases hn with rfl | rfl | rfl | rfl | rfl
 ·obtain ⟨l, hl, hy, hm, _⟩ := h.mat1; exact h.pd4 hm (allS_spec chk1 l hl hy)
 ·obtain ⟨l, hl, hy, hm, _⟩ := h.mat2; exact h.pd4 hm (allS_spec chk2 l hl hy)
 ·obtain ⟨l, hl, hy, hm, _⟩ := h.mat3; exact h.pd4 hm (allS_spec chk3 l hl hy)
 ·obtain ⟨l, hl, hy, hm, _⟩ := h.mat4; exact h.pd4 hm (allS_spec chk4 l hl hy)
 ·exact h.pd5
theorem kindR_one {d : Nat → Int} : ∀ (f s : Nat) (k : Int), kindR d f s k = 1 → k = 1 ∧ ∀ s', s ≤ s' → s' < s + f → 0 < d s'
 | 0, s, k, h => ⟨h, fun s' h1 h2 => by omega⟩
 | f + 1, s, k, h => by
  simp only [kindR] at h
  split at h
  ·cases h
  ·rename_i hd
   obtain ⟨h1, h2⟩ := kindR_one f (s + 1) _ h
   split at h1
   ·cases h1
   ·rename_i hd0
    refine ⟨h1, fun s' g1 g2 => ?_⟩
    by_cases e : s' = s
    ·subst e; omega
    ·exact h2 s' (by omega) (by omega)
theorem symM_sp {q : Quiv} (hq : okQ q = true) : ∀ k, k ≤ q.fr.length → (∀ i j, i < q.n.toNat → j < q.n.toNat → get2 (symM q k) i j = get2 (symM q k) j i) ∧ (∀ i, i < q.n.toNat → get2 (symM q k) i i % 2 = 0) ∧ ∀ i j, i < q.n.toNat → j < q.n.toNat → i ≠ j → get2 (symM q k) i j ≤ 0
 | 0, _ => by
  refine ⟨fun i j hi hj => ?_, fun i hi => ?_, fun i j hi hj hij => ?_⟩
  ·rw [symM_get hq hi hj, symM_get hq hj hi]
   by_cases e : i = j
   ·rw [if_pos e, if_pos e.symm]
   ·rw [if_neg e, if_neg (Ne.symm e)]
  ·rw [symM_get hq hi hi, if_pos rfl]; rfl
  ·rw [symM_get hq hi hj, if_neg hij]; omega
 | k + 1, hk => by
  have h1 : 0 ≤ q.fr.getD k 0 ∧ q.fr.getD k 0 < q.n := okQ_fr hq (k := k) (by omega)
  have h2 : 0 ≤ q.to.getD k 0 ∧ q.to.getD k 0 < q.n := okQ_to hq (k := k) (by omega)
  have h3 := symM_sq hq k (by omega)
  obtain ⟨i1, i2, i3⟩ := symM_sp hq k (by omega)
  have h4 := h3.dec2 (i := (q.fr.getD k 0).toNat) (k := (q.to.getD k 0).toNat) (by omega) (by omega)
  have e : ∀ a b, a < q.n.toNat → b < q.n.toNat → get2 (symM q (k + 1)) a b = get2 (symM q k) a b - (if (q.fr.getD k 0).toNat = a ∧ (q.to.getD k 0).toNat = b then 1 else 0) - (if (q.to.getD k 0).toNat = a ∧ (q.fr.getD k 0).toNat = b then 1 else 0) := fun a b ha hb => by
   simp only [symM]
   rw [get2_dec2 (by rw [h4.1]; omega) (by rw [(h4.2 _ (by omega)).1]; omega), get2_dec2 (by rw [h3.1]; omega) (by rw [(h3.2 _ (by omega)).1]; omega)]
  generalize (q.fr.getD k 0).toNat = f at e
  generalize (q.to.getD k 0).toNat = t at e
  refine ⟨fun i j hi hj => ?_, fun i hi => ?_, fun i j hi hj hij => ?_⟩
  ·rw [e i j hi hj, e j i hj hi, i1 i j hi hj]
   have e1 : (f = i ∧ t = j) ↔ (t = j ∧ f = i) := and_comm
   have e2 : (t = i ∧ f = j) ↔ (f = j ∧ t = i) := and_comm
   simp only [e1, e2]
   omega
  ·rw [e i i hi hi]
   have := i2 i hi
   by_cases c : f = i ∧ t = i
   ·rw [if_pos c, if_pos ⟨c.2, c.1⟩]; omega
   ·rw [if_neg c, if_neg fun x => c ⟨x.2, x.1⟩]; omega
  ·rw [e i j hi hj]
   have := i3 i j hi hj hij
   split <;> split <;> omega
theorem sumN_exists {h : Nat → Int} : ∀ n, 0 < sumN h n → ∃ i, i < n ∧ h i ≠ 0
 | 0, hp => by simp [sumN] at hp
 | n + 1, hp => by
  simp only [sumN] at hp
  by_cases e : h n = 0
  ·obtain ⟨i, hi, hne⟩ := sumN_exists (h := h) n (by omega)
   exact ⟨i, by omega, hne⟩
  ·exact ⟨n, by omega, e⟩
theorem sum_sumN : ∀ (l : List Int), l.sum = sumN (fun i => l.getD i default) l.length
 | [] => rfl
 | a :: l => by
  rw [List.sum_cons, sum_sumN l, List.length_cons, sumN_shift]
  simp
theorem tits_pos {q : Quiv} {x : List Int} (hk : kindQ q = 1) (hx : (x.length : Int) = q.n) (hs : 0 < x.sum) : 0 < eulF q x x := by
 have hq : okQ q = true := by
  unfold kindQ at hk
  cases h : okQ q with
  | true => rfl
  | false => rw [h] at hk; cases hk
 have h5 := okQ_spec hq
 have hr : kindR (detQ q) (2 ^ q.n.toNat - 1) 1 1 = 1 := by
  unfold kindQ at hk
  rw [hq] at hk
  exact hk
 obtain ⟨_, hpos⟩ := kindR_one _ _ _ hr
 obtain ⟨g1, g2, g3⟩ := symM_sp hq q.fr.length (Nat.le_refl _)
 have hsq := symM_sq hq q.fr.length (Nat.le_refl _)
 have hG : Good q.n.toNat (symM q q.fr.length) := ⟨hsq.mono (by omega) (Int.le_refl _), g1, g2, g3, fun s h1 h2 => hpos s h1 (by omega)⟩
 have hp := pd_pos q.n.toNat _ g1 (hG.pd (by omega) (by omega)) (fun i => x.getD i default) (by
  rw [sum_sumN] at hs
  obtain ⟨i, hi, hne⟩ := sumN_exists _ hs
  exact ⟨i, by omega, hne⟩)
 have he := qfM_sym hq (x := x) q.fr.length (Nat.le_refl _)
 have e1 : qfN q.n.toNat (get2 (symM q q.fr.length)) (fun i => x.getD i default) = qfM (symM q q.fr.length) x q.n.toNat := rfl
 rw [e1, he] at hp
 unfold eulF
 rw [show x.length = q.n.toNat by omega]
 omega
end Go.Proofs.Ytoilkinagffhiaa.V
