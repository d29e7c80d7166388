/- The law FnForms holds for every input. -/
import Derived.Test.YtoilkinagffhiaaQffA165
import Derived.Test.YtoilkinagffhiaaQffDown
import Derived.OpenShut
namespace Go.Proofs.Ytoilkinagffhiaa
open Go.ChangeShapes Go.WideShapes Go.ChangeAt Go.RowKit G D V
set_option linter.unusedVariables false
set_option linter.unusedSimpArgs false
set_option maxHeartbeats 8000000
set_option maxRecDepth 4000
attribute [local irreducible] V.AW V.ARg V.ARA V.ARet V.MRet V.ASil V.AC V.AM V.AMx V.AD
theorem bE {a b : Bool} (h : a = b) : AV.b a = AV.b b := by rw [h]
theorem fnForms.ac (b : List UInt8) : AC Try.prog 4 [ar false b] [.b true] := by
 refine AC.go Try.func4 Try.ntmps4 rfl rfl fun w0 hw => ?_; simp [WfL, WfA, E_length, Enc.enc, In64] at hw
 have hB := big_a b
 by_cases hl : (1048576 : Int) < b.length
 ·rw [decide_eq_true hl] at hB
  repeat' first | refine s1 ?_ | (refine kR ?_; first | refine F.c (hB) ?_) | fail
  (refine kZ ?_; exact F.ret rfl)
 ·rw [decide_eq_false hl] at hB
  have hl : b.length ≤ 1048576 := by omega
  have hD := drawTits_x b hl
  repeat' first | (refine AW.freezeP (α := Quiv) (oo := false) _ 3 rfl rfl ?_; refine AW.freezeA (α := Int) (oo := true) 4 rfl rfl rfl ?_) | refine s1 ?_ | (refine kR ?_; first | refine F.c (hB) ?_ | (refine F.x [] (hD) ?_; rintro ⟨q, x⟩ ⟨hq, hx⟩; refine F.xk ?_)) | fail
  dsimp only at hq hx
  have hF := @form_eq q x
  have hb1 := @trm_bd q x
  have hb2 := @tot_bd q x
  have hsq := @sym_facts q
  have hTi := implTitsForm_a q x
  have hTs := specTitsForm_a q x
  have hSi := implSymmetricForm_a q
  have hSs := specSymmetricForm_a q
  have hEq := sameLists_a (symF q) (symF q)
  rw [decide_eq_true rfl] at hEq
  generalize symF q = m at hF hb1 hb2 hsq hSi hSs hEq
  generalize eulP q x x = T at hF hTi hTs
  repeat' first | refine AW.freezeA (α := List Int) (oo := true) (ls := m) 6 rfl rfl rfl ?_ | refine s1 ?_ | (refine kR ?_; first | refine F.c (hTi) ?_ | refine F.c (hTs) ?_ | refine F.c (hSi) ?_ | refine F.c (hSs) ?_ | refine F.c (hEq) ?_) | fail
  refine F.loop (σ := Nat × Bool) [8, 9, 52, 53, 54, 55, 56, 57, 58, 59, 60, 61, 62, 63, 64, 65, 66, 67, 68, 69, 70, 71, 72, 73, 74, 75, 76, 77, 78] (fun s => [(8, .b s.2), (9, .i s.1)]) (fun _ => []) (fun s => s.1 ≤ m.length ∧ s.1 ≤ x.length ∧ (s.2 = true → ∀ j, j < s.1 → -100 ≤ x.getD j default ∧ x.getD j default ≤ 100)) (fun s => x.length - s.1) (0, true) ⟨rfl, rfl, trivial⟩ trivial ⟨Nat.zero_le _, Nat.zero_le _, fun _ j hj => absurd hj (Nat.not_lt_zero _)⟩ ?_
  rintro ⟨k, s⟩ ⟨k1, k2, k3⟩
  dsimp only at k1 k2 k3 ⊢
  by_cases hk : k < m.length ∧ k < x.length
  ·obtain ⟨hkm, hkx⟩ := hk
   cases s with
   | false =>
    repeat' first | refine s1 ?_ | fail
    exact ⟨(k + 1, false), F.fit ⟨rfl, rfl, trivial⟩ trivial, ⟨by show k + 1 ≤ m.length; omega, by show k + 1 ≤ x.length; omega, fun h => by cases h⟩, by show x.length - (k + 1) < x.length - k; omega⟩
   | true =>
    replace k3 := k3 rfl
    by_cases h1 : -100 ≤ x.getD k default
    ·by_cases h2 : x.getD k default ≤ 100
     ·repeat' first | refine s1 ?_ | fail
      exact ⟨(k + 1, true), F.fit ⟨bE (decide_eq_true h2), rfl, trivial⟩ trivial, ⟨by show k + 1 ≤ m.length; omega, by show k + 1 ≤ x.length; omega, fun _ j hj => by rcases Nat.lt_succ_iff_lt_or_eq.1 hj with h | h; exact k3 j h; rw [h]; exact ⟨h1, h2⟩⟩, by show x.length - (k + 1) < x.length - k; omega⟩
     ·repeat' first | refine s1 ?_ | fail
      exact ⟨(k + 1, false), F.fit ⟨bE (decide_eq_false h2), rfl, trivial⟩ trivial, ⟨by show k + 1 ≤ m.length; omega, by show k + 1 ≤ x.length; omega, fun h => by cases h⟩, by show x.length - (k + 1) < x.length - k; omega⟩
    ·repeat' first | refine s1 ?_ | fail
     exact ⟨(k + 1, false), F.fit ⟨rfl, rfl, trivial⟩ trivial, ⟨by show k + 1 ≤ m.length; omega, by show k + 1 ≤ x.length; omega, fun h => by cases h⟩, by show x.length - (k + 1) < x.length - k; omega⟩
  ·have hw8 : m.length = x.length → s = true → ∀ j, j < x.length → -100 ≤ x.getD j default ∧ x.getD j default ≤ 100 := fun h h2 j hj => k3 h2 j (by omega)
   apply V.tailedT
   ·intro tail
    by_cases hkm : k < m.length
    ·repeat' first | refine s1 ?_ | fail
     refine AW.only [(0, .dt false 1 (E false b)), (3, .ip (enc false q)), (4, .dt false 1 (E false x)), (5, .i T), (6, .dt false 1 (E false m)), (7, .i 0), (8, .b s), (10, .i 0)] [] 4 ⟨rfl, rfl, rfl, rfl, rfl, rfl, rfl, rfl, trivial⟩ trivial rfl ?_
     exact tail.t
    ·repeat' first | refine s1 ?_ | fail
     refine AW.only [(0, .dt false 1 (E false b)), (3, .ip (enc false q)), (4, .dt false 1 (E false x)), (5, .i T), (6, .dt false 1 (E false m)), (7, .i 0), (8, .b s), (10, .i 0)] [] 4 ⟨rfl, rfl, rfl, rfl, rfl, rfl, rfl, rfl, trivial⟩ trivial rfl ?_
     exact tail.t
   ·clear k1 k2 k3 hk
    refine F.loop (σ := Nat × Int) [7, 10, 11, 79, 80, 81, 82, 83, 84, 85, 86, 87, 88, 89, 90, 91, 92, 93, 94, 95, 96, 97, 98, 99, 100, 101, 102, 103, 104, 105, 106, 107, 108, 109, 110, 111, 112, 113, 114, 115, 116, 117, 118, 119] (fun s => [(7, .i s.2), (10, .i s.1)]) (fun _ => []) (fun u => u.1 ≤ m.length ∧ (x.length = m.length ∧ s = true → u.2 = sumN (qfR m x x.length) u.1)) (fun u => m.length - u.1) (0, 0) ⟨rfl, rfl, trivial⟩ trivial ⟨Nat.zero_le _, fun _ => rfl⟩ ?_
    rintro ⟨k, z⟩ ⟨k1, k2⟩
    dsimp only at k1 k2 ⊢
    by_cases hk : k < m.length ∧ x.length = m.length ∧ s = true
    ·obtain ⟨hkm, hxm, rfl⟩ := hk
     have hz := k2 ⟨hxm, rfl⟩
     have hs := hw8 hxm.symm rfl
     have hm0 : 0 < m.length := by omega
     have hrow : (m.getD k default).length = m.length := by
      have h1 := (hsq hm0).2.1
      have h2 : (m.getD k default).length = q.n.toNat := (h1.2 k (by have := h1.1; omega)).1
      have := h1.1
      omega
     repeat' first | refine s1 ?_ | fail
     refine F.loop (σ := Nat × Int) [7, 11, 95, 96, 97, 98, 99, 100, 101, 102, 103, 104, 105, 106, 107, 108, 109, 110, 111, 112, 113, 114, 115, 116, 117, 118, 119] (fun s => [(7, .i s.2), (11, .i s.1)]) (fun _ => []) (fun u => u.1 ≤ m.length ∧ u.2 = sumN (qfR m x x.length) k + sumN (trm m x k) u.1) (fun u => m.length - u.1) (0, z) ⟨rfl, rfl, trivial⟩ trivial ⟨Nat.zero_le _, by rw [hz]; simp [sumN]⟩ ?_
     rintro ⟨j, y⟩ ⟨j1, j2⟩
     dsimp only at j1 j2 ⊢
     by_cases hj : j < m.length
     ·have b1 := hb1 hm0 hxm hs (v := k) (w := j) (by omega) (by omega)
      have b2 := hb2 hm0 hxm hs (v := k) (w := j) (by omega) (by omega)
      have b3 := hb2 hm0 hxm hs (v := k) (w := j + 1) (by omega) (by omega)
      have b4 := hs k (by omega)
      have b5 := hs j (by omega)
      have e1 : sumN (trm m x k) (j + 1) = sumN (trm m x k) j + (m.getD k default).getD j default * x.getD k default * x.getD j default := rfl
      rw [e1] at b3
      obtain ⟨c1, c2, c3⟩ := b1
      rw [show trm m x k j = (m.getD k default).getD j default * x.getD k default * x.getD j default from rfl] at c3
      rw [← j2] at b2
      have e2 : sumN (qfR m x x.length) k + (sumN (trm m x k) j + (m.getD k default).getD j default * x.getD k default * x.getD j default) = y + (m.getD k default).getD j default * x.getD k default * x.getD j default := by rw [j2]; omega
      rw [e2] at b3
      repeat' first | refine s1 ?_ | fail
      refine AW.draw 20 G.mixed (by kernel_rfl) ?_
      refine dP 0 ?_
      refine dP 1 ?_
      refine dP 2 ?_
      refine dP 3 ?_
      refine dL 4 ?_
      refine dP 5 ?_
      refine dP 6 ?_
      refine dL 7 ?_
      refine dP 8 ?_
      refine dP 9 ?_
      refine dP 10 ?_
      refine dL 11 ?_
      refine dP 12 ?_
      refine dP 13 ?_
      refine dP 14 ?_
      refine dP 15 ?_
      refine dL 16 ?_
      refine dP 17 ?_
      refine dP 18 ?_
      refine dP 19 ?_
      refine dN ?_
      rotate_left
      all_goals
       repeat' first | refine s1 ?_ | fail
       exact ⟨(j + 1, y + (m.getD k default).getD j default * x.getD k default * x.getD j default), F.fit ⟨rfl, rfl, trivial⟩ trivial, ⟨by show j + 1 ≤ m.length; omega, by show _ = _; rw [e1, ← e2]⟩, by show m.length - (j + 1) < m.length - j; omega⟩
     ·obtain rfl : j = m.length := by omega
      repeat' first | refine s1 ?_ | fail
      exact ⟨(k + 1, y), F.fit ⟨rfl, rfl, trivial⟩ trivial, ⟨by show k + 1 ≤ m.length; omega, fun _ => by show y = _; rw [j2, ← hxm]; rfl⟩, by show m.length - (k + 1) < m.length - k; omega⟩
    ·have hfz : 0 < m.length → x.length = m.length → s = true → z = 2 * T ∧ -200000 ≤ T ∧ T ≤ 200000 ∧ (x.length : Int) = q.n ∧ T = eulF q x x := fun h0 h1 h2 => by
      obtain rfl : k = m.length := by rcases Nat.lt_or_ge k m.length with h | h; exact absurd ⟨h, h1, h2⟩ hk; omega
      have := hF h0 h1 (hw8 h1.symm h2)
      rw [k2 ⟨h1, h2⟩, ← h1]; exact this
     clear hF hb1 hb2 k2
     have hKi := implKindOfQuiver_a q
     have hKs := specKindOfQuiver_a q
     have hO := specOppositeOf_a q
     have hko := @kind_opp q
     have htp := @tits_pos q x
     have hN := implNullVector_a q
     have hM := specNullVector_m q
     have hnf := @nul_facts q
     generalize oppP q = R at hO hko
     obtain ⟨r0, r1⟩ := R
     have hKo := implKindOfQuiver_a r0
     generalize kindQ q = K at hKi hKs hko htp hnf
     generalize nulP q = V at hN hM hnf
     obtain ⟨v0, v1⟩ := V
     have hTn := implTitsForm_a q v0
     have hEn := sameInts_a v0 v0
     rw [decide_eq_true rfl] at hEn
     dsimp only at hO hko hN hM hnf
     apply V.tailedT
     ·intro tail
      cases hs : s with
      | false =>
       by_cases hkm : k < m.length
       ·by_cases hxm : x.length = m.length
        ·repeat' first | (refine AW.only [(0, .dt false 1 (E false b)), (3, .ip (enc false q)), (4, .dt false 1 (E false x)), (5, .i T), (6, .dt false 1 (E false m)), (8, .b s), (12, .i K), (140, .i K)] [] 4 ⟨rfl, rfl, rfl, rfl, rfl, bE hs.symm, rfl, rfl, trivial⟩ trivial rfl ?_; refine AW.only [(0, .dt false 1 (E false b)), (3, .ip (enc false q)), (4, .dt false 1 (E false x)), (5, .i T), (6, .dt false 1 (E false m)), (8, .b s), (12, .i K)] [] 4 ⟨rfl, rfl, rfl, rfl, rfl, rfl, rfl, trivial⟩ trivial rfl ?_) | refine s1 ?_ | (refine kR ?_; first | refine F.c (hKi) ?_) | fail
         exact tail.t
        ·repeat' first | (refine AW.only [(0, .dt false 1 (E false b)), (3, .ip (enc false q)), (4, .dt false 1 (E false x)), (5, .i T), (6, .dt false 1 (E false m)), (8, .b s), (12, .i K), (140, .i K)] [] 4 ⟨rfl, rfl, rfl, rfl, rfl, bE hs.symm, rfl, rfl, trivial⟩ trivial rfl ?_; refine AW.only [(0, .dt false 1 (E false b)), (3, .ip (enc false q)), (4, .dt false 1 (E false x)), (5, .i T), (6, .dt false 1 (E false m)), (8, .b s), (12, .i K)] [] 4 ⟨rfl, rfl, rfl, rfl, rfl, rfl, rfl, trivial⟩ trivial rfl ?_) | refine s1 ?_ | (refine kR ?_; first | refine F.c (hKi) ?_) | fail
         exact tail.t
       ·repeat' first | (refine AW.only [(0, .dt false 1 (E false b)), (3, .ip (enc false q)), (4, .dt false 1 (E false x)), (5, .i T), (6, .dt false 1 (E false m)), (8, .b s), (12, .i K), (140, .i K)] [] 4 ⟨rfl, rfl, rfl, rfl, rfl, bE hs.symm, rfl, rfl, trivial⟩ trivial rfl ?_; refine AW.only [(0, .dt false 1 (E false b)), (3, .ip (enc false q)), (4, .dt false 1 (E false x)), (5, .i T), (6, .dt false 1 (E false m)), (8, .b s), (12, .i K)] [] 4 ⟨rfl, rfl, rfl, rfl, rfl, rfl, rfl, trivial⟩ trivial rfl ?_) | refine s1 ?_ | (refine kR ?_; first | refine F.c (hKi) ?_) | fail
        exact tail.t
      | true =>
       by_cases hkm : k < m.length
       ·have hxm : ¬ x.length = m.length := fun h => hk ⟨hkm, h, hs⟩
        repeat' first | (refine AW.only [(0, .dt false 1 (E false b)), (3, .ip (enc false q)), (4, .dt false 1 (E false x)), (5, .i T), (6, .dt false 1 (E false m)), (8, .b s), (12, .i K), (140, .i K)] [] 4 ⟨rfl, rfl, rfl, rfl, rfl, bE hs.symm, rfl, rfl, trivial⟩ trivial rfl ?_; refine AW.only [(0, .dt false 1 (E false b)), (3, .ip (enc false q)), (4, .dt false 1 (E false x)), (5, .i T), (6, .dt false 1 (E false m)), (8, .b s), (12, .i K)] [] 4 ⟨rfl, rfl, rfl, rfl, rfl, rfl, rfl, trivial⟩ trivial rfl ?_) | refine s1 ?_ | (refine kR ?_; first | refine F.c (hKi) ?_) | fail
        exact tail.t
       ·by_cases hxm : x.length = m.length
        ·by_cases hm0 : 0 < m.length
         ·obtain ⟨hz, hT1, hT2, _⟩ := hfz hm0 hxm hs
          repeat' first | (refine AW.only [(0, .dt false 1 (E false b)), (3, .ip (enc false q)), (4, .dt false 1 (E false x)), (5, .i T), (6, .dt false 1 (E false m)), (8, .b s), (12, .i K), (140, .i K)] [] 4 ⟨rfl, rfl, rfl, rfl, rfl, bE hs.symm, rfl, rfl, trivial⟩ trivial rfl ?_; refine AW.only [(0, .dt false 1 (E false b)), (3, .ip (enc false q)), (4, .dt false 1 (E false x)), (5, .i T), (6, .dt false 1 (E false m)), (8, .b s), (12, .i K)] [] 4 ⟨rfl, rfl, rfl, rfl, rfl, rfl, rfl, trivial⟩ trivial rfl ?_) | refine s1 ?_ | (refine kR ?_; first | refine F.c (hKi) ?_) | fail
          exact tail.t
         ·repeat' first | (refine AW.only [(0, .dt false 1 (E false b)), (3, .ip (enc false q)), (4, .dt false 1 (E false x)), (5, .i T), (6, .dt false 1 (E false m)), (8, .b s), (12, .i K), (140, .i K)] [] 4 ⟨rfl, rfl, rfl, rfl, rfl, bE hs.symm, rfl, rfl, trivial⟩ trivial rfl ?_; refine AW.only [(0, .dt false 1 (E false b)), (3, .ip (enc false q)), (4, .dt false 1 (E false x)), (5, .i T), (6, .dt false 1 (E false m)), (8, .b s), (12, .i K)] [] 4 ⟨rfl, rfl, rfl, rfl, rfl, rfl, rfl, trivial⟩ trivial rfl ?_) | refine s1 ?_ | (refine kR ?_; first | refine F.c (hKi) ?_) | fail
          exact tail.t
        ·repeat' first | (refine AW.only [(0, .dt false 1 (E false b)), (3, .ip (enc false q)), (4, .dt false 1 (E false x)), (5, .i T), (6, .dt false 1 (E false m)), (8, .b s), (12, .i K), (140, .i K)] [] 4 ⟨rfl, rfl, rfl, rfl, rfl, bE hs.symm, rfl, rfl, trivial⟩ trivial rfl ?_; refine AW.only [(0, .dt false 1 (E false b)), (3, .ip (enc false q)), (4, .dt false 1 (E false x)), (5, .i T), (6, .dt false 1 (E false m)), (8, .b s), (12, .i K)] [] 4 ⟨rfl, rfl, rfl, rfl, rfl, rfl, rfl, trivial⟩ trivial rfl ?_) | refine s1 ?_ | (refine kR ?_; first | refine F.c (hKi) ?_) | fail
         exact tail.t
     ·
      clear hk k1
      apply V.tailedT
      ·intro tail
       cases r1 with
       | false =>
        by_cases hK1 : K = 1
        ·by_cases hxm : x.length = m.length
         ·cases hs : s with
          | false =>
           repeat' first | (refine AW.putV 13 1 rfl rfl rfl rfl (E_length _ _) (E_pure _ _) rfl ?_; refine AW.putV 13 2 rfl rfl rfl rfl (E_length _ _) (E_pure _ _) rfl ?_; refine AW.freezeP (α := Quiv) (oo := true) r0 13 rfl rfl ?_) | refine AW.freezeA (α := Int) (oo := true) (ls := v0) 15 rfl rfl rfl ?_ | (refine AW.only [(0, .dt false 1 (E false b)), (3, .ip (enc false q)), (12, .i K), (15, .dt false 1 (E false v0)), (16, .b v1), (186, .b v1)] [] 8 ⟨rfl, rfl, rfl, rfl, rfl, rfl, trivial⟩ trivial rfl ?_; refine AW.only [(0, .dt false 1 (E false b)), (3, .ip (enc false q)), (12, .i K), (15, .dt false 1 (E false v0)), (16, .b v1)] [] 8 ⟨rfl, rfl, rfl, rfl, rfl, trivial⟩ trivial rfl ?_) | refine s1 ?_ | (refine kR ?_; first | refine F.c (hO) ?_ | refine F.c (hKs) ?_ | refine F.c (hN) ?_) | fail
           exact tail.t
          | true =>
           have hTot := total_a x (by omega) (fun j hj => by have := hw8 hxm.symm hs j hj; omega)
           by_cases hsum : 0 < x.sum
           ·have hx0 : 0 < m.length := by
             rw [← hxm]
             cases x with
             | nil => simp at hsum
             | cons => simp
            have hT1 : 1 ≤ T := by
             obtain ⟨_, _, _, g1, g2⟩ := hfz hx0 hxm hs
             have := htp hK1 g1 hsum
             omega
            repeat' first | (refine AW.putV 13 1 rfl rfl rfl rfl (E_length _ _) (E_pure _ _) rfl ?_; refine AW.putV 13 2 rfl rfl rfl rfl (E_length _ _) (E_pure _ _) rfl ?_; refine AW.freezeP (α := Quiv) (oo := true) r0 13 rfl rfl ?_) | refine AW.freezeA (α := Int) (oo := true) (ls := v0) 15 rfl rfl rfl ?_ | (refine AW.only [(0, .dt false 1 (E false b)), (3, .ip (enc false q)), (12, .i K), (15, .dt false 1 (E false v0)), (16, .b v1), (186, .b v1)] [] 8 ⟨rfl, rfl, rfl, rfl, rfl, rfl, trivial⟩ trivial rfl ?_; refine AW.only [(0, .dt false 1 (E false b)), (3, .ip (enc false q)), (12, .i K), (15, .dt false 1 (E false v0)), (16, .b v1)] [] 8 ⟨rfl, rfl, rfl, rfl, rfl, trivial⟩ trivial rfl ?_) | refine s1 ?_ | (refine kR ?_; first | refine F.c (hO) ?_ | refine F.c (hKs) ?_ | refine F.c (hTot) ?_ | refine F.c (hN) ?_) | fail
            exact tail.t
           ·repeat' first | (refine AW.putV 13 1 rfl rfl rfl rfl (E_length _ _) (E_pure _ _) rfl ?_; refine AW.putV 13 2 rfl rfl rfl rfl (E_length _ _) (E_pure _ _) rfl ?_; refine AW.freezeP (α := Quiv) (oo := true) r0 13 rfl rfl ?_) | refine AW.freezeA (α := Int) (oo := true) (ls := v0) 15 rfl rfl rfl ?_ | (refine AW.only [(0, .dt false 1 (E false b)), (3, .ip (enc false q)), (12, .i K), (15, .dt false 1 (E false v0)), (16, .b v1), (186, .b v1)] [] 8 ⟨rfl, rfl, rfl, rfl, rfl, rfl, trivial⟩ trivial rfl ?_; refine AW.only [(0, .dt false 1 (E false b)), (3, .ip (enc false q)), (12, .i K), (15, .dt false 1 (E false v0)), (16, .b v1)] [] 8 ⟨rfl, rfl, rfl, rfl, rfl, trivial⟩ trivial rfl ?_) | refine s1 ?_ | (refine kR ?_; first | refine F.c (hO) ?_ | refine F.c (hKs) ?_ | refine F.c (hTot) ?_ | refine F.c (hN) ?_) | fail
            exact tail.t
         ·repeat' first | (refine AW.putV 13 1 rfl rfl rfl rfl (E_length _ _) (E_pure _ _) rfl ?_; refine AW.putV 13 2 rfl rfl rfl rfl (E_length _ _) (E_pure _ _) rfl ?_; refine AW.freezeP (α := Quiv) (oo := true) r0 13 rfl rfl ?_) | refine AW.freezeA (α := Int) (oo := true) (ls := v0) 15 rfl rfl rfl ?_ | (refine AW.only [(0, .dt false 1 (E false b)), (3, .ip (enc false q)), (12, .i K), (15, .dt false 1 (E false v0)), (16, .b v1), (186, .b v1)] [] 8 ⟨rfl, rfl, rfl, rfl, rfl, rfl, trivial⟩ trivial rfl ?_; refine AW.only [(0, .dt false 1 (E false b)), (3, .ip (enc false q)), (12, .i K), (15, .dt false 1 (E false v0)), (16, .b v1)] [] 8 ⟨rfl, rfl, rfl, rfl, rfl, trivial⟩ trivial rfl ?_) | refine s1 ?_ | (refine kR ?_; first | refine F.c (hO) ?_ | refine F.c (hKs) ?_ | refine F.c (hN) ?_) | fail
          exact tail.t
        ·repeat' first | (refine AW.putV 13 1 rfl rfl rfl rfl (E_length _ _) (E_pure _ _) rfl ?_; refine AW.putV 13 2 rfl rfl rfl rfl (E_length _ _) (E_pure _ _) rfl ?_; refine AW.freezeP (α := Quiv) (oo := true) r0 13 rfl rfl ?_) | refine AW.freezeA (α := Int) (oo := true) (ls := v0) 15 rfl rfl rfl ?_ | (refine AW.only [(0, .dt false 1 (E false b)), (3, .ip (enc false q)), (12, .i K), (15, .dt false 1 (E false v0)), (16, .b v1), (186, .b v1)] [] 8 ⟨rfl, rfl, rfl, rfl, rfl, rfl, trivial⟩ trivial rfl ?_; refine AW.only [(0, .dt false 1 (E false b)), (3, .ip (enc false q)), (12, .i K), (15, .dt false 1 (E false v0)), (16, .b v1)] [] 8 ⟨rfl, rfl, rfl, rfl, rfl, trivial⟩ trivial rfl ?_) | refine s1 ?_ | (refine kR ?_; first | refine F.c (hO) ?_ | refine F.c (hKs) ?_ | refine F.c (hN) ?_) | fail
         exact tail.t
       | true =>
        rw [hko rfl] at hKo
        by_cases hK1 : K = 1
        ·by_cases hxm : x.length = m.length
         ·cases hs : s with
          | false =>
           repeat' first | (refine AW.putV 13 1 rfl rfl rfl rfl (E_length _ _) (E_pure _ _) rfl ?_; refine AW.putV 13 2 rfl rfl rfl rfl (E_length _ _) (E_pure _ _) rfl ?_; refine AW.freezeP (α := Quiv) (oo := true) r0 13 rfl rfl ?_) | refine AW.freezeA (α := Int) (oo := true) (ls := v0) 15 rfl rfl rfl ?_ | (refine AW.only [(0, .dt false 1 (E false b)), (3, .ip (enc false q)), (12, .i K), (15, .dt false 1 (E false v0)), (16, .b v1), (186, .b v1)] [] 8 ⟨rfl, rfl, rfl, rfl, rfl, rfl, trivial⟩ trivial rfl ?_; refine AW.only [(0, .dt false 1 (E false b)), (3, .ip (enc false q)), (12, .i K), (15, .dt false 1 (E false v0)), (16, .b v1)] [] 8 ⟨rfl, rfl, rfl, rfl, rfl, trivial⟩ trivial rfl ?_) | refine s1 ?_ | (refine kR ?_; first | refine F.c (hO) ?_ | refine F.c (hKs) ?_ | refine F.c (hKo) ?_ | refine F.c (hN) ?_) | fail
           exact tail.t
          | true =>
           have hTot := total_a x (by omega) (fun j hj => by have := hw8 hxm.symm hs j hj; omega)
           by_cases hsum : 0 < x.sum
           ·have hx0 : 0 < m.length := by
             rw [← hxm]
             cases x with
             | nil => simp at hsum
             | cons => simp
            have hT1 : 1 ≤ T := by
             obtain ⟨_, _, _, g1, g2⟩ := hfz hx0 hxm hs
             have := htp hK1 g1 hsum
             omega
            repeat' first | (refine AW.putV 13 1 rfl rfl rfl rfl (E_length _ _) (E_pure _ _) rfl ?_; refine AW.putV 13 2 rfl rfl rfl rfl (E_length _ _) (E_pure _ _) rfl ?_; refine AW.freezeP (α := Quiv) (oo := true) r0 13 rfl rfl ?_) | refine AW.freezeA (α := Int) (oo := true) (ls := v0) 15 rfl rfl rfl ?_ | (refine AW.only [(0, .dt false 1 (E false b)), (3, .ip (enc false q)), (12, .i K), (15, .dt false 1 (E false v0)), (16, .b v1), (186, .b v1)] [] 8 ⟨rfl, rfl, rfl, rfl, rfl, rfl, trivial⟩ trivial rfl ?_; refine AW.only [(0, .dt false 1 (E false b)), (3, .ip (enc false q)), (12, .i K), (15, .dt false 1 (E false v0)), (16, .b v1)] [] 8 ⟨rfl, rfl, rfl, rfl, rfl, trivial⟩ trivial rfl ?_) | refine s1 ?_ | (refine kR ?_; first | refine F.c (hO) ?_ | refine F.c (hKs) ?_ | refine F.c (hKo) ?_ | refine F.c (hTot) ?_ | refine F.c (hN) ?_) | fail
            exact tail.t
           ·repeat' first | (refine AW.putV 13 1 rfl rfl rfl rfl (E_length _ _) (E_pure _ _) rfl ?_; refine AW.putV 13 2 rfl rfl rfl rfl (E_length _ _) (E_pure _ _) rfl ?_; refine AW.freezeP (α := Quiv) (oo := true) r0 13 rfl rfl ?_) | refine AW.freezeA (α := Int) (oo := true) (ls := v0) 15 rfl rfl rfl ?_ | (refine AW.only [(0, .dt false 1 (E false b)), (3, .ip (enc false q)), (12, .i K), (15, .dt false 1 (E false v0)), (16, .b v1), (186, .b v1)] [] 8 ⟨rfl, rfl, rfl, rfl, rfl, rfl, trivial⟩ trivial rfl ?_; refine AW.only [(0, .dt false 1 (E false b)), (3, .ip (enc false q)), (12, .i K), (15, .dt false 1 (E false v0)), (16, .b v1)] [] 8 ⟨rfl, rfl, rfl, rfl, rfl, trivial⟩ trivial rfl ?_) | refine s1 ?_ | (refine kR ?_; first | refine F.c (hO) ?_ | refine F.c (hKs) ?_ | refine F.c (hKo) ?_ | refine F.c (hTot) ?_ | refine F.c (hN) ?_) | fail
            exact tail.t
         ·repeat' first | (refine AW.putV 13 1 rfl rfl rfl rfl (E_length _ _) (E_pure _ _) rfl ?_; refine AW.putV 13 2 rfl rfl rfl rfl (E_length _ _) (E_pure _ _) rfl ?_; refine AW.freezeP (α := Quiv) (oo := true) r0 13 rfl rfl ?_) | refine AW.freezeA (α := Int) (oo := true) (ls := v0) 15 rfl rfl rfl ?_ | (refine AW.only [(0, .dt false 1 (E false b)), (3, .ip (enc false q)), (12, .i K), (15, .dt false 1 (E false v0)), (16, .b v1), (186, .b v1)] [] 8 ⟨rfl, rfl, rfl, rfl, rfl, rfl, trivial⟩ trivial rfl ?_; refine AW.only [(0, .dt false 1 (E false b)), (3, .ip (enc false q)), (12, .i K), (15, .dt false 1 (E false v0)), (16, .b v1)] [] 8 ⟨rfl, rfl, rfl, rfl, rfl, trivial⟩ trivial rfl ?_) | refine s1 ?_ | (refine kR ?_; first | refine F.c (hO) ?_ | refine F.c (hKs) ?_ | refine F.c (hKo) ?_ | refine F.c (hN) ?_) | fail
          exact tail.t
        ·repeat' first | (refine AW.putV 13 1 rfl rfl rfl rfl (E_length _ _) (E_pure _ _) rfl ?_; refine AW.putV 13 2 rfl rfl rfl rfl (E_length _ _) (E_pure _ _) rfl ?_; refine AW.freezeP (α := Quiv) (oo := true) r0 13 rfl rfl ?_) | refine AW.freezeA (α := Int) (oo := true) (ls := v0) 15 rfl rfl rfl ?_ | (refine AW.only [(0, .dt false 1 (E false b)), (3, .ip (enc false q)), (12, .i K), (15, .dt false 1 (E false v0)), (16, .b v1), (186, .b v1)] [] 8 ⟨rfl, rfl, rfl, rfl, rfl, rfl, trivial⟩ trivial rfl ?_; refine AW.only [(0, .dt false 1 (E false b)), (3, .ip (enc false q)), (12, .i K), (15, .dt false 1 (E false v0)), (16, .b v1)] [] 8 ⟨rfl, rfl, rfl, rfl, rfl, trivial⟩ trivial rfl ?_) | refine s1 ?_ | (refine kR ?_; first | refine F.c (hO) ?_ | refine F.c (hKs) ?_ | refine F.c (hKo) ?_ | refine F.c (hN) ?_) | fail
         exact tail.t
      ·
       clear hKi hKs hO hko htp hKo hTi hTs hSi hSs hEq hsq hfz hw8
       have hEu := drawEuler_x b hl
       have hDt := drawDet_x b hl
       have hWd := drawWord_x b hl
       have hCi := implCartanOf_a q
       have hCs := specCartanOf_a q
       have hcd := @cart_det q
       generalize cartQ q = C at hCi hCs hcd
       obtain ⟨c0, c1⟩ := C
       dsimp only at hCi hCs hcd
       have hDc := implDeterminantOf_a c0
       have hSl := sameLists_a c0 c0
       rw [decide_eq_true rfl] at hSl
       apply V.tailedT
       ·intro tail
        cases v1 with
        | false =>
         repeat' first | (refine AW.only [(0, .dt false 1 (E false b)), (3, .ip (enc false q)), (192, .b false), (213, .b false)] [] 8 ⟨rfl, rfl, rfl, rfl, trivial⟩ trivial rfl ?_; refine AW.only [(0, .dt false 1 (E false b)), (3, .ip (enc false q)), (213, .b false)] [] 8 ⟨rfl, rfl, rfl, trivial⟩ trivial rfl ?_) | refine s1 ?_ | (refine kR ?_; first | refine F.w (hM) ?_ | refine F.sil (A.neqBB rfl rfl) rfl rfl ?_ | refine F.c (hEn) ?_) | fail
         exact tail.t
        | true =>
         obtain ⟨hK2, hv0⟩ := hnf rfl
         rw [hv0] at hTn
         repeat' first | (refine AW.only [(0, .dt false 1 (E false b)), (3, .ip (enc false q)), (192, .b true), (213, .b false)] [] 8 ⟨rfl, rfl, rfl, rfl, trivial⟩ trivial rfl ?_; refine AW.only [(0, .dt false 1 (E false b)), (3, .ip (enc false q)), (213, .b false)] [] 8 ⟨rfl, rfl, rfl, trivial⟩ trivial rfl ?_) | refine s1 ?_ | (refine kR ?_; first | refine F.w (hM) ?_ | refine F.sil (A.neqBB rfl rfl) rfl rfl ?_ | refine F.c (hEn) ?_ | refine F.c (hTn) ?_) | fail
         exact tail.t
       ·
        clear hTn hEn hN hM hnf
        repeat' first | refine AW.freezeP (α := Quiv) (oo := false) _ 19 rfl rfl ?_ | refine AW.freezeA (α := Int) (oo := true) 20 rfl rfl rfl ?_ | refine AW.freezeA (α := Int) (oo := true) 21 rfl rfl rfl ?_ | refine AW.freezeA (α := List Int) (oo := true) 22 rfl rfl rfl ?_ | refine AW.freezeA (α := List Int) (oo := true) 23 rfl rfl rfl ?_ | refine AW.freezeA (α := List Int) (oo := true) 25 rfl rfl rfl ?_ | refine s1 ?_ | (refine kR ?_; first | (refine F.x [] (hEu) ?_; rintro ⟨q2, x2, y2⟩ ⟨hq2, hx2, hy2⟩; refine F.xk ?_) | (refine F.x [] (hDt) ?_; rintro m2 hm2; refine F.xk ?_) | refine F.c (hCi) ?_ | refine F.c (hCs) ?_ | (refine F.x [] (hWd) ?_; rintro kw hkw; refine F.xk ?_)) | fail
        have hEi := implEulerForm_a q2 x2 y2
        have hEs := specEulerForm_a q2 x2 y2
        generalize eulP q2 x2 y2 = U at hEi hEs
        have hDi := implDeterminantOf_a m2
        have hDs := specDeterminantOf_a m2
        generalize detOf m2 = Dm at hDi hDs
        have hWi := implKindWord_a kw
        have hWs := specKindWord_a kw
        generalize wordK kw = W at hWi hWs
        cases c1 with
        | false =>
         refine AW.draw 48 G.mixed (by kernel_rfl) ?_
         refine dL 0 ?_
         refine dP 1 ?_
         refine dP 2 ?_
         refine dL 4 ?_
         refine dP 5 ?_
         refine dP 6 ?_
         refine dO 3 true ?_
         first | refine s1 ?_ | refine F.c (hEi) ?_ | refine F.c (hEs) ?_ | refine F.c (hDi) ?_ | refine F.c (hDs) ?_ | refine F.c (hSl) ?_ | refine F.c (hDc) ?_ | refine F.c (hWi) ?_ | refine F.c (hWs) ?_
         refine tN ?_
         refine dO 7 true ?_
         first | refine s1 ?_ | refine F.c (hEi) ?_ | refine F.c (hEs) ?_ | refine F.c (hDi) ?_ | refine F.c (hDs) ?_ | refine F.c (hSl) ?_ | refine F.c (hDc) ?_ | refine F.c (hWi) ?_ | refine F.c (hWs) ?_
         refine tN ?_
         refine dP 8 ?_
         refine dP 9 ?_
         first | refine dT 243 rfl (by first | assumption | rfl | (simp only [decide_eq_true_eq, Bool.not_eq_true', decide_eq_false_iff_not, Bool.and_eq_true, Bool.or_eq_true]; omega)) ?_ | refine dF 243 rfl (by first | assumption | rfl | (simp only [decide_eq_false_iff_not, Bool.not_eq_false', decide_eq_true_eq, Bool.and_eq_false_iff, Bool.or_eq_false_iff]; omega)) ?_ | (refine dD 243 rfl ?_ ?_ <;> intro hc <;> (try simp only [decide_eq_true_eq, decide_eq_false_iff_not, Bool.not_eq_true', Bool.not_eq_false'] at hc)) | skip
         all_goals
          first | refine dK 10 ?_ | refine dP 10 ?_
          first | refine dK 12 ?_ | refine dP 12 ?_
          refine dO 11 true ?_
          first | refine s1 ?_ | refine F.c (hEi) ?_ | refine F.c (hEs) ?_ | refine F.c (hDi) ?_ | refine F.c (hDs) ?_ | refine F.c (hSl) ?_ | refine F.c (hDc) ?_ | refine F.c (hWi) ?_ | refine F.c (hWs) ?_
          refine tN ?_
          refine dO 13 true ?_
          first | refine s1 ?_ | refine F.c (hEi) ?_ | refine F.c (hEs) ?_ | refine F.c (hDi) ?_ | refine F.c (hDs) ?_ | refine F.c (hSl) ?_ | refine F.c (hDc) ?_ | refine F.c (hWi) ?_ | refine F.c (hWs) ?_
          refine tN ?_
          first | refine dK 14 ?_ | refine dP 14 ?_
          refine dP 15 ?_
          refine dP 16 ?_
          first | refine dT 250 rfl (by first | assumption | rfl | (simp only [decide_eq_true_eq, Bool.not_eq_true', decide_eq_false_iff_not, Bool.and_eq_true, Bool.or_eq_true]; omega)) ?_ | refine dF 250 rfl (by first | assumption | rfl | (simp only [decide_eq_false_iff_not, Bool.not_eq_false', decide_eq_true_eq, Bool.and_eq_false_iff, Bool.or_eq_false_iff]; omega)) ?_ | (refine dD 250 rfl ?_ ?_ <;> intro hc <;> (try simp only [decide_eq_true_eq, decide_eq_false_iff_not, Bool.not_eq_true', Bool.not_eq_false'] at hc)) | skip
          all_goals
           first | refine dK 17 ?_ | refine dP 17 ?_
           first | refine dK 18 ?_ | refine dP 18 ?_
           first | refine dP 19 ?_ (hs := by exact (A.eqlBB rfl rfl)) | refine dK 19 ?_ | refine dP 19 ?_
           refine dP 20 ?_
           refine dP 21 ?_
           first | refine dT 255 rfl (by first | assumption | rfl | (simp only [decide_eq_true_eq, Bool.not_eq_true', decide_eq_false_iff_not, Bool.and_eq_true, Bool.or_eq_true]; omega)) ?_ | refine dF 255 rfl (by first | assumption | rfl | (simp only [decide_eq_false_iff_not, Bool.not_eq_false', decide_eq_true_eq, Bool.and_eq_false_iff, Bool.or_eq_false_iff]; omega)) ?_ | (refine dD 255 rfl ?_ ?_ <;> intro hc <;> (try simp only [decide_eq_true_eq, decide_eq_false_iff_not, Bool.not_eq_true', Bool.not_eq_false'] at hc)) | skip
           all_goals
            first | refine dK 22 ?_ | refine dP 22 ?_
            first | refine dK 23 ?_ | refine dP 23 ?_
            refine dO 24 true ?_
            first | refine s1 ?_ | refine F.c (hEi) ?_ | refine F.c (hEs) ?_ | refine F.c (hDi) ?_ | refine F.c (hDs) ?_ | refine F.c (hSl) ?_ | refine F.c (hDc) ?_ | refine F.c (hWi) ?_ | refine F.c (hWs) ?_
            refine tN ?_
            refine dP 25 ?_
            refine dP 26 ?_
            first | refine dT 260 rfl (by first | assumption | rfl | (simp only [decide_eq_true_eq, Bool.not_eq_true', decide_eq_false_iff_not, Bool.and_eq_true, Bool.or_eq_true]; omega)) ?_ | refine dF 260 rfl (by first | assumption | rfl | (simp only [decide_eq_false_iff_not, Bool.not_eq_false', decide_eq_true_eq, Bool.and_eq_false_iff, Bool.or_eq_false_iff]; omega)) ?_ | (refine dD 260 rfl ?_ ?_ <;> intro hc <;> (try simp only [decide_eq_true_eq, decide_eq_false_iff_not, Bool.not_eq_true', Bool.not_eq_false'] at hc)) | skip
            all_goals
             first | refine dK 27 ?_ | refine dP 27 ?_
             first | refine dK 28 ?_ | refine dP 28 ?_
             first | refine dK 29 ?_ | refine dP 29 ?_
             first | refine dT 263 rfl (by first | assumption | rfl | (simp only [decide_eq_true_eq, Bool.not_eq_true', decide_eq_false_iff_not, Bool.and_eq_true, Bool.or_eq_true]; omega)) ?_ | refine dF 263 rfl (by first | assumption | rfl | (simp only [decide_eq_false_iff_not, Bool.not_eq_false', decide_eq_true_eq, Bool.and_eq_false_iff, Bool.or_eq_false_iff]; omega)) ?_ | (refine dD 263 rfl ?_ ?_ <;> intro hc <;> (try simp only [decide_eq_true_eq, decide_eq_false_iff_not, Bool.not_eq_true', Bool.not_eq_false'] at hc)) | skip
             all_goals
              first | refine dK 30 ?_ | refine dP 30 ?_
              first | refine dK 31 ?_ | refine dP 31 ?_
              first | refine dK 32 ?_ | refine dP 32 ?_
              first | refine dK 33 ?_ | refine dP 33 ?_
              first | refine dK 34 ?_ | refine dP 34 ?_
              first | refine dT 268 rfl (by first | assumption | rfl | (simp only [decide_eq_true_eq, Bool.not_eq_true', decide_eq_false_iff_not, Bool.and_eq_true, Bool.or_eq_true]; omega)) ?_ | refine dF 268 rfl (by first | assumption | rfl | (simp only [decide_eq_false_iff_not, Bool.not_eq_false', decide_eq_true_eq, Bool.and_eq_false_iff, Bool.or_eq_false_iff]; omega)) ?_ | (refine dD 268 rfl ?_ ?_ <;> intro hc <;> (try simp only [decide_eq_true_eq, decide_eq_false_iff_not, Bool.not_eq_true', Bool.not_eq_false'] at hc)) | skip
              all_goals
               first | refine dK 35 ?_ | refine dP 35 ?_
               refine dO 36 true ?_
               first | refine s1 ?_ | refine F.c (hEi) ?_ | refine F.c (hEs) ?_ | refine F.c (hDi) ?_ | refine F.c (hDs) ?_ | refine F.c (hSl) ?_ | refine F.c (hDc) ?_ | refine F.c (hWi) ?_ | refine F.c (hWs) ?_
               refine tN ?_
               first | refine dK 37 ?_ | refine dP 37 ?_
               first | refine dK 38 ?_ | refine dP 38 ?_
               refine dP 39 ?_
               refine dP 40 ?_
               first | refine dT 274 rfl (by first | assumption | rfl | (simp only [decide_eq_true_eq, Bool.not_eq_true', decide_eq_false_iff_not, Bool.and_eq_true, Bool.or_eq_true]; omega)) ?_ | refine dF 274 rfl (by first | assumption | rfl | (simp only [decide_eq_false_iff_not, Bool.not_eq_false', decide_eq_true_eq, Bool.and_eq_false_iff, Bool.or_eq_false_iff]; omega)) ?_ | (refine dD 274 rfl ?_ ?_ <;> intro hc <;> (try simp only [decide_eq_true_eq, decide_eq_false_iff_not, Bool.not_eq_true', Bool.not_eq_false'] at hc)) | skip
               all_goals
                first | refine dK 41 ?_ | refine dP 41 ?_
                first | refine dK 43 ?_ | refine dP 43 ?_
                refine dO 42 true ?_
                first | refine s1 ?_ | refine F.c (hEi) ?_ | refine F.c (hEs) ?_ | refine F.c (hDi) ?_ | refine F.c (hDs) ?_ | refine F.c (hSl) ?_ | refine F.c (hDc) ?_ | refine F.c (hWi) ?_ | refine F.c (hWs) ?_
                refine tN ?_
                refine dO 44 true ?_
                first | refine s1 ?_ | refine F.c (hEi) ?_ | refine F.c (hEs) ?_ | refine F.c (hDi) ?_ | refine F.c (hDs) ?_ | refine F.c (hSl) ?_ | refine F.c (hDc) ?_ | refine F.c (hWi) ?_ | refine F.c (hWs) ?_
                refine tN ?_
                first | refine dP 45 ?_ (hs := by exact (A.eqlS rfl rfl)) | refine dK 45 ?_ | refine dP 45 ?_
                refine dP 46 ?_
                refine dP 47 ?_
                refine dN ?_
                rotate_left
         all_goals
          repeat' first | refine s1 ?_ | fail
          refine kZ ?_; refine F.ret ?_; simp <;> exact (‹¬ True› trivial).elim
        | true =>
         rw [hcd rfl] at hDc
         by_cases hc0 : c0.length = 0
         ·refine AW.draw 48 G.mixed (by kernel_rfl) ?_
          refine dL 0 ?_
          refine dP 1 ?_
          refine dP 2 ?_
          refine dL 4 ?_
          refine dP 5 ?_
          refine dP 6 ?_
          refine dO 3 true ?_
          first | refine s1 ?_ | refine F.c (hEi) ?_ | refine F.c (hEs) ?_ | refine F.c (hDi) ?_ | refine F.c (hDs) ?_ | refine F.c (hSl) ?_ | refine F.c (hDc) ?_ | refine F.c (hWi) ?_ | refine F.c (hWs) ?_
          refine tN ?_
          refine dO 7 true ?_
          first | refine s1 ?_ | refine F.c (hEi) ?_ | refine F.c (hEs) ?_ | refine F.c (hDi) ?_ | refine F.c (hDs) ?_ | refine F.c (hSl) ?_ | refine F.c (hDc) ?_ | refine F.c (hWi) ?_ | refine F.c (hWs) ?_
          refine tN ?_
          refine dP 8 ?_
          refine dP 9 ?_
          first | refine dT 243 rfl (by first | assumption | rfl | (simp only [decide_eq_true_eq, Bool.not_eq_true', decide_eq_false_iff_not, Bool.and_eq_true, Bool.or_eq_true]; omega)) ?_ | refine dF 243 rfl (by first | assumption | rfl | (simp only [decide_eq_false_iff_not, Bool.not_eq_false', decide_eq_true_eq, Bool.and_eq_false_iff, Bool.or_eq_false_iff]; omega)) ?_ | (refine dD 243 rfl ?_ ?_ <;> intro hc <;> (try simp only [decide_eq_true_eq, decide_eq_false_iff_not, Bool.not_eq_true', Bool.not_eq_false'] at hc)) | skip
          all_goals
           first | refine dK 10 ?_ | refine dP 10 ?_
           first | refine dK 12 ?_ | refine dP 12 ?_
           refine dO 11 true ?_
           first | refine s1 ?_ | refine F.c (hEi) ?_ | refine F.c (hEs) ?_ | refine F.c (hDi) ?_ | refine F.c (hDs) ?_ | refine F.c (hSl) ?_ | refine F.c (hDc) ?_ | refine F.c (hWi) ?_ | refine F.c (hWs) ?_
           refine tN ?_
           refine dO 13 true ?_
           first | refine s1 ?_ | refine F.c (hEi) ?_ | refine F.c (hEs) ?_ | refine F.c (hDi) ?_ | refine F.c (hDs) ?_ | refine F.c (hSl) ?_ | refine F.c (hDc) ?_ | refine F.c (hWi) ?_ | refine F.c (hWs) ?_
           refine tN ?_
           first | refine dK 14 ?_ | refine dP 14 ?_
           refine dP 15 ?_
           refine dP 16 ?_
           first | refine dT 250 rfl (by first | assumption | rfl | (simp only [decide_eq_true_eq, Bool.not_eq_true', decide_eq_false_iff_not, Bool.and_eq_true, Bool.or_eq_true]; omega)) ?_ | refine dF 250 rfl (by first | assumption | rfl | (simp only [decide_eq_false_iff_not, Bool.not_eq_false', decide_eq_true_eq, Bool.and_eq_false_iff, Bool.or_eq_false_iff]; omega)) ?_ | (refine dD 250 rfl ?_ ?_ <;> intro hc <;> (try simp only [decide_eq_true_eq, decide_eq_false_iff_not, Bool.not_eq_true', Bool.not_eq_false'] at hc)) | skip
           all_goals
            first | refine dK 17 ?_ | refine dP 17 ?_
            first | refine dK 18 ?_ | refine dP 18 ?_
            first | refine dP 19 ?_ (hs := by exact (A.eqlBB rfl rfl)) | refine dK 19 ?_ | refine dP 19 ?_
            refine dP 20 ?_
            refine dP 21 ?_
            first | refine dT 255 rfl (by first | assumption | rfl | (simp only [decide_eq_true_eq, Bool.not_eq_true', decide_eq_false_iff_not, Bool.and_eq_true, Bool.or_eq_true]; omega)) ?_ | refine dF 255 rfl (by first | assumption | rfl | (simp only [decide_eq_false_iff_not, Bool.not_eq_false', decide_eq_true_eq, Bool.and_eq_false_iff, Bool.or_eq_false_iff]; omega)) ?_ | (refine dD 255 rfl ?_ ?_ <;> intro hc <;> (try simp only [decide_eq_true_eq, decide_eq_false_iff_not, Bool.not_eq_true', Bool.not_eq_false'] at hc)) | skip
            all_goals
             first | refine dK 22 ?_ | refine dP 22 ?_
             first | refine dK 23 ?_ | refine dP 23 ?_
             refine dO 24 true ?_
             first | refine s1 ?_ | refine F.c (hEi) ?_ | refine F.c (hEs) ?_ | refine F.c (hDi) ?_ | refine F.c (hDs) ?_ | refine F.c (hSl) ?_ | refine F.c (hDc) ?_ | refine F.c (hWi) ?_ | refine F.c (hWs) ?_
             refine tN ?_
             refine dP 25 ?_
             refine dP 26 ?_
             first | refine dT 260 rfl (by first | assumption | rfl | (simp only [decide_eq_true_eq, Bool.not_eq_true', decide_eq_false_iff_not, Bool.and_eq_true, Bool.or_eq_true]; omega)) ?_ | refine dF 260 rfl (by first | assumption | rfl | (simp only [decide_eq_false_iff_not, Bool.not_eq_false', decide_eq_true_eq, Bool.and_eq_false_iff, Bool.or_eq_false_iff]; omega)) ?_ | (refine dD 260 rfl ?_ ?_ <;> intro hc <;> (try simp only [decide_eq_true_eq, decide_eq_false_iff_not, Bool.not_eq_true', Bool.not_eq_false'] at hc)) | skip
             all_goals
              first | refine dK 27 ?_ | refine dP 27 ?_
              first | refine dK 28 ?_ | refine dP 28 ?_
              first | refine dK 29 ?_ | refine dP 29 ?_
              first | refine dT 263 rfl (by first | assumption | rfl | (simp only [decide_eq_true_eq, Bool.not_eq_true', decide_eq_false_iff_not, Bool.and_eq_true, Bool.or_eq_true]; omega)) ?_ | refine dF 263 rfl (by first | assumption | rfl | (simp only [decide_eq_false_iff_not, Bool.not_eq_false', decide_eq_true_eq, Bool.and_eq_false_iff, Bool.or_eq_false_iff]; omega)) ?_ | (refine dD 263 rfl ?_ ?_ <;> intro hc <;> (try simp only [decide_eq_true_eq, decide_eq_false_iff_not, Bool.not_eq_true', Bool.not_eq_false'] at hc)) | skip
              all_goals
               first | refine dK 30 ?_ | refine dP 30 ?_
               first | refine dK 31 ?_ | refine dP 31 ?_
               first | refine dK 32 ?_ | refine dP 32 ?_
               first | refine dK 33 ?_ | refine dP 33 ?_
               first | refine dK 34 ?_ | refine dP 34 ?_
               first | refine dT 268 rfl (by first | assumption | rfl | (simp only [decide_eq_true_eq, Bool.not_eq_true', decide_eq_false_iff_not, Bool.and_eq_true, Bool.or_eq_true]; omega)) ?_ | refine dF 268 rfl (by first | assumption | rfl | (simp only [decide_eq_false_iff_not, Bool.not_eq_false', decide_eq_true_eq, Bool.and_eq_false_iff, Bool.or_eq_false_iff]; omega)) ?_ | (refine dD 268 rfl ?_ ?_ <;> intro hc <;> (try simp only [decide_eq_true_eq, decide_eq_false_iff_not, Bool.not_eq_true', Bool.not_eq_false'] at hc)) | skip
               all_goals
                first | refine dK 35 ?_ | refine dP 35 ?_
                refine dO 36 true ?_
                first | refine s1 ?_ | refine F.c (hEi) ?_ | refine F.c (hEs) ?_ | refine F.c (hDi) ?_ | refine F.c (hDs) ?_ | refine F.c (hSl) ?_ | refine F.c (hDc) ?_ | refine F.c (hWi) ?_ | refine F.c (hWs) ?_
                refine tN ?_
                first | refine dK 37 ?_ | refine dP 37 ?_
                first | refine dK 38 ?_ | refine dP 38 ?_
                refine dP 39 ?_
                refine dP 40 ?_
                first | refine dT 274 rfl (by first | assumption | rfl | (simp only [decide_eq_true_eq, Bool.not_eq_true', decide_eq_false_iff_not, Bool.and_eq_true, Bool.or_eq_true]; omega)) ?_ | refine dF 274 rfl (by first | assumption | rfl | (simp only [decide_eq_false_iff_not, Bool.not_eq_false', decide_eq_true_eq, Bool.and_eq_false_iff, Bool.or_eq_false_iff]; omega)) ?_ | (refine dD 274 rfl ?_ ?_ <;> intro hc <;> (try simp only [decide_eq_true_eq, decide_eq_false_iff_not, Bool.not_eq_true', Bool.not_eq_false'] at hc)) | skip
                all_goals
                 first | refine dK 41 ?_ | refine dP 41 ?_
                 first | refine dK 43 ?_ | refine dP 43 ?_
                 refine dO 42 true ?_
                 first | refine s1 ?_ | refine F.c (hEi) ?_ | refine F.c (hEs) ?_ | refine F.c (hDi) ?_ | refine F.c (hDs) ?_ | refine F.c (hSl) ?_ | refine F.c (hDc) ?_ | refine F.c (hWi) ?_ | refine F.c (hWs) ?_
                 refine tN ?_
                 refine dO 44 true ?_
                 first | refine s1 ?_ | refine F.c (hEi) ?_ | refine F.c (hEs) ?_ | refine F.c (hDi) ?_ | refine F.c (hDs) ?_ | refine F.c (hSl) ?_ | refine F.c (hDc) ?_ | refine F.c (hWi) ?_ | refine F.c (hWs) ?_
                 refine tN ?_
                 first | refine dP 45 ?_ (hs := by exact (A.eqlS rfl rfl)) | refine dK 45 ?_ | refine dP 45 ?_
                 refine dP 46 ?_
                 refine dP 47 ?_
                 refine dN ?_
                 rotate_left
          all_goals
           repeat' first | refine s1 ?_ | fail
           refine kZ ?_; refine F.ret ?_; simp <;> exact (‹¬ True› trivial).elim
         ·refine AW.draw 48 G.mixed (by kernel_rfl) ?_
          refine dL 0 ?_
          refine dP 1 ?_
          refine dP 2 ?_
          refine dL 4 ?_
          refine dP 5 ?_
          refine dP 6 ?_
          refine dO 3 true ?_
          first | refine s1 ?_ | refine F.c (hEi) ?_ | refine F.c (hEs) ?_ | refine F.c (hDi) ?_ | refine F.c (hDs) ?_ | refine F.c (hSl) ?_ | refine F.c (hDc) ?_ | refine F.c (hWi) ?_ | refine F.c (hWs) ?_
          refine tN ?_
          refine dO 7 true ?_
          first | refine s1 ?_ | refine F.c (hEi) ?_ | refine F.c (hEs) ?_ | refine F.c (hDi) ?_ | refine F.c (hDs) ?_ | refine F.c (hSl) ?_ | refine F.c (hDc) ?_ | refine F.c (hWi) ?_ | refine F.c (hWs) ?_
          refine tN ?_
          refine dP 8 ?_
          refine dP 9 ?_
          first | refine dT 243 rfl (by first | assumption | rfl | (simp only [decide_eq_true_eq, Bool.not_eq_true', decide_eq_false_iff_not, Bool.and_eq_true, Bool.or_eq_true]; omega)) ?_ | refine dF 243 rfl (by first | assumption | rfl | (simp only [decide_eq_false_iff_not, Bool.not_eq_false', decide_eq_true_eq, Bool.and_eq_false_iff, Bool.or_eq_false_iff]; omega)) ?_ | (refine dD 243 rfl ?_ ?_ <;> intro hc <;> (try simp only [decide_eq_true_eq, decide_eq_false_iff_not, Bool.not_eq_true', Bool.not_eq_false'] at hc)) | skip
          all_goals
           first | refine dK 10 ?_ | refine dP 10 ?_
           first | refine dK 12 ?_ | refine dP 12 ?_
           refine dO 11 true ?_
           first | refine s1 ?_ | refine F.c (hEi) ?_ | refine F.c (hEs) ?_ | refine F.c (hDi) ?_ | refine F.c (hDs) ?_ | refine F.c (hSl) ?_ | refine F.c (hDc) ?_ | refine F.c (hWi) ?_ | refine F.c (hWs) ?_
           refine tN ?_
           refine dO 13 true ?_
           first | refine s1 ?_ | refine F.c (hEi) ?_ | refine F.c (hEs) ?_ | refine F.c (hDi) ?_ | refine F.c (hDs) ?_ | refine F.c (hSl) ?_ | refine F.c (hDc) ?_ | refine F.c (hWi) ?_ | refine F.c (hWs) ?_
           refine tN ?_
           first | refine dK 14 ?_ | refine dP 14 ?_
           refine dP 15 ?_
           refine dP 16 ?_
           first | refine dT 250 rfl (by first | assumption | rfl | (simp only [decide_eq_true_eq, Bool.not_eq_true', decide_eq_false_iff_not, Bool.and_eq_true, Bool.or_eq_true]; omega)) ?_ | refine dF 250 rfl (by first | assumption | rfl | (simp only [decide_eq_false_iff_not, Bool.not_eq_false', decide_eq_true_eq, Bool.and_eq_false_iff, Bool.or_eq_false_iff]; omega)) ?_ | (refine dD 250 rfl ?_ ?_ <;> intro hc <;> (try simp only [decide_eq_true_eq, decide_eq_false_iff_not, Bool.not_eq_true', Bool.not_eq_false'] at hc)) | skip
           all_goals
            first | refine dK 17 ?_ | refine dP 17 ?_
            first | refine dK 18 ?_ | refine dP 18 ?_
            first | refine dP 19 ?_ (hs := by exact (A.eqlBB rfl rfl)) | refine dK 19 ?_ | refine dP 19 ?_
            refine dP 20 ?_
            refine dP 21 ?_
            first | refine dT 255 rfl (by first | assumption | rfl | (simp only [decide_eq_true_eq, Bool.not_eq_true', decide_eq_false_iff_not, Bool.and_eq_true, Bool.or_eq_true]; omega)) ?_ | refine dF 255 rfl (by first | assumption | rfl | (simp only [decide_eq_false_iff_not, Bool.not_eq_false', decide_eq_true_eq, Bool.and_eq_false_iff, Bool.or_eq_false_iff]; omega)) ?_ | (refine dD 255 rfl ?_ ?_ <;> intro hc <;> (try simp only [decide_eq_true_eq, decide_eq_false_iff_not, Bool.not_eq_true', Bool.not_eq_false'] at hc)) | skip
            all_goals
             first | refine dK 22 ?_ | refine dP 22 ?_
             first | refine dK 23 ?_ | refine dP 23 ?_
             refine dO 24 true ?_
             first | refine s1 ?_ | refine F.c (hEi) ?_ | refine F.c (hEs) ?_ | refine F.c (hDi) ?_ | refine F.c (hDs) ?_ | refine F.c (hSl) ?_ | refine F.c (hDc) ?_ | refine F.c (hWi) ?_ | refine F.c (hWs) ?_
             refine tN ?_
             refine dP 25 ?_
             refine dP 26 ?_
             first | refine dT 260 rfl (by first | assumption | rfl | (simp only [decide_eq_true_eq, Bool.not_eq_true', decide_eq_false_iff_not, Bool.and_eq_true, Bool.or_eq_true]; omega)) ?_ | refine dF 260 rfl (by first | assumption | rfl | (simp only [decide_eq_false_iff_not, Bool.not_eq_false', decide_eq_true_eq, Bool.and_eq_false_iff, Bool.or_eq_false_iff]; omega)) ?_ | (refine dD 260 rfl ?_ ?_ <;> intro hc <;> (try simp only [decide_eq_true_eq, decide_eq_false_iff_not, Bool.not_eq_true', Bool.not_eq_false'] at hc)) | skip
             all_goals
              first | refine dK 27 ?_ | refine dP 27 ?_
              first | refine dK 28 ?_ | refine dP 28 ?_
              first | refine dK 29 ?_ | refine dP 29 ?_
              first | refine dT 263 rfl (by first | assumption | rfl | (simp only [decide_eq_true_eq, Bool.not_eq_true', decide_eq_false_iff_not, Bool.and_eq_true, Bool.or_eq_true]; omega)) ?_ | refine dF 263 rfl (by first | assumption | rfl | (simp only [decide_eq_false_iff_not, Bool.not_eq_false', decide_eq_true_eq, Bool.and_eq_false_iff, Bool.or_eq_false_iff]; omega)) ?_ | (refine dD 263 rfl ?_ ?_ <;> intro hc <;> (try simp only [decide_eq_true_eq, decide_eq_false_iff_not, Bool.not_eq_true', Bool.not_eq_false'] at hc)) | skip
              all_goals
               first | refine dK 30 ?_ | refine dP 30 ?_
               first | refine dK 31 ?_ | refine dP 31 ?_
               first | refine dK 32 ?_ | refine dP 32 ?_
               first | refine dK 33 ?_ | refine dP 33 ?_
               first | refine dK 34 ?_ | refine dP 34 ?_
               first | refine dT 268 rfl (by first | assumption | rfl | (simp only [decide_eq_true_eq, Bool.not_eq_true', decide_eq_false_iff_not, Bool.and_eq_true, Bool.or_eq_true]; omega)) ?_ | refine dF 268 rfl (by first | assumption | rfl | (simp only [decide_eq_false_iff_not, Bool.not_eq_false', decide_eq_true_eq, Bool.and_eq_false_iff, Bool.or_eq_false_iff]; omega)) ?_ | (refine dD 268 rfl ?_ ?_ <;> intro hc <;> (try simp only [decide_eq_true_eq, decide_eq_false_iff_not, Bool.not_eq_true', Bool.not_eq_false'] at hc)) | skip
               all_goals
                first | refine dK 35 ?_ | refine dP 35 ?_
                refine dO 36 true ?_
                first | refine s1 ?_ | refine F.c (hEi) ?_ | refine F.c (hEs) ?_ | refine F.c (hDi) ?_ | refine F.c (hDs) ?_ | refine F.c (hSl) ?_ | refine F.c (hDc) ?_ | refine F.c (hWi) ?_ | refine F.c (hWs) ?_
                refine tN ?_
                first | refine dK 37 ?_ | refine dP 37 ?_
                first | refine dK 38 ?_ | refine dP 38 ?_
                refine dP 39 ?_
                refine dP 40 ?_
                first | refine dT 274 rfl (by first | assumption | rfl | (simp only [decide_eq_true_eq, Bool.not_eq_true', decide_eq_false_iff_not, Bool.and_eq_true, Bool.or_eq_true]; omega)) ?_ | refine dF 274 rfl (by first | assumption | rfl | (simp only [decide_eq_false_iff_not, Bool.not_eq_false', decide_eq_true_eq, Bool.and_eq_false_iff, Bool.or_eq_false_iff]; omega)) ?_ | (refine dD 274 rfl ?_ ?_ <;> intro hc <;> (try simp only [decide_eq_true_eq, decide_eq_false_iff_not, Bool.not_eq_true', Bool.not_eq_false'] at hc)) | skip
                all_goals
                 first | refine dK 41 ?_ | refine dP 41 ?_
                 first | refine dK 43 ?_ | refine dP 43 ?_
                 refine dO 42 true ?_
                 first | refine s1 ?_ | refine F.c (hEi) ?_ | refine F.c (hEs) ?_ | refine F.c (hDi) ?_ | refine F.c (hDs) ?_ | refine F.c (hSl) ?_ | refine F.c (hDc) ?_ | refine F.c (hWi) ?_ | refine F.c (hWs) ?_
                 refine tN ?_
                 refine dO 44 true ?_
                 first | refine s1 ?_ | refine F.c (hEi) ?_ | refine F.c (hEs) ?_ | refine F.c (hDi) ?_ | refine F.c (hDs) ?_ | refine F.c (hSl) ?_ | refine F.c (hDc) ?_ | refine F.c (hWi) ?_ | refine F.c (hWs) ?_
                 refine tN ?_
                 first | refine dP 45 ?_ (hs := by exact (A.eqlS rfl rfl)) | refine dK 45 ?_ | refine dP 45 ?_
                 refine dP 46 ?_
                 refine dP 47 ?_
                 refine dN ?_
                 rotate_left
          all_goals
           repeat' first | refine s1 ?_ | fail
           refine kZ ?_; refine F.ret ?_; simp <;> exact (‹¬ True› trivial).elim
theorem fnForms.walk (w : World) (x0 : List UInt8) (v0 : Value) (F0 : List Nat) (h0 : (listR u8R).V w x0 [v0] F0) : Run Try.prog 4 [v0] w fun v w' => v = .bool true ∧ Later w w' :=
 (fnForms.ac x0).law (.cons (RdE.h h0) (.nil w))
namespace fnForms
theorem own : ownKnob Try.prog.godebug = none := by kernel_rfl
theorem laidOut : laidOutB Try.prog = true := by kernel_rfl
set_option maxRecDepth 100000 in
theorem lifted (os : Os) (started : os.Started) (H : Type) (enc : TypeId × Value → H) :
  ReturnsInHanded {} Try.checked os 4 .any (Rows.fnFormsSpec.pre6 enc Try.prog Try.f4 Rows.fnFormsRow.domain false) (Rows.fnFormsSpec.post enc Try.prog Try.f4 false true false false) := by
 refine returnsInHanded_of_change (C := Try.checked) own started (by kernel_rfl) Try.func4
  (ChangeSpec.witness6 (enc := enc) (C := Try.checked) false ⟨#[], #[.slice none 0 0], []⟩ 8 (by kernel_rfl) (by kernel_rfl) (by kernel_rfl) (by kernel_rfl)) ?_
 intro W base args ds gs before hval0 hW hcnd _
 have hval : ∀ (j : Nat) t v, Try.f4.params[j]? = some t → args[j]? = some v → Value.okWide Try.prog W .any base t v := hval0
 have hW' := hW
 obtain ⟨p, q, hA0, hV, rfl, hfz, hnd⟩ := hW
 have hA : DataW.TrodAll enc Try.prog W 0 (fun _ => true) true Try.f4.params.toList args.toList ds p := hA0
 rw [Try.params4] at hA hval
 obtain ⟨v0, vs0, d0, ds0, p0, q0, hargs, rfl, rfl, h0, r0⟩ := trodAll_cons hA
 obtain ⟨rfl, rfl, rfl⟩ := trodAll_nil r0
 obtain rfl : args = #[v0] := by cases args; simp_all
 obtain ⟨rfl, rfl⟩ := trodVars_none hV
 obtain ⟨a0, len0, cap0, rfl⟩ := okWide_slice Try.underlying35 (hval 0 35 v0 rfl rfl)
 have k0 := h0
 have lt0 : ∀ x ∈ p0, x.block < W.heap.size := by obtain ⟨m, hm⟩ := k0; exact DataW.trod_lt m _ _ _ hm
 obtain ⟨x0, F0, R0⟩ := Rds.arg1 (inferInstance : Rds Try.prog 35 _) k0 rfl
 clear hA0 hval0
 refine (Run.calls (walk W x0 _ F0 R0)).mono fun e W' ⟨v, he, hv, bel⟩ => ?_
 subst he
 subst hv
 exact ⟨_, rfl, _, _, _, [], _, [], hW', trodAll_mk1 (shut_bool Try.underlying4 _), (trodAll_cons_mk (Below.trod laidOut (by kernel_rfl) (of_decide_eq_true (by kernel_rfl)) k0 bel lt0) trodAll_mk0), rfl, bel.frame _, fun h => by cases h⟩
theorem closed : joinedFacts Try.pinned.checked.prog 4 Try.f4 Rows.fnFormsSpec Rows.fnFormsRow = true := by
 have h : Program.recurses Try.pinned.checked.prog 4 = true := V.recurses_at 51 51 (by kernel_rfl) (by kernel_rfl) (by kernel_rfl)
 unfold joinedFacts
 rw [h]
 change _ = _
 kernel_rfl
theorem over : Rows.fnFormsRow.holds Try.pinned (OpenSpec.ofChange Rows.fnFormsSpec) :=
 OpenClaim.holds_of_wide 4 Try.f4 rfl rfl rfl rfl rfl rfl rfl ⟨rfl, rfl, rfl, rfl, rfl⟩ rfl rfl rfl rfl rfl (by kernel_rfl) Try.func4 closed
  (of_decide_eq_true (by kernel_rfl)) (by unfold Func.isWrapper; first | (rw [if_pos (by decide +kernel)]; kernel_rfl) | (rw [if_neg (by decide +kernel)]; exact ⟨rfl, rfl⟩))
  (fun os started H enc _ => lifted os started H enc)
theorem proved : Rows.FnFormsSaid := over
end fnForms
end Go.Proofs.Ytoilkinagffhiaa
