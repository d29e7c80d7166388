/- Texts that the proof needs: A165. -/
import Derived.Test.YtoilkinagffhiaaQffA164
namespace Go.Proofs.Ytoilkinagffhiaa.V
open Go.RowKit G D
set_option linter.unusedVariables false
set_option linter.unusedSimpArgs false
set_option maxHeartbeats 4000000
set_option maxRecDepth 4000
attribute [local irreducible] AW ARg ARA ARet MRet ASil AC AM AMx ACx AD
theorem l18Numbers_x (b : List UInt8) (hl : b.length ≤ 1048576) (q : Quiv) : AD Try.prog 47 [.agg (enc false q)] b (fun x : List Int => x.length ≤ 5) (fun x => [.dt true 1 (E true x)]) := by
 refine AD.go Try.func47 Try.ntmps47 rfl rfl fun i h hi w0 mp hw => ?_; simp [WfL, WfA, E_length, Enc.enc, In64] at hw
 have hB := fun n => l1Below_x b hl n
 have hO := l1Once_x b hl 12
 have hI := l1PickInt_x b hl [-101, 101, 100, 9223372036854775807] (by decide) (by decide)
 repeat' first | refine s1 ?_ | fail
 refine AW.freezeP (α := Quiv) (oo := false) q 3 rfl rfl ?_
 refine AW.open 5 1 (.inr rfl) ?_
 refine AW.only [(0, .pt 0 1 0 0), (3, .ip (enc false q)), (5, .sl 2 0 0 0), (6, .i 0)] [(0, .live false 3 (curO b i h)), (2, .live false 1 (E true ([] : List Int)))] 3 ⟨rfl, rfl, rfl, rfl, trivial⟩ ⟨rfl, rfl, trivial⟩ rfl ?_
 have hpl : ([-101, 101, 100, 9223372036854775807] : List Int).length = 4 := rfl
 refine F.loop (σ := Nat × List Int × Int × Int) [5, 6, 8, 9, 10, 11, 12, 13, 14, 15, 16, 17, 18, 19, 20, 21, 22, 23] (fun x => [(5, .sl 2 x.1 0 x.1), (6, .i x.1)]) (fun x => [(0, .live false 3 (curO b x.2.2.1 x.2.2.2)), (2, .live false 1 (E true x.2.1))]) (fun x => x.1 ≤ 5 ∧ x.2.1.length = x.1 ∧ okI b x.2.2.1) (fun x => 5 - x.1) (0, [], i, h) ⟨rfl, rfl, trivial⟩ ⟨rfl, rfl, trivial⟩ ⟨by simp, rfl, hi⟩ ?_
 rintro ⟨k, l, i2, h2⟩ ⟨k1, k2, hi2⟩
 dsimp only at k1 k2 hi2 ⊢
 by_cases hk : (k : Int) < q.n ∧ (k : Int) < 5
 ·obtain ⟨hk1, hk5⟩ := hk
  repeat' first | refine s1 ?_ | (refine kR ?_; first | (refine F.dr 0 ((hB _)) (by assumption) ?_; intro e i6 h6 he hi6; replace he := he.1 (by omega); refine F.xk ?_) | refine F.a1 Int ?_) | fail
  exact ⟨(k + 1, l ++ [e - 1], i6, h6), F.fit ⟨rfl, rfl, trivial⟩ ⟨rfl, obE rfl, trivial⟩, ⟨by show k + 1 ≤ 5; omega, by simp; omega, hi6⟩, by show 5 - (k + 1) < 5 - k; omega⟩
 ·by_cases hk1 : (k : Int) < q.n
  ·have hk5 : ¬ (k : Int) < 5 := fun h => hk ⟨hk1, h⟩
   repeat' first | refine s1 ?_ | (refine kR ?_; first | (refine F.dr 0 (hO) (by assumption) ?_; intro c i3 h3 hc3 hi3; refine F.xk ?_)) | fail
   cases c with
   | true =>
    repeat' first | refine s1 ?_ | (refine kR ?_; first | refine F.litN (xs := V.E true ([-101, 101, 100, 9223372036854775807] : List Int)) rfl rfl rfl rfl rfl rfl rfl rfl ?_) | fail
    refine F.freezeA (α := Int) (oo := true) (ls := [-101, 101, 100, 9223372036854775807]) 33 rfl rfl rfl ?_
    repeat' first | refine s1 ?_ | (refine kR ?_; first | (refine F.dr 0 (hI) (by assumption) ?_; intro v i4 h4 hv hi4; refine F.xk ?_)) | fail
    exact F.rd (l.set (0 + 0) v) (by simp; omega) hi4 (F.retM rfl ⟨rfl, trivial⟩)
   | false =>
    repeat' first | refine s1 ?_ | fail
    exact F.rd l (by omega) hi3 (F.retM rfl ⟨rfl, trivial⟩)
  ·by_cases hk0 : 0 < k
   ·repeat' first | refine s1 ?_ | (refine kR ?_; first | (refine F.dr 0 (hO) (by assumption) ?_; intro c i3 h3 hc3 hi3; refine F.xk ?_)) | fail
    cases c with
    | true =>
     repeat' first | refine s1 ?_ | (refine kR ?_; first | refine F.litN (xs := V.E true ([-101, 101, 100, 9223372036854775807] : List Int)) rfl rfl rfl rfl rfl rfl rfl rfl ?_) | fail
     refine F.freezeA (α := Int) (oo := true) (ls := [-101, 101, 100, 9223372036854775807]) 33 rfl rfl rfl ?_
     repeat' first | refine s1 ?_ | (refine kR ?_; first | (refine F.dr 0 (hI) (by assumption) ?_; intro v i4 h4 hv hi4; refine F.xk ?_)) | fail
     exact F.rd (l.set (0 + 0) v) (by simp; omega) hi4 (F.retM rfl ⟨rfl, trivial⟩)
    | false =>
     repeat' first | refine s1 ?_ | fail
     exact F.rd l (by omega) hi3 (F.retM rfl ⟨rfl, trivial⟩)
   ·obtain rfl : k = 0 := by omega
    obtain rfl : l = [] := List.eq_nil_of_length_eq_zero k2
    repeat' first | refine s1 ?_ | fail
    exact F.rd [] (by simp) hi2 (F.retM rfl ⟨rfl, trivial⟩)
theorem drawTits_x (b : List UInt8) (hl : b.length ≤ 1048576) : AMx Try.prog 15 [ar false b] [] (fun x : Quiv × List Int => lenQ 101 x.1 ∧ x.2.length ≤ 5) (fun x => [.agg (enc false x.1), .dt true 1 (E true x.2)]) (fun _ => []) := by
 refine AMx.go Try.func15 Try.ntmps15 rfl rfl fun w0 mp hw => ?_; simp [WfL, WfA, E_length, Enc.enc, In64] at hw
 have hN := l1New_p b hl
 have hA := l6Any_x b hl
 have hV := fun q => l18Numbers_x b hl q
 have hi0 : okI b 0 := ⟨Int.le_refl _, by omega⟩
 repeat' first | refine s1 ?_ | (refine kR ?_; first | refine F.p (hN) ?_ | (refine F.dr 1 (hA) (by assumption) ?_; intro q i2 h2 hq hi2; refine F.xk ?_)) | fail
 refine AW.putV 5 1 rfl rfl rfl rfl (E_length _ _) (E_pure _ _) rfl ?_
 refine AW.putV 5 2 rfl rfl rfl rfl (E_length _ _) (E_pure _ _) rfl ?_
 refine AW.freezeP (α := Quiv) (oo := true) q 5 rfl rfl ?_
 refine AW.draw 0 G.mixed (by kernel_rfl) ?_
 refine dP 1 ?_
 refine ARA.any [0, 2] (by kernel_rfl) (by simp) ?_
 intro k hk
 simp only [List.mem_cons, List.not_mem_nil, or_false] at hk
 rcases hk with rfl | rfl
 refine ⟨_, true, rfl, rfl, ?_⟩
 refine s1 ?_
 refine tN ?_
 refine dO 2 true ?_
 refine s1 ?_
 refine tN ?_
 refine dO 3 false ?_
 first | refine s1 ?_ | (refine F.dr 1 ((hV q)) (by assumption) ?_; intro x i3 h3 hx hi3; refine F.xk ?_)
 refine tN ?_
 refine dO 4 false ?_
 refine s1 ?_
 refine tN ?_
 refine dP 5 ?_
 refine dN ?_
 rotate_left
 refine ⟨_, true, rfl, rfl, ?_⟩
 refine s1 ?_
 refine tN ?_
 refine ARA.any [0, 3] (by kernel_rfl) (by simp) ?_
 intro k hk
 simp only [List.mem_cons, List.not_mem_nil, or_false] at hk
 rcases hk with rfl | rfl
 refine ⟨_, true, rfl, rfl, ?_⟩
 refine s1 ?_
 refine tN ?_
 refine dO 3 false ?_
 first | refine s1 ?_ | (refine F.dr 1 ((hV q)) (by assumption) ?_; intro x i3 h3 hx hi3; refine F.xk ?_)
 refine tN ?_
 refine dO 4 false ?_
 refine s1 ?_
 refine tN ?_
 refine dP 5 ?_
 refine dN ?_
 rotate_left
 refine ⟨_, false, rfl, rfl, ?_⟩
 first | refine s1 ?_ | (refine F.dr 1 ((hV q)) (by assumption) ?_; intro x i3 h3 hx hi3; refine F.xk ?_)
 refine tN ?_
 refine dO 0 true ?_
 refine s1 ?_
 refine tN ?_
 refine dO 4 false ?_
 refine s1 ?_
 refine tN ?_
 refine dP 5 ?_
 refine dN ?_
 rotate_left
 all_goals
  repeat' first | refine s1 ?_ | fail
  exact F.rx (q, x) ⟨hq, hx⟩ (F.retM rfl trivial)
theorem drawEuler_x (b : List UInt8) (hl : b.length ≤ 1048576) : AMx Try.prog 26 [ar false b] [] (fun x : Quiv × List Int × List Int => lenQ 101 x.1 ∧ x.2.1.length ≤ 5 ∧ x.2.2.length ≤ 5) (fun x => [.agg (enc false x.1), .dt true 1 (E true x.2.1), .dt true 1 (E true x.2.2)]) (fun _ => []) := by
 refine AMx.go Try.func26 Try.ntmps26 rfl rfl fun w0 mp hw => ?_; simp [WfL, WfA, E_length, Enc.enc, In64] at hw
 have hN := l1New_p b hl
 have hA := l6Any_x b hl
 have hV := fun q => l18Numbers_x b hl q
 have hi0 : okI b 0 := ⟨Int.le_refl _, by omega⟩
 repeat' first | (refine AW.putV 6 1 rfl rfl rfl rfl (E_length _ _) (E_pure _ _) rfl ?_; refine AW.putV 6 2 rfl rfl rfl rfl (E_length _ _) (E_pure _ _) rfl ?_; refine AW.freezeP (α := Quiv) (oo := true) q 6 rfl rfl ?_) | refine s1 ?_ | (refine kR ?_; first | refine F.p (hN) ?_ | (refine F.dr 1 (hA) (by assumption) ?_; intro q i2 h2 hq hi2; refine F.xk ?_) | (refine F.dr 1 ((hV q)) (by assumption) ?_; intro x i3 h3 hx hi3; refine F.xk ?_)) | fail
 refine AW.draw 0 G.mixed (by kernel_rfl) ?_
 refine dP 1 ?_
 refine dP 2 ?_
 refine ARA.any [0, 3] (by kernel_rfl) (by simp) ?_
 intro k hk
 simp only [List.mem_cons, List.not_mem_nil, or_false] at hk
 rcases hk with rfl | rfl
 refine ⟨_, true, rfl, rfl, ?_⟩
 refine s1 ?_
 refine tN ?_
 refine dO 3 true ?_
 refine s1 ?_
 refine tN ?_
 refine dO 4 false ?_
 first | refine s1 ?_ | (refine F.dr 1 ((hV q)) (by assumption) ?_; intro y i4 h4 hy hi4; refine F.xk ?_)
 refine tN ?_
 refine dO 5 false ?_
 refine s1 ?_
 refine tN ?_
 refine dP 6 ?_
 refine dP 7 ?_
 refine dN ?_
 rotate_left
 refine ⟨_, true, rfl, rfl, ?_⟩
 refine s1 ?_
 refine tN ?_
 refine ARA.any [0, 4] (by kernel_rfl) (by simp) ?_
 intro k hk
 simp only [List.mem_cons, List.not_mem_nil, or_false] at hk
 rcases hk with rfl | rfl
 refine ⟨_, true, rfl, rfl, ?_⟩
 refine s1 ?_
 refine tN ?_
 refine dO 4 false ?_
 first | refine s1 ?_ | (refine F.dr 1 ((hV q)) (by assumption) ?_; intro y i4 h4 hy hi4; refine F.xk ?_)
 refine tN ?_
 refine dO 5 false ?_
 refine s1 ?_
 refine tN ?_
 refine dP 6 ?_
 refine dP 7 ?_
 refine dN ?_
 rotate_left
 refine ⟨_, false, rfl, rfl, ?_⟩
 first | refine s1 ?_ | (refine F.dr 1 ((hV q)) (by assumption) ?_; intro y i4 h4 hy hi4; refine F.xk ?_)
 refine tN ?_
 refine dO 0 true ?_
 refine s1 ?_
 refine tN ?_
 refine dO 5 false ?_
 refine s1 ?_
 refine tN ?_
 refine dP 6 ?_
 refine dP 7 ?_
 refine dN ?_
 rotate_left
 all_goals
  repeat' first | refine s1 ?_ | fail
  exact F.rx (q, x, y) ⟨hq, hx, hy⟩ (F.retM rfl trivial)
theorem drawWord_x (b : List UInt8) (hl : b.length ≤ 1048576) : AMx Try.prog 30 [ar false b] [] (fun x : Int => -1 ≤ x ∧ x ≤ 4) (fun x => [.i x]) (fun _ => []) := by
 refine AMx.go Try.func30 Try.ntmps30 rfl rfl fun w0 mp hw => ?_; simp [WfL, WfA, E_length, Enc.enc, In64] at hw
 have hN := l1New_p b hl
 have hB := fun n => l1Below_x b hl n
 have hi0 : okI b 0 := ⟨Int.le_refl _, by omega⟩
 repeat' first | refine s1 ?_ | (refine kR ?_; first | refine F.p (hN) ?_ | (refine F.dr 0 ((hB _)) (by assumption) ?_; intro x i2 h2 hx hi2; replace hx := hx.1 (by omega); refine F.xk ?_)) | fail
 exact F.rx (x - 1) ⟨by omega, by omega⟩ (F.retM rfl trivial)
def rowsP (n : Nat) (m : List (List Int)) : Prop := m.length ≤ n ∧ ∀ k, k < m.length → (m.getD k default).length ≤ n
theorem rowsP.add {n : Nat} {m : List (List Int)} {r : List Int} (h : m.length < n) (h2 : ∀ k, k < m.length → (m.getD k default).length ≤ n) (hr : r.length ≤ n) : rowsP n (m ++ [r]) := by
 refine ⟨by simp; omega, fun k hk => ?_⟩
 by_cases e : k < m.length
 ·have := h2 k e
  simpa [List.getElem?_append_left e, List.getD_eq_getElem?_getD] using this
 ·obtain rfl : k = m.length := by simp at hk; omega
  simpa using hr
theorem drawDet_x (b : List UInt8) (hl : b.length ≤ 1048576) : AMx Try.prog 27 [ar false b] [] (rowsP 6) (fun m => [.dt true 1 (E true m)]) (fun _ => []) := by
 refine AMx.go Try.func27 Try.ntmps27 rfl rfl fun w0 mp hw => ?_; simp [WfL, WfA, E_length, Enc.enc, In64] at hw
 have hN := l1New_p b hl
 have hB := fun n => l1Below_x b hl n
 have hI := l1PickInt_x b hl [101, -9223372036854775808] (by decide) (by decide)
 have hi0 : okI b 0 := ⟨Int.le_refl _, by omega⟩
 repeat' first | refine s1 ?_ | (refine kR ?_; first | refine F.p (hN) ?_ | (refine F.dr 0 ((hB _)) (by assumption) ?_; intro x i2 h2 hx hi2; replace hx := hx.1 (by omega); refine F.xk ?_)) | fail
 obtain ⟨n, rfl⟩ : ∃ n : Nat, x = n := ⟨x.toNat, by omega⟩
 refine AW.open 4 1 (.inr rfl) ?_
 refine AW.only [(3, .pt 0 1 0 0), (4, .sl 1 0 0 0), (5, .i n), (6, .i 0)] [(0, .live false 3 (curO b i2 h2)), (1, .live false 1 (E true ([] : List (List Int))))] 2 ⟨rfl, rfl, rfl, rfl, trivial⟩ ⟨rfl, rfl, trivial⟩ rfl ?_
 refine F.loop (σ := Nat × List (List Int) × Int × Int) [4, 6, 7, 8, 14, 15, 16, 17, 18, 19, 20, 21, 22, 23, 24, 25, 26, 27, 28, 29, 30, 31, 32, 33, 34] (fun x => [(4, .sl 1 x.1 0 x.1), (6, .i x.1)]) (fun x => [(0, .live false 3 (curO b x.2.2.1 x.2.2.2)), (1, .live false 1 (E true x.2.1))]) (fun x => x.1 ≤ n ∧ x.2.1.length = x.1 ∧ okI b x.2.2.1 ∧ ∀ k, k < x.2.1.length → (x.2.1.getD k default).length = n) (fun x => n - x.1) (0, [], i2, h2) ⟨rfl, rfl, trivial⟩ ⟨rfl, rfl, trivial⟩ ⟨by simp, rfl, hi2, fun k hk => absurd hk (Nat.not_lt_zero _)⟩ ?_
 rintro ⟨k, m, i3, h3⟩ ⟨k1, k2, hi3, k4⟩
 dsimp only at k1 k2 hi3 k4 ⊢
 by_cases hk : k < n
 ·repeat' first | refine s1 ?_ | fail
  refine AW.open 7 1 (.inr rfl) ?_
  refine F.loop (σ := Nat × List Int × Int × Int) [7, 8, 20, 21, 22, 23, 24, 25, 26, 27, 28, 29, 30] (fun x => [(7, .sl 2 x.1 0 x.1), (8, .i x.1)]) (fun x => [(0, .live false 3 (curO b x.2.2.1 x.2.2.2)), (2, .live false 1 (E true x.2.1))]) (fun x => x.1 ≤ n ∧ x.2.1.length = x.1 ∧ okI b x.2.2.1) (fun x => n - x.1) (0, [], i3, h3) ⟨rfl, rfl, trivial⟩ ⟨rfl, rfl, trivial⟩ ⟨by simp, rfl, hi3⟩ ?_
  rintro ⟨j, r, i4, h4⟩ ⟨j1, j2, hi4⟩
  dsimp only at j1 j2 hi4 ⊢
  by_cases hj : j < n
  ·repeat' first | refine s1 ?_ | (refine kR ?_; first | (refine F.dr 0 ((hB _)) (by assumption) ?_; intro e i6 h6 he hi6; replace he := he.1 (by omega); refine F.xk ?_) | refine F.a1 Int ?_) | fail
   exact ⟨(j + 1, r ++ [e - 3], i6, h6), F.fit ⟨rfl, rfl, trivial⟩ ⟨rfl, obE rfl, trivial⟩, ⟨by show j + 1 ≤ n; omega, by simp; omega, hi6⟩, by show n - (j + 1) < n - j; omega⟩
  ·obtain rfl : j = n := by omega
   repeat' first | refine s1 ?_ | (refine kR ?_; first | refine F.a1 (List Int) ?_) | fail
   refine ⟨(k + 1, m ++ [r], i4, h4), F.fit ⟨rfl, rfl, trivial⟩ ⟨rfl, obE rfl, trivial⟩, ⟨by show k + 1 ≤ j; omega, by simp; omega, hi4, fun a ha => ?_⟩, by show j - (k + 1) < j - k; omega⟩
   dsimp only at ha ⊢
   by_cases e : a < m.length
   ·have := k4 a e
    simpa [List.getElem?_append_left e, List.getD_eq_getElem?_getD] using this
   ·obtain rfl : a = m.length := by simp at ha; omega
    simpa using j2
 ·obtain rfl : k = n := by omega
  have hk4 : ∀ a, a < m.length → (m.getD a default).length ≤ 6 := fun a ha => by rw [k4 a ha]; omega
  repeat' first | refine s1 ?_ | (refine kR ?_; first | (refine F.dr 0 ((hB _)) (by assumption) ?_; intro y i5 h5 hy hi5; replace hy := hy.1 (by omega); refine F.xk ?_)) | fail
  by_cases h0 : y = 0
  ·repeat' first | refine s1 ?_ | (refine kR ?_; first | refine F.a1 (List Int) (a := [1]) ?_) | fail
   exact F.rx (m ++ [[1]]) (rowsP.add (by omega) hk4 (by simp)) (F.retM rfl trivial)
  ·by_cases h1 : y = 1 ∧ 0 < k
   ·obtain ⟨h1, hk0⟩ := h1
    have hr0 := k4 0 (by omega)
    refine AW.takeE (α := List Int) (o := 1) (k := 0) (j := 0) rfl (by omega) rfl (E_length true _) ?_
    repeat' first | refine s1 ?_ | fail
    refine AW.draw 2 G.mixed (by kernel_rfl) ?_
    refine dP 0 ?_
    first | refine dP 1 ?_ (hs := by exact (A.idxT (k := 0) rfl rfl rfl ((E_length _ _).trans k2) rfl hk0)) | refine dP 1 ?_
    refine dP 3 ?_
    refine ARA.any [2, 4] (by kernel_rfl) (by simp) ?_
    intro k hk
    simp only [List.mem_cons, List.not_mem_nil, or_false] at hk
    rcases hk with rfl | rfl
    refine ⟨_, true, rfl, rfl, ?_⟩
    first | refine s1 ?_ | refine F.sil (A.ldS rfl rfl ((E_length _ _).trans k2) rfl (by rw [E_length]; omega) rfl rfl) rfl rfl ?_
    refine tN ?_
    refine dO 4 true ?_
    refine s1 ?_
    refine tN ?_
    refine dzA (α := Int) (oo := true) (ls := [101, -9223372036854775808]) 51 rfl rfl rfl ?_
    refine dO 5 false ?_
    first | refine s1 ?_ | (refine F.dr 0 (hI) (by assumption) ?_; intro v i6 h6 hv hi6; refine F.xk ?_)
    refine tN ?_
    refine dP 6 ?_
    refine dO 7 false ?_
    refine s1 ?_
    refine tN ?_
    refine dN ?_
    rotate_left
    refine ⟨_, true, rfl, rfl, ?_⟩
    refine s1 ?_
    refine tN ?_
    refine dzA (α := Int) (oo := true) (ls := [101, -9223372036854775808]) 51 rfl rfl rfl ?_
    refine ARA.any [2, 5] (by kernel_rfl) (by simp) ?_
    intro k hk
    simp only [List.mem_cons, List.not_mem_nil, or_false] at hk
    rcases hk with rfl | rfl
    refine ⟨_, true, rfl, rfl, ?_⟩
    first | refine s1 ?_ | refine F.sil (A.ldS rfl rfl ((E_length _ _).trans k2) rfl (by rw [E_length]; omega) rfl rfl) rfl rfl ?_
    refine tN ?_
    refine dO 5 false ?_
    first | refine s1 ?_ | (refine F.dr 0 (hI) (by assumption) ?_; intro v i6 h6 hv hi6; refine F.xk ?_)
    refine tN ?_
    refine dP 6 ?_
    refine dO 7 false ?_
    refine s1 ?_
    refine tN ?_
    refine dN ?_
    rotate_left
    refine ⟨_, false, rfl, rfl, ?_⟩
    first | refine s1 ?_ | (refine F.dr 0 (hI) (by assumption) ?_; intro v i6 h6 hv hi6; refine F.xk ?_)
    refine tN ?_
    refine dO 2 true ?_
    first | refine s1 ?_ | refine F.sil (A.ldS rfl rfl ((E_length _ _).trans k2) rfl (by rw [E_length]; omega) rfl rfl) rfl rfl ?_
    refine tN ?_
    refine dP 6 ?_
    refine dO 7 false ?_
    refine s1 ?_
    refine tN ?_
    refine dN ?_
    rotate_left
    all_goals
     refine ABk.normal (ATh.normal ?_)
     refine AW.put (α := List Int) (o := 1) (o2 := 2) (k := 0) (j := 0) (v := (m.getD 0 default).set (0 + 0) v) (x := m.getD 0 default) (ls := m) rfl rfl (by rw [E_length, List.length_set]) (E_pure _ _) rfl (by omega) rfl rfl ?_
     repeat' first | refine s1 ?_ | fail
     refine F.rx (m.set 0 ((m.getD 0 default).set (0 + 0) v)) ⟨by simp; omega, fun a ha => ?_⟩ (F.retM rfl trivial)
     by_cases e : a = 0
     ·subst e
      simp at ha
      simp [List.getD_eq_getElem?_getD, ha]
      have := hk4 0 (by omega)
      simpa [List.getD_eq_getElem?_getD, ha] using this
     ·simp at ha
      have := hk4 a ha
      simpa [List.getD_eq_getElem?_getD, List.getElem?_set_ne (Ne.symm e)] using this
   ·by_cases h1 : y = 1
    ·have hk0 : ¬ 0 < k := fun h => by omega
     repeat' first | refine s1 ?_ | fail
     exact F.rx m ⟨by omega, hk4⟩ (F.retM rfl trivial)
    ·repeat' first | refine s1 ?_ | fail
     exact F.rx m ⟨by omega, hk4⟩ (F.retM rfl trivial)
end Go.Proofs.Ytoilkinagffhiaa.V
