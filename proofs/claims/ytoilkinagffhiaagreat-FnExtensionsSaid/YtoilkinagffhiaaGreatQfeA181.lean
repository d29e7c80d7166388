/- Texts that the proof needs: A181. -/
import Derived.Test.YtoilkinagffhiaaGreatQfeB5
namespace Go.Proofs.YtoilkinagffhiaaGreat.V
open Go.RowKit G D
set_option linter.unusedVariables false
set_option linter.unusedSimpArgs false
set_option maxHeartbeats 4000000
set_option maxRecDepth 4000
attribute [local irreducible] AW ARg ARA ARet MRet ASil AC AM AMx ACx AD
theorem zeroM_bd {r c : Int} (hr : 0 ≤ r ∧ r ≤ 1024) (hc : 0 ≤ c ∧ c ≤ 1024) : (zeroM r c).m.length ≤ 1048576 := by
 obtain ⟨a, rfl⟩ : ∃ a : Nat, r = a := ⟨r.toNat, by omega⟩
 obtain ⟨d, rfl⟩ : ∃ d : Nat, c = d := ⟨c.toNat, by omega⟩
 have h1 : a * d ≤ 1024 * 1024 := Nat.mul_le_mul (by omega) (by omega)
 simp only [zeroM, List.length_replicate]
 omega
theorem l3Random_x (b : List UInt8) (hl : b.length ≤ 1048576) (p r c : Int) (hr : 0 ≤ r ∧ r ≤ 1024) (hc : 0 ≤ c ∧ c ≤ 1024) : AD Tryz.prog 84 [.i p, .i r, .i c] b (fun m : Mat => m.r = r ∧ m.c = c ∧ m.m.length ≤ 1048576) (fun m => [.agg (enc true m)]) := by
 refine AD.go Tryz.func84 Tryz.ntmps84 rfl rfl fun i h hi w0 mp hw => ?_; simp [WfL, WfA, E_length, Enc.enc, In64] at hw
 have hZ := l3Zero_a r c hr hc
 have hB := fun n => l1Below_x b hl n
 have hL := zeroM_bd hr hc
 have hzr : (zeroM r c).r = r := rfl
 have hzc : (zeroM r c).c = c := rfl
 generalize zeroM r c = z at hZ hL hzr hzc
 obtain ⟨zr, zc, zm⟩ := z
 dsimp only at hL hzr hzc
 subst hzr hzc
 repeat' first | refine s1 ?_ | (refine kR ?_; first | refine F.c (hZ) ?_) | fail
 refine F.loop (σ := Nat × List Int × Int × Int) [10, 14, 15, 16, 17, 18, 19, 20, 21, 22, 23, 24, 25, 26, 27, 28, 29] (fun x => [(10, .i x.1)]) (fun x => [(0, .live false 3 (curO b x.2.2.1 x.2.2.2)), (2, .live false 1 (E true x.2.1))]) (fun x => x.1 ≤ zm.length ∧ x.2.1.length = zm.length ∧ okI b x.2.2.1) (fun x => zm.length - x.1) (0, zm, i, h) ⟨rfl, trivial⟩ ⟨rfl, rfl, trivial⟩ ⟨Nat.zero_le _, rfl, hi⟩ ?_
 rintro ⟨k, l, i2, h2⟩ ⟨k1, k2, hi2⟩
 dsimp only at k1 k2 hi2 ⊢
 by_cases hk : k < zm.length
 ·repeat' first | refine s1 ?_ | fail
  refine AW.draw 1 G.mixed (by kernel_rfl) ?_
  first | refine dP 0 ?_ | refine dP 0 ?_ (hs := by exact (A.min2 rfl rfl)) | refine dP 0 ?_ (hs := by exact (A.max2 rfl rfl))
  first | refine dP 2 ?_ | refine dP 2 ?_ (hs := by exact (A.min2 rfl rfl)) | refine dP 2 ?_ (hs := by exact (A.max2 rfl rfl))
  first | refine dP 3 ?_ | refine dP 3 ?_ (hs := by exact (A.min2 rfl rfl)) | refine dP 3 ?_ (hs := by exact (A.max2 rfl rfl))
  first | refine dP 4 ?_ | refine dP 4 ?_ (hs := by exact (A.min2 rfl rfl)) | refine dP 4 ?_ (hs := by exact (A.max2 rfl rfl))
  first | refine dP 5 ?_ | refine dP 5 ?_ (hs := by exact (A.min2 rfl rfl)) | refine dP 5 ?_ (hs := by exact (A.max2 rfl rfl))
  first | refine dP 6 ?_ | refine dP 6 ?_ (hs := by exact (A.min2 rfl rfl)) | refine dP 6 ?_ (hs := by exact (A.max2 rfl rfl))
  refine ARA.any [1, 7] (by kernel_rfl) (by simp) ?_
  intro k hk
  simp only [List.mem_cons, List.not_mem_nil, or_false] at hk
  rcases hk with rfl | rfl
  refine ⟨_, true, rfl, rfl, ?_⟩
  refine s1 ?_
  refine tN ?_
  refine dO 7 false ?_
  first | refine s1 ?_ | (refine F.dr 0 ((hB _)) (by assumption) ?_; intro x i6 h6 hx hi6; refine F.xk ?_)
  refine tN ?_
  first | refine dP 8 ?_ | refine dP 8 ?_ (hs := by exact (A.min2 rfl rfl)) | refine dP 8 ?_ (hs := by exact (A.max2 rfl rfl))
  refine dO 9 false ?_
  refine s1 ?_
  refine tN ?_
  refine dN ?_
  rotate_left
  refine ⟨_, false, rfl, rfl, ?_⟩
  first | refine s1 ?_ | (refine F.dr 0 ((hB _)) (by assumption) ?_; intro x i6 h6 hx hi6; refine F.xk ?_)
  refine tN ?_
  refine dO 1 true ?_
  refine s1 ?_
  refine tN ?_
  first | refine dP 8 ?_ | refine dP 8 ?_ (hs := by exact (A.min2 rfl rfl)) | refine dP 8 ?_ (hs := by exact (A.max2 rfl rfl))
  refine dO 9 false ?_
  refine s1 ?_
  refine tN ?_
  refine dN ?_
  rotate_left
  all_goals
   repeat' first | refine s1 ?_ | fail
   exact ⟨(k + 1, l.set (0 + k) x, i6, h6), F.fit ⟨rfl, trivial⟩ ⟨rfl, obE rfl, trivial⟩, ⟨by show k + 1 ≤ zm.length; omega, by simp; omega, hi6⟩, by show zm.length - (k + 1) < zm.length - k; omega⟩
 ·obtain rfl : k = zm.length := by omega
  repeat' first | refine s1 ?_ | fail
  exact F.rd ⟨zr, zc, l⟩ ⟨rfl, rfl, by show l.length ≤ 1048576; omega⟩ hi2 (F.retM rfl ⟨rfl, trivial⟩)
theorem l3Any_x (b : List UInt8) (hl : b.length ≤ 1048576) (p : Int) : AD Tryz.prog 85 [.i p] b (fun m : Mat => True) (fun m => [.agg (enc true m)]) := by
 refine AD.go Tryz.func85 Tryz.ntmps85 rfl rfl fun i h hi w0 mp hw => ?_; simp [WfL, WfA, E_length, Enc.enc, In64] at hw
 have hB := fun n => l1Below_x b hl n
 have hI := l1PickInt_x b hl [-1, 9, 2, 9223372036854775807] (by decide) (by decide)
 have hJ := l1PickInt_x b hl [-1, 5, 2] (by decide) (by decide)
 repeat' first | refine s1 ?_ | (refine kR ?_; first | (refine F.dr 0 ((hB _)) (by assumption) ?_; intro a i2 h2 ha hi2; replace ha := ha.1 (by omega); refine F.xk ?_)) | fail
 rename_i U iU hU hiU hUb
 have hR := l3Random_x b hl p U a (by omega) (by omega)
 repeat' first | refine s1 ?_ | (refine kR ?_; first | (refine F.dr 0 (hR) (by assumption) ?_; intro m i4 h4 hm hi4; refine F.xk ?_) | (refine F.dr 0 ((hB _)) (by assumption) ?_; intro y i5 h5 hy hi5; replace hy := hy.1 (by omega); refine F.xk ?_)) | fail
 obtain ⟨hm1, hm2, hm3⟩ := hm
 by_cases h0 : y = 0
 ·repeat' first | refine s1 ?_ | (refine kR ?_; first | refine F.litN (xs := V.E true ([-1, 9, 2, 9223372036854775807] : List Int)) rfl rfl rfl rfl rfl rfl rfl rfl ?_) | fail
  refine F.freezeA (α := Int) (oo := true) (ls := [-1, 9, 2, 9223372036854775807]) 20 rfl rfl rfl ?_
  repeat' first | refine s1 ?_ | (refine kR ?_; first | (refine F.dr 0 (hI) (by assumption) ?_; intro v i6 h6 hv hi6; refine F.xk ?_)) | fail
  exact F.rd ⟨v, m.c, m.m⟩ trivial hi6 (F.retM rfl ⟨rfl, trivial⟩)
 ·by_cases h1 : y = 1
  ·repeat' first | refine s1 ?_ | (refine kR ?_; first | refine F.a1 Int (a := 0) ?_) | fail
   exact F.rd ⟨m.r, m.c, m.m ++ [0]⟩ trivial hi5 (F.retM rfl ⟨rfl, trivial⟩)
  ·by_cases h2' : y = 2
   ·by_cases h3 : 0 < m.m.length
    ·repeat' first | refine s1 ?_ | fail
     refine AW.draw 1 G.mixed (by kernel_rfl) ?_
     refine dP 0 ?_
     refine dP 2 ?_
     refine ARA.any [1, 3] (by kernel_rfl) (by simp) ?_
     intro k hk
     simp only [List.mem_cons, List.not_mem_nil, or_false] at hk
     rcases hk with rfl | rfl
     refine ⟨_, true, rfl, rfl, ?_⟩
     refine s1 ?_
     refine tN ?_
     refine dO 3 true ?_
     first | refine s1 ?_ | refine F.litN (xs := V.E true ([-1, 5, 2] : List Int)) rfl rfl rfl rfl rfl rfl rfl rfl ?_
     refine tN ?_
     refine dzA (α := Int) (oo := true) (ls := [-1, 5, 2]) 39 rfl rfl rfl ?_
     refine dO 4 false ?_
     first | refine s1 ?_ | (refine F.dr 0 (hJ) (by assumption) ?_; intro v i6 h6 hv hi6; refine F.xk ?_)
     refine tN ?_
     refine dP 5 ?_
     refine dO 6 false ?_
     refine s1 ?_
     refine tN ?_
     refine dN ?_
     rotate_left
     refine ⟨_, true, rfl, rfl, ?_⟩
     first | refine s1 ?_ | refine F.litN (xs := V.E true ([-1, 5, 2] : List Int)) rfl rfl rfl rfl rfl rfl rfl rfl ?_
     refine tN ?_
     refine dzA (α := Int) (oo := true) (ls := [-1, 5, 2]) 39 rfl rfl rfl ?_
     refine ARA.any [1, 4] (by kernel_rfl) (by simp) ?_
     intro k hk
     simp only [List.mem_cons, List.not_mem_nil, or_false] at hk
     rcases hk with rfl | rfl
     refine ⟨_, true, rfl, rfl, ?_⟩
     refine s1 ?_
     refine tN ?_
     refine dO 4 false ?_
     first | refine s1 ?_ | (refine F.dr 0 (hJ) (by assumption) ?_; intro v i6 h6 hv hi6; refine F.xk ?_)
     refine tN ?_
     refine dP 5 ?_
     refine dO 6 false ?_
     refine s1 ?_
     refine tN ?_
     refine dN ?_
     rotate_left
     refine ⟨_, false, rfl, rfl, ?_⟩
     first | refine s1 ?_ | (refine F.dr 0 (hJ) (by assumption) ?_; intro v i6 h6 hv hi6; refine F.xk ?_)
     refine tN ?_
     refine dO 1 true ?_
     refine s1 ?_
     refine tN ?_
     refine dP 5 ?_
     refine dO 6 false ?_
     refine s1 ?_
     refine tN ?_
     refine dN ?_
     rotate_left
     all_goals
      repeat' first | refine s1 ?_ | fail
      exact F.rd ⟨m.r, m.c, m.m.set (0 + 0) v⟩ trivial hi6 (F.retM rfl ⟨rfl, trivial⟩)
    ·repeat' first | refine s1 ?_ | fail
     exact F.rd m trivial hi5 (F.retM rfl ⟨rfl, trivial⟩)
   ·repeat' first | refine s1 ?_ | fail
    exact F.rd m trivial hi5 (F.retM rfl ⟨rfl, trivial⟩)
end Go.Proofs.YtoilkinagffhiaaGreat.V
