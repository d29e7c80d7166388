/- Texts that the proof needs: A164. -/
import Derived.Test.YtoilkinagffhiaaGreatQfeA163
namespace Go.Proofs.YtoilkinagffhiaaGreat.V
open Go.RowKit G D
set_option linter.unusedVariables false
set_option linter.unusedSimpArgs false
set_option maxHeartbeats 4000000
set_option maxRecDepth 4000
attribute [local irreducible] AW ARg ARA ARet MRet ASil AC AM AMx ACx AD
theorem l6Acyclic_x (b : List UInt8) (hl : b.length ≤ 1048576) : AD Tryz.prog 93 [] b (lenQ 100) (fun q => [.agg (enc true q)]) := by
 refine AD.go Tryz.func93 Tryz.ntmps93 rfl rfl fun i h hi w0 mp hw => ?_; simp [WfL, WfA, E_length, Enc.enc, In64] at hw
 have hO := l1Once_x b hl 2
 have hN := l6Names_a
 have hB := fun n => l1Below_x b hl n
 have hP := fun s => specNamedQuiver_x s
 repeat' first | refine s1 ?_ | (refine kR ?_; first | (refine F.dr 0 (hO) (by assumption) ?_; intro c i2 h2 hx hi2; refine F.xk ?_)) | fail
 cases c with
 | true =>
  have hL : nameL.length = 12 := rfl
  generalize nameL = L at hN hL
  repeat' first | refine s1 ?_ | (refine kR ?_; first | refine F.c (hN) ?_ | (refine F.dr 0 ((hB _)) (by assumption) ?_; intro x i3 h3 hx3 hi3; refine F.xk ?_)) | fail
  obtain ⟨k, rfl⟩ : ∃ k : Nat, x = k := ⟨x.toNat, by have := hx3.1 (by omega); omega⟩
  have hk := hx3.1 (by omega)
  clear hx3
  repeat' first | refine s1 ?_ | (refine kR ?_; first | (refine F.x [] ((hP _)) ?_; rintro ⟨q, c⟩ hq; refine F.xk ?_)) | fail
  exact F.rd q hq hi3 (F.retM rfl ⟨rfl, trivial⟩)
 | false =>
  repeat' first | refine s1 ?_ | (refine kR ?_; first | (refine F.dr 0 ((hB _)) (by assumption) ?_; intro v i3 h3 hv hi3; replace hv := hv.1 (by omega); refine F.xk ?_)) | fail
  rename_i V iV hV hVi hVb
  generalize hW : 1 + V = W
  have hWb : 1 ≤ W ∧ W ≤ 4 := by omega
  refine AW.only [(0, .pt 0 1 0 0), (2, .pt 1 1 0 0), (5, .pt 2 1 0 0), (6, .i v)] [(0, .live false 3 (curO b i3 h3)), (1, .live false 3 [[.i 0, .nl, .nl]]), (2, .live false 3 [[.i W, .em, .em]])] 3 ⟨rfl, rfl, rfl, rfl, trivial⟩ ⟨rfl, rfl, rfl, trivial⟩ rfl ?_
  clear hVb hW hVi
  refine AW.openV (o := 2) (j := 1) 1 rfl rfl (.inr rfl) rfl ?_
  refine AW.openV (o := 2) (j := 2) 1 rfl rfl (.inr rfl) rfl ?_
  refine F.loop (σ := Nat × List Int × List Int × Int × Int) [6, 7, 28, 29, 30, 31, 32, 33, 34, 35, 36, 37, 38, 39, 40, 41, 42, 43, 44, 45, 46, 47, 48, 49, 50, 51, 52, 53, 54, 55, 56, 57, 58, 59, 60, 61, 62] (fun x => [(6, .i (v - x.1))]) (fun x => [(0, .live false 3 (curO b x.2.2.2.1 x.2.2.2.2)), (2, .live false 3 [[.i W, .sl 3 x.1 0 x.1, .sl 4 x.1 0 x.1]]), (3, .live false 1 (E true x.2.1)), (4, .live false 1 (E true x.2.2.1))]) (fun x => (x.1 : Int) ≤ v ∧ x.2.1.length = x.1 ∧ x.2.2.1.length = x.1 ∧ okI b x.2.2.2.1) (fun x => v.toNat - x.1) (0, [], [], i3, h3) ⟨iE (by simp), trivial⟩ ⟨rfl, rfl, rfl, rfl, trivial⟩ ⟨by simp; omega, rfl, rfl, hi3⟩ ?_
  rintro ⟨k, fr, to, i4, h4⟩ ⟨k1, k2, k3, hi4⟩
  dsimp only at k1 k2 k3 hi4 ⊢
  by_cases hk : 0 < v - k
  ·by_cases hW1 : 1 < W
   ·repeat' first | refine s1 ?_ | (refine kR ?_; first | (refine F.dr 0 ((hB _)) (by assumption) ?_; intro a i5 h5 ha hi5; replace ha := ha.1 (by omega); refine F.xk ?_) | refine F.a1 Int ?_) | fail
    refine AW.draw 1 G.mixed (by kernel_rfl) ?_
    refine dP 0 ?_
    refine dP 2 ?_
    refine dP 3 ?_
    refine dP 4 ?_
    refine dP 5 ?_
    refine dP 8 ?_
    refine ARA.any [1, 6] (by kernel_rfl) (by simp) ?_
    intro k hk
    simp only [List.mem_cons, List.not_mem_nil, or_false] at hk
    rcases hk with rfl | rfl
    refine ⟨_, true, rfl, rfl, ?_⟩
    refine s1 ?_
    refine tN ?_
    refine dO 6 true ?_
    refine s1 ?_
    refine tN ?_
    refine dP 7 ?_
    refine dP 9 ?_
    refine dO 10 false ?_
    first | refine s1 ?_ | (refine F.dr 0 ((hB _)) (by assumption) ?_; intro e i6 h6 he hi6; replace he := he.1 (by omega); refine F.xk ?_)
    refine tN ?_
    refine dP 11 ?_
    refine dO 12 true ?_
    refine s1 ?_
    refine tN ?_
    refine dO 13 false ?_
    first | refine s1 ?_ | refine F.a1 Int ?_
    refine tN ?_
    refine dP 14 ?_
    refine dO 15 false ?_
    refine s1 ?_
    refine tN ?_
    refine dN ?_
    rotate_left
    refine ⟨_, true, rfl, rfl, ?_⟩
    refine s1 ?_
    refine tN ?_
    refine dP 7 ?_
    refine dP 9 ?_
    refine ARA.any [1, 10] (by kernel_rfl) (by simp) ?_
    intro k hk
    simp only [List.mem_cons, List.not_mem_nil, or_false] at hk
    rcases hk with rfl | rfl
    refine ⟨_, true, rfl, rfl, ?_⟩
    refine s1 ?_
    refine tN ?_
    refine dO 10 false ?_
    first | refine s1 ?_ | (refine F.dr 0 ((hB _)) (by assumption) ?_; intro e i6 h6 he hi6; replace he := he.1 (by omega); refine F.xk ?_)
    refine tN ?_
    refine dP 11 ?_
    refine dO 12 true ?_
    refine s1 ?_
    refine tN ?_
    refine dO 13 false ?_
    first | refine s1 ?_ | refine F.a1 Int ?_
    refine tN ?_
    refine dP 14 ?_
    refine dO 15 false ?_
    refine s1 ?_
    refine tN ?_
    refine dN ?_
    rotate_left
    refine ⟨_, false, rfl, rfl, ?_⟩
    first | refine s1 ?_ | (refine F.dr 0 ((hB _)) (by assumption) ?_; intro e i6 h6 he hi6; replace he := he.1 (by omega); refine F.xk ?_)
    refine tN ?_
    refine dP 11 ?_
    refine ARA.any [1, 12] (by kernel_rfl) (by simp) ?_
    intro k hk
    simp only [List.mem_cons, List.not_mem_nil, or_false] at hk
    rcases hk with rfl | rfl
    refine ⟨_, true, rfl, rfl, ?_⟩
    refine s1 ?_
    refine tN ?_
    refine dO 12 true ?_
    refine s1 ?_
    refine tN ?_
    refine dO 13 false ?_
    first | refine s1 ?_ | refine F.a1 Int ?_
    refine tN ?_
    refine dP 14 ?_
    refine dO 15 false ?_
    refine s1 ?_
    refine tN ?_
    refine dN ?_
    rotate_left
    refine ⟨_, true, rfl, rfl, ?_⟩
    refine s1 ?_
    refine tN ?_
    refine dO 1 true ?_
    refine s1 ?_
    refine tN ?_
    refine dO 13 false ?_
    first | refine s1 ?_ | refine F.a1 Int ?_
    refine tN ?_
    refine dP 14 ?_
    refine dO 15 false ?_
    refine s1 ?_
    refine tN ?_
    refine dN ?_
    rotate_left
    all_goals
     repeat' first | refine s1 ?_ | fail
     exact ⟨(k + 1, fr ++ [a], to ++ [a + 1 + e], i6, h6), F.fit ⟨iE (by omega), trivial⟩ ⟨rfl, rfl, obE rfl, obE rfl, trivial⟩, ⟨by show ((k + 1 : Nat) : Int) ≤ v; omega, by simp; omega, by simp; omega, hi6⟩, by show v.toNat - (k + 1) < v.toNat - k; omega⟩
   ·repeat' first | refine s1 ?_ | fail
    exact F.rd ⟨W, fr, to⟩ ⟨by show fr.length ≤ 100; omega, by show to.length ≤ 100; omega⟩ hi4 (F.retM rfl ⟨rfl, trivial⟩)
  ·repeat' first | refine s1 ?_ | fail
   exact F.rd ⟨W, fr, to⟩ ⟨by show fr.length ≤ 100; omega, by show to.length ≤ 100; omega⟩ hi4 (F.retM rfl ⟨rfl, trivial⟩)
theorem l6Any_x (b : List UInt8) (hl : b.length ≤ 1048576) : AD Tryz.prog 87 [] b (lenQ 101) (fun q => [.agg (enc true q)]) := by
 refine AD.go Tryz.func87 Tryz.ntmps87 rfl rfl fun i h hi w0 mp hw => ?_; simp [WfL, WfA, E_length, Enc.enc, In64] at hw
 have hA := l6Acyclic_x b hl
 have hB := fun n => l1Below_x b hl n
 have hP := fun s => specNamedQuiver_x s
 have hS := l1Pick_x b hl [⟨#[108, 111, 111, 112]⟩, ⟨#[99, 105, 114, 99, 108, 101]⟩] (by decide) (by decide)
 have hI := l1PickInt_x b hl [0, 6, -1, 2] (by decide) (by decide)
 repeat' first | refine s1 ?_ | (refine kR ?_; first | (refine F.dr 0 (hA) (by assumption) ?_; intro q i2 h2 hq hi2; refine F.xk ?_) | (refine F.dr 0 ((hB _)) (by assumption) ?_; intro x i3 h3 hx hi3; refine F.xk ?_)) | fail
 by_cases h0 : x = 0
 ·repeat' first | refine s1 ?_ | (refine kR ?_; first | refine F.litN (xs := V.E true ([⟨#[108, 111, 111, 112]⟩, ⟨#[99, 105, 114, 99, 108, 101]⟩] : List ByteArray)) rfl rfl rfl rfl rfl rfl rfl rfl ?_) | fail
  refine F.freezeA (α := ByteArray) (oo := true) (ls := [⟨#[108, 111, 111, 112]⟩, ⟨#[99, 105, 114, 99, 108, 101]⟩]) 12 rfl rfl rfl ?_
  repeat' first | refine s1 ?_ | (refine kR ?_; first | (refine F.dr 0 (hS) (by assumption) ?_; intro s i4 h4 hs hi4; refine F.xk ?_) | (refine F.x [] ((hP s)) ?_; rintro ⟨q2, c⟩ hq2; refine F.xk ?_)) | fail
  exact F.rd q2 ⟨by have := hq2.1; dsimp only at this; omega, by have := hq2.2; dsimp only at this; omega⟩ hi4 (F.retM rfl ⟨rfl, trivial⟩)
 ·by_cases h1 : x = 1
  ·repeat' first | refine s1 ?_ | (refine kR ?_; first | refine F.litN (xs := V.E true ([0, 6, -1, 2] : List Int)) rfl rfl rfl rfl rfl rfl rfl rfl ?_) | fail
   refine F.freezeA (α := Int) (oo := true) (ls := [0, 6, -1, 2]) 20 rfl rfl rfl ?_
   repeat' first | refine s1 ?_ | (refine kR ?_; first | (refine F.dr 0 (hI) (by assumption) ?_; intro v i4 h4 hs hi4; refine F.xk ?_)) | fail
   exact F.rd ⟨v, q.fr, q.to⟩ ⟨by have := hq.1; show q.fr.length ≤ 101; omega, by have := hq.2; show q.to.length ≤ 101; omega⟩ hi4 (F.retM rfl ⟨rfl, trivial⟩)
  ·by_cases h2' : x = 2
   ·have hq1 := hq.1
    repeat' first | refine s1 ?_ | fail
    refine AW.draw 1 G.mixed (by kernel_rfl) ?_
    refine dP 0 ?_
    refine dP 2 ?_
    refine ARA.any [1, 3] (by kernel_rfl) (by simp) ?_
    intro k hk
    simp only [List.mem_cons, List.not_mem_nil, or_false] at hk
    rcases hk with rfl | rfl
    refine ⟨_, true, rfl, rfl, ?_⟩
    refine s1 ?_
    refine tN ?_
    refine dO 3 false ?_
    first | refine s1 ?_ | (refine F.dr 0 ((hB _)) (by assumption) ?_; intro e i6 h6 he hi6; replace he := he.1 (by omega); refine F.xk ?_)
    refine tN ?_
    refine dP 4 ?_
    refine dO 5 true ?_
    refine s1 ?_
    refine tN ?_
    refine dO 6 false ?_
    first | refine s1 ?_ | refine F.a1 Int ?_
    refine tN ?_
    refine dP 7 ?_
    refine dO 8 false ?_
    refine s1 ?_
    refine tN ?_
    refine dN ?_
    rotate_left
    refine ⟨_, false, rfl, rfl, ?_⟩
    first | refine s1 ?_ | (refine F.dr 0 ((hB _)) (by assumption) ?_; intro e i6 h6 he hi6; replace he := he.1 (by omega); refine F.xk ?_)
    refine tN ?_
    refine dP 4 ?_
    refine ARA.any [1, 5] (by kernel_rfl) (by simp) ?_
    intro k hk
    simp only [List.mem_cons, List.not_mem_nil, or_false] at hk
    rcases hk with rfl | rfl
    refine ⟨_, true, rfl, rfl, ?_⟩
    refine s1 ?_
    refine tN ?_
    refine dO 5 true ?_
    refine s1 ?_
    refine tN ?_
    refine dO 6 false ?_
    first | refine s1 ?_ | refine F.a1 Int ?_
    refine tN ?_
    refine dP 7 ?_
    refine dO 8 false ?_
    refine s1 ?_
    refine tN ?_
    refine dN ?_
    rotate_left
    refine ⟨_, true, rfl, rfl, ?_⟩
    refine s1 ?_
    refine tN ?_
    refine dO 1 true ?_
    refine s1 ?_
    refine tN ?_
    refine dO 6 false ?_
    first | refine s1 ?_ | refine F.a1 Int ?_
    refine tN ?_
    refine dP 7 ?_
    refine dO 8 false ?_
    refine s1 ?_
    refine tN ?_
    refine dN ?_
    rotate_left
    all_goals
     repeat' first | refine s1 ?_ | fail
     exact F.rd ⟨q.n, q.fr ++ [e - 1], q.to⟩ ⟨by show (q.fr ++ [e - 1]).length ≤ 101; simp; omega, by have := hq.2; show q.to.length ≤ 101; omega⟩ (by assumption) (F.retM rfl ⟨rfl, trivial⟩)
   ·repeat' first | refine s1 ?_ | fail
    exact F.rd q ⟨by have := hq.1; omega, by have := hq.2; omega⟩ hi3 (F.retM rfl ⟨rfl, trivial⟩)
end Go.Proofs.YtoilkinagffhiaaGreat.V
